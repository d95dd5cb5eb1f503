/- Part of the walks and plain laws behind the claim: it proves helpers, under no condition beyond their own. -/
import Derived.Test.YtdkfkiifbagnnaaGreatDoorScLB
set_option linter.unusedVariables false
namespace Go.PF
open Go.Pu

structure FregeStep where
  formula : ByteArray
  rule : Int
  a : Int
  b : Int
structure Sequent where
  left : List ByteArray
  right : List ByteArray
structure SeqStep where
  seq : Sequent
  rule : Int
  main : ByteArray
  a : Int
  b : Int
structure l1Cur where
  code : List Int
  at_ : Int
  seed : Int
structure freger where
  steps : List FregeStep
  long : Bool
structure formula where
  op : Int
  a : Fo
  b : Fo
  text : ByteArray
structure l23Search where
  steps : List SeqStep
  open_ : Bool
  bits : Int
  bad : Bool
structure seqSearch where
  steps : List SeqStep
  open_ : Option Sequent
def glob0 : List ByteArray := [(ByteArray.mk #[40, 97, 62, 40, 98, 62, 97, 41, 41]), (ByteArray.mk #[40, 40, 97, 62, 40, 98, 62, 99, 41, 41, 62, 40, 40, 97, 62, 98, 41, 62, 40, 97, 62, 99, 41, 41, 41]), (ByteArray.mk #[40, 40, 126, 97, 62, 126, 98, 41, 62, 40, 98, 62, 97, 41, 41]), (ByteArray.mk #[40, 40, 97, 38, 98, 41, 62, 97, 41]), (ByteArray.mk #[40, 40, 97, 38, 98, 41, 62, 98, 41]), (ByteArray.mk #[40, 97, 62, 40, 98, 62, 40, 97, 38, 98, 41, 41, 41]), (ByteArray.mk #[40, 97, 62, 40, 97, 124, 98, 41, 41]), (ByteArray.mk #[40, 98, 62, 40, 97, 124, 98, 41, 41]), (ByteArray.mk #[40, 40, 97, 62, 99, 41, 62, 40, 40, 98, 62, 99, 41, 62, 40, 40, 97, 124, 98, 41, 62, 99, 41, 41, 41]), (ByteArray.mk #[49])]
def spec_l1In (a0 : Int) (a1 : Int) (a2 : Int) : Bool :=
  (bif (decide (a1 ≤ a0)) then (decide (a0 ≤ a2)) else false)

def spec_l24Scheme (a0 : Int) : Bool :=
  (PF.spec_l1In a0 1 10)

noncomputable def spec_l22End_B (rec_spec_l22End : ByteArray → Int → Option Int) (a0 : ByteArray) (a1 : Int) : Option Int :=
  (bif (decide ((a0.size : Int) ≤ a1)) then some (-1) else bd (ixS a0 a1) (fun z22 => bd (bif (z22 == 48) then some true else bd (ixS a0 a1) (fun z33 => some (z33 == 49))) (fun t26 => bd (bif t26 then some true else bd (ixS a0 a1) (fun z62 => bd (bif (decide (97 ≤ z62)) then bd (ixS a0 a1) (fun z73 => some (decide (z73 ≤ 102))) else some false) (fun t66 => some t66))) (fun t55 => (bif t55 then some (wr (a1 + 1)) else bd (ixS a0 a1) (fun z83 => (bif (z83 == 126) then bd (rec_spec_l22End a0 (wr (a1 + 1))) (fun r86 => some r86) else bd (ixS a0 a1) (fun z91 => (bif (!(z91 == 40)) then some (-1) else bd (rec_spec_l22End a0 (wr (a1 + 1))) (fun r94 => bd (bif (bif (decide (r94 < 0)) then true else (decide ((a0.size : Int) ≤ r94))) then some true else bd (ixS a0 r94) (fun z148 => bd (bif (!(z148 == 38)) then bd (ixS a0 r94) (fun z159 => some (!(z159 == 124))) else some false) (fun t152 => bd (bif t152 then bd (ixS a0 r94) (fun z174 => some (!(z174 == 62))) else some false) (fun t167 => some t167)))) (fun t141 => (bif t141 then some (-1) else bd (rec_spec_l22End a0 (wr (r94 + 1))) (fun r184 => bd (bif (bif (decide (r184 < 0)) then true else (decide ((a0.size : Int) ≤ r184))) then some true else bd (ixS a0 r184) (fun z208 => some (!(z208 == 41)))) (fun t201 => (bif t201 then some (-1) else some (wr (r184 + 1)))))))))))))))))
noncomputable def spec_l22End_F : Nat → ByteArray → Int → Option Int
  | 0 => fun _ _ => none
  | n + 1 => spec_l22End_B (spec_l22End_F n)
noncomputable def spec_l22End (a0 : ByteArray) (a1 : Int) : Option Int := spec_l22End_F deep a0 a1

noncomputable def spec_l22Good (a0 : ByteArray) : Option Bool :=
  bd (bif (bif (decide (0 < (a0.size : Int))) then (decide ((a0.size : Int) ≤ 80)) else false) then bd (PF.spec_l22End a0 0) (fun r42 => some (r42 == (a0.size : Int))) else some false) (fun t35 => some t35)

def spec_l24Schemes  : (List ByteArray) :=
  [(ByteArray.mk #[40, 97, 62, 40, 98, 62, 97, 41, 41]), (ByteArray.mk #[40, 40, 97, 62, 40, 98, 62, 99, 41, 41, 62, 40, 40, 97, 62, 98, 41, 62, 40, 97, 62, 99, 41, 41, 41]), (ByteArray.mk #[40, 40, 126, 97, 62, 126, 98, 41, 62, 40, 98, 62, 97, 41, 41]), (ByteArray.mk #[40, 40, 97, 38, 98, 41, 62, 97, 41]), (ByteArray.mk #[40, 40, 97, 38, 98, 41, 62, 98, 41]), (ByteArray.mk #[40, 97, 62, 40, 98, 62, 40, 97, 38, 98, 41, 41, 41]), (ByteArray.mk #[40, 97, 62, 40, 97, 124, 98, 41, 41]), (ByteArray.mk #[40, 98, 62, 40, 97, 124, 98, 41, 41]), (ByteArray.mk #[40, 40, 97, 62, 99, 41, 62, 40, 40, 98, 62, 99, 41, 62, 40, 40, 97, 124, 98, 41, 62, 99, 41, 41, 41]), (ByteArray.mk #[49])]

def spec_l24Case (a0 : Int) (a1 : ByteArray) (a2 : ByteArray) (a3 : ByteArray) : Option ByteArray :=
  bd (ix PF.spec_l24Schemes (wr (a0 - 1))) (fun x35 => bd (chk (x35.size : Int)) (fun m37 => bdR (forR (S := ByteArray) (X := Empty) 0 m37 (fun i38 s38 => bd (ixS x35 ((i38 : Nat) : Int)) (fun z76 => (bif (z76 == 97) then bd (catS s38 a1) (fun z79 => some (Lp.nx z79)) else (bif (z76 == 98) then bd (catS s38 a2) (fun z82 => some (Lp.nx z82)) else (bif (z76 == 99) then bd (catS s38 a3) (fun z85 => some (Lp.nx z85)) else bd (cutS x35 ((i38 : Nat) : Int) (wr (((i38 : Nat) : Int) + 1))) (fun z87 => bd (catS s38 z87) (fun z89 => some (Lp.nx z89)))))))) (ByteArray.mk #[])) (fun s38 => some s38) (fun x38 => nomatch x38)))

noncomputable def spec_CaseOf (a0 : Int) (a1 : ByteArray) (a2 : ByteArray) (a3 : ByteArray) : Option (ByteArray × Bool) :=
  bd (bif (!(PF.spec_l24Scheme a0)) then some true else bd (PF.spec_l22Good a1) (fun r36 => some (!r36))) (fun t29 => bd (bif t29 then some true else bd (PF.spec_l22Good a2) (fun r58 => some (!r58))) (fun t51 => bd (bif t51 then some true else bd (PF.spec_l22Good a3) (fun r80 => some (!r80))) (fun t73 => (bif t73 then some ((ByteArray.mk #[]), false) else bd (PF.spec_l24Case a0 a1 a2 a3) (fun r91 => (bif (decide (80 < (r91.size : Int))) then some ((ByteArray.mk #[]), false) else some (r91, true)))))))

def spec_l25Of (a0 : List ByteArray) (a1 : ByteArray) : Option Sequent :=
  bd (app [] a0) (fun xs30 => some (Sequent.mk xs30 [a1]))

def spec_l22Before (a0 : ByteArray) (a1 : ByteArray) : Bool :=
  (bif (!((a0.size : Int) == (a1.size : Int))) then (decide ((a0.size : Int) < (a1.size : Int))) else (ltS a0 a1))

noncomputable def spec_l23Side (a0 : List ByteArray) : Option Bool :=
  (bif (decide (12 < (len a0))) then some false else bdR (forL (S := Unit) (X := Bool) a0 (fun i23 y22 s23 => bd (PF.spec_l22Good y22) (fun r146 => bd (bif (!r146) then some true else bd (bif (decide (0 < ((i23 : Nat) : Int))) then bd (ix a0 (wr (((i23 : Nat) : Int) - 1))) (fun x221 => some (!(PF.spec_l22Before x221 y22))) else some false) (fun t208 => some t208)) (fun t187 => (bif t187 then some (Lp.rt false) else some (Lp.nx ()))))) ()) (fun s23 => some true) (fun x23 => some x23))

noncomputable def spec_l23Good (a0 : Sequent) : Option Bool :=
  bd (PF.spec_l23Side a0.left) (fun r29 => bd (bif r29 then bd (PF.spec_l23Side a0.right) (fun r46 => some r46) else some false) (fun t39 => some t39))

def spec_l23Has (a0 : List ByteArray) (a1 : ByteArray) : Option Bool :=
  bdR (forL (S := Unit) (X := Bool) a0 (fun i22 y21 s22 => (bif (y21.toList == a1.toList) then some (Lp.rt true) else some (Lp.nx ()))) ()) (fun s22 => some false) (fun x22 => some x22)

noncomputable def spec_l23Axiom (a0 : Sequent) : Option Bool :=
  bdR (iter (S := Int) (X := Bool) (fun s29 => (bif (decide (s29 < (len a0.left))) then bd (ix a0.left s29) (fun x96 => bd (bif (x96.toList == (ByteArray.mk #[48]).toList) then some true else bd (ix a0.left s29) (fun x121 => bd (PF.spec_l23Has a0.right x121) (fun r123 => some r123))) (fun t108 => (bif t108 then some (Lp.rt true) else some (Lp.nx (wr (s29 + 1)))))) else some (Lp.bk s29))) 0) (fun s29 => bd (PF.spec_l23Has a0.right (ByteArray.mk #[49])) (fun r139 => some r139)) (fun x29 => some x29)

def spec_l23Put (a0 : l23Search) (a1 : SeqStep) : Option l23Search :=
  bd (app a0.steps [a1]) (fun xs42 => some (l23Search.mk xs42 a0.open_ a0.bits (decide (200 < (len xs42)))))

noncomputable def spec_l23Main (a0 : Sequent) : Option (ByteArray × Bool × Bool) :=
  bdR (iter (S := Int) (X := (ByteArray × Bool × Bool)) (fun s29 => (bif (decide (s29 < (len a0.left))) then bd (ix a0.left s29) (fun x69 => (bif (decide (1 < (x69.size : Int))) then bd (ix a0.left s29) (fun x78 => some (Lp.rt (x78, true, true))) else some (Lp.nx (wr (s29 + 1))))) else some (Lp.bk s29))) 0) (fun s29 => bdR (iter (S := Int) (X := (ByteArray × Bool × Bool)) (fun s87 => (bif (decide (s87 < (len a0.right))) then bd (ix a0.right s87) (fun x127 => (bif (decide (1 < (x127.size : Int))) then bd (ix a0.right s87) (fun x136 => some (Lp.rt (x136, false, true))) else some (Lp.nx (wr (s87 + 1))))) else some (Lp.bk s87))) 0) (fun s87 => some ((ByteArray.mk #[]), false, false)) (fun x87 => some x87)) (fun x29 => some x29)

def spec_l22Letter (a0 : ByteArray) : Option Bool :=
  bd (bif ((a0.size : Int) == 1) then bd (ixS a0 0) (fun z30 => some (decide (97 ≤ z30))) else some false) (fun t23 => bd (bif t23 then bd (ixS a0 0) (fun z43 => some (decide (z43 ≤ 102))) else some false) (fun t36 => some t36))

def spec_l23Open (a0 : List ByteArray) : Option Int :=
  bdR (forL (S := Int) (X := Empty) a0 (fun i22 y21 s22 => bd (PF.spec_l22Letter y21) (fun r67 => (bif r67 then bd (ixS y21 0) (fun z79 => bd (nn (wrk false 8 (z79 - 97))) (fun u82 => some (Lp.nx (orK true 64 s22 (shlK true 64 1 (wrk false 8 (z79 - 97))))))) else some (Lp.nx s22)))) 0) (fun s22 => some s22) (fun x22 => nomatch x22)

noncomputable def spec_l22Parts (a0 : ByteArray) : Option (Int × ByteArray × ByteArray) :=
  bd (ixS a0 0) (fun z21 => (bif (z21 == 126) then bd (cutS a0 1 (a0.size : Int)) (fun z25 => some (126, z25, (ByteArray.mk #[]))) else bd (ixS a0 0) (fun z30 => (bif (!(z30 == 40)) then bd (ixS a0 0) (fun z33 => some (z33, (ByteArray.mk #[]), (ByteArray.mk #[]))) else bd (PF.spec_l22End a0 1) (fun r35 => bd (ixS a0 r35) (fun z41 => bd (cutS a0 1 r35) (fun z43 => bd (cutS a0 (wr (r35 + 1)) (wr ((a0.size : Int) - 1))) (fun z45 => some (z41, z43, z45)))))))))

noncomputable def spec_l23Rule (a0 : ByteArray) (a1 : Bool) : Option Int :=
  bd (PF.spec_l22Parts a0) (fun r21 => (bif (r21.1 == 126) then (bif (!a1) then some (wr (2 + 1)) else some 2) else (bif (r21.1 == 38) then (bif (!a1) then some (wr (4 + 1)) else some 4) else (bif (r21.1 == 124) then (bif (!a1) then some (wr (6 + 1)) else some 6) else (bif (r21.1 == 62) then (bif (!a1) then some (wr (8 + 1)) else some 8) else some 0)))))

def spec_l23Without (a0 : List ByteArray) (a1 : ByteArray) : Option (List ByteArray) :=
  bdR (forL (S := (List ByteArray)) (X := Empty) a0 (fun i27 y26 s27 => (bif (!(y26.toList == a1.toList)) then bd (app s27 [y26]) (fun xs97 => some (Lp.nx xs97)) else some (Lp.nx s27))) []) (fun s27 => some s27) (fun x27 => nomatch x27)

noncomputable def spec_l22Put (a0 : List ByteArray) (a1 : ByteArray) : Option (List ByteArray) :=
  bdR (iter (S := Int) (X := Empty) (fun s21 => bd (bif (decide (s21 < (len a0))) then bd (ix a0 s21) (fun x96 => some (PF.spec_l22Before x96 a1)) else some false) (fun t83 => (bif t83 then some (Lp.nx (wr (s21 + 1))) else some (Lp.bk s21)))) 0) (fun s21 => bd (bif (decide (s21 < (len a0))) then bd (ix a0 s21) (fun x136 => some (x136.toList == a1.toList)) else some false) (fun t123 => (bif t123 then some a0 else bd (cut a0 0 s21) (fun xs12143 => bd (app [] xs12143) (fun xs15143 => bd (app xs15143 [a1]) (fun xs24143 => bd (cut a0 s21 (len a0)) (fun xs33143 => bd (app xs24143 xs33143) (fun xs36143 => some xs36143)))))))) (fun x21 => nomatch x21)

noncomputable def spec_l23With (a0 : List ByteArray) (a1 : ByteArray) : Option (List ByteArray) :=
  bd (app [] a0) (fun xs26 => bd (PF.spec_l22Put xs26 a1) (fun r41 => some r41))

noncomputable def spec_l23Premises (a0 : Sequent) (a1 : Int) (a2 : ByteArray) : Option (List Sequent) :=
  bd (PF.spec_l22Parts a2) (fun r29 => bd (PF.spec_l23Without a0.left a2) (fun r12034 => bd (PF.spec_l23Without a0.right a2) (fun r24034 => (bif (a1 == 2) then bd (PF.spec_l23With a0.right r29.2.1) (fun r36056 => some [(Sequent.mk r12034 r36056)]) else (bif (a1 == 3) then bd (PF.spec_l23With a0.left r29.2.1) (fun r36075 => some [(Sequent.mk r36075 r24034)]) else (bif (a1 == 4) then bd (β := _) (bd (app [] r12034) (fun xs45130 => bd (PF.spec_l22Put xs45130 r29.2.1) (fun r45145 => some r45145)) : Option (List ByteArray)) (fun s45122 => bd (PF.spec_l23With s45122 r29.2.2) (fun r51094 => some [(Sequent.mk r51094 a0.right)])) else (bif (a1 == 5) then bd (β := _) (bd (app [] r24034) (fun xs87142 => bd (PF.spec_l22Put xs87142 r29.2.1) (fun r87157 => some r87157)) : Option (List ByteArray)) (fun s87134 => bd (β := _) (bd (app [] r24034) (fun xs105142 => bd (PF.spec_l22Put xs105142 r29.2.2) (fun r105157 => some r105157)) : Option (List ByteArray)) (fun s105134 => some [(Sequent.mk a0.left s87134), (Sequent.mk a0.left s105134)])) else (bif (a1 == 6) then bd (β := _) (bd (app [] r12034) (fun xs129154 => bd (PF.spec_l22Put xs129154 r29.2.1) (fun r129169 => some r129169)) : Option (List ByteArray)) (fun s129146 => bd (β := _) (bd (app [] r12034) (fun xs147154 => bd (PF.spec_l22Put xs147154 r29.2.2) (fun r147169 => some r147169)) : Option (List ByteArray)) (fun s147146 => some [(Sequent.mk s129146 a0.right), (Sequent.mk s147146 a0.right)])) else (bif (a1 == 7) then bd (β := _) (bd (app [] r24034) (fun xs183166 => bd (PF.spec_l22Put xs183166 r29.2.1) (fun r183181 => some r183181)) : Option (List ByteArray)) (fun s183158 => bd (PF.spec_l23With s183158 r29.2.2) (fun r189130 => some [(Sequent.mk a0.left r189130)])) else (bif (a1 == 8) then bd (PF.spec_l23With a0.right r29.2.1) (fun r219142 => bd (PF.spec_l23With r12034 r29.2.2) (fun r231142 => some [(Sequent.mk r12034 r219142), (Sequent.mk r231142 a0.right)])) else (bif (a1 == 9) then bd (PF.spec_l23With a0.left r29.2.1) (fun r252154 => bd (β := _) (bd (app [] r24034) (fun xs252198 => bd (PF.spec_l22Put xs252198 r29.2.2) (fun r252213 => some r252213)) : Option (List ByteArray)) (fun s252190 => some [(Sequent.mk r252154 s252190)])) else bd (PF.spec_l23With a0.right a2) (fun r270231 => bd (PF.spec_l23With a0.left a2) (fun r285231 => some [(Sequent.mk a0.left r270231), (Sequent.mk r285231 a0.right)])))))))))))))

noncomputable def spec_l23Go_B (rec_spec_l23Go : Sequent → l23Search → Option l23Search) (a0 : Sequent) (a1 : l23Search) : Option l23Search :=
  (bif (bif a1.open_ then true else a1.bad) then some a1 else bd (PF.spec_l23Good a0) (fun r52 => (bif (!r52) then some (l23Search.mk a1.steps a1.open_ a1.bits true) else bd (PF.spec_l23Axiom a0) (fun r64 => (bif r64 then bd (PF.spec_l23Put a1 (SeqStep.mk a0 1 ByteArray.empty 0 0)) (fun r70 => some r70) else bd (PF.spec_l23Main a0) (fun r84 => (bif (!r84.2.2) then bd (PF.spec_l23Open a0.left) (fun r93 => some (l23Search.mk a1.steps true r93 a1.bad)) else bd (PF.spec_l23Rule r84.1 r84.2.1) (fun r12104 => bd (PF.spec_l23Premises a0 r12104 r84.1) (fun r30120 => bdR (iter (S := ((List SeqStep) × Bool × Int × Bool × Int × Int × Int)) (X := l23Search) (fun s30130 => (bif (decide (s30130.2.2.2.2.2.2 < (len r30120))) then bd (ix r30120 s30130.2.2.2.2.2.2) (fun x120307 => bd (rec_spec_l23Go x120307 (l23Search.mk s30130.1 s30130.2.1 s30130.2.2.1 s30130.2.2.2.1)) (fun r129301 => (bif (bif r129301.open_ then true else r129301.bad) then some (Lp.rt r129301) else (bif (s30130.2.2.2.2.2.2 == 0) then some (Lp.nx (r129301.steps, r129301.open_, r129301.bits, r129301.bad, (wr ((len r129301.steps) - 1)), s30130.2.2.2.2.2.1, (wr (s30130.2.2.2.2.2.2 + 1)))) else some (Lp.nx (r129301.steps, r129301.open_, r129301.bits, r129301.bad, s30130.2.2.2.2.1, (wr ((len r129301.steps) - 1)), (wr (s30130.2.2.2.2.2.2 + 1)))))))) else some (Lp.bk (s30130.1, s30130.2.1, s30130.2.2.1, s30130.2.2.2.1, s30130.2.2.2.2.1, s30130.2.2.2.2.2.1, s30130.2.2.2.2.2.2)))) (a1.steps, a1.open_, a1.bits, a1.bad, 0, 0, 0)) (fun s30130 => bd (PF.spec_l23Put (l23Search.mk s30130.1 s30130.2.1 s30130.2.2.1 s30130.2.2.2.1) (SeqStep.mk a0 r12104 r84.1 s30130.2.2.2.2.1 s30130.2.2.2.2.2.1)) (fun r138349 => some r138349)) (fun x30130 => some x30130))))))))))
noncomputable def spec_l23Go_F : Nat → Sequent → l23Search → Option l23Search
  | 0 => fun _ _ => none
  | n + 1 => spec_l23Go_B (spec_l23Go_F n)
noncomputable def spec_l23Go (a0 : Sequent) (a1 : l23Search) : Option l23Search := spec_l23Go_F deep a0 a1

def spec_l23Own (a0 : Sequent) : Option Sequent :=
  bd (app [] a0.left) (fun xs12033 => bd (app [] a0.right) (fun xs24033 => some (Sequent.mk xs12033 xs24033)))

noncomputable def spec_SearchSequent (a0 : Sequent) : Option ((List SeqStep) × Bool) :=
  bd (PF.spec_l23Good a0) (fun r29 => (bif (!r29) then some ([], false) else bd (PF.spec_l23Go a0 (l23Search.mk [] false 0 false)) (fun r42 => (bif (bif r42.open_ then true else r42.bad) then some ([], false) else bdR (iter (S := ((List SeqStep) × Int)) (X := Empty) (fun s74 => (bif (decide (s74.2 < (len s74.1))) then bd (ix s74.1 s74.2) (fun x156154 => bd (PF.spec_l23Own x156154.seq) (fun r165148 => bd (ix s74.1 s74.2) (fun x168154 => bd (put s74.1 s74.2 (SeqStep.mk r165148 x168154.rule x168154.main x168154.a x168154.b)) (fun xs174151 => some (Lp.nx (xs174151, (wr (s74.2 + 1)))))))) else some (Lp.bk (s74.1, s74.2)))) (r42.steps, 0)) (fun s74 => some (s74.1, true)) (fun x74 => nomatch x74)))))

noncomputable def spec_SchemeSequents (a0 : Int) (a1 : ByteArray) (a2 : ByteArray) (a3 : ByteArray) : Option ((List SeqStep) × Bool) :=
  bd (PF.spec_CaseOf a0 a1 a2 a3) (fun r21 => (bif (!r21.2) then some ([], false) else bd (PF.spec_l25Of [] r21.1) (fun r42 => bd (PF.spec_SearchSequent r42) (fun r63 => some (r63.1, r63.2)))))

def impl_isLetter (a0 : Int) : Bool :=
  (bif (decide (97 ≤ a0)) then (decide (a0 < 103)) else false)

def impl_leaf (a0 : Int) : Option Fo :=
  bd (chrS a0) (fun z21 => some (Fo.node a0 Fo.nil Fo.nil z21))

def impl_not (a0 : Fo) : Option Fo :=
  bd (a0.get) (fun y21 => bd (catS (ByteArray.mk #[126]) y21.text) (fun z29 => some (Fo.node 126 a0 Fo.nil z29)))

def strings_Contains (a0 a1 : ByteArray) : Option Bool := hasS a0 a1

def impl_join (a0 : Int) (a1 : Fo) (a2 : Fo) : Option Fo :=
  bd (a1.get) (fun y15021 => bd (catS (ByteArray.mk #[40]) y15021.text) (fun z24021 => bd (chrS a0) (fun z30021 => bd (catS z24021 z30021) (fun z33021 => bd (a2.get) (fun y39021 => bd (catS z33021 y39021.text) (fun z48021 => bd (catS z48021 (ByteArray.mk #[41])) (fun z51021 => some (Fo.node a0 a1 a2 z51021))))))))

noncomputable def impl_parseFrom_B (rec_impl_parseFrom : ByteArray → Option (Fo × ByteArray × Bool)) (a0 : ByteArray) : Option (Fo × ByteArray × Bool) :=
  (bif (a0.toList == (ByteArray.mk #[]).toList) then some (Fo.nil, (ByteArray.mk #[]), false) else bd (ixS a0 0) (fun z23 => bd (cutS a0 1 (a0.size : Int)) (fun z25 => (bif (bif (bif (PF.impl_isLetter z23) then true else (z23 == 48)) then true else (z23 == 49)) then bd (PF.impl_leaf z23) (fun r54 => some (r54, z25, true)) else (bif (z23 == 126) then bd (rec_impl_parseFrom z25) (fun r63 => (bif (!r63.2.2) then some (Fo.nil, (ByteArray.mk #[]), false) else bd (PF.impl_not r63.1) (fun r72 => some (r72, r63.2.1, true)))) else (bif (!(z23 == 40)) then some (Fo.nil, (ByteArray.mk #[]), false) else bd (rec_impl_parseFrom z25) (fun r81 => bd (bif (bif (!r81.2.2) then true else (r81.2.1.toList == (ByteArray.mk #[]).toList)) then some true else bd (cutS r81.2.1 0 1) (fun z113 => bd (PF.strings_Contains (ByteArray.mk #[38, 124, 62]) z113) (fun r115 => some (!r115)))) (fun t106 => (bif t106 then some (Fo.nil, (ByteArray.mk #[]), false) else bd (ixS r81.2.1 0) (fun z124 => bd (cutS r81.2.1 1 (r81.2.1.size : Int)) (fun z126 => bd (rec_impl_parseFrom z126) (fun r128 => bd (bif (bif (!r128.2.2) then true else (r128.2.1.toList == (ByteArray.mk #[]).toList)) then some true else bd (ixS r128.2.1 0) (fun z157 => some (!(z157 == 41)))) (fun t150 => (bif t150 then some (Fo.nil, (ByteArray.mk #[]), false) else bd (PF.impl_join z124 r81.1 r128.1) (fun r12165 => bd (cutS r128.2.1 1 (r128.2.1.size : Int)) (fun z18165 => some (r12165, z18165, true)))))))))))))))))
noncomputable def impl_parseFrom_F : Nat → ByteArray → Option (Fo × ByteArray × Bool)
  | 0 => fun _ => none
  | n + 1 => impl_parseFrom_B (impl_parseFrom_F n)
noncomputable def impl_parseFrom (a0 : ByteArray) : Option (Fo × ByteArray × Bool) := impl_parseFrom_F deep a0

noncomputable def impl_parse (a0 : ByteArray) : Option (Fo × Bool) :=
  (bif (decide (80 < (a0.size : Int))) then some (Fo.nil, false) else bd (PF.impl_parseFrom a0) (fun r22 => (bif (bif (!r22.2.2) then true else (!(r22.2.1.toList == (ByteArray.mk #[]).toList))) then some (Fo.nil, false) else some (r22.1, true))))

def impl_within (a0 : Int) (a1 : Int) (a2 : Int) : Bool :=
  (bif (decide (a1 ≤ a0)) then (decide (a0 ≤ a2)) else false)

noncomputable def impl_formula_put_B (rec_impl_formula_put : Fo → (Fo × Fo × Fo) → Option Fo) (a0 : Fo) (a1 : Fo × Fo × Fo) : Option Fo :=
  bd (a0.get) (fun y29 => (bif (PF.impl_isLetter y29.op) then bd (ix [a1.1, a1.2.1, a1.2.2] (wrk false 8 (y29.op - 97))) (fun x41 => some x41) else (bif y29.a.isNil then some a0 else (bif y29.b.isNil then bd (rec_impl_formula_put y29.a (a1.1, a1.2.1, a1.2.2)) (fun r18051 => bd (PF.impl_not r18051) (fun r21051 => some r21051)) else bd (rec_impl_formula_put y29.a (a1.1, a1.2.1, a1.2.2)) (fun r60060 => bd (rec_impl_formula_put y29.b (a1.1, a1.2.1, a1.2.2)) (fun r78060 => bd (PF.impl_join y29.op r60060 r78060) (fun r81060 => some r81060)))))))
noncomputable def impl_formula_put_F : Nat → Fo → (Fo × Fo × Fo) → Option Fo
  | 0 => fun _ _ => none
  | n + 1 => impl_formula_put_B (impl_formula_put_F n)
noncomputable def impl_formula_put (a0 : Fo) (a1 : Fo × Fo × Fo) : Option Fo := impl_formula_put_F deep a0 a1

noncomputable def impl_caseOf (a0 : Int) (a1 : Fo) (a2 : Fo) (a3 : Fo) : Option Fo :=
  bd (ix PF.glob0 (wr (a0 - 1))) (fun x21 => bd (PF.impl_parse x21) (fun r27 => bd (PF.impl_formula_put r27.1 (a1, a2, a3)) (fun r35 => some r35)))

def impl_formula_shown (a0 : Fo) : Option (ByteArray × Bool) :=
  bd (a0.get) (fun y21 => (bif (decide (80 < (y21.text.size : Int))) then some ((ByteArray.mk #[]), false) else some (y21.text, true)))

noncomputable def impl_CaseOf (a0 : Int) (a1 : ByteArray) (a2 : ByteArray) (a3 : ByteArray) : Option (ByteArray × Bool) :=
  bd (PF.impl_parse a1) (fun r21 => bd (PF.impl_parse a2) (fun r29 => bd (PF.impl_parse a3) (fun r37 => (bif (bif (bif (bif (!(PF.impl_within a0 1 10)) then true else (!r21.2)) then true else (!r29.2)) then true else (!r37.2)) then some ((ByteArray.mk #[]), false) else bd (PF.impl_caseOf a0 r21.1 r29.1 r37.1) (fun r88 => bd (PF.impl_formula_shown r88) (fun r96 => some (r96.1, r96.2)))))))

def slices_Grow_string_string (a1 : Int) : Option (List ByteArray) := if 0 ≤ a1 ∧ a1 ≤ lim then some [] else none

def slices_Concat_string_string (a0 : List (List ByteArray)) : Option (List ByteArray) :=
  bdR (forL (S := Int) (X := Empty) a0 (fun i22 y21 s22 => (bif (decide ((wr (s22 + (len y21))) < 0)) then none else some (Lp.nx (wr (s22 + (len y21)))))) 0) (fun s22 => bd (PF.slices_Grow_string_string s22) (fun r69 => bdR (forL (S := (List ByteArray)) (X := Empty) a0 (fun i80 y79 s80 => bd (app s80 y79) (fun xs129 => some (Lp.nx xs129))) r69) (fun s80 => some s80) (fun x80 => nomatch x80))) (fun x22 => nomatch x22)

noncomputable def slices_SortFunc_string_string (a0 : List ByteArray) (a1 : ByteArray → ByteArray → Option Int) : Option (List ByteArray) := sortF a1 a0

def cmp_isNaN_int (a0 : Int) : Bool :=
  (!(a0 == a0))

def cmp_Compare_int (a0 : Int) (a1 : Int) : Int :=
  (bif (PF.cmp_isNaN_int a0) then (bif (PF.cmp_isNaN_int a1) then 0 else (-1)) else (bif (PF.cmp_isNaN_int a1) then 1 else (bif (decide (a0 < a1)) then (-1) else (bif (decide (a1 < a0)) then 1 else 0))))

def strings_Compare (a0 a1 : ByteArray) : Int := cmpS a0 a1

def cmp_Or_int (a0 : List Int) : Option Int :=
  bdR (forL (S := Unit) (X := Int) a0 (fun i22 y21 s22 => (bif (!(y21 == 0)) then some (Lp.rt y21) else some (Lp.nx ()))) ()) (fun s22 => some 0) (fun x22 => some x22)

def impl_compareFormulas (a0 : ByteArray) (a1 : ByteArray) : Option Int :=
  bd (PF.cmp_Or_int [(PF.cmp_Compare_int (a0.size : Int) (a1.size : Int)), (PF.strings_Compare a0 a1)]) (fun r37 => some r37)

def slices_Compact_string_string (a0 : List ByteArray) : Option (List ByteArray) := some (compactL a0)

noncomputable def impl_with (a0 : List ByteArray) (a1 : List ByteArray) : Option (List ByteArray) :=
  bd (PF.slices_Concat_string_string [a0, a1]) (fun r31 => bd (PF.slices_SortFunc_string_string r31 (fun x0 x1 => PF.impl_compareFormulas x0 x1)) (fun r43 => bd (PF.slices_Compact_string_string r43) (fun r51 => some r51)))

noncomputable def impl_givenSequent (a0 : List ByteArray) (a1 : ByteArray) : Option Sequent :=
  bd (PF.impl_with [] a0) (fun r25 => some (Sequent.mk r25 [a1]))

noncomputable def impl_IsFormula (a0 : ByteArray) : Option Bool :=
  bd (PF.impl_parse a0) (fun r21 => some r21.2)

noncomputable def impl_sideOk (a0 : List ByteArray) : Option Bool :=
  bdR (forL (S := Unit) (X := Bool) a0 (fun i22 y21 s22 => bd (PF.impl_IsFormula y21) (fun r149 => bd (bif (!r149) then some true else bd (bif (decide (0 < ((i22 : Nat) : Int))) then bd (ix a0 (wr (((i22 : Nat) : Int) - 1))) (fun x226 => bd (PF.impl_compareFormulas x226 y21) (fun r228 => some (decide (0 ≤ r228)))) else some false) (fun t213 => some t213)) (fun t193 => (bif t193 then some (Lp.rt false) else some (Lp.nx ()))))) ()) (fun s22 => some (decide ((len a0) ≤ 12))) (fun x22 => some x22)

noncomputable def impl_IsSequent (a0 : Sequent) : Option Bool :=
  bd (PF.impl_sideOk a0.left) (fun r29 => bd (bif r29 then bd (PF.impl_sideOk a0.right) (fun r46 => some r46) else some false) (fun t39 => some t39))

def slices_Clone_string_string (a0 : List ByteArray) : Option (List ByteArray) :=
  bd (app [] a0) (fun xs30 => some xs30)

def impl_Sequent_clone (a0 : Sequent) : Option Sequent :=
  bd (PF.slices_Clone_string_string a0.left) (fun r9033 => bd (PF.slices_Clone_string_string a0.right) (fun r18033 => some (Sequent.mk r9033 r18033)))

def slices_Index_string_string (a0 : List ByteArray) (a1 : ByteArray) : Option Int :=
  bdR (forL (S := Unit) (X := Int) a0 (fun i22 y21 s22 => (bif (a1.toList == y21.toList) then some (Lp.rt ((i22 : Nat) : Int)) else some (Lp.nx ()))) ()) (fun s22 => some (-1)) (fun x22 => some x22)

def slices_Contains_string_string (a0 : List ByteArray) (a1 : ByteArray) : Option Bool :=
  bd (PF.slices_Index_string_string a0 a1) (fun r21 => some (decide (0 ≤ r21)))

def slices_IndexFunc_string_string (a0 : List ByteArray) (a1 : ByteArray → Option Bool) : Option Int :=
  bdR (forL (S := Unit) (X := Int) a0 (fun i22 y21 s22 => bd (a1 y21) (fun r64 => (bif r64 then some (Lp.rt ((i22 : Nat) : Int)) else some (Lp.nx ())))) ()) (fun s22 => some (-1)) (fun x22 => some x22)

def slices_ContainsFunc_string_string (a0 : List ByteArray) (a1 : ByteArray → Option Bool) : Option Bool :=
  bd (PF.slices_IndexFunc_string_string a0 a1) (fun r21 => some (decide (0 ≤ r21)))

def impl_isSeqAxiom_1 (a0 : ByteArray) (b0 : Sequent) : Option Bool :=
  bd (PF.slices_Contains_string_string b0.right a0) (fun r21 => some r21)

def impl_isSeqAxiom (a0 : Sequent) : Option Bool :=
  bd (PF.slices_Contains_string_string a0.left (ByteArray.mk #[48])) (fun r29 => bd (bif r29 then some true else bd (PF.slices_Contains_string_string a0.right (ByteArray.mk #[49])) (fun r46 => some r46)) (fun t39 => bd (bif t39 then some true else bd (PF.slices_ContainsFunc_string_string a0.left (fun x0 => PF.impl_isSeqAxiom_1 x0 a0)) (fun r65 => some r65)) (fun t58 => some t58)))

def impl_ruleFor (a0 : Int) (a1 : Bool) : Int :=
  (bif (bif (mget (mput (mput (mput (mput ([] : List (Int × Int)) 126 2) 38 4) 124 6) 62 8) a0).isSome then (!a1) else false) then (wr (((mget (mput (mput (mput (mput ([] : List (Int × Int)) 126 2) 38 4) 124 6) 62 8) a0).getD 0) + 1)) else ((mget (mput (mput (mput (mput ([] : List (Int × Int)) 126 2) 38 4) 124 6) 62 8) a0).getD 0))

noncomputable def impl_mainOf (a0 : Sequent) : Option (Fo × Int) :=
  bd (chk (len [a0.left, a0.right])) (fun m34 => bdR (forR (S := Unit) (X := (Fo × Int)) 0 m34 (fun i35 s35 => bd (ix [a0.left, a0.right] ((i35 : Nat) : Int)) (fun x128 => bdR (forL (S := Unit) (X := (Lp Unit (Fo × Int))) x128 (fun i133 y132 s133 => bd (PF.impl_parse y132) (fun r190 => bd (r190.1.get) (fun y198 => (bif (!((PF.impl_ruleFor y198.op (((i35 : Nat) : Int) == 0)) == 0)) then some (Lp.rt (Lp.rt (r190.1, (PF.impl_ruleFor y198.op (((i35 : Nat) : Int) == 0))))) else some (Lp.nx ()))))) ()) (fun s133 => some (Lp.nx ())) (fun x133 => some x133))) ()) (fun s35 => some (Fo.nil, 0)) (fun x35 => some x35))

noncomputable def slices_DeleteFunc_string_string (a0 : List ByteArray) (a1 : ByteArray → Option Bool) : Option (List ByteArray) :=
  bd (PF.slices_IndexFunc_string_string a0 a1) (fun r26 => (bif (r26 == (-1)) then some a0 else bdR (iter (S := ((List ByteArray) × Int × Int)) (X := Empty) (fun s32 => (bif (decide (s32.2.2 < (len s32.1))) then bd (ix s32.1 s32.2.2) (fun x141 => bd (a1 x141) (fun r143 => (bif (!r143) then bd (ix s32.1 s32.2.1) (fun x160 => bd (put s32.1 s32.2.1 x141) (fun xs165 => some (Lp.nx (xs165, (wr (s32.2.1 + 1)), (wr (s32.2.2 + 1)))))) else some (Lp.nx (s32.1, s32.2.1, (wr (s32.2.2 + 1))))))) else some (Lp.bk (s32.1, s32.2.1, s32.2.2)))) (a0, r26, (wr (r26 + 1)))) (fun s32 => bd (cut s32.1 s32.2.1 (len s32.1)) (fun xs178 => bd (cut (clearL ByteArray.empty s32.1 s32.2.1) 0 s32.2.1) (fun xs188 => some xs188))) (fun x32 => nomatch x32)))

def impl_lacking_1 (a0 : ByteArray) (b0 : ByteArray) : Bool :=
  (b0.toList == a0.toList)

noncomputable def impl_lacking (a0 : List ByteArray) (a1 : ByteArray) : Option (List ByteArray) :=
  bd (PF.slices_Clone_string_string a0) (fun r29 => bd (PF.slices_DeleteFunc_string_string r29 (fun x0 => some (PF.impl_lacking_1 x0 a1))) (fun r39 => some r39))

noncomputable def impl_premisesOf (a0 : Sequent) (a1 : Int) (a2 : Fo) : Option (List Sequent) :=
  bd (a2.get) (fun y12029 => bd (PF.impl_lacking a0.left y12029.text) (fun r21029 => bd (PF.impl_lacking a0.right y12029.text) (fun r42029 => bd (a2.get) (fun y54051 => (bif (a1 == 2) then bd (y54051.a.get) (fun y69063 => bd (PF.impl_with a0.right [y69063.text]) (fun r81068 => some [(Sequent.mk r21029 r81068)])) else (bif (a1 == 3) then bd (y54051.a.get) (fun y108076 => bd (PF.impl_with a0.left [y108076.text]) (fun r120081 => some [(Sequent.mk r120081 r42029)])) else (bif (a1 == 4) then bd (y54051.a.get) (fun y147089 => bd (y54051.b.get) (fun y159089 => bd (PF.impl_with r21029 [y147089.text, y159089.text]) (fun r171099 => some [(Sequent.mk r171099 a0.right)]))) else (bif (a1 == 5) then bd (y54051.a.get) (fun y207101 => bd (PF.impl_with r42029 [y207101.text]) (fun r219111 => bd (y54051.b.get) (fun y237101 => bd (PF.impl_with r42029 [y237101.text]) (fun r249111 => some [(Sequent.mk a0.left r219111), (Sequent.mk a0.left r249111)])))) else (bif (a1 == 6) then bd (y54051.a.get) (fun y273113 => bd (PF.impl_with r21029 [y273113.text]) (fun r285123 => bd (y54051.b.get) (fun y303113 => bd (PF.impl_with r21029 [y303113.text]) (fun r315123 => some [(Sequent.mk r285123 a0.right), (Sequent.mk r315123 a0.right)])))) else (bif (a1 == 7) then bd (y54051.a.get) (fun y351125 => bd (y54051.b.get) (fun y363125 => bd (PF.impl_with r42029 [y351125.text, y363125.text]) (fun r375135 => some [(Sequent.mk a0.left r375135)]))) else (bif (a1 == 8) then bd (y54051.a.get) (fun y405137 => bd (PF.impl_with a0.right [y405137.text]) (fun r417142 => bd (y54051.b.get) (fun y429137 => bd (PF.impl_with r21029 [y429137.text]) (fun r441142 => some [(Sequent.mk r21029 r417142), (Sequent.mk r441142 a0.right)])))) else bd (y54051.a.get) (fun y474148 => bd (PF.impl_with a0.left [y474148.text]) (fun r486153 => bd (y54051.b.get) (fun y495148 => bd (PF.impl_with r42029 [y495148.text]) (fun r507158 => some [(Sequent.mk r486153 r507158)])))))))))))))))

noncomputable def impl_seqSearch_search_B (rec_impl_seqSearch_search : seqSearch → Sequent → Option (Bool × seqSearch)) (a0 : seqSearch) (a1 : Sequent) : Option (Bool × seqSearch) :=
  bd (PF.impl_IsSequent a1) (fun r25 => (bif (!r25) then some (false, a0) else bd (PF.impl_Sequent_clone a1) (fun r31 => bd (PF.impl_isSeqAxiom a1) (fun r57 => bdR (S := ((List SeqStep) × Int × ByteArray × Int × Int × (Option Sequent))) (X := (Bool × seqSearch)) ((bif (!r57) then bd (PF.impl_mainOf a1) (fun r327 => (bif r327.1.isNil then some (Rs.rt (false, (seqSearch.mk a0.steps (some a1)))) else bd (r327.1.get) (fun y346 => bd (PF.impl_premisesOf a1 r327.2 r327.1) (fun r357 => bd (chk (len r357)) (fun m367 => bdR (forR (S := ((List SeqStep) × Int × Int × (Option Sequent))) (X := (Rs ((List SeqStep) × Int × ByteArray × Int × Int × (Option Sequent)) (Bool × seqSearch))) 0 m367 (fun i368 s368 => bd (ix r357 ((i368 : Nat) : Int)) (fun x578 => bd (rec_impl_seqSearch_search (seqSearch.mk s368.1 s368.2.2.2) x578) (fun r595 => (bif (!r595.1) then some (Lp.rt (Rs.rt (false, r595.2))) else (bif (((i368 : Nat) : Int) == 0) then some (Lp.nx (r595.2.steps, (wr ((len r595.2.steps) - 1)), s368.2.2.1, r595.2.open_)) else some (Lp.nx (r595.2.steps, s368.2.1, (wr ((len r595.2.steps) - 1)), r595.2.open_))))))) (a0.steps, 0, 0, a0.open_)) (fun s368 => some (Rs.go (s368.1, r327.2, y346.text, s368.2.1, s368.2.2.1, s368.2.2.2))) (fun x368 => some x368)))))) else some (Rs.go (a0.steps, 1, ByteArray.empty, 0, 0, a0.open_)))) (fun s315 => bd (app s315.1 [(SeqStep.mk r31 s315.2.1 s315.2.2.1 s315.2.2.2.1 s315.2.2.2.2.1)]) (fun xs24644 => some ((decide ((len xs24644) ≤ 200)), (seqSearch.mk xs24644 s315.2.2.2.2.2)))) (fun x317 => some x317)))))
noncomputable def impl_seqSearch_search_F : Nat → seqSearch → Sequent → Option (Bool × seqSearch)
  | 0 => fun _ _ => none
  | n + 1 => impl_seqSearch_search_B (impl_seqSearch_search_F n)
noncomputable def impl_seqSearch_search (a0 : seqSearch) (a1 : Sequent) : Option (Bool × seqSearch) := impl_seqSearch_search_F deep a0 a1

noncomputable def impl_SearchSequent (a0 : Sequent) : Option ((List SeqStep) × Bool) :=
  bd (PF.impl_seqSearch_search (seqSearch.mk [] none) a0) (fun r35 => (bif (!r35.1) then some ([], false) else some (r35.2.steps, true)))

noncomputable def impl_SchemeSequents (a0 : Int) (a1 : ByteArray) (a2 : ByteArray) (a3 : ByteArray) : Option ((List SeqStep) × Bool) :=
  bd (PF.impl_CaseOf a0 a1 a2 a3) (fun r21 => (bif (!r21.2) then some ([], false) else bd (PF.impl_givenSequent [] r21.1) (fun r27 => bd (PF.impl_SearchSequent r27) (fun r46 => some (r46.1, r46.2)))))

def laws_eqStringS (a0 : List ByteArray) (a1 : List ByteArray) : Option Bool :=
  (bif (!((len a0) == (len a1))) then some false else bdR (forL (S := Unit) (X := Bool) a0 (fun i23 y22 s23 => bd (ix a1 ((i23 : Nat) : Int)) (fun x72 => (bif (!(y22.toList == x72.toList)) then some (Lp.rt false) else some (Lp.nx ())))) ()) (fun s23 => some true) (fun x23 => some x23))

def laws_eqSequent (a0 : Sequent) (a1 : Sequent) : Option Bool :=
  bd (PF.laws_eqStringS a0.left a1.left) (fun r37 => (bif (!r37) then some false else bd (PF.laws_eqStringS a0.right a1.right) (fun r43 => (bif (!r43) then some false else some true))))

def laws_eqSeqStep (a0 : SeqStep) (a1 : SeqStep) : Option Bool :=
  bd (PF.laws_eqSequent a0.seq a1.seq) (fun r37 => (bif (!r37) then some false else (bif (!(a0.rule == a1.rule)) then some false else (bif (!(a0.main.toList == a1.main.toList)) then some false else (bif (!(a0.a == a1.a)) then some false else (bif (!(a0.b == a1.b)) then some false else some true))))))

def laws_eqSeqStepS (a0 : List SeqStep) (a1 : List SeqStep) : Option Bool :=
  (bif (!((len a0) == (len a1))) then some false else bdR (forL (S := Unit) (X := Bool) a0 (fun i23 y22 s23 => bd (ix a1 ((i23 : Nat) : Int)) (fun x86 => bd (PF.laws_eqSeqStep y22 x86) (fun r92 => (bif (!r92) then some (Lp.rt false) else some (Lp.nx ()))))) ()) (fun s23 => some true) (fun x23 => some x23))

noncomputable def laws_markTextO (a0 : Int) : Option ByteArray :=
  (bif (decide (a0 ≤ 0)) then some (ByteArray.mk #[109, 48]) else bdR (iter (S := (Int × ByteArray)) (X := Empty) (fun s22 => (bif (decide (0 < s22.1)) then bd (catS (bytesS [(wrk false 8 (wr (48 + (s22.1.tmod 10))))]) s22.2) (fun z51 => some (Lp.nx ((wr (s22.1.tdiv 10)), z51))) else some (Lp.bk (s22.1, s22.2)))) (a0, (ByteArray.mk #[]))) (fun s22 => bd (catS (ByteArray.mk #[109]) s22.2) (fun z60 => some z60)) (fun x22 => nomatch x22))
noncomputable def laws_markText (a0 : Int) : ByteArray := (PF.laws_markTextO a0).getD ByteArray.empty
theorem laws_markText_eq (a0 : Int) : PF.laws_markTextO a0 = some (PF.laws_markText a0) := by
  have key : ∃ r, PF.laws_markTextO a0 = some r := by
    unfold PF.laws_markTextO
    cases decide (a0 ≤ 0) with
    | true => exact ⟨_, rfl⟩
    | false =>
      obtain ⟨r, h1, h2⟩ := mtx_some a0
      refine ⟨(ByteArray.mk #[109]) ++ r.2, ?_⟩
      show bdR (iter mtxB (a0, ByteArray.mk #[])) (fun s => bd (catS (ByteArray.mk #[109]) s.2) (fun z => some z)) (fun x => nomatch x) = _
      rw [h1]
      show bd (catS (ByteArray.mk #[109]) r.2) (fun z => some z) = _
      unfold catS
      rw [if_pos (by have : (ByteArray.mk #[109]).size = 1 := rfl; omega)]
      rfl
  obtain ⟨r, h⟩ := key
  unfold PF.laws_markText
  rw [h]; rfl

noncomputable def laws_markStringS (a0 : List ByteArray) (a1 : Int) : List ByteArray × Int :=
  markFrom (fun y m => ((PF.laws_markText m), (wr (m + 1)))) a0 a1

noncomputable def laws_markSeqStepS (a0 : List SeqStep) (a1 : Int) : List SeqStep × Int :=
  markFrom (fun y m => ((SeqStep.mk (Sequent.mk ((PF.laws_markStringS y.seq.left m).1) ((PF.laws_markStringS y.seq.right ((PF.laws_markStringS y.seq.left m).2)).1)) ((PF.laws_markStringS y.seq.right ((PF.laws_markStringS y.seq.left m).2)).2) (PF.laws_markText (wr ((PF.laws_markStringS y.seq.right ((PF.laws_markStringS y.seq.left m).2)).2 + 1))) (wr ((wr ((PF.laws_markStringS y.seq.right ((PF.laws_markStringS y.seq.left m).2)).2 + 1)) + 1)) (wr ((wr ((wr ((PF.laws_markStringS y.seq.right ((PF.laws_markStringS y.seq.left m).2)).2 + 1)) + 1)) + 1))), (wr ((wr ((wr ((wr ((PF.laws_markStringS y.seq.right ((PF.laws_markStringS y.seq.left m).2)).2 + 1)) + 1)) + 1)) + 1)))) a0 a1

noncomputable def laws_heldStringS (a0 : List ByteArray) (a1 : Int) : Option Int :=
  bdR (forL (S := Int) (X := Int) a0 (fun i22 y21 s22 => (bif (!(y21.toList == (PF.laws_markText s22).toList)) then some (Lp.rt (-1)) else some (Lp.nx (wr (s22 + 1))))) a1) (fun s22 => some s22) (fun x22 => some x22)

noncomputable def laws_heldSeqStepS (a0 : List SeqStep) (a1 : Int) : Option Int :=
  bdR (forL (S := Int) (X := Int) a0 (fun i22 y21 s22 => bd (PF.laws_heldStringS y21.seq.left s22) (fun r129 => (bif (decide (r129 < 0)) then some (Lp.rt (-1)) else bd (PF.laws_heldStringS y21.seq.right r129) (fun r145 => (bif (decide (r145 < 0)) then some (Lp.rt (-1)) else (bif (!(y21.rule == r145)) then some (Lp.rt (-1)) else (bif (!(y21.main.toList == (PF.laws_markText (wr (r145 + 1))).toList)) then some (Lp.rt (-1)) else (bif (!(y21.a == (wr ((wr (r145 + 1)) + 1)))) then some (Lp.rt (-1)) else (bif (!(y21.b == (wr ((wr ((wr (r145 + 1)) + 1)) + 1)))) then some (Lp.rt (-1)) else some (Lp.nx (wr ((wr ((wr ((wr (r145 + 1)) + 1)) + 1)) + 1)))))))))))) a1) (fun s22 => some s22) (fun x22 => some x22)

noncomputable def laws_FnExactSchemeSequents (a0 : Int) (a1 : ByteArray) (a2 : ByteArray) (a3 : ByteArray) : Option Bool :=
  (bif (decide (1048576 < (a1.size : Int))) then some true else (bif (decide (1048576 < (a2.size : Int))) then some true else (bif (decide (1048576 < (a3.size : Int))) then some true else bd (PF.spec_SchemeSequents a0 a1 a2 a3) (fun r24 => bd (PF.impl_SchemeSequents a0 a1 a2 a3) (fun r40 => bd (PF.laws_eqSeqStepS r40.1 r24.1) (fun r59 => (bif (bif (!r59) then true else (!(r40.2 == r24.2))) then some false else bd (PF.laws_heldSeqStepS ((PF.laws_markSeqStepS r40.1 1).1) 1) (fun r91 => (bif (decide (r91 < 0)) then some false else (bif (!(r91 == (PF.laws_markSeqStepS r40.1 1).2)) then some false else bd (PF.impl_SchemeSequents a0 a1 a2 a3) (fun r99 => bd (PF.laws_eqSeqStepS r99.1 r24.1) (fun r118 => (bif (bif (!r118) then true else (!(r99.2 == r24.2))) then some false else bd (PF.laws_heldSeqStepS ((PF.laws_markSeqStepS r40.1 1).1) 1) (fun r135 => (bif (decide (r135 < 0)) then some false else (bif (!(r135 == (PF.laws_markSeqStepS r40.1 1).2)) then some false else some true))))))))))))))))

end Go.PF
