/- Part of the walks and plain laws behind the claim: it proves helpers, under no condition beyond their own. -/
import Derived.Test.YtdkfkiifbagnnaaGreatTsLB
set_option linter.unusedVariables false
namespace Go.PF
open Go.Pu

structure Cnf where
  vars : Int
  clauses : List (List Int)
structure Sequent where
  left : List ByteArray
  right : List ByteArray
def okSequent (s : Sequent) : Prop := (okL okS) s.left ∧ (okL okS) s.right

structure SeqStep where
  seq : Sequent
  rule : Int
  main : ByteArray
  a : Int
  b : Int
def okSeqStep (s : SeqStep) : Prop := okSequent s.seq ∧ okI s.rule ∧ okS s.main ∧ okI s.a ∧ okI s.b

structure sequencer where
  steps : List SeqStep
  bad : Bool
structure formula where
  op : Int
  a : Fo
  b : Fo
  text : ByteArray
structure Gate where
  kind : Int
  a : Int
  b : Int
structure l23Search where
  steps : List SeqStep
  open_ : Bool
  bits : Int
  bad : Bool
structure seqSearch where
  steps : List SeqStep
  open_ : Option Sequent
structure l1Cur where
  code : List Int
  at_ : Int
  seed : Int
structure FregeStep where
  formula : ByteArray
  rule : Int
  a : Int
  b : Int
def laws_szStringS (a0 : List ByteArray) (a1 : Int) : Option Int :=
  (bif (decide ((wr (a1 - (len a0))) < 0)) then some (-1) else bdR (forL (S := Int) (X := Int) a0 (fun i23 y22 s23 => (bif (decide ((wr (s23 - (y22.size : Int))) < 0)) then some (Lp.rt (-1)) else some (Lp.nx (wr (s23 - (y22.size : Int)))))) (wr (a1 - (len a0)))) (fun s23 => some s23) (fun x23 => some x23))

def laws_szSequent (a0 : Sequent) (a1 : Int) : Option Int :=
  bd (PF.laws_szStringS a0.left a1) (fun r29 => (bif (decide (r29 < 0)) then some (-1) else bd (PF.laws_szStringS a0.right r29) (fun r35 => (bif (decide (r35 < 0)) then some (-1) else some r35))))

def laws_szSeqStep (a0 : SeqStep) (a1 : Int) : Option Int :=
  bd (PF.laws_szSequent a0.seq a1) (fun r29 => (bif (decide (r29 < 0)) then some (-1) else (bif (decide ((wr (r29 - (a0.main.size : Int))) < 0)) then some (-1) else some (wr (r29 - (a0.main.size : Int))))))

def laws_szSeqStepS (a0 : List SeqStep) (a1 : Int) : Option Int :=
  (bif (decide ((wr (a1 - (len a0))) < 0)) then some (-1) else bdR (forL (S := Int) (X := Int) a0 (fun i23 y22 s23 => bd (PF.laws_szSeqStep y22 s23) (fun r66 => (bif (decide (r66 < 0)) then some (Lp.rt (-1)) else some (Lp.nx r66)))) (wr (a1 - (len a0)))) (fun s23 => some s23) (fun x23 => some x23))

def laws_toStringS (a0 : List ByteArray) : Option (List ByteArray) :=
  bd (mk2 (ByteArray.empty : ByteArray) (len a0) (len a0)) (fun xs21 => bdR (forL (S := (List ByteArray)) (X := Empty) a0 (fun i32 y31 s32 => bd (ix s32 ((i32 : Nat) : Int)) (fun x117 => bd (put s32 ((i32 : Nat) : Int) y31) (fun xs122 => some (Lp.nx xs122)))) xs21) (fun s32 => some s32) (fun x32 => nomatch x32))

def laws_toSequent (a0 : Sequent) : Option Sequent :=
  bd (PF.laws_toStringS a0.left) (fun r37 => bd (PF.laws_toStringS a0.right) (fun r50 => some (Sequent.mk r37 r50)))

def laws_toSeqStep (a0 : SeqStep) : Option SeqStep :=
  bd (PF.laws_toSequent a0.seq) (fun r37 => some (SeqStep.mk r37 a0.rule a0.main a0.a a0.b))

def laws_toSeqStepS (a0 : List SeqStep) : Option (List SeqStep) :=
  bd (mk2 ((SeqStep.mk (Sequent.mk [] []) 0 ByteArray.empty 0 0) : SeqStep) (len a0) (len a0)) (fun xs21 => bdR (forL (S := (List SeqStep)) (X := Empty) a0 (fun i33 y32 s33 => bd (PF.laws_toSeqStep y32) (fun r173 => bd (ix s33 ((i33 : Nat) : Int)) (fun x198 => bd (put s33 ((i33 : Nat) : Int) r173) (fun xs207 => some (Lp.nx xs207))))) xs21) (fun s33 => some s33) (fun x33 => nomatch x33))

def spec_l1In (a0 : Int) (a1 : Int) (a2 : Int) : Bool :=
  (bif (decide (a1 ≤ a0)) then (decide (a0 ≤ a2)) else false)

noncomputable def spec_l22End_B (rec_spec_l22End : ByteArray → Int → Option Int) (a0 : ByteArray) (a1 : Int) : Option Int :=
  (bif (decide ((a0.size : Int) ≤ a1)) then some (-1) else bd (ixS a0 a1) (fun z22 => bd (bif (z22 == 48) then some true else bd (ixS a0 a1) (fun z33 => some (z33 == 49))) (fun t26 => bd (bif t26 then some true else bd (ixS a0 a1) (fun z62 => bd (bif (decide (97 ≤ z62)) then bd (ixS a0 a1) (fun z73 => some (decide (z73 ≤ 102))) else some false) (fun t66 => some t66))) (fun t55 => (bif t55 then some (wr (a1 + 1)) else bd (ixS a0 a1) (fun z83 => (bif (z83 == 126) then bd (rec_spec_l22End a0 (wr (a1 + 1))) (fun r86 => some r86) else bd (ixS a0 a1) (fun z91 => (bif (!(z91 == 40)) then some (-1) else bd (rec_spec_l22End a0 (wr (a1 + 1))) (fun r94 => bd (bif (bif (decide (r94 < 0)) then true else (decide ((a0.size : Int) ≤ r94))) then some true else bd (ixS a0 r94) (fun z148 => bd (bif (!(z148 == 38)) then bd (ixS a0 r94) (fun z159 => some (!(z159 == 124))) else some false) (fun t152 => bd (bif t152 then bd (ixS a0 r94) (fun z174 => some (!(z174 == 62))) else some false) (fun t167 => some t167)))) (fun t141 => (bif t141 then some (-1) else bd (rec_spec_l22End a0 (wr (r94 + 1))) (fun r184 => bd (bif (bif (decide (r184 < 0)) then true else (decide ((a0.size : Int) ≤ r184))) then some true else bd (ixS a0 r184) (fun z208 => some (!(z208 == 41)))) (fun t201 => (bif t201 then some (-1) else some (wr (r184 + 1)))))))))))))))))
noncomputable def spec_l22End_F : Nat → ByteArray → Int → Option Int
  | 0 => fun _ _ => none
  | n + 1 => spec_l22End_B (spec_l22End_F n)
noncomputable def spec_l22End (a0 : ByteArray) (a1 : Int) : Option Int := spec_l22End_F deep a0 a1

noncomputable def spec_l22Good (a0 : ByteArray) : Option Bool :=
  bd (bif (bif (decide (0 < (a0.size : Int))) then (decide ((a0.size : Int) ≤ 80)) else false) then bd (PF.spec_l22End a0 0) (fun r42 => some (r42 == (a0.size : Int))) else some false) (fun t35 => some t35)

def spec_l22Before (a0 : ByteArray) (a1 : ByteArray) : Bool :=
  (bif (!((a0.size : Int) == (a1.size : Int))) then (decide ((a0.size : Int) < (a1.size : Int))) else (ltS a0 a1))

noncomputable def spec_l23Side (a0 : List ByteArray) : Option Bool :=
  (bif (decide (12 < (len a0))) then some false else bdR (forL (S := Unit) (X := Bool) a0 (fun i23 y22 s23 => bd (PF.spec_l22Good y22) (fun r146 => bd (bif (!r146) then some true else bd (bif (decide (0 < ((i23 : Nat) : Int))) then bd (ix a0 (wr (((i23 : Nat) : Int) - 1))) (fun x221 => some (!(PF.spec_l22Before x221 y22))) else some false) (fun t208 => some t208)) (fun t187 => (bif t187 then some (Lp.rt false) else some (Lp.nx ()))))) ()) (fun s23 => some true) (fun x23 => some x23))

noncomputable def spec_l23Good (a0 : Sequent) : Option Bool :=
  bd (PF.spec_l23Side a0.left) (fun r29 => bd (bif r29 then bd (PF.spec_l23Side a0.right) (fun r46 => some r46) else some false) (fun t39 => some t39))

def spec_l23Has (a0 : List ByteArray) (a1 : ByteArray) : Option Bool :=
  bdR (forL (S := Unit) (X := Bool) a0 (fun i22 y21 s22 => (bif (y21.toList == a1.toList) then some (Lp.rt true) else some (Lp.nx ()))) ()) (fun s22 => some false) (fun x22 => some x22)

noncomputable def spec_l23Axiom (a0 : Sequent) : Option Bool :=
  bdR (iter (S := Int) (X := Bool) (fun s29 => (bif (decide (s29 < (len a0.left))) then bd (ix a0.left s29) (fun x96 => bd (bif (x96.toList == (ByteArray.mk #[48]).toList) then some true else bd (ix a0.left s29) (fun x121 => bd (PF.spec_l23Has a0.right x121) (fun r123 => some r123))) (fun t108 => (bif t108 then some (Lp.rt true) else some (Lp.nx (wr (s29 + 1)))))) else some (Lp.bk s29))) 0) (fun s29 => bd (PF.spec_l23Has a0.right (ByteArray.mk #[49])) (fun r139 => some r139)) (fun x29 => some x29)

noncomputable def spec_l23Earlier (a0 : List SeqStep) (a1 : Int) (a2 : Int) : Option Bool :=
  bd (bif (PF.spec_l1In a2 0 (wr (a1 - 1))) then bd (ix a0 a2) (fun x54 => bd (PF.spec_l23Good x54.seq) (fun r60 => some r60)) else some false) (fun t41 => some t41)

def spec_l23Part (a0 : List ByteArray) (a1 : List ByteArray) : Option Bool :=
  bdR (forL (S := Unit) (X := Bool) a0 (fun i22 y21 s22 => bd (PF.spec_l23Has a1 y21) (fun r57 => (bif (!r57) then some (Lp.rt false) else some (Lp.nx ())))) ()) (fun s22 => some true) (fun x22 => some x22)

noncomputable def spec_l22Parts (a0 : ByteArray) : Option (Int × ByteArray × ByteArray) :=
  bd (ixS a0 0) (fun z21 => (bif (z21 == 126) then bd (cutS a0 1 (a0.size : Int)) (fun z25 => some (126, z25, (ByteArray.mk #[]))) else bd (ixS a0 0) (fun z30 => (bif (!(z30 == 40)) then bd (ixS a0 0) (fun z33 => some (z33, (ByteArray.mk #[]), (ByteArray.mk #[]))) else bd (PF.spec_l22End a0 1) (fun r35 => bd (ixS a0 r35) (fun z41 => bd (cutS a0 1 r35) (fun z43 => bd (cutS a0 (wr (r35 + 1)) (wr ((a0.size : Int) - 1))) (fun z45 => some (z41, z43, z45)))))))))

noncomputable def spec_l23Rule (a0 : ByteArray) (a1 : Bool) : Option Int :=
  bd (PF.spec_l22Parts a0) (fun r21 => (bif (r21.1 == 126) then (bif (!a1) then some (wr (2 + 1)) else some 2) else (bif (r21.1 == 38) then (bif (!a1) then some (wr (4 + 1)) else some 4) else (bif (r21.1 == 124) then (bif (!a1) then some (wr (6 + 1)) else some 6) else (bif (r21.1 == 62) then (bif (!a1) then some (wr (8 + 1)) else some 8) else some 0)))))

def spec_l23Without (a0 : List ByteArray) (a1 : ByteArray) : Option (List ByteArray) :=
  bdR (forL (S := (List ByteArray)) (X := Empty) a0 (fun i27 y26 s27 => (bif (!(y26.toList == a1.toList)) then bd (app s27 [y26]) (fun xs97 => some (Lp.nx xs97)) else some (Lp.nx s27))) []) (fun s27 => some s27) (fun x27 => nomatch x27)

noncomputable def spec_l22Put (a0 : List ByteArray) (a1 : ByteArray) : Option (List ByteArray) :=
  bdR (iter (S := Int) (X := Empty) (fun s21 => bd (bif (decide (s21 < (len a0))) then bd (ix a0 s21) (fun x96 => some (PF.spec_l22Before x96 a1)) else some false) (fun t83 => (bif t83 then some (Lp.nx (wr (s21 + 1))) else some (Lp.bk s21)))) 0) (fun s21 => bd (bif (decide (s21 < (len a0))) then bd (ix a0 s21) (fun x136 => some (x136.toList == a1.toList)) else some false) (fun t123 => (bif t123 then some a0 else bd (cut a0 0 s21) (fun xs12143 => bd (app [] xs12143) (fun xs15143 => bd (app xs15143 [a1]) (fun xs24143 => bd (cut a0 s21 (len a0)) (fun xs33143 => bd (app xs24143 xs33143) (fun xs36143 => some xs36143)))))))) (fun x21 => nomatch x21)

noncomputable def spec_l23With (a0 : List ByteArray) (a1 : ByteArray) : Option (List ByteArray) :=
  bd (app [] a0) (fun xs26 => bd (PF.spec_l22Put xs26 a1) (fun r41 => some r41))

noncomputable def spec_l23Premises (a0 : Sequent) (a1 : Int) (a2 : ByteArray) : Option (List Sequent) :=
  bd (PF.spec_l22Parts a2) (fun r29 => bd (PF.spec_l23Without a0.left a2) (fun r12034 => bd (PF.spec_l23Without a0.right a2) (fun r24034 => (bif (a1 == 2) then bd (PF.spec_l23With a0.right r29.2.1) (fun r36056 => some [(Sequent.mk r12034 r36056)]) else (bif (a1 == 3) then bd (PF.spec_l23With a0.left r29.2.1) (fun r36075 => some [(Sequent.mk r36075 r24034)]) else (bif (a1 == 4) then bd (β := _) (bd (app [] r12034) (fun xs45130 => bd (PF.spec_l22Put xs45130 r29.2.1) (fun r45145 => some r45145)) : Option (List ByteArray)) (fun s45122 => bd (PF.spec_l23With s45122 r29.2.2) (fun r51094 => some [(Sequent.mk r51094 a0.right)])) else (bif (a1 == 5) then bd (β := _) (bd (app [] r24034) (fun xs87142 => bd (PF.spec_l22Put xs87142 r29.2.1) (fun r87157 => some r87157)) : Option (List ByteArray)) (fun s87134 => bd (β := _) (bd (app [] r24034) (fun xs105142 => bd (PF.spec_l22Put xs105142 r29.2.2) (fun r105157 => some r105157)) : Option (List ByteArray)) (fun s105134 => some [(Sequent.mk a0.left s87134), (Sequent.mk a0.left s105134)])) else (bif (a1 == 6) then bd (β := _) (bd (app [] r12034) (fun xs129154 => bd (PF.spec_l22Put xs129154 r29.2.1) (fun r129169 => some r129169)) : Option (List ByteArray)) (fun s129146 => bd (β := _) (bd (app [] r12034) (fun xs147154 => bd (PF.spec_l22Put xs147154 r29.2.2) (fun r147169 => some r147169)) : Option (List ByteArray)) (fun s147146 => some [(Sequent.mk s129146 a0.right), (Sequent.mk s147146 a0.right)])) else (bif (a1 == 7) then bd (β := _) (bd (app [] r24034) (fun xs183166 => bd (PF.spec_l22Put xs183166 r29.2.1) (fun r183181 => some r183181)) : Option (List ByteArray)) (fun s183158 => bd (PF.spec_l23With s183158 r29.2.2) (fun r189130 => some [(Sequent.mk a0.left r189130)])) else (bif (a1 == 8) then bd (PF.spec_l23With a0.right r29.2.1) (fun r219142 => bd (PF.spec_l23With r12034 r29.2.2) (fun r231142 => some [(Sequent.mk r12034 r219142), (Sequent.mk r231142 a0.right)])) else (bif (a1 == 9) then bd (PF.spec_l23With a0.left r29.2.1) (fun r252154 => bd (β := _) (bd (app [] r24034) (fun xs252198 => bd (PF.spec_l22Put xs252198 r29.2.2) (fun r252213 => some r252213)) : Option (List ByteArray)) (fun s252190 => some [(Sequent.mk r252154 s252190)])) else bd (PF.spec_l23With a0.right a2) (fun r270231 => bd (PF.spec_l23With a0.left a2) (fun r285231 => some [(Sequent.mk a0.left r270231), (Sequent.mk r285231 a0.right)])))))))))))))

noncomputable def spec_l23Text (a0 : Sequent) : Option ByteArray :=
  bdR (iter (S := (ByteArray × Int)) (X := Empty) (fun s29 => (bif (decide (s29.2 < (len a0.left))) then (bif (decide (0 < s29.2)) then bd (catS s29.1 (ByteArray.mk #[44, 32])) (fun z72 => bd (ix a0.left s29.2) (fun x80 => bd (catS z72 x80) (fun z82 => some (Lp.nx (z82, (wr (s29.2 + 1))))))) else bd (ix a0.left s29.2) (fun x90 => bd (catS s29.1 x90) (fun z92 => some (Lp.nx (z92, (wr (s29.2 + 1))))))) else some (Lp.bk (s29.1, s29.2)))) ((ByteArray.mk #[]), 0)) (fun s29 => bd (catS s29.1 (ByteArray.mk #[32, 124, 45, 32])) (fun z102 => bdR (iter (S := (ByteArray × Int)) (X := Empty) (fun s104 => (bif (decide (s104.2 < (len a0.right))) then (bif (decide (0 < s104.2)) then bd (catS s104.1 (ByteArray.mk #[44, 32])) (fun z147 => bd (ix a0.right s104.2) (fun x155 => bd (catS z147 x155) (fun z157 => some (Lp.nx (z157, (wr (s104.2 + 1))))))) else bd (ix a0.right s104.2) (fun x165 => bd (catS s104.1 x165) (fun z167 => some (Lp.nx (z167, (wr (s104.2 + 1))))))) else some (Lp.bk (s104.1, s104.2)))) (z102, 0)) (fun s104 => some s104.1) (fun x104 => nomatch x104))) (fun x29 => nomatch x29)

noncomputable def spec_l23Same (a0 : Sequent) (a1 : Sequent) : Option Bool :=
  bd (PF.spec_l23Text a0) (fun r38 => bd (PF.spec_l23Text a1) (fun r40 => some (r38.toList == r40.toList)))

noncomputable def spec_l23Correct (a0 : List SeqStep) (a1 : Int) : Option Bool :=
  bd (ix a0 a1) (fun x27 => bd (PF.spec_l23Good x27.seq) (fun r44 => (bif (bif (!r44) then true else (!(PF.spec_l1In x27.rule 1 11))) then some false else (bif (x27.rule == 1) then bd (bif (bif (bif (x27.main.toList == (ByteArray.mk #[]).toList) then (x27.a == 0) else false) then (x27.b == 0) else false) then bd (PF.spec_l23Axiom x27.seq) (fun r98 => some r98) else some false) (fun t91 => some t91) else bd (PF.spec_l23Earlier a0 a1 x27.a) (fun r104 => (bif (!r104) then some false else (bif (x27.rule == 10) then bd (bif (bif (x27.main.toList == (ByteArray.mk #[]).toList) then (x27.b == 0) else false) then bd (ix a0 x27.a) (fun x149 => bd (PF.spec_l23Part x149.seq.left x27.seq.left) (fun r155 => some r155)) else some false) (fun t136 => bd (bif t136 then bd (ix a0 x27.a) (fun x187 => bd (PF.spec_l23Part x187.seq.right x27.seq.right) (fun r193 => some r193)) else some false) (fun t174 => some t174)) else bd (PF.spec_l22Good x27.main) (fun r199 => (bif (!r199) then some false else bdR (S := Unit) (X := Bool) ((bif (!(x27.rule == 11)) then bdR (S := (List ByteArray)) (X := Empty) ((bif ((x27.rule.tmod 2) == 0) then some (Rs.go x27.seq.left) else some (Rs.go x27.seq.right))) (fun s249 => bd (PF.spec_l23Rule x27.main ((x27.rule.tmod 2) == 0)) (fun r266 => bd (bif (!(r266 == x27.rule)) then some true else bd (PF.spec_l23Has s249 x27.main) (fun r277 => some (!r277))) (fun t270 => (bif t270 then some (Rs.rt false) else some (Rs.go ()))))) (fun x251 => nomatch x251) else some (Rs.go ()))) (fun s244 => bd (PF.spec_l23Premises x27.seq x27.rule x27.main) (fun r295 => bd (ix r295 0) (fun x312 => bd (ix a0 x27.a) (fun x324 => bd (PF.spec_l23Same x312 x324.seq) (fun r330 => (bif (!r330) then some false else (bif ((len r295) == 1) then some (x27.b == 0) else bd (PF.spec_l23Earlier a0 a1 x27.b) (fun r338 => bd (bif r338 then bd (ix r295 1) (fun x379 => bd (ix a0 x27.b) (fun x391 => bd (PF.spec_l23Same x379 x391.seq) (fun r397 => some r397))) else some false) (fun t366 => some t366))))))))) (fun x246 => some x246))))))))))

noncomputable def spec_l23First (a0 : List SeqStep) : Option Int :=
  bdR (forL (S := Unit) (X := Int) a0 (fun i22 y21 s22 => bd (PF.spec_l23Correct a0 ((i22 : Nat) : Int)) (fun r43 => (bif (!r43) then some (Lp.rt ((i22 : Nat) : Int)) else some (Lp.nx ())))) ()) (fun s22 => some (-1)) (fun x22 => some x22)

noncomputable def spec_l23Proof (a0 : List SeqStep) : Option Bool :=
  bd (bif (PF.spec_l1In (len a0) 1 200) then bd (PF.spec_l23First a0) (fun r36 => some (decide (r36 < 0))) else some false) (fun t29 => some t29)

def spec_l23Uses (a0 : SeqStep) : (List Int) :=
  (bif (a0.rule == 1) then [] else (bif (a0.rule == 5) then [a0.a, a0.b] else (bif (a0.rule == 6) then [a0.a, a0.b] else (bif (a0.rule == 8) then [a0.a, a0.b] else (bif (a0.rule == 11) then [a0.a, a0.b] else [a0.a])))))

def spec_l23Own (a0 : Sequent) : Option Sequent :=
  bd (app [] a0.left) (fun xs12033 => bd (app [] a0.right) (fun xs24033 => some (Sequent.mk xs12033 xs24033)))

noncomputable def spec_TrimSeq (a0 : List SeqStep) : Option ((List SeqStep) × Bool) :=
  bd (PF.spec_l23Proof a0) (fun r26 => (bif (!r26) then some ([], false) else bd (mk2 (false : Bool) (len a0) (len a0)) (fun xs9032 => bd (mk2 (0 : Int) (len a0) (len a0)) (fun xs18032 => bd (ix xs9032 (wr ((len a0) - 1))) (fun x30056 => bd (put xs9032 (wr ((len a0) - 1)) true) (fun xs30061 => bdR (iter (S := ((List Bool) × Int)) (X := Empty) (fun s30066 => (bif (decide (0 ≤ s30066.2)) then bd (ix a0 s30066.2) (fun x30476 => bdR (iter (S := ((List Bool) × Int)) (X := Empty) (fun s30490 => bd (bif (decide (s30490.2 < (len (PF.spec_l23Uses x30476)))) then bd (ix s30490.1 s30066.2) (fun x30664 => some x30664) else some false) (fun t30651 => (bif t30651 then bd (ix (PF.spec_l23Uses x30476) s30490.2) (fun x30681 => bd (ix s30490.1 x30681) (fun x30689 => bd (put s30490.1 x30681 true) (fun xs30694 => some (Lp.nx (xs30694, (wr (s30490.2 + 1))))))) else some (Lp.bk (s30490.1, s30490.2))))) (s30066.1, 0)) (fun s30490 => some (Lp.nx (s30490.1, (wr (s30066.2 - 1))))) (fun x30490 => nomatch x30490)) else some (Lp.bk (s30066.1, s30066.2)))) (xs30061, (wr ((len a0) - 1)))) (fun s30066 => bdR (forL (S := ((List SeqStep) × (List Int))) (X := Empty) a0 (fun i30721 y30720 s30721 => bd (ix s30066.1 ((i30721 : Nat) : Int)) (fun x31060 => (bif (!x31060) then some (Lp.nx (s30721.1, s30721.2)) else bd (PF.spec_l23Own y30720.seq) (fun r31080 => bdR (S := Int) (X := Empty) ((bif (decide (0 < (len (PF.spec_l23Uses (SeqStep.mk r31080 y30720.rule y30720.main y30720.a y30720.b))))) then bd (ix s30721.2 y30720.a) (fun x31132 => some (Rs.go x31132)) else some (Rs.go y30720.a))) (fun s31122 => bdR (S := Int) (X := Empty) ((bif (decide (1 < (len (PF.spec_l23Uses (SeqStep.mk r31080 y30720.rule y30720.main y30720.a y30720.b))))) then bd (ix s30721.2 y30720.b) (fun x31171 => some (Rs.go x31171)) else some (Rs.go y30720.b))) (fun s31161 => bd (ix s30721.2 ((i30721 : Nat) : Int)) (fun x31193 => bd (put s30721.2 ((i30721 : Nat) : Int) (len s30721.1)) (fun xs31198 => bd (app s30721.1 [(SeqStep.mk r31080 y30720.rule y30720.main s31122 s31161)]) (fun xs31210 => some (Lp.nx (xs31210, xs31198)))))) (fun x31163 => nomatch x31163)) (fun x31124 => nomatch x31124))))) ([], xs18032)) (fun s30721 => some (s30721.1, true)) (fun x30721 => nomatch x30721)) (fun x30066 => nomatch x30066)))))))

def impl_within (a0 : Int) (a1 : Int) (a2 : Int) : Bool :=
  (bif (decide (a1 ≤ a0)) then (decide (a0 ≤ a2)) else false)

def impl_isLetter (a0 : Int) : Bool :=
  (bif (decide (97 ≤ a0)) then (decide (a0 < 103)) else false)

def impl_leaf (a0 : Int) : Option Fo :=
  bd (chrS a0) (fun z21 => some (Fo.node a0 Fo.nil Fo.nil z21))

def impl_not (a0 : Fo) : Option Fo :=
  bd (a0.get) (fun y21 => bd (catS (ByteArray.mk #[126]) y21.text) (fun z29 => some (Fo.node 126 a0 Fo.nil z29)))

def strings_Contains (a0 a1 : ByteArray) : Option Bool := hasS a0 a1

def impl_join (a0 : Int) (a1 : Fo) (a2 : Fo) : Option Fo :=
  bd (a1.get) (fun y15021 => bd (catS (ByteArray.mk #[40]) y15021.text) (fun z24021 => bd (chrS a0) (fun z30021 => bd (catS z24021 z30021) (fun z33021 => bd (a2.get) (fun y39021 => bd (catS z33021 y39021.text) (fun z48021 => bd (catS z48021 (ByteArray.mk #[41])) (fun z51021 => some (Fo.node a0 a1 a2 z51021))))))))

noncomputable def impl_parseFrom_B (rec_impl_parseFrom : ByteArray → Option (Fo × ByteArray × Bool)) (a0 : ByteArray) : Option (Fo × ByteArray × Bool) :=
  (bif (a0.toList == (ByteArray.mk #[]).toList) then some (Fo.nil, (ByteArray.mk #[]), false) else bd (ixS a0 0) (fun z23 => bd (cutS a0 1 (a0.size : Int)) (fun z25 => (bif (bif (bif (PF.impl_isLetter z23) then true else (z23 == 48)) then true else (z23 == 49)) then bd (PF.impl_leaf z23) (fun r54 => some (r54, z25, true)) else (bif (z23 == 126) then bd (rec_impl_parseFrom z25) (fun r63 => (bif (!r63.2.2) then some (Fo.nil, (ByteArray.mk #[]), false) else bd (PF.impl_not r63.1) (fun r72 => some (r72, r63.2.1, true)))) else (bif (!(z23 == 40)) then some (Fo.nil, (ByteArray.mk #[]), false) else bd (rec_impl_parseFrom z25) (fun r81 => bd (bif (bif (!r81.2.2) then true else (r81.2.1.toList == (ByteArray.mk #[]).toList)) then some true else bd (cutS r81.2.1 0 1) (fun z113 => bd (PF.strings_Contains (ByteArray.mk #[38, 124, 62]) z113) (fun r115 => some (!r115)))) (fun t106 => (bif t106 then some (Fo.nil, (ByteArray.mk #[]), false) else bd (ixS r81.2.1 0) (fun z124 => bd (cutS r81.2.1 1 (r81.2.1.size : Int)) (fun z126 => bd (rec_impl_parseFrom z126) (fun r128 => bd (bif (bif (!r128.2.2) then true else (r128.2.1.toList == (ByteArray.mk #[]).toList)) then some true else bd (ixS r128.2.1 0) (fun z157 => some (!(z157 == 41)))) (fun t150 => (bif t150 then some (Fo.nil, (ByteArray.mk #[]), false) else bd (PF.impl_join z124 r81.1 r128.1) (fun r12165 => bd (cutS r128.2.1 1 (r128.2.1.size : Int)) (fun z18165 => some (r12165, z18165, true)))))))))))))))))
noncomputable def impl_parseFrom_F : Nat → ByteArray → Option (Fo × ByteArray × Bool)
  | 0 => fun _ => none
  | n + 1 => impl_parseFrom_B (impl_parseFrom_F n)
noncomputable def impl_parseFrom (a0 : ByteArray) : Option (Fo × ByteArray × Bool) := impl_parseFrom_F deep a0

noncomputable def impl_parse (a0 : ByteArray) : Option (Fo × Bool) :=
  (bif (decide (80 < (a0.size : Int))) then some (Fo.nil, false) else bd (PF.impl_parseFrom a0) (fun r22 => (bif (bif (!r22.2.2) then true else (!(r22.2.1.toList == (ByteArray.mk #[]).toList))) then some (Fo.nil, false) else some (r22.1, true))))

noncomputable def impl_IsFormula (a0 : ByteArray) : Option Bool :=
  bd (PF.impl_parse a0) (fun r21 => some r21.2)

def cmp_isNaN_int (a0 : Int) : Bool :=
  (!(a0 == a0))

def cmp_Compare_int (a0 : Int) (a1 : Int) : Int :=
  (bif (PF.cmp_isNaN_int a0) then (bif (PF.cmp_isNaN_int a1) then 0 else (-1)) else (bif (PF.cmp_isNaN_int a1) then 1 else (bif (decide (a0 < a1)) then (-1) else (bif (decide (a1 < a0)) then 1 else 0))))

def strings_Compare (a0 a1 : ByteArray) : Int := cmpS a0 a1

def cmp_Or_int (a0 : List Int) : Option Int :=
  bdR (forL (S := Unit) (X := Int) a0 (fun i22 y21 s22 => (bif (!(y21 == 0)) then some (Lp.rt y21) else some (Lp.nx ()))) ()) (fun s22 => some 0) (fun x22 => some x22)

def impl_compareFormulas (a0 : ByteArray) (a1 : ByteArray) : Option Int :=
  bd (PF.cmp_Or_int [(PF.cmp_Compare_int (a0.size : Int) (a1.size : Int)), (PF.strings_Compare a0 a1)]) (fun r37 => some r37)

noncomputable def impl_sideOk (a0 : List ByteArray) : Option Bool :=
  bdR (forL (S := Unit) (X := Bool) a0 (fun i22 y21 s22 => bd (PF.impl_IsFormula y21) (fun r149 => bd (bif (!r149) then some true else bd (bif (decide (0 < ((i22 : Nat) : Int))) then bd (ix a0 (wr (((i22 : Nat) : Int) - 1))) (fun x226 => bd (PF.impl_compareFormulas x226 y21) (fun r228 => some (decide (0 ≤ r228)))) else some false) (fun t213 => some t213)) (fun t193 => (bif t193 then some (Lp.rt false) else some (Lp.nx ()))))) ()) (fun s22 => some (decide ((len a0) ≤ 12))) (fun x22 => some x22)

noncomputable def impl_IsSequent (a0 : Sequent) : Option Bool :=
  bd (PF.impl_sideOk a0.left) (fun r29 => bd (bif r29 then bd (PF.impl_sideOk a0.right) (fun r46 => some r46) else some false) (fun t39 => some t39))

def slices_Index_string_string (a0 : List ByteArray) (a1 : ByteArray) : Option Int :=
  bdR (forL (S := Unit) (X := Int) a0 (fun i22 y21 s22 => (bif (a1.toList == y21.toList) then some (Lp.rt ((i22 : Nat) : Int)) else some (Lp.nx ()))) ()) (fun s22 => some (-1)) (fun x22 => some x22)

def slices_Contains_string_string (a0 : List ByteArray) (a1 : ByteArray) : Option Bool :=
  bd (PF.slices_Index_string_string a0 a1) (fun r21 => some (decide (0 ≤ r21)))

def slices_IndexFunc_string_string (a0 : List ByteArray) (a1 : ByteArray → Option Bool) : Option Int :=
  bdR (forL (S := Unit) (X := Int) a0 (fun i22 y21 s22 => bd (a1 y21) (fun r64 => (bif r64 then some (Lp.rt ((i22 : Nat) : Int)) else some (Lp.nx ())))) ()) (fun s22 => some (-1)) (fun x22 => some x22)

def slices_ContainsFunc_string_string (a0 : List ByteArray) (a1 : ByteArray → Option Bool) : Option Bool :=
  bd (PF.slices_IndexFunc_string_string a0 a1) (fun r21 => some (decide (0 ≤ r21)))

def impl_isSeqAxiom_1 (a0 : ByteArray) (b0 : Sequent) : Option Bool :=
  bd (PF.slices_Contains_string_string b0.right a0) (fun r21 => some r21)

def impl_isSeqAxiom (a0 : Sequent) : Option Bool :=
  bd (PF.slices_Contains_string_string a0.left (ByteArray.mk #[48])) (fun r29 => bd (bif r29 then some true else bd (PF.slices_Contains_string_string a0.right (ByteArray.mk #[49])) (fun r46 => some r46)) (fun t39 => bd (bif t39 then some true else bd (PF.slices_ContainsFunc_string_string a0.left (fun x0 => PF.impl_isSeqAxiom_1 x0 a0)) (fun r65 => some r65)) (fun t58 => some t58)))

noncomputable def impl_seqCorrect_1 (a0 : Int) (a1 : Sequent → Option Bool) (b0 : Int) (b1 : List SeqStep) : Option Bool :=
  bd (bif (PF.impl_within a0 0 (wr (b0 - 1))) then bd (ix b1 a0) (fun x54 => bd (PF.impl_IsSequent x54.seq) (fun r60 => some r60)) else some false) (fun t41 => bd (bif t41 then bd (ix b1 a0) (fun x104 => bd (a1 x104.seq) (fun r110 => some r110)) else some false) (fun t91 => some t91))

def impl_contained_1 (a0 : ByteArray) (b0 : List ByteArray) : Option Bool :=
  bd (PF.slices_Contains_string_string b0 a0) (fun r21 => some (!r21))

def impl_contained (a0 : List ByteArray) (a1 : List ByteArray) : Option Bool :=
  bd (PF.slices_ContainsFunc_string_string a0 (fun x0 => PF.impl_contained_1 x0 a1)) (fun r29 => some (!r29))

def impl_seqCorrect_3 (a0 : Sequent) (b0 : SeqStep) : Option Bool :=
  bd (PF.impl_contained a0.left b0.seq.left) (fun r29 => bd (bif r29 then bd (PF.impl_contained a0.right b0.seq.right) (fun r46 => some r46) else some false) (fun t39 => some t39))

def slices_Grow_string_string (a1 : Int) : Option (List ByteArray) := if 0 ≤ a1 ∧ a1 ≤ lim then some [] else none

def slices_Concat_string_string (a0 : List (List ByteArray)) : Option (List ByteArray) :=
  bdR (forL (S := Int) (X := Empty) a0 (fun i22 y21 s22 => (bif (decide ((wr (s22 + (len y21))) < 0)) then none else some (Lp.nx (wr (s22 + (len y21)))))) 0) (fun s22 => bd (PF.slices_Grow_string_string s22) (fun r69 => bdR (forL (S := (List ByteArray)) (X := Empty) a0 (fun i80 y79 s80 => bd (app s80 y79) (fun xs129 => some (Lp.nx xs129))) r69) (fun s80 => some s80) (fun x80 => nomatch x80))) (fun x22 => nomatch x22)

noncomputable def slices_SortFunc_string_string (a0 : List ByteArray) (a1 : ByteArray → ByteArray → Option Int) : Option (List ByteArray) := sortF a1 a0

def slices_Compact_string_string (a0 : List ByteArray) : Option (List ByteArray) := some (compactL a0)

noncomputable def impl_with (a0 : List ByteArray) (a1 : List ByteArray) : Option (List ByteArray) :=
  bd (PF.slices_Concat_string_string [a0, a1]) (fun r31 => bd (PF.slices_SortFunc_string_string r31 (fun x0 x1 => PF.impl_compareFormulas x0 x1)) (fun r43 => bd (PF.slices_Compact_string_string r43) (fun r51 => some r51)))

def impl_seqCorrect_2 (a0 : Sequent) : Unit :=
  ()

def slices_Equal_string_string (a0 : List ByteArray) (a1 : List ByteArray) : Option Bool :=
  (bif (!((len a0) == (len a1))) then some false else bdR (forL (S := Unit) (X := Bool) a0 (fun i23 y22 s23 => bd (ix a1 ((i23 : Nat) : Int)) (fun x74 => (bif (!(y22.toList == x74.toList)) then some (Lp.rt false) else some (Lp.nx ())))) ()) (fun s23 => some true) (fun x23 => some x23))

def impl_sameSequent (a0 : Sequent) (a1 : Sequent) : Option Bool :=
  bd (PF.slices_Equal_string_string a0.left a1.left) (fun r37 => bd (bif r37 then bd (PF.slices_Equal_string_string a0.right a1.right) (fun r54 => some r54) else some false) (fun t47 => some t47))

def impl_seqCorrect_2_1 (a0 : Sequent) (b0 : Sequent) : Option Bool :=
  bd (PF.impl_sameSequent b0 a0) (fun r29 => some r29)

def impl_ruleFor (a0 : Int) (a1 : Bool) : Int :=
  (bif (bif (mget (mput (mput (mput (mput ([] : List (Int × Int)) 126 2) 38 4) 124 6) 62 8) a0).isSome then (!a1) else false) then (wr (((mget (mput (mput (mput (mput ([] : List (Int × Int)) 126 2) 38 4) 124 6) 62 8) a0).getD 0) + 1)) else ((mget (mput (mput (mput (mput ([] : List (Int × Int)) 126 2) 38 4) 124 6) 62 8) a0).getD 0))

def slices_Clone_string_string (a0 : List ByteArray) : Option (List ByteArray) :=
  bd (app [] a0) (fun xs30 => some xs30)

noncomputable def slices_DeleteFunc_string_string (a0 : List ByteArray) (a1 : ByteArray → Option Bool) : Option (List ByteArray) :=
  bd (PF.slices_IndexFunc_string_string a0 a1) (fun r26 => (bif (r26 == (-1)) then some a0 else bdR (iter (S := ((List ByteArray) × Int × Int)) (X := Empty) (fun s32 => (bif (decide (s32.2.2 < (len s32.1))) then bd (ix s32.1 s32.2.2) (fun x141 => bd (a1 x141) (fun r143 => (bif (!r143) then bd (ix s32.1 s32.2.1) (fun x160 => bd (put s32.1 s32.2.1 x141) (fun xs165 => some (Lp.nx (xs165, (wr (s32.2.1 + 1)), (wr (s32.2.2 + 1)))))) else some (Lp.nx (s32.1, s32.2.1, (wr (s32.2.2 + 1))))))) else some (Lp.bk (s32.1, s32.2.1, s32.2.2)))) (a0, r26, (wr (r26 + 1)))) (fun s32 => bd (cut s32.1 s32.2.1 (len s32.1)) (fun xs178 => bd (cut (clearL ByteArray.empty s32.1 s32.2.1) 0 s32.2.1) (fun xs188 => some xs188))) (fun x32 => nomatch x32)))

def impl_lacking_1 (a0 : ByteArray) (b0 : ByteArray) : Bool :=
  (b0.toList == a0.toList)

noncomputable def impl_lacking (a0 : List ByteArray) (a1 : ByteArray) : Option (List ByteArray) :=
  bd (PF.slices_Clone_string_string a0) (fun r29 => bd (PF.slices_DeleteFunc_string_string r29 (fun x0 => some (PF.impl_lacking_1 x0 a1))) (fun r39 => some r39))

noncomputable def impl_premisesOf (a0 : Sequent) (a1 : Int) (a2 : Fo) : Option (List Sequent) :=
  bd (a2.get) (fun y12029 => bd (PF.impl_lacking a0.left y12029.text) (fun r21029 => bd (PF.impl_lacking a0.right y12029.text) (fun r42029 => bd (a2.get) (fun y54051 => (bif (a1 == 2) then bd (y54051.a.get) (fun y69063 => bd (PF.impl_with a0.right [y69063.text]) (fun r81068 => some [(Sequent.mk r21029 r81068)])) else (bif (a1 == 3) then bd (y54051.a.get) (fun y108076 => bd (PF.impl_with a0.left [y108076.text]) (fun r120081 => some [(Sequent.mk r120081 r42029)])) else (bif (a1 == 4) then bd (y54051.a.get) (fun y147089 => bd (y54051.b.get) (fun y159089 => bd (PF.impl_with r21029 [y147089.text, y159089.text]) (fun r171099 => some [(Sequent.mk r171099 a0.right)]))) else (bif (a1 == 5) then bd (y54051.a.get) (fun y207101 => bd (PF.impl_with r42029 [y207101.text]) (fun r219111 => bd (y54051.b.get) (fun y237101 => bd (PF.impl_with r42029 [y237101.text]) (fun r249111 => some [(Sequent.mk a0.left r219111), (Sequent.mk a0.left r249111)])))) else (bif (a1 == 6) then bd (y54051.a.get) (fun y273113 => bd (PF.impl_with r21029 [y273113.text]) (fun r285123 => bd (y54051.b.get) (fun y303113 => bd (PF.impl_with r21029 [y303113.text]) (fun r315123 => some [(Sequent.mk r285123 a0.right), (Sequent.mk r315123 a0.right)])))) else (bif (a1 == 7) then bd (y54051.a.get) (fun y351125 => bd (y54051.b.get) (fun y363125 => bd (PF.impl_with r42029 [y351125.text, y363125.text]) (fun r375135 => some [(Sequent.mk a0.left r375135)]))) else (bif (a1 == 8) then bd (y54051.a.get) (fun y405137 => bd (PF.impl_with a0.right [y405137.text]) (fun r417142 => bd (y54051.b.get) (fun y429137 => bd (PF.impl_with r21029 [y429137.text]) (fun r441142 => some [(Sequent.mk r21029 r417142), (Sequent.mk r441142 a0.right)])))) else bd (y54051.a.get) (fun y474148 => bd (PF.impl_with a0.left [y474148.text]) (fun r486153 => bd (y54051.b.get) (fun y495148 => bd (PF.impl_with r42029 [y495148.text]) (fun r507158 => some [(Sequent.mk r486153 r507158)])))))))))))))))

noncomputable def impl_seqCorrect (a0 : List SeqStep) (a1 : Int) : Option Bool :=
  bd (ix a0 a1) (fun x43 => bd (PF.impl_IsSequent x43.seq) (fun r60 => (bif (!r60) then some false else (bif (x43.rule == 1) then bd (bif (bif (bif (x43.main.toList == (ByteArray.mk #[]).toList) then (x43.a == 0) else false) then (x43.b == 0) else false) then bd (PF.impl_isSeqAxiom x43.seq) (fun r97 => some r97) else some false) (fun t90 => some t90) else (bif (x43.rule == 10) then bd (bif (bif (x43.main.toList == (ByteArray.mk #[]).toList) then (x43.b == 0) else false) then bd (PF.impl_seqCorrect_1 x43.a (fun x0 => PF.impl_seqCorrect_3 x0 x43) a1 a0) (fun r126 => some r126) else some false) (fun t119 => some t119) else bd (PF.impl_parse x43.main) (fun r132 => (bif (!r132.2) then some false else (bif (x43.rule == 11) then bd (PF.impl_with x43.seq.right [x43.main]) (fun r42147 => bd (PF.impl_seqCorrect_1 x43.a (fun x0 => PF.impl_seqCorrect_2_1 x0 (Sequent.mk x43.seq.left r42147)) a1 a0) (fun r51142 => bd (bif r51142 then bd (PF.impl_with x43.seq.left [x43.main]) (fun r87147 => bd (PF.impl_seqCorrect_1 x43.b (fun x0 => PF.impl_seqCorrect_2_1 x0 (Sequent.mk r87147 x43.seq.right)) a1 a0) (fun r105142 => some r105142)) else some false) (fun t141_35 => some t141_35))) else bd (r132.1.get) (fun y117150 => bd (bif ((PF.impl_ruleFor y117150.op true) == x43.rule) then bd (PF.slices_Contains_string_string x43.seq.left x43.main) (fun r117167 => some r117167) else some false) (fun t117160 => bd (bif ((PF.impl_ruleFor y117150.op false) == x43.rule) then bd (PF.slices_Contains_string_string x43.seq.right x43.main) (fun r117187 => some r117187) else some false) (fun t117180 => (bif (bif (x43.rule == 0) then true else (bif (!t117160) then (!t117180) else false)) then some false else bd (PF.impl_premisesOf x43.seq x43.rule r132.1) (fun r117237 => bd (ix r117237 0) (fun x135253 => bd (PF.impl_seqCorrect_1 x43.a (fun x0 => PF.impl_seqCorrect_2_1 x0 x135253) a1 a0) (fun r144247 => (bif (!r144247) then some false else (bif ((len r117237) == 1) then some (x43.b == 0) else bd (ix r117237 1) (fun x171266 => bd (PF.impl_seqCorrect_1 x43.b (fun x0 => PF.impl_seqCorrect_2_1 x0 x171266) a1 a0) (fun r180260 => some r180260)))))))))))))))))))

noncomputable def impl_firstBadSeq (a0 : List SeqStep) : Option Int :=
  bdR (forL (S := Unit) (X := Int) a0 (fun i22 y21 s22 => bd (PF.impl_seqCorrect a0 ((i22 : Nat) : Int)) (fun r45 => (bif (!r45) then some (Lp.rt ((i22 : Nat) : Int)) else some (Lp.nx ())))) ()) (fun s22 => some (-1)) (fun x22 => some x22)

noncomputable def impl_isSeqProof (a0 : List SeqStep) : Option Bool :=
  bd (bif (PF.impl_within (len a0) 1 200) then bd (PF.impl_firstBadSeq a0) (fun r36 => some (decide (r36 < 0))) else some false) (fun t29 => some t29)

def impl_SeqStep_uses (a0 : SeqStep) : (List Int) :=
  (bif (a0.rule == 1) then [] else (bif (a0.rule == 5) then [a0.a, a0.b] else (bif (a0.rule == 6) then [a0.a, a0.b] else (bif (a0.rule == 8) then [a0.a, a0.b] else (bif (a0.rule == 11) then [a0.a, a0.b] else [a0.a])))))

def impl_trimSeq_1 (a0 : Int) (b0 : List SeqStep) : Option (List Int) :=
  bd (ix b0 a0) (fun x27 => some (PF.impl_SeqStep_uses x27))

noncomputable def slices_Reverse_int_int (a0 : List Int) : Option (List Int) :=
  bdR (iter (S := ((List Int) × Int × Int)) (X := Empty) (fun s21 => (bif (decide (s21.2.1 < s21.2.2)) then bd (ix s21.1 s21.2.2) (fun x129077 => bd (ix s21.1 s21.2.1) (fun x141077 => bd (ix s21.1 s21.2.1) (fun x147077 => bd (put s21.1 s21.2.1 x129077) (fun xs150074 => bd (ix xs150074 s21.2.2) (fun x153077 => bd (put xs150074 s21.2.2 x141077) (fun xs156074 => some (Lp.nx (xs156074, (wr (s21.2.1 + 1)), (wr (s21.2.2 - 1)))))))))) else some (Lp.bk (s21.1, s21.2.1, s21.2.2)))) (a0, 0, (wr ((len a0) - 1)))) (fun s21 => some s21.1) (fun x21 => nomatch x21)

def impl_Sequent_clone (a0 : Sequent) : Option Sequent :=
  bd (PF.slices_Clone_string_string a0.left) (fun r9033 => bd (PF.slices_Clone_string_string a0.right) (fun r18033 => some (Sequent.mk r9033 r18033)))

def slices_Index_int_int (a0 : List Int) (a1 : Int) : Option Int :=
  bdR (forL (S := Unit) (X := Int) a0 (fun i22 y21 s22 => (bif (a1 == y21) then some (Lp.rt ((i22 : Nat) : Int)) else some (Lp.nx ()))) ()) (fun s22 => some (-1)) (fun x22 => some x22)

noncomputable def impl_trimSeq (a0 : List SeqStep) : Option (List SeqStep) :=
  bd (β := _) (bd (mk2 (false : Bool) (len a0) (len a0)) (fun xs406 => bdR (iter (S := ((List Bool) × (List Int) × Int)) (X := Empty) (fun s416 => (bif (decide (0 ≤ s416.2.2)) then bd (ix s416.1 s416.2.2) (fun x770 => (bif (bif (!x770) then (decide (s416.2.2 < (wr ((len a0) - 1)))) else false) then some (Lp.nx (s416.1, s416.2.1, (wr (s416.2.2 - 1)))) else bd (app s416.2.1 [s416.2.2]) (fun xs791 => bd (PF.impl_trimSeq_1 s416.2.2 a0) (fun r802 => bd (chk (len r802)) (fun m812 => bdR (forR (S := (List Bool)) (X := Empty) 0 m812 (fun i813 s813 => bd (ix r802 ((i813 : Nat) : Int)) (fun x911 => bd (ix s813 x911) (fun x919 => bd (put s813 x911 true) (fun xs924 => some (Lp.nx xs924))))) s416.1) (fun s813 => some (Lp.nx (s813, xs791, (wr (s416.2.2 - 1))))) (fun x813 => nomatch x813)))))) else some (Lp.bk (s416.1, s416.2.1, s416.2.2)))) (xs406, [], (wr ((len a0) - 1)))) (fun s416 => bd (PF.slices_Reverse_int_int s416.2.1) (fun r960 => some r960)) (fun x416 => nomatch x416)) : Option (List Int)) (fun s401 => bd (chk (len s401)) (fun m974 => bdR (forR (S := (List SeqStep)) (X := Empty) 0 m974 (fun i975 s975 => bd (ix s401 ((i975 : Nat) : Int)) (fun x1155 => bd (ix a0 x1155) (fun x1163 => bd (PF.impl_Sequent_clone x1163.seq) (fun r1176 => (bif (decide (0 < (len (PF.impl_SeqStep_uses (SeqStep.mk r1176 x1163.rule x1163.main x1163.a x1163.b))))) then bd (PF.slices_Index_int_int s401 x1163.a) (fun r1212 => (bif ((len (PF.impl_SeqStep_uses (SeqStep.mk r1176 x1163.rule x1163.main x1163.a x1163.b))) == 2) then bd (PF.slices_Index_int_int s401 x1163.b) (fun r1226 => bd (app s975 [(SeqStep.mk r1176 x1163.rule x1163.main r1212 r1226)]) (fun xs1245 => some (Lp.nx xs1245))) else bd (app s975 [(SeqStep.mk r1176 x1163.rule x1163.main r1212 x1163.b)]) (fun xs1264 => some (Lp.nx xs1264)))) else bd (app s975 [(SeqStep.mk r1176 x1163.rule x1163.main x1163.a x1163.b)]) (fun xs1283 => some (Lp.nx xs1283))))))) []) (fun s975 => some s975) (fun x975 => nomatch x975)))

noncomputable def impl_TrimSeq (a0 : List SeqStep) : Option ((List SeqStep) × Bool) :=
  bd (PF.impl_isSeqProof a0) (fun r21 => (bif (!r21) then some ([], false) else bd (PF.impl_trimSeq a0) (fun r27 => some (r27, true))))

def laws_eqStringS (a0 : List ByteArray) (a1 : List ByteArray) : Option Bool :=
  (bif (!((len a0) == (len a1))) then some false else bdR (forL (S := Unit) (X := Bool) a0 (fun i23 y22 s23 => bd (ix a1 ((i23 : Nat) : Int)) (fun x72 => (bif (!(y22.toList == x72.toList)) then some (Lp.rt false) else some (Lp.nx ())))) ()) (fun s23 => some true) (fun x23 => some x23))

def laws_eqSequent (a0 : Sequent) (a1 : Sequent) : Option Bool :=
  bd (PF.laws_eqStringS a0.left a1.left) (fun r37 => (bif (!r37) then some false else bd (PF.laws_eqStringS a0.right a1.right) (fun r43 => (bif (!r43) then some false else some true))))

def laws_eqSeqStep (a0 : SeqStep) (a1 : SeqStep) : Option Bool :=
  bd (PF.laws_eqSequent a0.seq a1.seq) (fun r37 => (bif (!r37) then some false else (bif (!(a0.rule == a1.rule)) then some false else (bif (!(a0.main.toList == a1.main.toList)) then some false else (bif (!(a0.a == a1.a)) then some false else (bif (!(a0.b == a1.b)) then some false else some true))))))

def laws_eqSeqStepS (a0 : List SeqStep) (a1 : List SeqStep) : Option Bool :=
  (bif (!((len a0) == (len a1))) then some false else bdR (forL (S := Unit) (X := Bool) a0 (fun i23 y22 s23 => bd (ix a1 ((i23 : Nat) : Int)) (fun x86 => bd (PF.laws_eqSeqStep y22 x86) (fun r92 => (bif (!r92) then some (Lp.rt false) else some (Lp.nx ()))))) ()) (fun s23 => some true) (fun x23 => some x23))

noncomputable def laws_markTextO (a0 : Int) : Option ByteArray :=
  (bif (decide (a0 ≤ 0)) then some (ByteArray.mk #[109, 48]) else bdR (iter (S := (Int × ByteArray)) (X := Empty) (fun s22 => (bif (decide (0 < s22.1)) then bd (catS (bytesS [(wrk false 8 (wr (48 + (s22.1.tmod 10))))]) s22.2) (fun z51 => some (Lp.nx ((wr (s22.1.tdiv 10)), z51))) else some (Lp.bk (s22.1, s22.2)))) (a0, (ByteArray.mk #[]))) (fun s22 => bd (catS (ByteArray.mk #[109]) s22.2) (fun z60 => some z60)) (fun x22 => nomatch x22))
noncomputable def laws_markText (a0 : Int) : ByteArray := (PF.laws_markTextO a0).getD ByteArray.empty
theorem laws_markText_eq (a0 : Int) : PF.laws_markTextO a0 = some (PF.laws_markText a0) := by
  have key : ∃ r, PF.laws_markTextO a0 = some r := by
    unfold PF.laws_markTextO
    cases decide (a0 ≤ 0) with
    | true => exact ⟨_, rfl⟩
    | false =>
      obtain ⟨r, h1, h2⟩ := mtx_some a0
      refine ⟨(ByteArray.mk #[109]) ++ r.2, ?_⟩
      show bdR (iter mtxB (a0, ByteArray.mk #[])) (fun s => bd (catS (ByteArray.mk #[109]) s.2) (fun z => some z)) (fun x => nomatch x) = _
      rw [h1]
      show bd (catS (ByteArray.mk #[109]) r.2) (fun z => some z) = _
      unfold catS
      rw [if_pos (by have : (ByteArray.mk #[109]).size = 1 := rfl; omega)]
      rfl
  obtain ⟨r, h⟩ := key
  unfold PF.laws_markText
  rw [h]; rfl

noncomputable def laws_markStringS (a0 : List ByteArray) (a1 : Int) : List ByteArray × Int :=
  markFrom (fun y m => ((PF.laws_markText m), (wr (m + 1)))) a0 a1

noncomputable def laws_markSeqStepS (a0 : List SeqStep) (a1 : Int) : List SeqStep × Int :=
  markFrom (fun y m => ((SeqStep.mk (Sequent.mk ((PF.laws_markStringS y.seq.left m).1) ((PF.laws_markStringS y.seq.right ((PF.laws_markStringS y.seq.left m).2)).1)) ((PF.laws_markStringS y.seq.right ((PF.laws_markStringS y.seq.left m).2)).2) (PF.laws_markText (wr ((PF.laws_markStringS y.seq.right ((PF.laws_markStringS y.seq.left m).2)).2 + 1))) (wr ((wr ((PF.laws_markStringS y.seq.right ((PF.laws_markStringS y.seq.left m).2)).2 + 1)) + 1)) (wr ((wr ((wr ((PF.laws_markStringS y.seq.right ((PF.laws_markStringS y.seq.left m).2)).2 + 1)) + 1)) + 1))), (wr ((wr ((wr ((wr ((PF.laws_markStringS y.seq.right ((PF.laws_markStringS y.seq.left m).2)).2 + 1)) + 1)) + 1)) + 1)))) a0 a1

noncomputable def laws_heldStringS (a0 : List ByteArray) (a1 : Int) : Option Int :=
  bdR (forL (S := Int) (X := Int) a0 (fun i22 y21 s22 => (bif (!(y21.toList == (PF.laws_markText s22).toList)) then some (Lp.rt (-1)) else some (Lp.nx (wr (s22 + 1))))) a1) (fun s22 => some s22) (fun x22 => some x22)

noncomputable def laws_heldSeqStepS (a0 : List SeqStep) (a1 : Int) : Option Int :=
  bdR (forL (S := Int) (X := Int) a0 (fun i22 y21 s22 => bd (PF.laws_heldStringS y21.seq.left s22) (fun r129 => (bif (decide (r129 < 0)) then some (Lp.rt (-1)) else bd (PF.laws_heldStringS y21.seq.right r129) (fun r145 => (bif (decide (r145 < 0)) then some (Lp.rt (-1)) else (bif (!(y21.rule == r145)) then some (Lp.rt (-1)) else (bif (!(y21.main.toList == (PF.laws_markText (wr (r145 + 1))).toList)) then some (Lp.rt (-1)) else (bif (!(y21.a == (wr ((wr (r145 + 1)) + 1)))) then some (Lp.rt (-1)) else (bif (!(y21.b == (wr ((wr ((wr (r145 + 1)) + 1)) + 1)))) then some (Lp.rt (-1)) else some (Lp.nx (wr ((wr ((wr ((wr (r145 + 1)) + 1)) + 1)) + 1)))))))))))) a1) (fun s22 => some s22) (fun x22 => some x22)

noncomputable def laws_FnExactTrimSeq (a0 : List SeqStep) : Option Bool :=
  bd (PF.laws_szSeqStepS a0 1048576) (fun r21 => (bif (decide (r21 < 0)) then some true else bd (PF.laws_toSeqStepS a0) (fun r28 => bd (PF.spec_TrimSeq r28) (fun r47 => bd (PF.laws_toSeqStepS a0) (fun r66 => bd (PF.impl_TrimSeq r66) (fun r85 => bd (PF.laws_eqSeqStepS r85.1 r47.1) (fun r104 => (bif (bif (!r104) then true else (!(r85.2 == r47.2))) then some false else bd (PF.laws_toSeqStepS a0) (fun r125 => bd (PF.laws_eqSeqStepS r66 r125) (fun r144 => (bif (!r144) then some false else bd (bif (decide ((PF.laws_markSeqStepS r66 1).2 < 0)) then some true else bd (PF.laws_eqSeqStepS r85.1 r47.1) (fun r177 => some (!r177))) (fun t170 => (bif (bif t170 then true else (!(r85.2 == r47.2))) then some false else bd (PF.laws_heldSeqStepS ((PF.laws_markSeqStepS r85.1 1).1) 1) (fun r213 => (bif (decide (r213 < 0)) then some false else (bif (!(r213 == (PF.laws_markSeqStepS r85.1 1).2)) then some false else bd (PF.laws_toSeqStepS a0) (fun r221 => bd (PF.impl_TrimSeq r221) (fun r240 => bd (PF.laws_eqSeqStepS r240.1 r47.1) (fun r259 => (bif (bif (!r259) then true else (!(r240.2 == r47.2))) then some false else bd (PF.laws_heldSeqStepS ((PF.laws_markSeqStepS r85.1 1).1) 1) (fun r276 => (bif (decide (r276 < 0)) then some false else (bif (!(r276 == (PF.laws_markSeqStepS r85.1 1).2)) then some false else some true)))))))))))))))))))))))

end Go.PF
