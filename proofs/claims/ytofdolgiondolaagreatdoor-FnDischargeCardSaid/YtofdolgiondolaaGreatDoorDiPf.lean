/- Part of the walks and plain laws behind the claim: it proves helpers, under no condition beyond their own. -/
import Derived.Test.YtofdolgiondolaaGreatDoorDiLB
set_option linter.unusedVariables false
namespace Go.PF
open Go.Pu

structure FregeStep where
  formula : ByteArray
  rule : Int
  a : Int
  b : Int
structure l1Cur where
  code : List Int
  at_ : Int
  seed : Int
structure freger where
  steps : List FregeStep
  long : Bool
structure formula where
  op : Int
  a : Fo
  b : Fo
  text : ByteArray
def glob0 : List ByteArray := [(ByteArray.mk #[40, 97, 62, 40, 98, 62, 97, 41, 41]), (ByteArray.mk #[40, 40, 97, 62, 40, 98, 62, 99, 41, 41, 62, 40, 40, 97, 62, 98, 41, 62, 40, 97, 62, 99, 41, 41, 41]), (ByteArray.mk #[40, 40, 126, 97, 62, 126, 98, 41, 62, 40, 98, 62, 97, 41, 41]), (ByteArray.mk #[40, 40, 97, 38, 98, 41, 62, 97, 41]), (ByteArray.mk #[40, 40, 97, 38, 98, 41, 62, 98, 41]), (ByteArray.mk #[40, 97, 62, 40, 98, 62, 40, 97, 38, 98, 41, 41, 41]), (ByteArray.mk #[40, 97, 62, 40, 97, 124, 98, 41, 41]), (ByteArray.mk #[40, 98, 62, 40, 97, 124, 98, 41, 41]), (ByteArray.mk #[40, 40, 97, 62, 99, 41, 62, 40, 40, 98, 62, 99, 41, 62, 40, 40, 97, 124, 98, 41, 62, 99, 41, 41, 41]), (ByteArray.mk #[49])]
def laws_vBig (a0 : List Int) : Bool :=
  (decide (65536 < (len a0)))

def spec_l1Cur_next (a0 : l1Cur) : Option (Int × l1Cur) :=
  bdR (S := Int) (X := Empty) ((bif (decide (a0.at_ < (len a0.code))) then bd (ix a0.code a0.at_) (fun x49 => some (Rs.go (wrk true 64 x49))) else some (Rs.go 0))) (fun s38 => (bif (decide ((wr (a0.at_ + 1)) ≤ (len a0.code))) then some (s38, (l1Cur.mk a0.code (wr (a0.at_ + 1)) (wrk false 64 ((wrk false 64 ((wrk false 64 (a0.seed * 6364136223846793005)) + (wrk false 64 s38))) + 337411)))) else some ((wrk true 64 (andK false 64 (shrK 64 (wrk false 64 ((wrk false 64 ((wrk false 64 (a0.seed * 6364136223846793005)) + (wrk false 64 s38))) + 337411)) 40) 255)), (l1Cur.mk a0.code (wr (a0.at_ + 1)) (wrk false 64 ((wrk false 64 ((wrk false 64 (a0.seed * 6364136223846793005)) + (wrk false 64 s38))) + 337411)))))) (fun x40 => nomatch x40)

def spec_l1Cur_pick (a0 : l1Cur) (a1 : Int) : Option (Int × l1Cur) :=
  (bif (decide (a1 ≤ 1)) then some (0, a0) else bd (PF.spec_l1Cur_next a0) (fun r22 => (bif (decide (200 < a1)) then bd (PF.spec_l1Cur_next r22.2) (fun r31 => bd (nz a1) (fun u40 => some (((wr ((wr (r22.1 * 256)) + r31.1)).tmod a1), r31.2))) else bd (nz a1) (fun u42 => some ((r22.1.tmod a1), r22.2)))))

def spec_l1Cur_among (a0 : l1Cur) (a1 : List Int) : Option (Int × l1Cur) :=
  bd (PF.spec_l1Cur_pick a0 (len a1)) (fun r21 => bd (ix a1 r21.1) (fun x35 => some (x35, r21.2)))

def spec_l1Cur_of (a0 : l1Cur) (a1 : List ByteArray) : Option (ByteArray × l1Cur) :=
  bd (PF.spec_l1Cur_pick a0 (len a1)) (fun r21 => bd (ix a1 r21.1) (fun x35 => some (x35, r21.2)))

def spec_l1Cur_one (a0 : l1Cur) (a1 : Int) : Option (Bool × l1Cur) :=
  bd (PF.spec_l1Cur_pick a0 a1) (fun r21 => some ((r21.1 == 0), r21.2))

def spec_l22Join (a0 : ByteArray) (a1 : ByteArray) (a2 : ByteArray) : Option ByteArray :=
  bd (catS (ByteArray.mk #[40]) a1) (fun z21 => bd (catS z21 a0) (fun z23 => bd (catS z23 a2) (fun z25 => bd (catS z25 (ByteArray.mk #[41])) (fun z27 => some z27))))

noncomputable def spec_l1Cur_formula22_B (rec_spec_l1Cur_formula22 : l1Cur → Int → Option (ByteArray × l1Cur)) (a0 : l1Cur) (a1 : Int) : Option (ByteArray × l1Cur) :=
  bd (bif (decide (a1 ≤ 1)) then some (a0.code, a0.at_, a0.seed, true) else bd (PF.spec_l1Cur_one a0 6) (fun r33 => some (r33.2.code, r33.2.at_, r33.2.seed, r33.1))) (fun t29 => (bif t29.2.2.2 then bd (PF.spec_l1Cur_of (l1Cur.mk t29.1 t29.2.1 t29.2.2.1) [(ByteArray.mk #[97]), (ByteArray.mk #[98]), (ByteArray.mk #[99]), (ByteArray.mk #[97]), (ByteArray.mk #[98]), (ByteArray.mk #[100]), (ByteArray.mk #[48]), (ByteArray.mk #[49]), (ByteArray.mk #[102]), (ByteArray.mk #[101]), (ByteArray.mk #[99]), (ByteArray.mk #[97])]) (fun r60 => some (r60.1, r60.2)) else bd (PF.spec_l1Cur_one (l1Cur.mk t29.1 t29.2.1 t29.2.2.1) 4) (fun r68 => (bif r68.1 then bd (rec_spec_l1Cur_formula22 r68.2 (wr (a1 - 1))) (fun r77 => bd (catS (ByteArray.mk #[126]) r77.1) (fun z85 => some (z85, r77.2))) else bd (PF.spec_l1Cur_pick r68.2 (wr (a1 - 1))) (fun r87 => bd (PF.spec_l1Cur_of r87.2 [(ByteArray.mk #[38]), (ByteArray.mk #[124]), (ByteArray.mk #[62])]) (fun r105 => bd (rec_spec_l1Cur_formula22 r105.2 (wr (1 + r87.1))) (fun r113 => bd (rec_spec_l1Cur_formula22 r113.2 (wr (a1 - (wr (1 + r87.1))))) (fun r121 => bd (PF.spec_l22Join r105.1 r113.1 r121.1) (fun r129 => some (r129, r121.2))))))))))
noncomputable def spec_l1Cur_formula22_F : Nat → l1Cur → Int → Option (ByteArray × l1Cur)
  | 0 => fun _ _ => none
  | n + 1 => spec_l1Cur_formula22_B (spec_l1Cur_formula22_F n)
noncomputable def spec_l1Cur_formula22 (a0 : l1Cur) (a1 : Int) : Option (ByteArray × l1Cur) := spec_l1Cur_formula22_F deep a0 a1

noncomputable def spec_l22End_B (rec_spec_l22End : ByteArray → Int → Option Int) (a0 : ByteArray) (a1 : Int) : Option Int :=
  (bif (decide ((a0.size : Int) ≤ a1)) then some (-1) else bd (ixS a0 a1) (fun z22 => bd (bif (z22 == 48) then some true else bd (ixS a0 a1) (fun z33 => some (z33 == 49))) (fun t26 => bd (bif t26 then some true else bd (ixS a0 a1) (fun z62 => bd (bif (decide (97 ≤ z62)) then bd (ixS a0 a1) (fun z73 => some (decide (z73 ≤ 102))) else some false) (fun t66 => some t66))) (fun t55 => (bif t55 then some (wr (a1 + 1)) else bd (ixS a0 a1) (fun z83 => (bif (z83 == 126) then bd (rec_spec_l22End a0 (wr (a1 + 1))) (fun r86 => some r86) else bd (ixS a0 a1) (fun z91 => (bif (!(z91 == 40)) then some (-1) else bd (rec_spec_l22End a0 (wr (a1 + 1))) (fun r94 => bd (bif (bif (decide (r94 < 0)) then true else (decide ((a0.size : Int) ≤ r94))) then some true else bd (ixS a0 r94) (fun z148 => bd (bif (!(z148 == 38)) then bd (ixS a0 r94) (fun z159 => some (!(z159 == 124))) else some false) (fun t152 => bd (bif t152 then bd (ixS a0 r94) (fun z174 => some (!(z174 == 62))) else some false) (fun t167 => some t167)))) (fun t141 => (bif t141 then some (-1) else bd (rec_spec_l22End a0 (wr (r94 + 1))) (fun r184 => bd (bif (bif (decide (r184 < 0)) then true else (decide ((a0.size : Int) ≤ r184))) then some true else bd (ixS a0 r184) (fun z208 => some (!(z208 == 41)))) (fun t201 => (bif t201 then some (-1) else some (wr (r184 + 1)))))))))))))))))
noncomputable def spec_l22End_F : Nat → ByteArray → Int → Option Int
  | 0 => fun _ _ => none
  | n + 1 => spec_l22End_B (spec_l22End_F n)
noncomputable def spec_l22End (a0 : ByteArray) (a1 : Int) : Option Int := spec_l22End_F deep a0 a1

noncomputable def spec_l22Good (a0 : ByteArray) : Option Bool :=
  bd (bif (bif (decide (0 < (a0.size : Int))) then (decide ((a0.size : Int) ≤ 80)) else false) then bd (PF.spec_l22End a0 0) (fun r42 => some (r42 == (a0.size : Int))) else some false) (fun t35 => some t35)

noncomputable def spec_l1Cur_formula (a0 : l1Cur) : Option (ByteArray × l1Cur) :=
  bd (PF.spec_l1Cur_among a0 [1, 2, 3, 3, 4, 5, 6, 8]) (fun r31 => bd (PF.spec_l1Cur_formula22 r31.2 r31.1) (fun r39 => bd (PF.spec_l22Good r39.1) (fun r47 => (bif (!r47) then some ((ByteArray.mk #[40, 97, 62, 97, 41]), r39.2) else some (r39.1, r39.2)))))

def spec_l1Cur_spoilt (a0 : l1Cur) (a1 : ByteArray) (a2 : ByteArray) : Option (ByteArray × l1Cur) :=
  (bif (a1.toList == (ByteArray.mk #[]).toList) then bd (cutS a2 0 1) (fun z22 => some (z22, a0)) else bd (PF.spec_l1Cur_pick a0 (a1.size : Int)) (fun r24 => bd (PF.spec_l1Cur_pick r24.2 (a2.size : Int)) (fun r32 => bd (cutS a2 r32.1 (a2.size : Int)) (fun z40 => bd (cutS z40 0 1) (fun z42 => bd (PF.spec_l1Cur_pick r32.2 3) (fun r44 => (bif (r44.1 == 0) then bd (cutS a1 0 r24.1) (fun z54 => bd (catS z54 z42) (fun z56 => bd (cutS a1 r24.1 (a1.size : Int)) (fun z58 => bd (catS z56 z58) (fun z60 => some (z60, r44.2))))) else (bif (r44.1 == 1) then bd (cutS a1 0 r24.1) (fun z67 => bd (catS z67 z42) (fun z69 => bd (cutS a1 (wr (r24.1 + 1)) (a1.size : Int)) (fun z71 => bd (catS z69 z71) (fun z73 => some (z73, r44.2))))) else bd (cutS a1 0 r24.1) (fun z79 => bd (cutS a1 (wr (r24.1 + 1)) (a1.size : Int)) (fun z81 => bd (catS z79 z81) (fun z83 => some (z83, r44.2))))))))))))

noncomputable def spec_l1Cur_formulaText (a0 : l1Cur) : Option (ByteArray × l1Cur) :=
  bd (PF.spec_l1Cur_formula a0) (fun r21 => bd (PF.spec_l1Cur_pick r21.2 16) (fun r29 => (bif (r29.1 == 0) then bd (PF.spec_l1Cur_spoilt r29.2 r21.1 (ByteArray.mk #[97, 98, 48, 49, 126, 40, 38, 124, 62, 41])) (fun r38 => some (r38.1, r38.2)) else (bif (r29.1 == 1) then bd (PF.spec_l1Cur_pick r29.2 4) (fun r47 => bdR (iter (S := ByteArray) (X := Empty) (fun s55 => (bif (decide ((s55.size : Int) < (wr (78 + r47.1)))) then bd (catS (ByteArray.mk #[126]) s55) (fun z74 => some (Lp.nx z74)) else some (Lp.bk s55))) r21.1) (fun s55 => some (s55, r47.2)) (fun x55 => nomatch x55)) else (bif (r29.1 == 2) then bd (PF.spec_l1Cur_of r29.2 [(ByteArray.mk #[]), (ByteArray.mk #[103]), (ByteArray.mk #[40, 97, 38, 98]), (ByteArray.mk #[97, 38, 98]), (ByteArray.mk #[40, 41]), (ByteArray.mk #[126]), (ByteArray.mk #[65])]) (fun r94 => some (r94.1, r94.2)) else some (r21.1, r29.2))))))

noncomputable def spec_l1Cur_given24 (a0 : l1Cur) : Option ((List ByteArray) × l1Cur) :=
  bd (PF.spec_l1Cur_among a0 [1, 2, 2, 3, 0]) (fun r36 => bdR (iter (S := ((List ByteArray) × (List Int) × Int × Int × Int)) (X := Empty) (fun s45 => (bif (decide (0 < s45.2.2.2.2)) then bd (PF.spec_l1Cur_of (l1Cur.mk s45.2.1 s45.2.2.1 s45.2.2.2.1) [(ByteArray.mk #[97]), (ByteArray.mk #[40, 97, 62, 98, 41]), (ByteArray.mk #[98]), (ByteArray.mk #[40, 98, 62, 99, 41]), (ByteArray.mk #[126, 97]), (ByteArray.mk #[40, 97, 38, 98, 41]), (ByteArray.mk #[40, 40, 97, 38, 98, 41, 62, 99, 41]), (ByteArray.mk #[99])]) (fun r161 => bd (app s45.1 [r161.1]) (fun xs174 => some (Lp.nx (xs174, r161.2.code, r161.2.at_, r161.2.seed, (wr (s45.2.2.2.2 - 1)))))) else some (Lp.bk (s45.1, s45.2.1, s45.2.2.1, s45.2.2.2.1, s45.2.2.2.2)))) ([], r36.2.code, r36.2.at_, r36.2.seed, r36.1)) (fun s45 => bd (PF.spec_l1Cur_pick (l1Cur.mk s45.2.1 s45.2.2.1 s45.2.2.2.1) 24) (fun r193 => (bif (r193.1 == 0) then bd (PF.spec_l1Cur_formulaText r193.2) (fun r202 => bd (app s45.1 [r202.1]) (fun xs215 => some (xs215, r202.2))) else (bif (r193.1 == 1) then bdR (iter (S := ((List ByteArray) × (List Int) × Int × Int)) (X := Empty) (fun s227 => bd (PF.spec_l1Cur_pick (l1Cur.mk s227.2.1 s227.2.2.1 s227.2.2.2) 2) (fun r309 => (bif (decide ((len s227.1) < (wr (6 + r309.1)))) then bd (app s227.1 [(ByteArray.mk #[97])]) (fun xs323 => some (Lp.nx (xs323, r309.2.code, r309.2.at_, r309.2.seed))) else some (Lp.bk (s227.1, r309.2.code, r309.2.at_, r309.2.seed))))) (s45.1, r193.2.code, r193.2.at_, r193.2.seed)) (fun s227 => some (s227.1, (l1Cur.mk s227.2.1 s227.2.2.1 s227.2.2.2))) (fun x227 => nomatch x227) else some (s45.1, r193.2))))) (fun x45 => nomatch x45))

noncomputable def spec_l22Parts (a0 : ByteArray) : Option (Int × ByteArray × ByteArray) :=
  bd (ixS a0 0) (fun z21 => (bif (z21 == 126) then bd (cutS a0 1 (a0.size : Int)) (fun z25 => some (126, z25, (ByteArray.mk #[]))) else bd (ixS a0 0) (fun z30 => (bif (!(z30 == 40)) then bd (ixS a0 0) (fun z33 => some (z33, (ByteArray.mk #[]), (ByteArray.mk #[]))) else bd (PF.spec_l22End a0 1) (fun r35 => bd (ixS a0 r35) (fun z41 => bd (cutS a0 1 r35) (fun z43 => bd (cutS a0 (wr (r35 + 1)) (wr ((a0.size : Int) - 1))) (fun z45 => some (z41, z43, z45)))))))))

def spec_l1Cur_short24 (a0 : l1Cur) : Option (ByteArray × l1Cur) :=
  bd (PF.spec_l1Cur_of a0 [(ByteArray.mk #[97]), (ByteArray.mk #[98]), (ByteArray.mk #[99]), (ByteArray.mk #[126, 97]), (ByteArray.mk #[40, 97, 62, 98, 41]), (ByteArray.mk #[49]), (ByteArray.mk #[48]), (ByteArray.mk #[40, 97, 38, 98, 41]), (ByteArray.mk #[97]), (ByteArray.mk #[98])]) (fun r31 => some (r31.1, r31.2))

def spec_l24Schemes  : (List ByteArray) :=
  [(ByteArray.mk #[40, 97, 62, 40, 98, 62, 97, 41, 41]), (ByteArray.mk #[40, 40, 97, 62, 40, 98, 62, 99, 41, 41, 62, 40, 40, 97, 62, 98, 41, 62, 40, 97, 62, 99, 41, 41, 41]), (ByteArray.mk #[40, 40, 126, 97, 62, 126, 98, 41, 62, 40, 98, 62, 97, 41, 41]), (ByteArray.mk #[40, 40, 97, 38, 98, 41, 62, 97, 41]), (ByteArray.mk #[40, 40, 97, 38, 98, 41, 62, 98, 41]), (ByteArray.mk #[40, 97, 62, 40, 98, 62, 40, 97, 38, 98, 41, 41, 41]), (ByteArray.mk #[40, 97, 62, 40, 97, 124, 98, 41, 41]), (ByteArray.mk #[40, 98, 62, 40, 97, 124, 98, 41, 41]), (ByteArray.mk #[40, 40, 97, 62, 99, 41, 62, 40, 40, 98, 62, 99, 41, 62, 40, 40, 97, 124, 98, 41, 62, 99, 41, 41, 41]), (ByteArray.mk #[49])]

def spec_l24Case (a0 : Int) (a1 : ByteArray) (a2 : ByteArray) (a3 : ByteArray) : Option ByteArray :=
  bd (ix PF.spec_l24Schemes (wr (a0 - 1))) (fun x35 => bd (chk (x35.size : Int)) (fun m37 => bdR (forR (S := ByteArray) (X := Empty) 0 m37 (fun i38 s38 => bd (ixS x35 ((i38 : Nat) : Int)) (fun z76 => (bif (z76 == 97) then bd (catS s38 a1) (fun z79 => some (Lp.nx z79)) else (bif (z76 == 98) then bd (catS s38 a2) (fun z82 => some (Lp.nx z82)) else (bif (z76 == 99) then bd (catS s38 a3) (fun z85 => some (Lp.nx z85)) else bd (cutS x35 ((i38 : Nat) : Int) (wr (((i38 : Nat) : Int) + 1))) (fun z87 => bd (catS s38 z87) (fun z89 => some (Lp.nx z89)))))))) (ByteArray.mk #[])) (fun s38 => some s38) (fun x38 => nomatch x38)))

noncomputable def spec_l1Cur_frege (a0 : l1Cur) (a1 : List ByteArray) : Option ((List FregeStep) × l1Cur) :=
  bd (PF.spec_l1Cur_among a0 [3, 5, 8, 2, 1, 10]) (fun r36 => bdR (iter (S := ((List FregeStep) × (List Int) × Int × Int × Int)) (X := Empty) (fun s45 => (bif (decide (0 < s45.2.2.2.2)) then bdR (iter (S := ((List FregeStep) × (List Int) × Int × Int × Bool × Int)) (X := Empty) (fun s2002 => bd (bif (bif (decide (s2002.2.2.2.2.2 < (len s2002.1))) then (!s2002.2.2.2.2.1) else false) then bd (PF.spec_l1Cur_one (l1Cur.mk s2002.2.1 s2002.2.2.1 s2002.2.2.2.1) 4) (fun r2730 => some (r2730.2.code, r2730.2.at_, r2730.2.seed, (!r2730.1))) else some (s2002.2.1, s2002.2.2.1, s2002.2.2.2.1, false)) (fun t2726 => (bif t2726.2.2.2 then bdR (iter (S := ((List FregeStep) × (List Int) × Int × Int × Bool × Int)) (X := Empty) (fun s2751 => (bif (bif (decide (s2751.2.2.2.2.2 < (len s2751.1))) then (!s2751.2.2.2.2.1) else false) then bd (ix s2751.1 s2751.2.2.2.2.2) (fun x3044 => bd (PF.spec_l22Parts x3044.formula) (fun r3046 => bd (bif (r3046.1 == 62) then bd (ix s2751.1 s2002.2.2.2.2.2) (fun x3072 => some (r3046.2.1.toList == x3072.formula.toList)) else some false) (fun t3059 => bd (bif t3059 then bd (PF.spec_l1Cur_one (l1Cur.mk s2751.2.1 s2751.2.2.1 s2751.2.2.2.1) 2) (fun r3095 => some (r3095.2.code, r3095.2.at_, r3095.2.seed, r3095.1)) else some (s2751.2.1, s2751.2.2.1, s2751.2.2.2.1, false)) (fun t3091 => (bif t3091.2.2.2 then bd (app s2751.1 [(FregeStep.mk r3046.2.2 (-1) s2002.2.2.2.2.2 s2751.2.2.2.2.2)]) (fun xs3123 => some (Lp.nx (xs3123, t3091.1, t3091.2.1, t3091.2.2.1, true, (wr (s2751.2.2.2.2.2 + 1))))) else some (Lp.nx (s2751.1, t3091.1, t3091.2.1, t3091.2.2.1, s2751.2.2.2.2.1, (wr (s2751.2.2.2.2.2 + 1))))))))) else some (Lp.bk (s2751.1, s2751.2.1, s2751.2.2.1, s2751.2.2.2.1, s2751.2.2.2.2.1, s2751.2.2.2.2.2)))) (s2002.1, t2726.1, t2726.2.1, t2726.2.2.1, s2002.2.2.2.2.1, 0)) (fun s2751 => some (Lp.nx (s2751.1, s2751.2.1, s2751.2.2.1, s2751.2.2.2.1, s2751.2.2.2.2.1, (wr (s2002.2.2.2.2.2 + 1))))) (fun x2751 => nomatch x2751) else some (Lp.bk (s2002.1, t2726.1, t2726.2.1, t2726.2.2.1, s2002.2.2.2.2.1, s2002.2.2.2.2.2))))) (s45.1, s45.2.1, s45.2.2.1, s45.2.2.2.1, false, 0)) (fun s2002 => (bif s2002.2.2.2.2.1 then some (Lp.nx (s2002.1, s2002.2.1, s2002.2.2.1, s2002.2.2.2.1, (wr (s45.2.2.2.2 - 1)))) else bd (bif (decide (0 < (len a1))) then bd (PF.spec_l1Cur_one (l1Cur.mk s2002.2.1 s2002.2.2.1 s2002.2.2.2.1) 3) (fun r3170 => some (r3170.2.code, r3170.2.at_, r3170.2.seed, (!r3170.1))) else some (s2002.2.1, s2002.2.2.1, s2002.2.2.2.1, false)) (fun t3166 => (bif t3166.2.2.2 then bd (PF.spec_l1Cur_pick (l1Cur.mk t3166.1 t3166.2.1 t3166.2.2.1) (len a1)) (fun r3189 => bd (ix a1 r3189.1) (fun x3203 => bd (PF.spec_l22Good x3203) (fun r3205 => bdR (S := (List FregeStep)) (X := Empty) ((bif r3205 then bd (ix a1 r3189.1) (fun x3249 => bd (app s2002.1 [(FregeStep.mk x3249 0 r3189.1 0)]) (fun xs3256 => some (Rs.go xs3256))) else some (Rs.go s2002.1))) (fun s3235 => some (Lp.nx (s3235, r3189.2.code, r3189.2.at_, r3189.2.seed, (wr (s45.2.2.2.2 - 1))))) (fun x3237 => nomatch x3237)))) else bd (PF.spec_l1Cur_pick (l1Cur.mk t3166.1 t3166.2.1 t3166.2.2.1) 10) (fun r3276 => bd (PF.spec_l1Cur_short24 r3276.2) (fun r3284 => bd (PF.spec_l1Cur_short24 r3284.2) (fun r3292 => bd (bif (decide (0 < (len s2002.1))) then bd (PF.spec_l1Cur_one r3292.2 2) (fun r3312 => some (r3312.2.code, r3312.2.at_, r3312.2.seed, r3312.1)) else some (r3292.2.code, r3292.2.at_, r3292.2.seed, false)) (fun t3308 => bd (bif t3308.2.2.2 then bd (ix s2002.1 0) (fun x3354 => some (decide ((x3354.formula.size : Int) < 12))) else some false) (fun t3341 => bdR (S := ((List Int) × Int × Int × ByteArray)) (X := Empty) ((bif t3341 then bd (PF.spec_l1Cur_pick (l1Cur.mk t3308.1 t3308.2.1 t3308.2.2.1) (len s2002.1)) (fun r3387 => bd (ix s2002.1 r3387.1) (fun x3401 => some (Rs.go (r3387.2.code, r3387.2.at_, r3387.2.seed, x3401.formula)))) else some (Rs.go (t3308.1, t3308.2.1, t3308.2.2.1, r3284.1)))) (fun s3381 => bd (PF.spec_l1Cur_short24 (l1Cur.mk s3381.1 s3381.2.1 s3381.2.2.1)) (fun r3415 => bd (PF.spec_l24Case (wr (1 + r3276.1)) s3381.2.2.2 r3292.1 r3415.1) (fun r3423 => (bif (decide ((r3423.size : Int) ≤ 80)) then bd (app s2002.1 [(FregeStep.mk r3423 (wr (1 + r3276.1)) 0 0)]) (fun xs3434 => some (Lp.nx (xs3434, r3415.2.code, r3415.2.at_, r3415.2.seed, (wr (s45.2.2.2.2 - 1))))) else some (Lp.nx (s2002.1, r3415.2.code, r3415.2.at_, r3415.2.seed, (wr (s45.2.2.2.2 - 1)))))))) (fun x3383 => nomatch x3383)))))))))) (fun x2002 => nomatch x2002) else some (Lp.bk (s45.1, s45.2.1, s45.2.2.1, s45.2.2.2.1, s45.2.2.2.2)))) ([], r36.2.code, r36.2.at_, r36.2.seed, r36.1)) (fun s45 => bd (bif (decide (0 < (len s45.1))) then bd (PF.spec_l1Cur_one (l1Cur.mk s45.2.1 s45.2.2.1 s45.2.2.2.1) 6) (fun r3465 => some (r3465.2.code, r3465.2.at_, r3465.2.seed, r3465.1)) else some (s45.2.1, s45.2.2.1, s45.2.2.2.1, false)) (fun t3461 => bdR (S := ((List FregeStep) × (List Int) × Int × Int)) (X := Empty) ((bif t3461.2.2.2 then bd (PF.spec_l1Cur_pick (l1Cur.mk t3461.1 t3461.2.1 t3461.2.2.1) (len s45.1)) (fun r3638 => bd (PF.spec_l1Cur_pick r3638.2 4) (fun r3646 => (bif (r3646.1 == 0) then bd (PF.spec_l1Cur_among r3646.2 [(-2), (-1), 0, 1, 5, 11]) (fun r3665 => bd (ix s45.1 r3638.1) (fun x3679 => bd (put s45.1 r3638.1 (FregeStep.mk x3679.formula r3665.1 x3679.a x3679.b)) (fun xs3684 => some (Rs.go (xs3684, r3665.2.code, r3665.2.at_, r3665.2.seed))))) else (bif (r3646.1 == 1) then bd (PF.spec_l1Cur_among r3646.2 [(-1), 0, 1, 80]) (fun r3700 => bd (ix s45.1 r3638.1) (fun x3714 => bd (put s45.1 r3638.1 (FregeStep.mk x3714.formula x3714.rule r3700.1 x3714.b)) (fun xs3719 => some (Rs.go (xs3719, r3700.2.code, r3700.2.at_, r3700.2.seed))))) else (bif (r3646.1 == 2) then bd (PF.spec_l1Cur_among r3646.2 [(-1), 0, 1, 80]) (fun r3735 => bd (ix s45.1 r3638.1) (fun x3749 => bd (put s45.1 r3638.1 (FregeStep.mk x3749.formula x3749.rule x3749.a r3735.1)) (fun xs3754 => some (Rs.go (xs3754, r3735.2.code, r3735.2.at_, r3735.2.seed))))) else (bif (r3646.1 == 3) then bd (PF.spec_l1Cur_formulaText r3646.2) (fun r3760 => bd (ix s45.1 r3638.1) (fun x3774 => bd (put s45.1 r3638.1 (FregeStep.mk r3760.1 x3774.rule x3774.a x3774.b)) (fun xs3779 => some (Rs.go (xs3779, r3760.2.code, r3760.2.at_, r3760.2.seed))))) else some (Rs.go (s45.1, r3646.2.code, r3646.2.at_, r3646.2.seed)))))))) else some (Rs.go (s45.1, t3461.1, t3461.2.1, t3461.2.2.1)))) (fun s3628 => bd (PF.spec_l1Cur_one (l1Cur.mk s3628.2.1 s3628.2.2.1 s3628.2.2.2) 40) (fun r3791 => (bif r3791.1 then bdR (iter (S := ((List FregeStep) × (List Int) × Int × Int)) (X := Empty) (fun s3800 => bd (PF.spec_l1Cur_pick (l1Cur.mk s3800.2.1 s3800.2.2.1 s3800.2.2.2) 2) (fun r3882 => (bif (decide ((len s3800.1) < (wr (80 + r3882.1)))) then bd (app s3800.1 [(FregeStep.mk (ByteArray.mk #[49]) 10 0 0)]) (fun xs3896 => some (Lp.nx (xs3896, r3882.2.code, r3882.2.at_, r3882.2.seed))) else some (Lp.bk (s3800.1, r3882.2.code, r3882.2.at_, r3882.2.seed))))) (s3628.1, r3791.2.code, r3791.2.at_, r3791.2.seed)) (fun s3800 => some (s3800.1, (l1Cur.mk s3800.2.1 s3800.2.2.1 s3800.2.2.2))) (fun x3800 => nomatch x3800) else some (s3628.1, r3791.2)))) (fun x3630 => nomatch x3630))) (fun x45 => nomatch x45))

noncomputable def spec_DrawDischarge (a0 : List Int) : Option ((List ByteArray) × (List FregeStep) × Int) :=
  bd (PF.spec_l1Cur_given24 (l1Cur.mk a0 0 0)) (fun r25 => bd (PF.spec_l1Cur_frege r25.2 r25.1) (fun r42 => bd (PF.spec_l1Cur_pick r42.2 (wr ((len r25.1) + 1))) (fun r54 => bd (PF.spec_l1Cur_pick r54.2 24) (fun r63 => some (r25.1, r42.1, (wr (r54.1 - (wr (r63.1.tdiv 23)))))))))

def slices_IndexFunc_string_string (a0 : List ByteArray) (a1 : ByteArray → Option Bool) : Option Int :=
  bdR (forL (S := Unit) (X := Int) a0 (fun i22 y21 s22 => bd (a1 y21) (fun r64 => (bif r64 then some (Lp.rt ((i22 : Nat) : Int)) else some (Lp.nx ())))) ()) (fun s22 => some (-1)) (fun x22 => some x22)

def slices_ContainsFunc_string_string (a0 : List ByteArray) (a1 : ByteArray → Option Bool) : Option Bool :=
  bd (PF.slices_IndexFunc_string_string a0 a1) (fun r21 => some (decide (0 ≤ r21)))

def impl_isLetter (a0 : Int) : Bool :=
  (bif (decide (97 ≤ a0)) then (decide (a0 < 103)) else false)

def impl_leaf (a0 : Int) : Option Fo :=
  bd (chrS a0) (fun z21 => some (Fo.node a0 Fo.nil Fo.nil z21))

def impl_not (a0 : Fo) : Option Fo :=
  bd (a0.get) (fun y21 => bd (catS (ByteArray.mk #[126]) y21.text) (fun z29 => some (Fo.node 126 a0 Fo.nil z29)))

def strings_Contains (a0 a1 : ByteArray) : Option Bool := hasS a0 a1

def impl_join (a0 : Int) (a1 : Fo) (a2 : Fo) : Option Fo :=
  bd (a1.get) (fun y15021 => bd (catS (ByteArray.mk #[40]) y15021.text) (fun z24021 => bd (chrS a0) (fun z30021 => bd (catS z24021 z30021) (fun z33021 => bd (a2.get) (fun y39021 => bd (catS z33021 y39021.text) (fun z48021 => bd (catS z48021 (ByteArray.mk #[41])) (fun z51021 => some (Fo.node a0 a1 a2 z51021))))))))

noncomputable def impl_parseFrom_B (rec_impl_parseFrom : ByteArray → Option (Fo × ByteArray × Bool)) (a0 : ByteArray) : Option (Fo × ByteArray × Bool) :=
  (bif (a0.toList == (ByteArray.mk #[]).toList) then some (Fo.nil, (ByteArray.mk #[]), false) else bd (ixS a0 0) (fun z23 => bd (cutS a0 1 (a0.size : Int)) (fun z25 => (bif (bif (bif (PF.impl_isLetter z23) then true else (z23 == 48)) then true else (z23 == 49)) then bd (PF.impl_leaf z23) (fun r54 => some (r54, z25, true)) else (bif (z23 == 126) then bd (rec_impl_parseFrom z25) (fun r63 => (bif (!r63.2.2) then some (Fo.nil, (ByteArray.mk #[]), false) else bd (PF.impl_not r63.1) (fun r72 => some (r72, r63.2.1, true)))) else (bif (!(z23 == 40)) then some (Fo.nil, (ByteArray.mk #[]), false) else bd (rec_impl_parseFrom z25) (fun r81 => bd (bif (bif (!r81.2.2) then true else (r81.2.1.toList == (ByteArray.mk #[]).toList)) then some true else bd (cutS r81.2.1 0 1) (fun z113 => bd (PF.strings_Contains (ByteArray.mk #[38, 124, 62]) z113) (fun r115 => some (!r115)))) (fun t106 => (bif t106 then some (Fo.nil, (ByteArray.mk #[]), false) else bd (ixS r81.2.1 0) (fun z124 => bd (cutS r81.2.1 1 (r81.2.1.size : Int)) (fun z126 => bd (rec_impl_parseFrom z126) (fun r128 => bd (bif (bif (!r128.2.2) then true else (r128.2.1.toList == (ByteArray.mk #[]).toList)) then some true else bd (ixS r128.2.1 0) (fun z157 => some (!(z157 == 41)))) (fun t150 => (bif t150 then some (Fo.nil, (ByteArray.mk #[]), false) else bd (PF.impl_join z124 r81.1 r128.1) (fun r12165 => bd (cutS r128.2.1 1 (r128.2.1.size : Int)) (fun z18165 => some (r12165, z18165, true)))))))))))))))))
noncomputable def impl_parseFrom_F : Nat → ByteArray → Option (Fo × ByteArray × Bool)
  | 0 => fun _ => none
  | n + 1 => impl_parseFrom_B (impl_parseFrom_F n)
noncomputable def impl_parseFrom (a0 : ByteArray) : Option (Fo × ByteArray × Bool) := impl_parseFrom_F deep a0

noncomputable def impl_parse (a0 : ByteArray) : Option (Fo × Bool) :=
  (bif (decide (80 < (a0.size : Int))) then some (Fo.nil, false) else bd (PF.impl_parseFrom a0) (fun r22 => (bif (bif (!r22.2.2) then true else (!(r22.2.1.toList == (ByteArray.mk #[]).toList))) then some (Fo.nil, false) else some (r22.1, true))))

noncomputable def impl_IsFormula (a0 : ByteArray) : Option Bool :=
  bd (PF.impl_parse a0) (fun r21 => some r21.2)

noncomputable def impl_fregeOk_1 (a0 : ByteArray) : Option Bool :=
  bd (PF.impl_IsFormula a0) (fun r21 => some (!r21))

noncomputable def impl_fregeOk (a0 : List ByteArray) (a1 : List FregeStep) : Option Bool :=
  bd (bif (bif (decide ((len a0) ≤ 6)) then (decide ((len a1) ≤ 80)) else false) then bd (PF.slices_ContainsFunc_string_string a0 (fun x0 => PF.impl_fregeOk_1 x0)) (fun r42 => some (!r42)) else some false) (fun t35 => some t35)

def impl_within (a0 : Int) (a1 : Int) (a2 : Int) : Bool :=
  (bif (decide (a1 ≤ a0)) then (decide (a0 ≤ a2)) else false)

noncomputable def impl_formula_fits_B (rec_impl_formula_fits : Fo → Fo → (Fo × Fo × Fo) → Option (Bool × (Fo × Fo × Fo))) (a0 : Fo) (a1 : Fo) (a2 : Fo × Fo × Fo) : Option (Bool × (Fo × Fo × Fo)) :=
  bd (a0.get) (fun y21 => (bif (PF.impl_isLetter y21.op) then bd (ix [a2.1, a2.2.1, a2.2.2] (wrk false 8 (y21.op - 97))) (fun x34 => bdR (S := (Fo × Fo × Fo)) (X := Empty) ((bif x34.isNil then some (Rs.go ((set3 (a2.1, a2.2.1, a2.2.2) (wrk false 8 (y21.op - 97)) a1).1, (set3 (a2.1, a2.2.1, a2.2.2) (wrk false 8 (y21.op - 97)) a1).2.1, (set3 (a2.1, a2.2.1, a2.2.2) (wrk false 8 (y21.op - 97)) a1).2.2)) else some (Rs.go (a2.1, a2.2.1, a2.2.2)))) (fun s56 => bd (ix [s56.1, s56.2.1, s56.2.2] (wrk false 8 (y21.op - 97))) (fun x84 => bd (x84.get) (fun y89 => bd (a1.get) (fun y97 => some ((y89.text.toList == y97.text.toList), (s56.1, s56.2.1, s56.2.2)))))) (fun x58 => nomatch x58)) else bd (a1.get) (fun y109 => (bif (!(y21.op == y109.op)) then some (false, (a2.1, a2.2.1, a2.2.2)) else (bif y21.a.isNil then some (true, (a2.1, a2.2.1, a2.2.2)) else (bif y21.b.isNil then bd (rec_impl_formula_fits y21.a y109.a (a2.1, a2.2.1, a2.2.2)) (fun r30123 => some (r30123.1, (r30123.2.1, r30123.2.2.1, r30123.2.2.2))) else bd (rec_impl_formula_fits y21.a y109.a (a2.1, a2.2.1, a2.2.2)) (fun r69136 => bd (bif r69136.1 then bd (rec_impl_formula_fits y21.b y109.b (r69136.2.1, r69136.2.2.1, r69136.2.2.2)) (fun r102136 => some (r102136.1, r102136.2.1, r102136.2.2.1, r102136.2.2.2)) else some (false, r69136.2.1, r69136.2.2.1, r69136.2.2.2)) (fun t39135_21 => some (t39135_21.1, (t39135_21.2.1, t39135_21.2.2.1, t39135_21.2.2.2))))))))))
noncomputable def impl_formula_fits_F : Nat → Fo → Fo → (Fo × Fo × Fo) → Option (Bool × (Fo × Fo × Fo))
  | 0 => fun _ _ _ => none
  | n + 1 => impl_formula_fits_B (impl_formula_fits_F n)
noncomputable def impl_formula_fits (a0 : Fo) (a1 : Fo) (a2 : Fo × Fo × Fo) : Option (Bool × (Fo × Fo × Fo)) := impl_formula_fits_F deep a0 a1 a2

noncomputable def impl_isCase (a0 : Int) (a1 : Fo) : Option Bool :=
  bd (ix PF.glob0 (wr (a0 - 1))) (fun x21 => bd (PF.impl_parse x21) (fun r27 => bd (PF.impl_formula_fits r27.1 a1 (Fo.nil, Fo.nil, Fo.nil)) (fun r39 => some r39.1)))

noncomputable def impl_fregeCorrect (a0 : List ByteArray) (a1 : List FregeStep) (a2 : Int) : Option Bool :=
  bd (ix a1 a2) (fun x27 => bd (PF.impl_parse x27.formula) (fun r40 => (bif (!r40.2) then some false else (bif (PF.impl_within x27.rule 1 10) then bd (bif (bif (x27.a == 0) then (x27.b == 0) else false) then bd (PF.impl_isCase x27.rule r40.1) (fun r75 => some r75) else some false) (fun t68 => some t68) else (bif (x27.rule == 0) then bd (bif (bif (PF.impl_within x27.a 0 (wr ((len a0) - 1))) then (x27.b == 0) else false) then bd (ix a0 x27.a) (fun x114 => some (x114.toList == x27.formula.toList)) else some false) (fun t101 => some t101) else (bif (bif (bif (!(x27.rule == (-1))) then true else (!(PF.impl_within x27.a 0 (wr (a2 - 1))))) then true else (!(PF.impl_within x27.b 0 (wr (a2 - 1))))) then some false else bd (ix a1 x27.a) (fun x160 => bd (PF.impl_IsFormula x160.formula) (fun r163 => bd (bif r163 then bd (ix a1 x27.b) (fun x188 => bd (PF.impl_IsFormula x188.formula) (fun r190 => some r190)) else some false) (fun t175 => bd (bif t175 then bd (ix a1 x27.b) (fun x225 => bd (catS (ByteArray.mk #[40]) x160.formula) (fun z227 => bd (catS z227 (ByteArray.mk #[62])) (fun z229 => bd (catS z229 x27.formula) (fun z231 => bd (catS z231 (ByteArray.mk #[41])) (fun z233 => some (x225.formula.toList == z233.toList)))))) else some false) (fun t212 => some t212))))))))))

noncomputable def impl_firstWrongFrege (a0 : List ByteArray) (a1 : List FregeStep) : Option Int :=
  bdR (forL (S := Unit) (X := Int) a1 (fun i22 y21 s22 => bd (PF.impl_fregeCorrect a0 a1 ((i22 : Nat) : Int)) (fun r47 => (bif (!r47) then some (Lp.rt ((i22 : Nat) : Int)) else some (Lp.nx ())))) ()) (fun s22 => some (-1)) (fun x22 => some x22)

noncomputable def impl_fregeProof (a0 : List ByteArray) (a1 : List FregeStep) : Option Bool :=
  bd (PF.impl_fregeOk a0 a1) (fun r21 => bd (bif (bif r21 then (decide (0 < (len a1))) else false) then bd (PF.impl_firstWrongFrege a0 a1) (fun r48 => some (decide (r48 < 0))) else some false) (fun t41 => some t41))

noncomputable def impl_formula_put_B (rec_impl_formula_put : Fo → (Fo × Fo × Fo) → Option Fo) (a0 : Fo) (a1 : Fo × Fo × Fo) : Option Fo :=
  bd (a0.get) (fun y29 => (bif (PF.impl_isLetter y29.op) then bd (ix [a1.1, a1.2.1, a1.2.2] (wrk false 8 (y29.op - 97))) (fun x41 => some x41) else (bif y29.a.isNil then some a0 else (bif y29.b.isNil then bd (rec_impl_formula_put y29.a (a1.1, a1.2.1, a1.2.2)) (fun r18051 => bd (PF.impl_not r18051) (fun r21051 => some r21051)) else bd (rec_impl_formula_put y29.a (a1.1, a1.2.1, a1.2.2)) (fun r60060 => bd (rec_impl_formula_put y29.b (a1.1, a1.2.1, a1.2.2)) (fun r78060 => bd (PF.impl_join y29.op r60060 r78060) (fun r81060 => some r81060)))))))
noncomputable def impl_formula_put_F : Nat → Fo → (Fo × Fo × Fo) → Option Fo
  | 0 => fun _ _ => none
  | n + 1 => impl_formula_put_B (impl_formula_put_F n)
noncomputable def impl_formula_put (a0 : Fo) (a1 : Fo × Fo × Fo) : Option Fo := impl_formula_put_F deep a0 a1

noncomputable def impl_caseOf (a0 : Int) (a1 : Fo) (a2 : Fo) (a3 : Fo) : Option Fo :=
  bd (ix PF.glob0 (wr (a0 - 1))) (fun x21 => bd (PF.impl_parse x21) (fun r27 => bd (PF.impl_formula_put r27.1 (a1, a2, a3)) (fun r35 => some r35)))

def impl_freger_put (a0 : freger) (a1 : Fo) (a2 : Int) (a3 : Int) (a4 : Int) : Option (Int × freger) :=
  bd (a1.get) (fun y21 => bdR (S := Bool) (X := Empty) ((bif (bif (decide (80 < (y21.text.size : Int))) then true else ((len a0.steps) == 80)) then some (Rs.go true) else some (Rs.go a0.long))) (fun s46 => bd (app a0.steps [(FregeStep.mk y21.text a2 a3 a4)]) (fun xs45063 => some ((wr ((len xs45063) - 1)), (freger.mk xs45063 s46)))) (fun x48 => nomatch x48))

noncomputable def impl_freger_identity (a0 : freger) (a1 : Fo) : Option (Int × freger) :=
  bd (PF.impl_join 62 a1 a1) (fun r21 => bd (PF.impl_caseOf 2 a1 r21 a1) (fun r29 => bd (PF.impl_freger_put a0 r29 2 0 0) (fun r37 => bd (PF.impl_caseOf 1 a1 r21 Fo.nil) (fun r49 => bd (PF.impl_freger_put r37.2 r49 1 0 0) (fun r57 => bd (PF.impl_join 62 a1 r21) (fun r69 => bd (PF.impl_join 62 r69 r21) (fun r77 => bd (β := _) (bd (PF.impl_freger_put r57.2 r77 (-1) r57.1 r37.1) (fun r102 => some (r102.2.steps, r102.2.long, r102.1)) : Option ((List FregeStep) × Bool × Int)) (fun s97 => bd (PF.impl_caseOf 1 a1 a1 Fo.nil) (fun r119 => bd (PF.impl_freger_put (freger.mk s97.1 s97.2.1) r119 1 0 0) (fun r127 => bd (β := _) (bd (PF.impl_freger_put r127.2 r21 (-1) r127.1 s97.2.2) (fun r156 => some (r156.2.steps, r156.2.long, r156.1)) : Option ((List FregeStep) × Bool × Int)) (fun s151 => some (s151.2.2, (freger.mk s151.1 s151.2.1)))))))))))))

noncomputable def impl_Discharge (a0 : List ByteArray) (a1 : List FregeStep) (a2 : Int) : Option ((List FregeStep) × Bool) :=
  bd (PF.impl_fregeProof a0 a1) (fun r21 => (bif (bif (!r21) then true else (!(PF.impl_within a2 0 (wr ((len a0) - 1))))) then some ([], false) else bd (ix a0 a2) (fun x50 => bd (PF.impl_parse x50) (fun r52 => bdR (forL (S := ((List FregeStep) × Bool × (List Int))) (X := Empty) a1 (fun i67 y66 s67 => bd (PF.impl_parse y66.formula) (fun r192618 => (bif (bif (y66.rule == 0) then (y66.a == a2) else false) then bd (PF.impl_freger_identity (freger.mk s67.1 s67.2.1) r52.1) (fun r192645 => bd (app s67.2.2 [r192645.1]) (fun xs192662 => some (Lp.nx (r192645.2.steps, r192645.2.long, xs192662)))) else (bif (y66.rule == (-1)) then bd (ix a1 y66.a) (fun x192680 => bd (PF.impl_parse x192680.formula) (fun r192682 => bd (PF.impl_caseOf 2 r52.1 r192682.1 r192618.1) (fun r192690 => bd (PF.impl_freger_put (freger.mk s67.1 s67.2.1) r192690 2 0 0) (fun r192698 => bd (PF.impl_join 62 r52.1 r192682.1) (fun r204710 => bd (PF.impl_join 62 r52.1 r192618.1) (fun r213710 => bd (PF.impl_join 62 r204710 r213710) (fun r216710 => bd (ix s67.2.2 y66.b) (fun x228716 => bd (β := _) (bd (PF.impl_freger_put r192698.2 r216710 (-1) x228716 r192698.1) (fun r237727 => some (r237727.2.steps, r237727.2.long, r237727.1)) : Option ((List FregeStep) × Bool × Int)) (fun s237722 => bd (PF.impl_join 62 r52.1 r192618.1) (fun r258731 => bd (ix s67.2.2 y66.a) (fun x270737 => bd (β := _) (bd (PF.impl_freger_put (freger.mk s237722.1 s237722.2.1) r258731 (-1) x270737 s237722.2.2) (fun r279748 => some (r279748.2.steps, r279748.2.long, r279748.1)) : Option ((List FregeStep) × Bool × Int)) (fun s279743 => bd (app s67.2.2 [s279743.2.2]) (fun xs288755 => some (Lp.nx (s279743.1, s279743.2.1, xs288755))))))))))))))) else bd (PF.impl_freger_put (freger.mk s67.1 s67.2.1) r192618.1 y66.rule y66.a y66.b) (fun r288766 => bd (PF.impl_join 62 r52.1 r192618.1) (fun r288778 => bd (PF.impl_caseOf 1 r192618.1 r52.1 Fo.nil) (fun r288786 => bd (PF.impl_freger_put r288766.2 r288786 1 0 0) (fun r288794 => bd (β := _) (bd (PF.impl_freger_put r288794.2 r288778 (-1) r288766.1 r288794.1) (fun r288823 => some (r288823.2.steps, r288823.2.long, r288823.1)) : Option ((List FregeStep) × Bool × Int)) (fun s288818 => bd (app s67.2.2 [s288818.2.2]) (fun xs288845 => some (Lp.nx (s288818.1, s288818.2.1, xs288845)))))))))))) ([], false, [])) (fun s67 => bd (β := _) ((bif s67.2.1 then some (false, []) else some (true, s67.1)) : Option (Bool × (List FregeStep))) (fun s288864 => some (s288864.2, s288864.1))) (fun x67 => nomatch x67)))))

noncomputable def spec_l24Asked (a0 : List ByteArray) (a1 : List FregeStep) : Option Bool :=
  (bif (bif (decide (6 < (len a0))) then true else (decide (80 < (len a1)))) then some false else bdR (forL (S := Unit) (X := Bool) a0 (fun i32 y31 s32 => bd (PF.spec_l22Good y31) (fun r65 => (bif (!r65) then some (Lp.rt false) else some (Lp.nx ())))) ()) (fun s32 => some true) (fun x32 => some x32))

def spec_l1In (a0 : Int) (a1 : Int) (a2 : Int) : Bool :=
  (bif (decide (a1 ≤ a0)) then (decide (a0 ≤ a2)) else false)

def spec_l24Scheme (a0 : Int) : Bool :=
  (PF.spec_l1In a0 1 10)

def spec_l22Letter (a0 : ByteArray) : Option Bool :=
  bd (bif ((a0.size : Int) == 1) then bd (ixS a0 0) (fun z30 => some (decide (97 ≤ z30))) else some false) (fun t23 => bd (bif t23 then bd (ixS a0 0) (fun z43 => some (decide (z43 ≤ 102))) else some false) (fun t36 => some t36))

noncomputable def spec_l24Match_B (rec_spec_l24Match : ByteArray → ByteArray → (List ByteArray) → Option ((List ByteArray) × Bool)) (a0 : ByteArray) (a1 : ByteArray) (a2 : List ByteArray) : Option ((List ByteArray) × Bool) :=
  bd (PF.spec_l22Letter a0) (fun r21 => (bif r21 then bd (ixS a0 0) (fun z27 => bd (ix a2 (wrk true 64 (wrk false 8 (z27 - 97)))) (fun x35 => (bif (!(x35.toList == (ByteArray.mk #[]).toList)) then bd (ix a2 (wrk true 64 (wrk false 8 (z27 - 97)))) (fun x45 => some (a2, (x45.toList == a1.toList))) else bd (app [] a2) (fun xs55 => bd (ix xs55 (wrk true 64 (wrk false 8 (z27 - 97)))) (fun x71 => bd (put xs55 (wrk true 64 (wrk false 8 (z27 - 97))) a1) (fun xs76 => some (xs76, true))))))) else bd (PF.spec_l22Parts a0) (fun r86 => bd (PF.spec_l22Parts a1) (fun r91 => (bif (!(r86.1 == r91.1)) then some (a2, false) else (bif (r86.2.1.toList == (ByteArray.mk #[]).toList) then some (a2, true) else bd (rec_spec_l24Match r86.2.1 r91.2.1 a2) (fun r98 => (bif (bif (!r98.2) then true else (r86.2.2.toList == (ByteArray.mk #[]).toList)) then some (r98.1, r98.2) else bd (rec_spec_l24Match r86.2.2 r91.2.2 r98.1) (fun r119 => some (r119.1, r119.2))))))))))
noncomputable def spec_l24Match_F : Nat → ByteArray → ByteArray → (List ByteArray) → Option ((List ByteArray) × Bool)
  | 0 => fun _ _ _ => none
  | n + 1 => spec_l24Match_B (spec_l24Match_F n)
noncomputable def spec_l24Match (a0 : ByteArray) (a1 : ByteArray) (a2 : List ByteArray) : Option ((List ByteArray) × Bool) := spec_l24Match_F deep a0 a1 a2

noncomputable def spec_l24Is (a0 : Int) (a1 : ByteArray) : Option Bool :=
  bd (ix PF.spec_l24Schemes (wr (a0 - 1))) (fun x35 => bd (PF.spec_l24Match x35 a1 [(ByteArray.mk #[]), (ByteArray.mk #[]), (ByteArray.mk #[])]) (fun r47 => some r47.2))

def spec_l24Implies (a0 : ByteArray) (a1 : ByteArray) : Option ByteArray :=
  bd (catS (ByteArray.mk #[40]) a0) (fun z21 => bd (catS z21 (ByteArray.mk #[62])) (fun z23 => bd (catS z23 a1) (fun z25 => bd (catS z25 (ByteArray.mk #[41])) (fun z27 => some z27))))

noncomputable def spec_l24Correct (a0 : List ByteArray) (a1 : List FregeStep) (a2 : Int) : Option Bool :=
  bd (ix a1 a2) (fun x27 => bd (PF.spec_l22Good x27.formula) (fun r40 => (bif (!r40) then some false else (bif (PF.spec_l24Scheme x27.rule) then bd (bif (bif (x27.a == 0) then (x27.b == 0) else false) then bd (PF.spec_l24Is x27.rule x27.formula) (fun r71 => some r71) else some false) (fun t64 => some t64) else (bif (x27.rule == 0) then bd (bif (bif (x27.b == 0) then (PF.spec_l1In x27.a 0 (wr ((len a0) - 1))) else false) then bd (ix a0 x27.a) (fun x110 => some (x110.toList == x27.formula.toList)) else some false) (fun t97 => some t97) else (bif (x27.rule == (-1)) then bd (bif (bif (PF.spec_l1In x27.a 0 (wr (a2 - 1))) then (PF.spec_l1In x27.b 0 (wr (a2 - 1))) else false) then bd (ix a1 x27.b) (fun x159 => bd (ix a1 x27.a) (fun x167 => bd (PF.spec_l24Implies x167.formula x27.formula) (fun r169 => some (x159.formula.toList == r169.toList)))) else some false) (fun t146 => some t146) else some false))))))

noncomputable def spec_l24Wrong (a0 : List ByteArray) (a1 : List FregeStep) : Option Int :=
  bdR (forL (S := Unit) (X := Int) a1 (fun i22 y21 s22 => bd (PF.spec_l24Correct a0 a1 ((i22 : Nat) : Int)) (fun r45 => (bif (!r45) then some (Lp.rt ((i22 : Nat) : Int)) else some (Lp.nx ())))) ()) (fun s22 => some (-1)) (fun x22 => some x22)

noncomputable def spec_l24Good (a0 : List ByteArray) (a1 : List FregeStep) : Option Bool :=
  bd (PF.spec_l24Asked a0 a1) (fun r21 => bd (bif (bif r21 then (decide (0 < (len a1))) else false) then bd (PF.spec_l24Wrong a0 a1) (fun r48 => some (decide (r48 < 0))) else some false) (fun t41 => some t41))

def spec_l24Identity (a0 : List FregeStep) (a1 : ByteArray) : Option (List FregeStep) :=
  bd (PF.spec_l24Implies a1 a1) (fun r21 => bd (PF.spec_l24Case 2 a1 r21 a1) (fun r26 => bd (app a0 [(FregeStep.mk r26 2 0 0)]) (fun xs36 => bd (PF.spec_l24Case 1 a1 r21 a1) (fun r47 => bd (app xs36 [(FregeStep.mk r47 1 0 0)]) (fun xs57 => bd (PF.spec_l24Implies a1 r21) (fun r68 => bd (PF.spec_l24Implies r68 r21) (fun r73 => bd (app xs57 [(FregeStep.mk r73 (-1) (wr ((len a0) + 1)) (len a0))]) (fun xs83 => bd (PF.spec_l24Case 1 a1 a1 a1) (fun r94 => bd (app xs83 [(FregeStep.mk r94 1 0 0)]) (fun xs104 => bd (app xs104 [(FregeStep.mk r21 (-1) (wr ((len a0) + 3)) (wr ((len a0) + 2)))]) (fun xs120 => some xs120)))))))))))

def spec_l24Discharge (a0 : List ByteArray) (a1 : List FregeStep) (a2 : Int) : Option (List FregeStep) :=
  bd (ix a0 a2) (fun x15027 => bdR (forL (S := ((List FregeStep) × (List Int))) (X := Empty) a1 (fun i33041 y33040 s33041 => bdR (S := (List FregeStep)) (X := Empty) ((bif (bif (y33040.rule == 0) then (y33040.a == a2) else false) then bd (PF.spec_l24Identity s33041.1 x15027) (fun r285453 => some (Rs.go r285453)) else (bif (y33040.rule == (-1)) then bd (ix a1 y33040.a) (fun x285470 => bd (PF.spec_l24Case 2 x15027 x285470.formula y33040.formula) (fun r285472 => bd (app s33041.1 [(FregeStep.mk r285472 2 0 0)]) (fun xs285482 => bd (PF.spec_l24Implies x15027 x285470.formula) (fun r297493 => bd (PF.spec_l24Implies x15027 y33040.formula) (fun r309493 => bd (PF.spec_l24Implies r297493 r309493) (fun r312493 => bd (ix s33041.2 y33040.b) (fun x324499 => bd (app xs285482 [(FregeStep.mk r312493 (-1) x324499 (wr ((len xs285482) - 1)))]) (fun xs345493 => bd (PF.spec_l24Implies x15027 y33040.formula) (fun r369510 => bd (ix s33041.2 y33040.a) (fun x381516 => bd (app xs345493 [(FregeStep.mk r369510 (-1) x381516 (wr ((len xs345493) - 1)))]) (fun xs402510 => some (Rs.go xs402510)))))))))))) else bd (app s33041.1 [y33040]) (fun xs411531 => bd (PF.spec_l24Case 1 y33040.formula x15027 x15027) (fun r411542 => bd (app xs411531 [(FregeStep.mk r411542 1 0 0)]) (fun xs411552 => bd (PF.spec_l24Implies x15027 y33040.formula) (fun r411563 => bd (app xs411552 [(FregeStep.mk r411563 (-1) (wr ((len xs411552) - 2)) (wr ((len xs411552) - 1)))]) (fun xs411573 => some (Rs.go xs411573))))))))) (fun s285430 => bd (app s33041.2 [(wr ((len s285430) - 1))]) (fun xs411600 => some (Lp.nx (s285430, xs411600)))) (fun x285432 => nomatch x285432)) ([], [])) (fun s33041 => some s33041.1) (fun x33041 => nomatch x33041))

def spec_l24Give (a0 : List FregeStep) : Option ((List FregeStep) × Bool) :=
  (bif (decide (80 < (len a0))) then some ([], false) else bdR (forL (S := Unit) (X := ((List FregeStep) × Bool)) a0 (fun i33 y32 s33 => (bif (decide (80 < (y32.formula.size : Int))) then some (Lp.rt ([], false)) else some (Lp.nx ()))) ()) (fun s33 => some (a0, true)) (fun x33 => some x33))

noncomputable def spec_Discharge (a0 : List ByteArray) (a1 : List FregeStep) (a2 : Int) : Option ((List FregeStep) × Bool) :=
  bd (PF.spec_l24Good a0 a1) (fun r21 => (bif (bif (!r21) then true else (!(PF.spec_l1In a2 0 (wr ((len a0) - 1))))) then some ([], false) else bd (PF.spec_l24Discharge a0 a1 a2) (fun r54 => bd (PF.spec_l24Give r54) (fun r69 => some (r69.1, r69.2)))))

def laws_vFrege (a0 : List FregeStep) (a1 : List FregeStep) : Option Bool :=
  (bif (!((len a0) == (len a1))) then some false else bdR (forL (S := Unit) (X := Bool) a0 (fun i23 y22 s23 => bd (ix a1 ((i23 : Nat) : Int)) (fun x72 => (bif (!((y22.formula.toList == x72.formula.toList) && ((y22.rule == x72.rule) && ((y22.a == x72.a) && (y22.b == x72.b))))) then some (Lp.rt false) else some (Lp.nx ())))) ()) (fun s23 => some true) (fun x23 => some x23))

def impl_last_impl_FregeStep (a0 : List FregeStep) : Option FregeStep :=
  bd (ix a0 (wr ((len a0) - 1))) (fun x31 => some x31)

noncomputable def impl_ProvedFormula (a0 : List ByteArray) (a1 : List FregeStep) : Option (ByteArray × Bool) :=
  bd (PF.impl_fregeProof a0 a1) (fun r21 => (bif (!r21) then some ((ByteArray.mk #[]), false) else bd (PF.impl_last_impl_FregeStep a1) (fun r27 => some (r27.formula, true))))

def impl_FregeStep_uses (a0 : FregeStep) : (List Int) :=
  (bif (a0.rule == (-1)) then [a0.a, a0.b] else [])

def impl_fregeRests_1 (a0 : Int) (b0 : List FregeStep) : Option (List Int) :=
  bd (ix b0 a0) (fun x27 => some (PF.impl_FregeStep_uses x27))

noncomputable def slices_Reverse_int_int (a0 : List Int) : Option (List Int) :=
  bdR (iter (S := ((List Int) × Int × Int)) (X := Empty) (fun s21 => (bif (decide (s21.2.1 < s21.2.2)) then bd (ix s21.1 s21.2.2) (fun x129077 => bd (ix s21.1 s21.2.1) (fun x141077 => bd (ix s21.1 s21.2.1) (fun x147077 => bd (put s21.1 s21.2.1 x129077) (fun xs150074 => bd (ix xs150074 s21.2.2) (fun x153077 => bd (put xs150074 s21.2.2 x141077) (fun xs156074 => some (Lp.nx (xs156074, (wr (s21.2.1 + 1)), (wr (s21.2.2 - 1)))))))))) else some (Lp.bk (s21.1, s21.2.1, s21.2.2)))) (a0, 0, (wr ((len a0) - 1)))) (fun s21 => some s21.1) (fun x21 => nomatch x21)

noncomputable def impl_fregeRests (a0 : List FregeStep) : Option (List Int) :=
  bd (β := _) (bd (mk2 (false : Bool) (len a0) (len a0)) (fun xs406 => bdR (iter (S := ((List Bool) × (List Int) × Int)) (X := Empty) (fun s416 => (bif (decide (0 ≤ s416.2.2)) then bd (ix s416.1 s416.2.2) (fun x770 => (bif (bif (!x770) then (decide (s416.2.2 < (wr ((len a0) - 1)))) else false) then some (Lp.nx (s416.1, s416.2.1, (wr (s416.2.2 - 1)))) else bd (app s416.2.1 [s416.2.2]) (fun xs791 => bd (PF.impl_fregeRests_1 s416.2.2 a0) (fun r802 => bd (chk (len r802)) (fun m812 => bdR (forR (S := (List Bool)) (X := Empty) 0 m812 (fun i813 s813 => bd (ix r802 ((i813 : Nat) : Int)) (fun x911 => bd (ix s813 x911) (fun x919 => bd (put s813 x911 true) (fun xs924 => some (Lp.nx xs924))))) s416.1) (fun s813 => some (Lp.nx (s813, xs791, (wr (s416.2.2 - 1))))) (fun x813 => nomatch x813)))))) else some (Lp.bk (s416.1, s416.2.1, s416.2.2)))) (xs406, [], (wr ((len a0) - 1)))) (fun s416 => bd (PF.slices_Reverse_int_int s416.2.1) (fun r960 => some r960)) (fun x416 => nomatch x416)) : Option (List Int)) (fun s401 => some s401)

def slices_Sort_int_int (a0 : List Int) : Option (List Int) := sortI a0

def slices_Compact_int_int (a0 : List Int) : Option (List Int) := some (compactL a0)

noncomputable def impl_UsedFormulas (a0 : List ByteArray) (a1 : List FregeStep) : Option ((List Int) × Bool) :=
  bd (PF.impl_fregeProof a0 a1) (fun r21 => (bif (!r21) then some ([], false) else bd (PF.impl_fregeRests a1) (fun r27 => bd (chk (len r27)) (fun m37 => bdR (forR (S := (List Int)) (X := Empty) 0 m37 (fun i38 s38 => bd (ix r27 ((i38 : Nat) : Int)) (fun x110 => bd (ix a1 x110) (fun x118 => (bif (x118.rule == 0) then bd (ix a1 x110) (fun x127 => bd (app s38 [x127.a]) (fun xs134 => some (Lp.nx xs134))) else some (Lp.nx s38))))) []) (fun s38 => bd (PF.slices_Sort_int_int s38) (fun r152 => bd (PF.slices_Compact_int_int r152) (fun r161 => some (r161, true)))) (fun x38 => nomatch x38)))))

def laws_vHas (a0 : List Int) (a1 : Int) : Option Bool :=
  bdR (forL (S := Unit) (X := Bool) a0 (fun i22 y21 s22 => (bif (y21 == a1) then some (Lp.rt true) else some (Lp.nx ()))) ()) (fun s22 => some false) (fun x22 => some x22)

def slices_Clone_impl_FregeStep_impl_FregeStep (a0 : List FregeStep) : Option (List FregeStep) :=
  bd (app [] a0) (fun xs30 => some xs30)

noncomputable def impl_AddModus (a0 : List ByteArray) (a1 : List FregeStep) (a2 : List FregeStep) : Option ((List FregeStep) × Bool) :=
  bd (PF.impl_fregeProof a0 a1) (fun r21 => bd (bif (!r21) then some true else bd (PF.impl_fregeProof a0 a2) (fun r38 => some (!r38))) (fun t31 => (bif (bif t31 then true else (decide (80 < (wr ((wr ((len a1) + (len a2))) + 1))))) then some ([], false) else bd (PF.impl_last_impl_FregeStep a2) (fun r59 => bd (PF.impl_parse r59.formula) (fun r64 => bd (r64.1.get) (fun y73 => bd (bif (!(y73.op == 62)) then some true else bd (y73.a.get) (fun y98 => bd (PF.impl_last_impl_FregeStep a1) (fun r106 => some (!(y98.text.toList == r106.formula.toList))))) (fun t91 => (bif t91 then some ([], false) else bd (PF.slices_Clone_impl_FregeStep_impl_FregeStep a1) (fun r117 => bdR (forL (S := (List FregeStep)) (X := Empty) a2 (fun i128 y127 s128 => (bif (y127.rule == (-1)) then bd (app s128 [(FregeStep.mk y127.formula y127.rule (wr (y127.a + (len a1))) (wr (y127.b + (len a1))))]) (fun xs240 => some (Lp.nx xs240)) else bd (app s128 [y127]) (fun xs256 => some (Lp.nx xs256)))) r117) (fun s128 => bd (y73.b.get) (fun y276 => bd (app s128 [(FregeStep.mk y276.text (-1) (wr ((len a1) - 1)) (wr ((len s128) - 1)))]) (fun xs289 => some (xs289, true)))) (fun x128 => nomatch x128))))))))))

noncomputable def spec_DrawIdentityProof (a0 : List Int) : Option ByteArray :=
  bd (PF.spec_l1Cur_one (l1Cur.mk a0 0 0) 3) (fun r25 => (bif r25.1 then bd (PF.spec_l1Cur_formulaText r25.2) (fun r34 => some r34.1) else bd (PF.spec_l1Cur_short24 r25.2) (fun r42 => some r42.1)))

noncomputable def impl_IdentityProof (a0 : ByteArray) : Option ((List FregeStep) × Bool) :=
  bd (PF.impl_parse a0) (fun r21 => (bif (!r21.2) then some ([], false) else bd (PF.impl_freger_identity (freger.mk [] false) r21.1) (fun r36 => bd (β := _) ((bif r36.2.long then some (false, []) else some (true, r36.2.steps)) : Option (Bool × (List FregeStep))) (fun s49 => some (s49.2, s49.1)))))

noncomputable def spec_IdentityProof (a0 : ByteArray) : Option ((List FregeStep) × Bool) :=
  bd (PF.spec_l22Good a0) (fun r21 => (bif (!r21) then some ([], false) else bd (PF.spec_l24Identity [] a0) (fun r42 => bd (PF.spec_l24Give r42) (fun r57 => some (r57.1, r57.2)))))

noncomputable def laws_FnDischarge (a0 : List Int) : Option Bool :=
  (bif (PF.laws_vBig a0) then some true else bd (PF.spec_DrawDischarge a0) (fun r25 => bd (PF.impl_Discharge r25.1 r25.2.1 r25.2.2) (fun r43 => bd (PF.spec_Discharge r25.1 r25.2.1 r25.2.2) (fun r60 => bd (bif (!(r43.2 == r60.2)) then some true else bd (PF.laws_vFrege r43.1 r60.1) (fun r90 => some (!r90))) (fun t78 => (bif t78 then some false else bdR (S := Unit) (X := Bool) ((bif r43.2 then bd (PF.impl_ProvedFormula r25.1 r25.2.1) (fun r356 => bd (PF.impl_ProvedFormula r25.1 r43.1) (fun r366 => bd (PF.impl_UsedFormulas r25.1 r43.1) (fun r376 => bd (bif (bif (bif (bif (bif (!r356.2) then true else (!r366.2)) then true else (!r376.2)) then true else (decide (r25.2.2 < 0))) then true else (decide ((len r25.1) ≤ r25.2.2))) then some true else bd (ix r25.1 r25.2.2) (fun x482 => bd (catS (ByteArray.mk #[40]) x482) (fun z484 => bd (catS z484 (ByteArray.mk #[62])) (fun z486 => bd (catS z486 r356.1) (fun z488 => bd (catS z488 (ByteArray.mk #[41])) (fun z490 => some (!(r366.1.toList == z490.toList)))))))) (fun t469 => bd (bif t469 then some true else bd (PF.laws_vHas r376.1 r25.2.2) (fun r522 => some r522)) (fun t510 => (bif (bif t510 then true else (decide ((wr (5 * (len r25.2.1))) < (len r43.1)))) then some (Rs.rt false) else bd (ix r25.1 r25.2.2) (fun x554 => bd (PF.impl_AddModus r25.1 [(FregeStep.mk x554 0 r25.2.2 0)] r43.1) (fun r571 => (bif r571.2 then bd (PF.impl_ProvedFormula r25.1 r571.1) (fun r589 => (bif (bif (!r589.2) then true else (!(r589.1.toList == r356.1.toList))) then some (Rs.rt false) else some (Rs.go ()))) else some (Rs.go ())))))))))) else some (Rs.go ()))) (fun s352 => bd (PF.spec_DrawIdentityProof a0) (fun r610 => bd (PF.impl_IdentityProof r610) (fun r615 => bd (PF.spec_IdentityProof r610) (fun r625 => bd (bif (!(r615.2 == r625.2)) then some true else bd (PF.laws_vFrege r615.1 r625.1) (fun r655 => some (!r655))) (fun t643 => (bif t643 then some false else (bif r615.2 then bd (PF.impl_ProvedFormula [] r615.1) (fun r681 => bd (bif (!r681.2) then some true else bd (catS (ByteArray.mk #[40]) r610) (fun z701 => bd (catS z701 (ByteArray.mk #[62])) (fun z703 => bd (catS z703 r610) (fun z705 => bd (catS z705 (ByteArray.mk #[41])) (fun z707 => some (!(r681.1.toList == z707.toList))))))) (fun t694 => (bif (bif t694 then true else (!((len r615.1) == 5))) then some false else some true))) else some true))))))) (fun x354 => some x354)))))))

end Go.PF
