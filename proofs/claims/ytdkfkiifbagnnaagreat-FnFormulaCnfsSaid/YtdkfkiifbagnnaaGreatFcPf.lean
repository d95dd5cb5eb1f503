/- Part of the walks and plain laws behind the claim: it proves helpers, under no condition beyond their own. -/
import Derived.Test.YtdkfkiifbagnnaaGreatFcLB
set_option linter.unusedVariables false
namespace Go.PF
open Go.Pu

structure Cnf where
  vars : Int
  clauses : List (List Int)
def okCnf (s : Cnf) : Prop := okI s.vars ∧ (okL (okL okI)) s.clauses

structure Sequent where
  left : List ByteArray
  right : List ByteArray
structure SeqStep where
  seq : Sequent
  rule : Int
  main : ByteArray
  a : Int
  b : Int
structure sequencer where
  steps : List SeqStep
  bad : Bool
structure formula where
  op : Int
  a : Fo
  b : Fo
  text : ByteArray
structure Gate where
  kind : Int
  a : Int
  b : Int
structure l23Search where
  steps : List SeqStep
  open_ : Bool
  bits : Int
  bad : Bool
structure seqSearch where
  steps : List SeqStep
  open_ : Option Sequent
structure l1Cur where
  code : List Int
  at_ : Int
  seed : Int
structure FregeStep where
  formula : ByteArray
  rule : Int
  a : Int
  b : Int
def laws_rBig (a0 : List Int) : Bool :=
  (decide (65536 < (len a0)))

def spec_l1Cur_next (a0 : l1Cur) : Option (Int × l1Cur) :=
  bdR (S := Int) (X := Empty) ((bif (decide (a0.at_ < (len a0.code))) then bd (ix a0.code a0.at_) (fun x49 => some (Rs.go (wrk true 64 x49))) else some (Rs.go 0))) (fun s38 => (bif (decide ((wr (a0.at_ + 1)) ≤ (len a0.code))) then some (s38, (l1Cur.mk a0.code (wr (a0.at_ + 1)) (wrk false 64 ((wrk false 64 ((wrk false 64 (a0.seed * 6364136223846793005)) + (wrk false 64 s38))) + 337411)))) else some ((wrk true 64 (andK false 64 (shrK 64 (wrk false 64 ((wrk false 64 ((wrk false 64 (a0.seed * 6364136223846793005)) + (wrk false 64 s38))) + 337411)) 40) 255)), (l1Cur.mk a0.code (wr (a0.at_ + 1)) (wrk false 64 ((wrk false 64 ((wrk false 64 (a0.seed * 6364136223846793005)) + (wrk false 64 s38))) + 337411)))))) (fun x40 => nomatch x40)

def spec_l1Cur_pick (a0 : l1Cur) (a1 : Int) : Option (Int × l1Cur) :=
  (bif (decide (a1 ≤ 1)) then some (0, a0) else bd (PF.spec_l1Cur_next a0) (fun r22 => (bif (decide (200 < a1)) then bd (PF.spec_l1Cur_next r22.2) (fun r31 => bd (nz a1) (fun u40 => some (((wr ((wr (r22.1 * 256)) + r31.1)).tmod a1), r31.2))) else bd (nz a1) (fun u42 => some ((r22.1.tmod a1), r22.2)))))

def spec_l1Cur_among (a0 : l1Cur) (a1 : List Int) : Option (Int × l1Cur) :=
  bd (PF.spec_l1Cur_pick a0 (len a1)) (fun r21 => bd (ix a1 r21.1) (fun x35 => some (x35, r21.2)))

def spec_l1Cur_one (a0 : l1Cur) (a1 : Int) : Option (Bool × l1Cur) :=
  bd (PF.spec_l1Cur_pick a0 a1) (fun r21 => some ((r21.1 == 0), r21.2))

def spec_l1Cur_of (a0 : l1Cur) (a1 : List ByteArray) : Option (ByteArray × l1Cur) :=
  bd (PF.spec_l1Cur_pick a0 (len a1)) (fun r21 => bd (ix a1 r21.1) (fun x35 => some (x35, r21.2)))

def spec_l22Join (a0 : ByteArray) (a1 : ByteArray) (a2 : ByteArray) : Option ByteArray :=
  bd (catS (ByteArray.mk #[40]) a1) (fun z21 => bd (catS z21 a0) (fun z23 => bd (catS z23 a2) (fun z25 => bd (catS z25 (ByteArray.mk #[41])) (fun z27 => some z27))))

noncomputable def spec_l1Cur_formula22_B (rec_spec_l1Cur_formula22 : l1Cur → Int → Option (ByteArray × l1Cur)) (a0 : l1Cur) (a1 : Int) : Option (ByteArray × l1Cur) :=
  bd (bif (decide (a1 ≤ 1)) then some (a0.code, a0.at_, a0.seed, true) else bd (PF.spec_l1Cur_one a0 6) (fun r33 => some (r33.2.code, r33.2.at_, r33.2.seed, r33.1))) (fun t29 => (bif t29.2.2.2 then bd (PF.spec_l1Cur_of (l1Cur.mk t29.1 t29.2.1 t29.2.2.1) [(ByteArray.mk #[97]), (ByteArray.mk #[98]), (ByteArray.mk #[99]), (ByteArray.mk #[97]), (ByteArray.mk #[98]), (ByteArray.mk #[100]), (ByteArray.mk #[48]), (ByteArray.mk #[49]), (ByteArray.mk #[102]), (ByteArray.mk #[101]), (ByteArray.mk #[99]), (ByteArray.mk #[97])]) (fun r60 => some (r60.1, r60.2)) else bd (PF.spec_l1Cur_one (l1Cur.mk t29.1 t29.2.1 t29.2.2.1) 4) (fun r68 => (bif r68.1 then bd (rec_spec_l1Cur_formula22 r68.2 (wr (a1 - 1))) (fun r77 => bd (catS (ByteArray.mk #[126]) r77.1) (fun z85 => some (z85, r77.2))) else bd (PF.spec_l1Cur_pick r68.2 (wr (a1 - 1))) (fun r87 => bd (PF.spec_l1Cur_of r87.2 [(ByteArray.mk #[38]), (ByteArray.mk #[124]), (ByteArray.mk #[62])]) (fun r105 => bd (rec_spec_l1Cur_formula22 r105.2 (wr (1 + r87.1))) (fun r113 => bd (rec_spec_l1Cur_formula22 r113.2 (wr (a1 - (wr (1 + r87.1))))) (fun r121 => bd (PF.spec_l22Join r105.1 r113.1 r121.1) (fun r129 => some (r129, r121.2))))))))))
noncomputable def spec_l1Cur_formula22_F : Nat → l1Cur → Int → Option (ByteArray × l1Cur)
  | 0 => fun _ _ => none
  | n + 1 => spec_l1Cur_formula22_B (spec_l1Cur_formula22_F n)
noncomputable def spec_l1Cur_formula22 (a0 : l1Cur) (a1 : Int) : Option (ByteArray × l1Cur) := spec_l1Cur_formula22_F deep a0 a1

noncomputable def spec_l22End_B (rec_spec_l22End : ByteArray → Int → Option Int) (a0 : ByteArray) (a1 : Int) : Option Int :=
  (bif (decide ((a0.size : Int) ≤ a1)) then some (-1) else bd (ixS a0 a1) (fun z22 => bd (bif (z22 == 48) then some true else bd (ixS a0 a1) (fun z33 => some (z33 == 49))) (fun t26 => bd (bif t26 then some true else bd (ixS a0 a1) (fun z62 => bd (bif (decide (97 ≤ z62)) then bd (ixS a0 a1) (fun z73 => some (decide (z73 ≤ 102))) else some false) (fun t66 => some t66))) (fun t55 => (bif t55 then some (wr (a1 + 1)) else bd (ixS a0 a1) (fun z83 => (bif (z83 == 126) then bd (rec_spec_l22End a0 (wr (a1 + 1))) (fun r86 => some r86) else bd (ixS a0 a1) (fun z91 => (bif (!(z91 == 40)) then some (-1) else bd (rec_spec_l22End a0 (wr (a1 + 1))) (fun r94 => bd (bif (bif (decide (r94 < 0)) then true else (decide ((a0.size : Int) ≤ r94))) then some true else bd (ixS a0 r94) (fun z148 => bd (bif (!(z148 == 38)) then bd (ixS a0 r94) (fun z159 => some (!(z159 == 124))) else some false) (fun t152 => bd (bif t152 then bd (ixS a0 r94) (fun z174 => some (!(z174 == 62))) else some false) (fun t167 => some t167)))) (fun t141 => (bif t141 then some (-1) else bd (rec_spec_l22End a0 (wr (r94 + 1))) (fun r184 => bd (bif (bif (decide (r184 < 0)) then true else (decide ((a0.size : Int) ≤ r184))) then some true else bd (ixS a0 r184) (fun z208 => some (!(z208 == 41)))) (fun t201 => (bif t201 then some (-1) else some (wr (r184 + 1)))))))))))))))))
noncomputable def spec_l22End_F : Nat → ByteArray → Int → Option Int
  | 0 => fun _ _ => none
  | n + 1 => spec_l22End_B (spec_l22End_F n)
noncomputable def spec_l22End (a0 : ByteArray) (a1 : Int) : Option Int := spec_l22End_F deep a0 a1

noncomputable def spec_l22Good (a0 : ByteArray) : Option Bool :=
  bd (bif (bif (decide (0 < (a0.size : Int))) then (decide ((a0.size : Int) ≤ 80)) else false) then bd (PF.spec_l22End a0 0) (fun r42 => some (r42 == (a0.size : Int))) else some false) (fun t35 => some t35)

noncomputable def spec_l1Cur_formula (a0 : l1Cur) : Option (ByteArray × l1Cur) :=
  bd (PF.spec_l1Cur_among a0 [1, 2, 3, 3, 4, 5, 6, 8]) (fun r31 => bd (PF.spec_l1Cur_formula22 r31.2 r31.1) (fun r39 => bd (PF.spec_l22Good r39.1) (fun r47 => (bif (!r47) then some ((ByteArray.mk #[40, 97, 62, 97, 41]), r39.2) else some (r39.1, r39.2)))))

def spec_l1Cur_spoilt (a0 : l1Cur) (a1 : ByteArray) (a2 : ByteArray) : Option (ByteArray × l1Cur) :=
  (bif (a1.toList == (ByteArray.mk #[]).toList) then bd (cutS a2 0 1) (fun z22 => some (z22, a0)) else bd (PF.spec_l1Cur_pick a0 (a1.size : Int)) (fun r24 => bd (PF.spec_l1Cur_pick r24.2 (a2.size : Int)) (fun r32 => bd (cutS a2 r32.1 (a2.size : Int)) (fun z40 => bd (cutS z40 0 1) (fun z42 => bd (PF.spec_l1Cur_pick r32.2 3) (fun r44 => (bif (r44.1 == 0) then bd (cutS a1 0 r24.1) (fun z54 => bd (catS z54 z42) (fun z56 => bd (cutS a1 r24.1 (a1.size : Int)) (fun z58 => bd (catS z56 z58) (fun z60 => some (z60, r44.2))))) else (bif (r44.1 == 1) then bd (cutS a1 0 r24.1) (fun z67 => bd (catS z67 z42) (fun z69 => bd (cutS a1 (wr (r24.1 + 1)) (a1.size : Int)) (fun z71 => bd (catS z69 z71) (fun z73 => some (z73, r44.2))))) else bd (cutS a1 0 r24.1) (fun z79 => bd (cutS a1 (wr (r24.1 + 1)) (a1.size : Int)) (fun z81 => bd (catS z79 z81) (fun z83 => some (z83, r44.2))))))))))))

noncomputable def spec_l1Cur_formulaText (a0 : l1Cur) : Option (ByteArray × l1Cur) :=
  bd (PF.spec_l1Cur_formula a0) (fun r21 => bd (PF.spec_l1Cur_pick r21.2 16) (fun r29 => (bif (r29.1 == 0) then bd (PF.spec_l1Cur_spoilt r29.2 r21.1 (ByteArray.mk #[97, 98, 48, 49, 126, 40, 38, 124, 62, 41])) (fun r38 => some (r38.1, r38.2)) else (bif (r29.1 == 1) then bd (PF.spec_l1Cur_pick r29.2 4) (fun r47 => bdR (iter (S := ByteArray) (X := Empty) (fun s55 => (bif (decide ((s55.size : Int) < (wr (78 + r47.1)))) then bd (catS (ByteArray.mk #[126]) s55) (fun z74 => some (Lp.nx z74)) else some (Lp.bk s55))) r21.1) (fun s55 => some (s55, r47.2)) (fun x55 => nomatch x55)) else (bif (r29.1 == 2) then bd (PF.spec_l1Cur_of r29.2 [(ByteArray.mk #[]), (ByteArray.mk #[103]), (ByteArray.mk #[40, 97, 38, 98]), (ByteArray.mk #[97, 38, 98]), (ByteArray.mk #[40, 41]), (ByteArray.mk #[126]), (ByteArray.mk #[65])]) (fun r94 => some (r94.1, r94.2)) else some (r21.1, r29.2))))))

noncomputable def spec_DrawIsFormula (a0 : List Int) : Option ByteArray :=
  bd (PF.spec_l1Cur_formulaText (l1Cur.mk a0 0 0)) (fun r25 => some r25.1)

noncomputable def spec_DrawDefiningCnf (a0 : List Int) : Option ByteArray :=
  bd (PF.spec_DrawIsFormula a0) (fun r21 => some r21)

def impl_isLetter (a0 : Int) : Bool :=
  (bif (decide (97 ≤ a0)) then (decide (a0 < 103)) else false)

def impl_leaf (a0 : Int) : Option Fo :=
  bd (chrS a0) (fun z21 => some (Fo.node a0 Fo.nil Fo.nil z21))

def impl_not (a0 : Fo) : Option Fo :=
  bd (a0.get) (fun y21 => bd (catS (ByteArray.mk #[126]) y21.text) (fun z29 => some (Fo.node 126 a0 Fo.nil z29)))

def strings_Contains (a0 a1 : ByteArray) : Option Bool := hasS a0 a1

def impl_join (a0 : Int) (a1 : Fo) (a2 : Fo) : Option Fo :=
  bd (a1.get) (fun y15021 => bd (catS (ByteArray.mk #[40]) y15021.text) (fun z24021 => bd (chrS a0) (fun z30021 => bd (catS z24021 z30021) (fun z33021 => bd (a2.get) (fun y39021 => bd (catS z33021 y39021.text) (fun z48021 => bd (catS z48021 (ByteArray.mk #[41])) (fun z51021 => some (Fo.node a0 a1 a2 z51021))))))))

noncomputable def impl_parseFrom_B (rec_impl_parseFrom : ByteArray → Option (Fo × ByteArray × Bool)) (a0 : ByteArray) : Option (Fo × ByteArray × Bool) :=
  (bif (a0.toList == (ByteArray.mk #[]).toList) then some (Fo.nil, (ByteArray.mk #[]), false) else bd (ixS a0 0) (fun z23 => bd (cutS a0 1 (a0.size : Int)) (fun z25 => (bif (bif (bif (PF.impl_isLetter z23) then true else (z23 == 48)) then true else (z23 == 49)) then bd (PF.impl_leaf z23) (fun r54 => some (r54, z25, true)) else (bif (z23 == 126) then bd (rec_impl_parseFrom z25) (fun r63 => (bif (!r63.2.2) then some (Fo.nil, (ByteArray.mk #[]), false) else bd (PF.impl_not r63.1) (fun r72 => some (r72, r63.2.1, true)))) else (bif (!(z23 == 40)) then some (Fo.nil, (ByteArray.mk #[]), false) else bd (rec_impl_parseFrom z25) (fun r81 => bd (bif (bif (!r81.2.2) then true else (r81.2.1.toList == (ByteArray.mk #[]).toList)) then some true else bd (cutS r81.2.1 0 1) (fun z113 => bd (PF.strings_Contains (ByteArray.mk #[38, 124, 62]) z113) (fun r115 => some (!r115)))) (fun t106 => (bif t106 then some (Fo.nil, (ByteArray.mk #[]), false) else bd (ixS r81.2.1 0) (fun z124 => bd (cutS r81.2.1 1 (r81.2.1.size : Int)) (fun z126 => bd (rec_impl_parseFrom z126) (fun r128 => bd (bif (bif (!r128.2.2) then true else (r128.2.1.toList == (ByteArray.mk #[]).toList)) then some true else bd (ixS r128.2.1 0) (fun z157 => some (!(z157 == 41)))) (fun t150 => (bif t150 then some (Fo.nil, (ByteArray.mk #[]), false) else bd (PF.impl_join z124 r81.1 r128.1) (fun r12165 => bd (cutS r128.2.1 1 (r128.2.1.size : Int)) (fun z18165 => some (r12165, z18165, true)))))))))))))))))
noncomputable def impl_parseFrom_F : Nat → ByteArray → Option (Fo × ByteArray × Bool)
  | 0 => fun _ => none
  | n + 1 => impl_parseFrom_B (impl_parseFrom_F n)
noncomputable def impl_parseFrom (a0 : ByteArray) : Option (Fo × ByteArray × Bool) := impl_parseFrom_F deep a0

noncomputable def impl_parse (a0 : ByteArray) : Option (Fo × Bool) :=
  (bif (decide (80 < (a0.size : Int))) then some (Fo.nil, false) else bd (PF.impl_parseFrom a0) (fun r22 => (bif (bif (!r22.2.2) then true else (!(r22.2.1.toList == (ByteArray.mk #[]).toList))) then some (Fo.nil, false) else some (r22.1, true))))

noncomputable def impl_formula_collect_B (rec_impl_formula_collect : Fo → (List Fo) → Option (List Fo)) (a0 : Fo) (a1 : List Fo) : Option (List Fo) :=
  bd (app a1 [a0]) (fun xs26 => bd (a0.get) (fun y37 => bdR (S := (List Fo)) (X := Empty) ((bif (!y37.a.isNil) then bd (rec_impl_formula_collect y37.a xs26) (fun r64 => some (Rs.go r64)) else some (Rs.go xs26))) (fun s56 => (bif (!y37.b.isNil) then bd (rec_impl_formula_collect y37.b s56) (fun r82 => some r82) else some s56)) (fun x58 => nomatch x58)))
noncomputable def impl_formula_collect_F : Nat → Fo → (List Fo) → Option (List Fo)
  | 0 => fun _ _ => none
  | n + 1 => impl_formula_collect_B (impl_formula_collect_F n)
noncomputable def impl_formula_collect (a0 : Fo) (a1 : List Fo) : Option (List Fo) := impl_formula_collect_F deep a0 a1

noncomputable def slices_SortFunc_impl_formula_impl_formula (a0 : List Fo) (a1 : Fo → Fo → Option Int) : Option (List Fo) := sortF a1 a0

def cmp_isNaN_int (a0 : Int) : Bool :=
  (!(a0 == a0))

def cmp_Compare_int (a0 : Int) (a1 : Int) : Int :=
  (bif (PF.cmp_isNaN_int a0) then (bif (PF.cmp_isNaN_int a1) then 0 else (-1)) else (bif (PF.cmp_isNaN_int a1) then 1 else (bif (decide (a0 < a1)) then (-1) else (bif (decide (a1 < a0)) then 1 else 0))))

def strings_Compare (a0 a1 : ByteArray) : Int := cmpS a0 a1

def cmp_Or_int (a0 : List Int) : Option Int :=
  bdR (forL (S := Unit) (X := Int) a0 (fun i22 y21 s22 => (bif (!(y21 == 0)) then some (Lp.rt y21) else some (Lp.nx ()))) ()) (fun s22 => some 0) (fun x22 => some x22)

def impl_compareFormulas (a0 : ByteArray) (a1 : ByteArray) : Option Int :=
  bd (PF.cmp_Or_int [(PF.cmp_Compare_int (a0.size : Int) (a1.size : Int)), (PF.strings_Compare a0 a1)]) (fun r37 => some r37)

def impl_formula_parts_1 (a0 : Fo) (a1 : Fo) : Option Int :=
  bd (a0.get) (fun y22 => bd (a1.get) (fun y30 => bd (PF.impl_compareFormulas y22.text y30.text) (fun r38 => some r38)))

noncomputable def slices_CompactFunc_impl_formula_impl_formula (a0 : List Fo) (a1 : Fo → Fo → Option Bool) : Option (List Fo) :=
  (bif (decide ((len a0) < 2)) then some a0 else bdR (iter (S := Int) (X := (List Fo)) (fun s22 => (bif (decide (s22 < (len a0))) then bd (ix a0 s22) (fun x135203 => bd (ix a0 (wr (s22 - 1))) (fun x150203 => bd (a1 x135203 x150203) (fun r156197 => (bif r156197 then bd (cut a0 s22 (len a0)) (fun xs162208 => bdR (iter (S := ((List Fo) × Int × Int)) (X := Empty) (fun s162213 => (bif (decide (s162213.2.2 < ((len s162213.1) - s22))) then bd (ixT s162213.1 s22 s162213.2.2) (fun x258335 => bd (ixT s162213.1 s22 (wr (s162213.2.2 - 1))) (fun x273335 => bd (a1 x258335 x273335) (fun r279329 => (bif (!r279329) then bd (ixT s162213.1 s22 s162213.2.2) (fun x288348 => bd (ix s162213.1 s162213.2.1) (fun x288358 => bd (put s162213.1 s162213.2.1 x288348) (fun xs288365 => some (Lp.nx (xs288365, (wr (s162213.2.1 + 1)), (wr (s162213.2.2 + 1))))))) else some (Lp.nx (s162213.1, s162213.2.1, (wr (s162213.2.2 + 1)))))))) else some (Lp.bk (s162213.1, s162213.2.1, s162213.2.2)))) (a0, s22, 1)) (fun s162213 => bd (cut s162213.1 s162213.2.1 (len s162213.1)) (fun xs288378 => bd (cut (clearL Fo.nil s162213.1 s162213.2.1) 0 s162213.2.1) (fun xs288388 => some (Lp.rt xs288388)))) (fun x162213 => nomatch x162213)) else some (Lp.nx (wr (s22 + 1))))))) else some (Lp.bk s22))) 1) (fun s22 => some a0) (fun x22 => some x22))

def impl_formula_parts_2 (a0 : Fo) (a1 : Fo) : Option Bool :=
  bd (a0.get) (fun y22 => bd (a1.get) (fun y30 => some (y22.text.toList == y30.text.toList)))

noncomputable def impl_formula_parts (a0 : Fo) : Option (List Fo) :=
  bd (PF.impl_formula_collect a0 []) (fun r23 => bd (PF.slices_SortFunc_impl_formula_impl_formula r23 (fun x0 x1 => PF.impl_formula_parts_1 x0 x1)) (fun r33 => bd (PF.slices_CompactFunc_impl_formula_impl_formula r33 (fun x0 x1 => PF.impl_formula_parts_2 x0 x1)) (fun r41 => some r41)))

def impl_defined (a0 : Int) (a1 : Int) (a2 : Int) (a3 : Int) : (List (List Int)) :=
  (bif (a0 == 48) then [[(wr (-a1))]] else (bif (a0 == 49) then [[a1]] else (bif (a0 == 126) then [[a2, a1], [(wr (-a2)), (wr (-a1))]] else (bif (a0 == 38) then [[a2, (wr (-a1))], [a3, (wr (-a1))], [(wr (-a2)), (wr (-a3)), a1]] else (bif (a0 == 124) then [[(wr (-a2)), a1], [(wr (-a3)), a1], [a2, a3, (wr (-a1))]] else [[a2, a1], [(wr (-a3)), a1], [(wr (-a2)), a3, (wr (-a1))]])))))

def slices_Clone_int_int (a0 : List Int) : Option (List Int) :=
  bd (app [] a0) (fun xs30 => some xs30)

noncomputable def slices_SortFunc_int_int (a0 : List Int) (a1 : Int → Int → Option Int) : Option (List Int) := sortF a1 a0

def impl_abs (a0 : Int) : Int :=
  (mx a0 (wr (-a0)))

def impl_compareLiterals (a0 : Int) (a1 : Int) : Option Int :=
  bd (PF.cmp_Or_int [(PF.cmp_Compare_int (PF.impl_abs a0) (PF.impl_abs a1)), (PF.cmp_Compare_int a1 a0)]) (fun r43 => some r43)

def slices_Compact_int_int (a0 : List Int) : Option (List Int) := some (compactL a0)

noncomputable def impl_clause (a0 : List Int) : Option ((List Int) × Bool) :=
  bd (PF.slices_Clone_int_int a0) (fun r21 => bd (PF.slices_SortFunc_int_int r21 (fun x0 x1 => PF.impl_compareLiterals x0 x1)) (fun r31 => bd (PF.slices_Compact_int_int r31) (fun r39 => bdR (iter (S := Int) (X := ((List Int) × Bool)) (fun s49 => (bif (decide (s49 < (len r39))) then bd (ix r39 s49) (fun x94 => bd (ix r39 (wr (s49 - 1))) (fun x102 => (bif (x94 == (wr (-x102))) then some (Lp.rt ([], false)) else some (Lp.nx (wr (s49 + 1)))))) else some (Lp.bk s49))) 1) (fun s49 => some (r39, true)) (fun x49 => some x49))))

noncomputable def impl_DefiningCnf (a0 : ByteArray) : Option (Cnf × Bool) :=
  bd (PF.impl_parse a0) (fun r27 => (bif (!r27.2) then some ((Cnf.mk 0 []), false) else bdR (iter (S := ((List (ByteArray × Int)) × Int)) (X := Empty) (fun s64 => (bif (PF.impl_isLetter s64.2) then bd (chrS s64.2) (fun z126 => some (Lp.nx ((mput s64.1 z126 (wr ((wrk true 64 (wrk false 8 (s64.2 - 97))) + 1))), (wrk false 8 (s64.2 + 1))))) else some (Lp.bk (s64.1, s64.2)))) (([] : List (ByteArray × Int)), 97)) (fun s64 => bd (PF.impl_formula_parts r27.1) (fun r144 => bd (chk (len r144)) (fun m154 => bdR (forR (S := ((List (List Int)) × (List (ByteArray × Int)) × Int)) (X := Empty) 0 m154 (fun i155 s155 => bd (ix r144 ((i155 : Nat) : Int)) (fun x138905 => bd (x138905.get) (fun y138909 => (bif (PF.impl_isLetter y138909.op) then some (Lp.nx (s155.1, s155.2.1, s155.2.2)) else bdR (S := (Fo × Int)) (X := Empty) ((bif (!y138909.a.isNil) then bd (y138909.a.get) (fun y168955 => some (Rs.go (x138905, ((mget (mput s155.2.1 y138909.text (wr (s155.2.2 + 1))) y168955.text).getD 0)))) else some (Rs.go (x138905, 0)))) (fun s168949 => bd (s168949.1.get) (fun y168978 => bdR (S := (Fo × Int)) (X := Empty) ((bif (!y168978.b.isNil) then bd (y168978.b.get) (fun y169001 => some (Rs.go (s168949.1, ((mget (mput s155.2.1 y138909.text (wr (s155.2.2 + 1))) y169001.text).getD 0)))) else some (Rs.go (s168949.1, 0)))) (fun s168995 => bd (s168995.1.get) (fun y175024 => bd (chk (len (PF.impl_defined y175024.op (wr (s155.2.2 + 1)) s168949.2 s168995.2))) (fun m208044 => bdR (forR (S := (List (List Int))) (X := Empty) 0 m208044 (fun i208045 s208045 => bd (ix (PF.impl_defined y175024.op (wr (s155.2.2 + 1)) s168949.2 s168995.2) ((i208045 : Nat) : Int)) (fun x208263 => bd (PF.impl_clause x208263) (fun r208267 => (bif r208267.2 then bd (app s208045 [r208267.1]) (fun xs208289 => some (Lp.nx xs208289)) else some (Lp.nx s208045))))) s155.1) (fun s208045 => some (Lp.nx (s208045, (mput s155.2.1 y138909.text (wr (s155.2.2 + 1))), (wr (s155.2.2 + 1))))) (fun x208045 => nomatch x208045)))) (fun x168997 => nomatch x168997))) (fun x168951 => nomatch x168951))))) ([], s64.1, 6)) (fun s155 => (bif (decide (12 < s155.2.2)) then some ((Cnf.mk 0 []), false) else bd (app s155.1 [[((mget s155.2.1 a0).getD 0)]]) (fun xs208370 => some ((Cnf.mk s155.2.2 xs208370), true)))) (fun x155 => nomatch x155)))) (fun x64 => nomatch x64)))

def spec_l22Before (a0 : ByteArray) (a1 : ByteArray) : Bool :=
  (bif (!((a0.size : Int) == (a1.size : Int))) then (decide ((a0.size : Int) < (a1.size : Int))) else (ltS a0 a1))

noncomputable def spec_l22Put (a0 : List ByteArray) (a1 : ByteArray) : Option (List ByteArray) :=
  bdR (iter (S := Int) (X := Empty) (fun s21 => bd (bif (decide (s21 < (len a0))) then bd (ix a0 s21) (fun x96 => some (PF.spec_l22Before x96 a1)) else some false) (fun t83 => (bif t83 then some (Lp.nx (wr (s21 + 1))) else some (Lp.bk s21)))) 0) (fun s21 => bd (bif (decide (s21 < (len a0))) then bd (ix a0 s21) (fun x136 => some (x136.toList == a1.toList)) else some false) (fun t123 => (bif t123 then some a0 else bd (cut a0 0 s21) (fun xs12143 => bd (app [] xs12143) (fun xs15143 => bd (app xs15143 [a1]) (fun xs24143 => bd (cut a0 s21 (len a0)) (fun xs33143 => bd (app xs24143 xs33143) (fun xs36143 => some xs36143)))))))) (fun x21 => nomatch x21)

noncomputable def spec_l22Parts (a0 : ByteArray) : Option (Int × ByteArray × ByteArray) :=
  bd (ixS a0 0) (fun z21 => (bif (z21 == 126) then bd (cutS a0 1 (a0.size : Int)) (fun z25 => some (126, z25, (ByteArray.mk #[]))) else bd (ixS a0 0) (fun z30 => (bif (!(z30 == 40)) then bd (ixS a0 0) (fun z33 => some (z33, (ByteArray.mk #[]), (ByteArray.mk #[]))) else bd (PF.spec_l22End a0 1) (fun r35 => bd (ixS a0 r35) (fun z41 => bd (cutS a0 1 r35) (fun z43 => bd (cutS a0 (wr (r35 + 1)) (wr ((a0.size : Int) - 1))) (fun z45 => some (z41, z43, z45)))))))))

noncomputable def spec_l22All_B (rec_spec_l22All : (List ByteArray) → ByteArray → Option (List ByteArray)) (a0 : List ByteArray) (a1 : ByteArray) : Option (List ByteArray) :=
  bd (PF.spec_l22Put a0 a1) (fun r21 => bd (PF.spec_l22Parts a1) (fun r29 => (bif (r29.1 == 126) then bd (rec_spec_l22All r21 r29.2.1) (fun r35 => some r35) else bdR (S := Bool) (X := Empty) ((bif (r29.1 == 38) then some (Rs.go (r29.1 == 38)) else (bif (r29.1 == 124) then some (Rs.go (r29.1 == 124)) else some (Rs.go (r29.1 == 62))))) (fun s45 => (bif s45 then bd (rec_spec_l22All r21 r29.2.1) (fun r60 => bd (rec_spec_l22All r60 r29.2.2) (fun r68 => some r68)) else some r21)) (fun x47 => nomatch x47))))
noncomputable def spec_l22All_F : Nat → (List ByteArray) → ByteArray → Option (List ByteArray)
  | 0 => fun _ _ => none
  | n + 1 => spec_l22All_B (spec_l22All_F n)
noncomputable def spec_l22All (a0 : List ByteArray) (a1 : ByteArray) : Option (List ByteArray) := spec_l22All_F deep a0 a1

def spec_l22Letter (a0 : ByteArray) : Option Bool :=
  bd (bif ((a0.size : Int) == 1) then bd (ixS a0 0) (fun z30 => some (decide (97 ≤ z30))) else some false) (fun t23 => bd (bif t23 then bd (ixS a0 0) (fun z43 => some (decide (z43 ≤ 102))) else some false) (fun t36 => some t36))

def spec_l22Var (a0 : List ByteArray) (a1 : ByteArray) : Option Int :=
  bd (PF.spec_l22Letter a1) (fun r21 => (bif r21 then bd (ixS a1 0) (fun z27 => some (wr ((wrk true 64 (wrk false 8 (z27 - 97))) + 1))) else bdR (forL (S := Unit) (X := Int) a0 (fun i30 y29 s30 => (bif (y29.toList == a1.toList) then some (Lp.rt (wr (((i30 : Nat) : Int) + 7))) else some (Lp.nx ()))) ()) (fun s30 => some 0) (fun x30 => some x30)))

def spec_l1Own (a0 : List Int) : Option (List Int) :=
  bd (app [] a0) (fun xs26 => some xs26)

def spec_l1Has (a0 : List Int) (a1 : Int) : Option Bool :=
  bdR (forL (S := Unit) (X := Bool) a0 (fun i22 y21 s22 => (bif (y21 == a1) then some (Lp.rt true) else some (Lp.nx ()))) ()) (fun s22 => some false) (fun x22 => some x22)

def spec_l2Has (a0 : List Int) (a1 : Int) : Option Bool :=
  bd (PF.spec_l1Has a0 a1) (fun r21 => some r21)

def spec_l2Var (a0 : Int) : Int :=
  (bif (decide (a0 < 0)) then (wr (-a0)) else a0)

noncomputable def spec_l2Put (a0 : List Int) (a1 : Int) : Option (List Int) :=
  bdR (iter (S := Int) (X := Empty) (fun s21 => bd (bif (decide (s21 < (len a0))) then bd (ix a0 s21) (fun x105 => some (decide ((PF.spec_l2Var x105) < (PF.spec_l2Var a1)))) else some false) (fun t92 => (bif t92 then some (Lp.nx (wr (s21 + 1))) else some (Lp.bk s21)))) 0) (fun s21 => bd (cut a0 0 s21) (fun xs9127 => bd (PF.spec_l1Own xs9127) (fun r12127 => bd (app r12127 [a1]) (fun xs21127 => bd (cut a0 s21 (len a0)) (fun xs30127 => bd (app xs21127 xs30127) (fun xs33127 => some xs33127)))))) (fun x21 => nomatch x21)

noncomputable def spec_l2Join (a0 : List Int) (a1 : List Int) : Option ((List Int) × Bool) :=
  bd (PF.spec_l1Own a0) (fun r21 => bdR (forL (S := (List Int)) (X := ((List Int) × Bool)) a1 (fun i32 y31 s32 => bd (PF.spec_l2Has s32 (wr (-y31))) (fun r200 => (bif r200 then some (Lp.rt ([], false)) else bd (PF.spec_l2Has s32 y31) (fun r222 => (bif (!r222) then bd (PF.spec_l2Put s32 y31) (fun r239 => some (Lp.nx r239)) else some (Lp.nx s32)))))) r21) (fun s32 => some (s32, true)) (fun x32 => some x32))

noncomputable def spec_l2Of (a0 : List Int) : Option ((List Int) × Bool) :=
  bdR (forL (S := (List Int)) (X := ((List Int) × Bool)) a0 (fun i27 y26 s27 => bd (PF.spec_l2Join s27 [y26]) (fun r159 => (bif (!r159.2) then some (Lp.rt ([], false)) else some (Lp.nx r159.1)))) []) (fun s27 => some (s27, true)) (fun x27 => some x27)

noncomputable def spec_l22Defining (a0 : List ByteArray) (a1 : ByteArray) (a2 : Int) : Option (List (List Int)) :=
  bd (PF.spec_l22Parts a1) (fun r21 => bdR (S := Int) (X := Empty) ((bif (!(r21.2.1.toList == (ByteArray.mk #[]).toList)) then bd (PF.spec_l22Var a0 r21.2.1) (fun r36 => some (Rs.go r36)) else some (Rs.go 0))) (fun s32 => bdR (S := Int) (X := Empty) ((bif (!(r21.2.2.toList == (ByteArray.mk #[]).toList)) then bd (PF.spec_l22Var a0 r21.2.2) (fun r62 => some (Rs.go r62)) else some (Rs.go 0))) (fun s58 => bdR (S := (List (List Int))) (X := Empty) ((bif (r21.1 == 48) then some (Rs.go [[(wr (-a2))]]) else (bif (r21.1 == 49) then some (Rs.go [[a2]]) else (bif (r21.1 == 126) then some (Rs.go [[s32, a2], [(wr (-s32)), (wr (-a2))]]) else (bif (r21.1 == 38) then some (Rs.go [[s32, (wr (-a2))], [s58, (wr (-a2))], [(wr (-s32)), (wr (-s58)), a2]]) else (bif (r21.1 == 124) then some (Rs.go [[(wr (-s32)), a2], [(wr (-s58)), a2], [s32, s58, (wr (-a2))]]) else (bif (r21.1 == 62) then some (Rs.go [[s32, a2], [(wr (-s58)), a2], [(wr (-s32)), s58, (wr (-a2))]]) else some (Rs.go [])))))))) (fun s251 => bdR (iter (S := ((List (List Int)) × Int)) (X := Empty) (fun s439 => (bif (decide (s439.2 < (len s251))) then bd (ix s251 s439.2) (fun x513 => bd (PF.spec_l2Of x513) (fun r517 => (bif r517.2 then bd (app s439.1 [r517.1]) (fun xs539 => some (Lp.nx (xs539, (wr (s439.2 + 1))))) else some (Lp.nx (s439.1, (wr (s439.2 + 1))))))) else some (Lp.bk (s439.1, s439.2)))) ([], 0)) (fun s439 => some s439.1) (fun x439 => nomatch x439)) (fun x253 => nomatch x253)) (fun x60 => nomatch x60)) (fun x34 => nomatch x34))

noncomputable def spec_DefiningCnf (a0 : ByteArray) : Option (Cnf × Bool) :=
  bd (PF.spec_l22Good a0) (fun r27 => (bif (!r27) then some ((Cnf.mk 0 []), false) else bd (PF.spec_l22All [] a0) (fun r54 => bdR (forL (S := (List ByteArray)) (X := Empty) r54 (fun i68 y67 s68 => bd (PF.spec_l22Letter y67) (fun r133 => (bif (!r133) then bd (app s68 [y67]) (fun xs150 => some (Lp.nx xs150)) else some (Lp.nx s68)))) []) (fun s68 => (bif (decide (6 < (len s68))) then some ((Cnf.mk 0 []), false) else bdR (iter (S := ((List (List Int)) × Int)) (X := Empty) (fun s196 => (bif (decide (s196.2 < (len s68))) then bd (ix s68 s196.2) (fun x153302 => bd (PF.spec_l22Defining s68 x153302 (wr (s196.2 + 7))) (fun r165301 => bd (app s196.1 r165301) (fun xs168296 => some (Lp.nx (xs168296, (wr (s196.2 + 1))))))) else some (Lp.bk (s196.1, s196.2)))) ([], 0)) (fun s196 => bd (PF.spec_l22Var s68 a0) (fun r195327 => bd (app s196.1 [[r195327]]) (fun xs204322 => some ((Cnf.mk (wr (6 + (len s68))) xs204322), true)))) (fun x196 => nomatch x196))) (fun x68 => nomatch x68))))

def laws_rInts (a0 : List Int) (a1 : List Int) : Option Bool :=
  (bif (!((len a0) == (len a1))) then some false else bdR (forL (S := Unit) (X := Bool) a0 (fun i23 y22 s23 => bd (ix a1 ((i23 : Nat) : Int)) (fun x72 => (bif (!(y22 == x72)) then some (Lp.rt false) else some (Lp.nx ())))) ()) (fun s23 => some true) (fun x23 => some x23))

def laws_rTable (a0 : List (List Int)) (a1 : List (List Int)) : Option Bool :=
  (bif (!((len a0) == (len a1))) then some false else bdR (forL (S := Unit) (X := Bool) a0 (fun i23 y22 s23 => bd (ix a1 ((i23 : Nat) : Int)) (fun x80 => bd (PF.laws_rInts y22 x80) (fun r84 => (bif (!r84) then some (Lp.rt false) else some (Lp.nx ()))))) ()) (fun s23 => some true) (fun x23 => some x23))

def laws_rCnf (a0 : Cnf) (a1 : Cnf) : Option Bool :=
  bd (bif (a0.vars == a1.vars) then bd (PF.laws_rTable a0.clauses a1.clauses) (fun r49 => some r49) else some false) (fun t42 => some t42)

noncomputable def impl_CircuitOfFormula (a0 : ByteArray) : Option ((List Gate) × Bool) :=
  bd (PF.impl_parse a0) (fun r21 => (bif (!r21.2) then some ([], false) else bd (PF.impl_formula_parts r21.1) (fun r36 => bd (chk (len r36)) (fun m46 => bdR (forR (S := ((List (ByteArray × Int)) × (List Gate))) (X := Empty) 0 m46 (fun i47 s47 => bd (ix r36 ((i47 : Nat) : Int)) (fun x264416 => bd (x264416.get) (fun y264424 => bdR (S := ((List Gate) × Int × Int × Int × Fo)) (X := Empty) ((bif (y264424.op == 48) then some (Rs.go (s47.2, 3, 0, 0, x264416)) else (bif (y264424.op == 49) then some (Rs.go (s47.2, 2, 0, 0, x264416)) else (bif (y264424.op == 126) then bd (y264424.a.get) (fun y396539 => some (Rs.go (s47.2, 4, ((mget s47.1 y396539.text).getD 0), 0, x264416))) else (bif (y264424.op == 38) then bd (y264424.a.get) (fun y414551 => bd (y264424.b.get) (fun y441551 => some (Rs.go (s47.2, 5, ((mget s47.1 y414551.text).getD 0), ((mget s47.1 y441551.text).getD 0), x264416)))) else (bif (y264424.op == 124) then bd (y264424.a.get) (fun y480567 => bd (y264424.b.get) (fun y507567 => some (Rs.go (s47.2, 6, ((mget s47.1 y480567.text).getD 0), ((mget s47.1 y507567.text).getD 0), x264416)))) else (bif (y264424.op == 62) then bd (y264424.a.get) (fun y528583 => bd (app s47.2 [(Gate.mk 4 ((mget s47.1 y528583.text).getD 0) 0)]) (fun xs528596 => bd (y264424.b.get) (fun y528607 => some (Rs.go (xs528596, 6, (wr ((len xs528596) - 1)), ((mget s47.1 y528607.text).getD 0), x264416))))) else some (Rs.go (s47.2, 1, (wr ((wrk true 64 (wrk false 8 (y264424.op - 97))) + 1)), 0, x264416))))))))) (fun s396521 => bd (app s396521.1 [(Gate.mk s396521.2.1 s396521.2.2.1 s396521.2.2.2.1)]) (fun xs528638 => bd (s396521.2.2.2.2.get) (fun y528649 => some (Lp.nx ((mput s47.1 y528649.text (wr ((len xs528638) - 1))), xs528638))))) (fun x396523 => nomatch x396523)))) (([] : List (ByteArray × Int)), [])) (fun s47 => (bif (decide (200 < (len s47.2))) then some ([], false) else some (s47.2, true))) (fun x47 => nomatch x47)))))

noncomputable def spec_CircuitOfFormula (a0 : ByteArray) : Option ((List Gate) × Bool) :=
  bd (PF.spec_l22Good a0) (fun r26 => (bif (!r26) then some ([], false) else bd (PF.spec_l22All [] a0) (fun r42 => bd (mk2 (0 : Int) (len r42) (len r42)) (fun xs50 => bdR (forL (S := ((List Int) × (List Gate))) (X := Empty) r42 (fun i61 y60 s61 => bd (PF.spec_l22Parts y60) (fun r812 => bd (chk ((i61 : Nat) : Int)) (fun m817 => bdR (forR (S := (Int × Int)) (X := Empty) 0 m817 (fun i818 s818 => bd (ix r42 ((i818 : Nat) : Int)) (fun x906 => (bif (x906.toList == r812.2.1.toList) then bd (ix s61.1 ((i818 : Nat) : Int)) (fun x915 => bd (ix r42 ((i818 : Nat) : Int)) (fun x923 => (bif (x923.toList == r812.2.2.toList) then bd (ix s61.1 ((i818 : Nat) : Int)) (fun x932 => some (Lp.nx (x915, x932))) else some (Lp.nx (x915, s818.2))))) else bd (ix r42 ((i818 : Nat) : Int)) (fun x940 => (bif (x940.toList == r812.2.2.toList) then bd (ix s61.1 ((i818 : Nat) : Int)) (fun x949 => some (Lp.nx (s818.1, x949))) else some (Lp.nx (s818.1, s818.2))))))) (0, 0)) (fun s818 => (bif (r812.1 == 48) then bd (app s61.2 [(Gate.mk 3 0 0)]) (fun xs970 => bd (ix s61.1 ((i61 : Nat) : Int)) (fun x987 => bd (put s61.1 ((i61 : Nat) : Int) (wr ((len xs970) - 1))) (fun xs992 => some (Lp.nx (xs992, xs970))))) else (bif (r812.1 == 49) then bd (app s61.2 [(Gate.mk 2 0 0)]) (fun xs1003 => bd (ix s61.1 ((i61 : Nat) : Int)) (fun x1020 => bd (put s61.1 ((i61 : Nat) : Int) (wr ((len xs1003) - 1))) (fun xs1025 => some (Lp.nx (xs1025, xs1003))))) else (bif (r812.1 == 126) then bd (app s61.2 [(Gate.mk 4 s818.1 0)]) (fun xs1036 => bd (ix s61.1 ((i61 : Nat) : Int)) (fun x1053 => bd (put s61.1 ((i61 : Nat) : Int) (wr ((len xs1036) - 1))) (fun xs1058 => some (Lp.nx (xs1058, xs1036))))) else (bif (r812.1 == 38) then bd (app s61.2 [(Gate.mk 5 s818.1 s818.2)]) (fun xs1069 => bd (ix s61.1 ((i61 : Nat) : Int)) (fun x1086 => bd (put s61.1 ((i61 : Nat) : Int) (wr ((len xs1069) - 1))) (fun xs1091 => some (Lp.nx (xs1091, xs1069))))) else (bif (r812.1 == 124) then bd (app s61.2 [(Gate.mk 6 s818.1 s818.2)]) (fun xs1102 => bd (ix s61.1 ((i61 : Nat) : Int)) (fun x1119 => bd (put s61.1 ((i61 : Nat) : Int) (wr ((len xs1102) - 1))) (fun xs1124 => some (Lp.nx (xs1124, xs1102))))) else (bif (r812.1 == 62) then bd (app s61.2 [(Gate.mk 4 s818.1 0)]) (fun xs1135 => bd (app xs1135 [(Gate.mk 6 (wr ((len xs1135) - 1)) s818.2)]) (fun xs1151 => bd (ix s61.1 ((i61 : Nat) : Int)) (fun x1168 => bd (put s61.1 ((i61 : Nat) : Int) (wr ((len xs1151) - 1))) (fun xs1173 => some (Lp.nx (xs1173, xs1151)))))) else bd (app s61.2 [(Gate.mk 1 (wr ((wrk true 64 (wrk false 8 (r812.1 - 97))) + 1)) 0)]) (fun xs1183 => bd (ix s61.1 ((i61 : Nat) : Int)) (fun x1200 => bd (put s61.1 ((i61 : Nat) : Int) (wr ((len xs1183) - 1))) (fun xs1205 => some (Lp.nx (xs1205, xs1183)))))))))))) (fun x818 => nomatch x818)))) (xs50, [])) (fun s61 => some (s61.2, true)) (fun x61 => nomatch x61)))))

noncomputable def impl_IsFormula (a0 : ByteArray) : Option Bool :=
  bd (PF.impl_parse a0) (fun r21 => some r21.2)

def laws_rGates (a0 : List Gate) (a1 : List Gate) : Option Bool :=
  (bif (!((len a0) == (len a1))) then some false else bdR (forL (S := Unit) (X := Bool) a0 (fun i23 y22 s23 => bd (ix a1 ((i23 : Nat) : Int)) (fun x72 => (bif (!((y22.kind == x72.kind) && ((y22.a == x72.a) && (y22.b == x72.b)))) then some (Lp.rt false) else some (Lp.nx ())))) ()) (fun s23 => some true) (fun x23 => some x23))

noncomputable def impl_formula_value_B (rec_impl_formula_value : Fo → Int → Option Bool) (a0 : Fo) (a1 : Int) : Option Bool :=
  bd (a0.get) (fun y21 => bdR (S := Bool) (X := Empty) ((bif (y21.op == 48) then some (Rs.go (y21.op == 48)) else some (Rs.go (y21.op == 49)))) (fun s30 => (bif s30 then some (y21.op == 49) else (bif (y21.op == 126) then bd (rec_impl_formula_value y21.a a1) (fun r45 => some (!r45)) else (bif (y21.op == 38) then bd (rec_impl_formula_value y21.a a1) (fun r51 => bd (bif r51 then bd (rec_impl_formula_value y21.b a1) (fun r68 => some r68) else some false) (fun t61 => some t61)) else (bif (y21.op == 124) then bd (rec_impl_formula_value y21.a a1) (fun r75 => bd (bif r75 then some true else bd (rec_impl_formula_value y21.b a1) (fun r92 => some r92)) (fun t85 => some t85)) else (bif (y21.op == 62) then bd (rec_impl_formula_value y21.a a1) (fun r99 => bd (bif (!r99) then some true else bd (rec_impl_formula_value y21.b a1) (fun r116 => some r116)) (fun t109 => some t109)) else bd (nn (wrk false 8 (y21.op - 97))) (fun u123 => some ((andK true 64 (shrK 64 a1 (wrk false 8 (y21.op - 97))) 1) == 1)))))))) (fun x32 => nomatch x32))
noncomputable def impl_formula_value_F : Nat → Fo → Int → Option Bool
  | 0 => fun _ _ => none
  | n + 1 => impl_formula_value_B (impl_formula_value_F n)
noncomputable def impl_formula_value (a0 : Fo) (a1 : Int) : Option Bool := impl_formula_value_F deep a0 a1

noncomputable def impl_CountModels (a0 : ByteArray) : Option (Int × Bool) :=
  bd (PF.impl_parse a0) (fun r21 => (bif (!r21.2) then some (0, false) else bdR (forR (S := Int) (X := Empty) 0 64 (fun i30 s30 => bd (PF.impl_formula_value r21.1 ((i30 : Nat) : Int)) (fun r53 => (bif r53 then some (Lp.nx (wr (s30 + 1))) else some (Lp.nx s30)))) 0) (fun s30 => some (s30, true)) (fun x30 => nomatch x30)))

def impl_within (a0 : Int) (a1 : Int) (a2 : Int) : Bool :=
  (bif (decide (a1 ≤ a0)) then (decide (a0 ≤ a2)) else false)

def impl_isVar (a0 : Int) (a1 : Int) : Bool :=
  (PF.impl_within a1 1 a0)

def impl_gateOk (a0 : Int) (a1 : Int) (a2 : Gate) : Option Bool :=
  (bif (a2.kind == 1) then some (bif (PF.impl_isVar a0 a2.a) then (a2.b == 0) else false) else bdR (S := Bool) (X := Empty) ((bif (a2.kind == 2) then some (Rs.go (a2.kind == 2)) else some (Rs.go (a2.kind == 3)))) (fun s42 => (bif s42 then some (bif (a2.a == 0) then (a2.b == 0) else false) else (bif (a2.kind == 4) then some (bif (PF.impl_within a2.a 0 (wr (a1 - 1))) then (a2.b == 0) else false) else bdR (S := Bool) (X := Empty) ((bif (a2.kind == 5) then some (Rs.go (a2.kind == 5)) else some (Rs.go (a2.kind == 6)))) (fun s77 => (bif s77 then some (bif (PF.impl_within a2.a 0 (wr (a1 - 1))) then (PF.impl_within a2.b 0 (wr (a1 - 1))) else false) else some false)) (fun x79 => nomatch x79)))) (fun x44 => nomatch x44))

def impl_varsOk (a0 : Int) : Bool :=
  (PF.impl_within a0 0 12)

def impl_IsCircuit (a0 : Int) (a1 : List Gate) : Option Bool :=
  bdR (forL (S := Unit) (X := Bool) a1 (fun i22 y21 s22 => bd (PF.impl_gateOk a0 ((i22 : Nat) : Int) y21) (fun r83 => (bif (!r83) then some (Lp.rt false) else some (Lp.nx ())))) ()) (fun s22 => some (bif (PF.impl_varsOk a0) then (PF.impl_within (len a1) 1 200) else false)) (fun x22 => some x22)

def impl_gateValues (a0 : List Gate) (a1 : Int) : Option (List Bool) :=
  bd (mk2 (false : Bool) (len a0) (len a0)) (fun xs21 => bdR (forL (S := (List Bool)) (X := Empty) a0 (fun i32 y31 s32 => (bif (y31.kind == 1) then bd (nn (wr (y31.a - 1))) (fun u466 => bd (ix s32 ((i32 : Nat) : Int)) (fun x473 => bd (put s32 ((i32 : Nat) : Int) ((andK true 64 (shrK 64 a1 (wr (y31.a - 1))) 1) == 1)) (fun xs478 => some (Lp.nx xs478)))) else (bif (y31.kind == 2) then bd (ix s32 ((i32 : Nat) : Int)) (fun x490 => bd (put s32 ((i32 : Nat) : Int) true) (fun xs495 => some (Lp.nx xs495))) else (bif (y31.kind == 4) then bd (ix s32 y31.a) (fun x507 => bd (ix s32 ((i32 : Nat) : Int)) (fun x515 => bd (put s32 ((i32 : Nat) : Int) (!x507)) (fun xs520 => some (Lp.nx xs520)))) else (bif (y31.kind == 5) then bd (ix s32 y31.a) (fun x532 => bd (bif x532 then bd (ix s32 y31.b) (fun x555 => some x555) else some false) (fun t542 => bd (ix s32 ((i32 : Nat) : Int)) (fun x571 => bd (put s32 ((i32 : Nat) : Int) t542) (fun xs576 => some (Lp.nx xs576))))) else (bif (y31.kind == 6) then bd (ix s32 y31.a) (fun x588 => bd (bif x588 then some true else bd (ix s32 y31.b) (fun x611 => some x611)) (fun t598 => bd (ix s32 ((i32 : Nat) : Int)) (fun x627 => bd (put s32 ((i32 : Nat) : Int) t598) (fun xs632 => some (Lp.nx xs632))))) else some (Lp.nx s32))))))) xs21) (fun s32 => some s32) (fun x32 => nomatch x32))

def impl_circuitValue (a0 : List Gate) (a1 : Int) : Option Bool :=
  bd (PF.impl_gateValues a0 a1) (fun r21 => bd (ix r21 (wr ((len a0) - 1))) (fun x37 => some x37))

def impl_CountTrue (a0 : Int) (a1 : List Gate) : Option (Int × Bool) :=
  bd (PF.impl_IsCircuit a0 a1) (fun r21 => (bif (!r21) then some (0, false) else bd (nn a0) (fun u28 => bd (chk (shlK true 64 1 a0)) (fun m29 => bdR (forR (S := Int) (X := Empty) 0 m29 (fun i30 s30 => bd (PF.impl_circuitValue a1 ((i30 : Nat) : Int)) (fun r55 => (bif r55 then some (Lp.nx (wr (s30 + 1))) else some (Lp.nx s30)))) 0) (fun s30 => some (s30, true)) (fun x30 => nomatch x30)))))

noncomputable def impl_FormulaValue (a0 : ByteArray) (a1 : Int) : Option (Bool × Bool) :=
  bd (PF.impl_parse a0) (fun r21 => (bif (bif (!r21.2) then true else (!(PF.impl_within a1 0 63))) then some (false, false) else bd (PF.impl_formula_value r21.1 a1) (fun r46 => some (r46, true))))

def impl_bitsOk (a0 : Int) (a1 : Int) : Option Bool :=
  bd (nn a0) (fun u22 => some (PF.impl_within a1 0 (wr ((shlK true 64 1 a0) - 1))))

def impl_CircuitValue (a0 : Int) (a1 : List Gate) (a2 : Int) : Option (Bool × Bool) :=
  bd (PF.impl_IsCircuit a0 a1) (fun r21 => bd (bif (!r21) then some true else bd (PF.impl_bitsOk a0 a2) (fun r38 => some (!r38))) (fun t31 => (bif t31 then some (false, false) else bd (PF.impl_circuitValue a1 a2) (fun r47 => some (r47, true)))))

def impl_isLiteral (a0 : Int) (a1 : Int) : Bool :=
  (bif (!(a1 == 0)) then (PF.impl_within a1 (wr (-a0)) a0) else false)

def impl_IsClause (a0 : Int) (a1 : List Int) : Option Bool :=
  bdR (forL (S := Unit) (X := Bool) a1 (fun i22 y21 s22 => bd (bif (!(PF.impl_isLiteral a0 y21)) then some true else bd (bif (decide (0 < ((i22 : Nat) : Int))) then bd (ix a1 (wr (((i22 : Nat) : Int) - 1))) (fun x192 => some (decide ((PF.impl_abs y21) ≤ (PF.impl_abs x192)))) else some false) (fun t179 => some t179)) (fun t164 => (bif t164 then some (Lp.rt false) else some (Lp.nx ())))) ()) (fun s22 => some (PF.impl_varsOk a0)) (fun x22 => some x22)

def impl_IsCnf (a0 : Cnf) : Option Bool :=
  bdR (forL (S := Unit) (X := Bool) a0.clauses (fun i30 y29 s30 => bd (PF.impl_IsClause a0.vars y29) (fun r71 => (bif (!r71) then some (Lp.rt false) else some (Lp.nx ())))) ()) (fun s30 => some (bif (PF.impl_varsOk a0.vars) then (decide ((len a0.clauses) ≤ 60)) else false)) (fun x30 => some x30)

def slices_IndexFunc_LLint_Lint (a0 : List (List Int)) (a1 : (List Int) → Option Bool) : Option Int :=
  bdR (forL (S := Unit) (X := Int) a0 (fun i22 y21 s22 => bd (a1 y21) (fun r68 => (bif r68 then some (Lp.rt ((i22 : Nat) : Int)) else some (Lp.nx ())))) ()) (fun s22 => some (-1)) (fun x22 => some x22)

def slices_ContainsFunc_LLint_Lint (a0 : List (List Int)) (a1 : (List Int) → Option Bool) : Option Bool :=
  bd (PF.slices_IndexFunc_LLint_Lint a0 a1) (fun r21 => some (decide (0 ≤ r21)))

def slices_IndexFunc_int_int (a0 : List Int) (a1 : Int → Option Bool) : Option Int :=
  bdR (forL (S := Unit) (X := Int) a0 (fun i22 y21 s22 => bd (a1 y21) (fun r64 => (bif r64 then some (Lp.rt ((i22 : Nat) : Int)) else some (Lp.nx ())))) ()) (fun s22 => some (-1)) (fun x22 => some x22)

def slices_ContainsFunc_int_int (a0 : List Int) (a1 : Int → Option Bool) : Option Bool :=
  bd (PF.slices_IndexFunc_int_int a0 a1) (fun r21 => some (decide (0 ≤ r21)))

def impl_holds_1 (a0 : Int) (b0 : Int) : Option Bool :=
  bd (nn (wr ((PF.impl_abs a0) - 1))) (fun u23 => some (((andK true 64 (shrK 64 b0 (wr ((PF.impl_abs a0) - 1))) 1) == 1) == (decide (0 < a0))))

def impl_holds (a0 : List Int) (a1 : Int) : Option Bool :=
  bd (PF.slices_ContainsFunc_int_int a0 (fun x0 => PF.impl_holds_1 x0 a1)) (fun r29 => some r29)

def impl_isModel_1 (a0 : List Int) (b0 : Int) : Option Bool :=
  bd (PF.impl_holds a0 b0) (fun r21 => some (!r21))

def impl_isModel (a0 : List (List Int)) (a1 : Int) : Option Bool :=
  bd (PF.slices_ContainsFunc_LLint_Lint a0 (fun x0 => PF.impl_isModel_1 x0 a1)) (fun r29 => some (!r29))

def impl_CountCnfModels (a0 : Cnf) : Option (Int × Bool) :=
  bd (PF.impl_IsCnf a0) (fun r29 => (bif (!r29) then some (0, false) else bd (β := _) (bd (nn a0.vars) (fun u168 => bd (chk (shlK true 64 1 a0.vars)) (fun m169 => bdR (forR (S := Int) (X := Int) 0 m169 (fun i170 s170 => bd (PF.impl_isModel a0.clauses ((i170 : Nat) : Int)) (fun r270 => bd (bif r270 then bd (β := _) (some ((wr (s170 + 1)), true) : Option (Int × Bool)) (fun s292 => some (s292.1, (!s292.2))) else some (s170, false)) (fun t287 => (bif t287.2 then some (Lp.rt t287.1) else some (Lp.nx t287.1))))) 0) (fun s170 => some s170) (fun x170 => some x170))) : Option Int) (fun s158 => some (s158, true))))

def impl_satisfiable (a0 : Int) (a1 : List (List Int)) : Option Bool :=
  bd (β := _) (bd (nn a0) (fun u154 => bd (chk (shlK true 64 1 a0)) (fun m155 => bdR (forR (S := Bool) (X := Bool) 0 m155 (fun i156 s156 => bd (PF.impl_isModel a1 ((i156 : Nat) : Int)) (fun r256 => bd (bif r256 then bd (β := _) (some (true, false) : Option (Bool × Bool)) (fun s278 => some (s278.1, (!s278.2))) else some (s156, false)) (fun t273 => (bif t273.2 then some (Lp.rt t273.1) else some (Lp.nx t273.1))))) false) (fun s156 => some s156) (fun x156 => some x156))) : Option Bool) (fun s144 => some s144)

def impl_IsSatisfiable (a0 : Cnf) : Option (Bool × Bool) :=
  bd (PF.impl_IsCnf a0) (fun r29 => (bif (!r29) then some (false, false) else bd (PF.impl_satisfiable a0.vars a0.clauses) (fun r35 => some (r35, true))))

noncomputable def impl_FormulaParts (a0 : ByteArray) : Option ((List ByteArray) × Bool) :=
  bd (PF.impl_parse a0) (fun r21 => (bif (!r21.2) then some ([], false) else bd (PF.impl_formula_parts r21.1) (fun r30 => bd (chk (len r30)) (fun m40 => bdR (forR (S := (List ByteArray)) (X := Empty) 0 m40 (fun i41 s41 => bd (ix r30 ((i41 : Nat) : Int)) (fun x104 => bd (x104.get) (fun y108 => bd (app s41 [y108.text]) (fun xs121 => some (Lp.nx xs121))))) []) (fun s41 => some (s41, true)) (fun x41 => nomatch x41)))))

noncomputable def spec_FormulaParts (a0 : ByteArray) : Option ((List ByteArray) × Bool) :=
  bd (PF.spec_l22Good a0) (fun r21 => (bif (!r21) then some ([], false) else bd (PF.spec_l22All [] a0) (fun r47 => some (r47, true))))

def laws_rTexts (a0 : List ByteArray) (a1 : List ByteArray) : Option Bool :=
  (bif (!((len a0) == (len a1))) then some false else bdR (forL (S := Unit) (X := Bool) a0 (fun i23 y22 s23 => bd (ix a1 ((i23 : Nat) : Int)) (fun x72 => (bif (!(y22.toList == x72.toList)) then some (Lp.rt false) else some (Lp.nx ())))) ()) (fun s23 => some true) (fun x23 => some x23))

noncomputable def impl_formula_depth_B (rec_impl_formula_depth : Fo → Option Int) (a0 : Fo) : Option Int :=
  bd (a0.get) (fun y21 => (bif y21.a.isNil then some 0 else (bif y21.b.isNil then bd (rec_impl_formula_depth y21.a) (fun r31 => some (wr (1 + r31))) else bd (rec_impl_formula_depth y21.a) (fun r15036 => bd (rec_impl_formula_depth y21.b) (fun r30036 => some (wr (1 + (mx r15036 r30036))))))))
noncomputable def impl_formula_depth_F : Nat → Fo → Option Int
  | 0 => fun _ => none
  | n + 1 => impl_formula_depth_B (impl_formula_depth_F n)
noncomputable def impl_formula_depth (a0 : Fo) : Option Int := impl_formula_depth_F deep a0

noncomputable def impl_FormulaDepth (a0 : ByteArray) : Option (Int × Bool) :=
  bd (PF.impl_parse a0) (fun r21 => (bif (!r21.2) then some (0, false) else bd (PF.impl_formula_depth r21.1) (fun r30 => some (r30, true))))

noncomputable def laws_FnFormulaCnfs (a0 : List Int) : Option Bool :=
  (bif (PF.laws_rBig a0) then some true else bd (PF.spec_DrawDefiningCnf a0) (fun r25 => bd (PF.impl_DefiningCnf r25) (fun r30 => bd (PF.spec_DefiningCnf r25) (fun r55 => bd (bif (!(r30.2 == r55.2)) then some true else bd (PF.laws_rCnf r30.1 r55.1) (fun r92 => some (!r92))) (fun t85 => (bif t85 then some false else bd (PF.impl_CircuitOfFormula r25) (fun r102 => bd (PF.spec_CircuitOfFormula r25) (fun r112 => bd (bif (!(r102.2 == r112.2)) then some true else bd (PF.impl_IsFormula r25) (fun r134 => some (!(r102.2 == r134)))) (fun t127 => bd (bif t127 then some true else bd (PF.laws_rGates r102.1 r112.1) (fun r178 => some (!r178))) (fun t161 => (bif t161 then some false else (bif (!r102.2) then some (!r30.2) else bd (PF.impl_CountModels r25) (fun r191 => bd (PF.impl_CountTrue 6 r102.1) (fun r201 => (bif (bif (bif (!r191.2) then true else (!r201.2)) then true else (!(r191.1 == r201.1))) then some false else bdR (forR (S := Unit) (X := Bool) 0 64 (fun i234 s234 => bd (PF.impl_FormulaValue r25 ((i234 : Nat) : Int)) (fun r303 => bd (PF.impl_CircuitValue 6 r102.1 ((i234 : Nat) : Int)) (fun r313 => (bif (bif (bif (!r303.2) then true else (!r313.2)) then true else (!(r303.1 == r313.1))) then some (Lp.rt false) else some (Lp.nx ()))))) ()) (fun s234 => bdR (S := Unit) (X := Bool) ((bif r30.2 then bd (PF.impl_CountCnfModels r30.1) (fun r407 => bd (PF.impl_IsSatisfiable r30.1) (fun r412 => (bif (bif (bif (bif (!r407.2) then true else (!r412.2)) then true else (!(r407.1 == r191.1))) then true else (!(r412.1 == (decide (0 < r191.1))))) then some (Rs.rt false) else some (Rs.go ())))) else some (Rs.go ()))) (fun s403 => bd (PF.impl_FormulaParts r25) (fun r456 => bd (PF.spec_FormulaParts r25) (fun r466 => bd (bif (bif (!(r456.2 == r466.2)) then true else (!r456.2)) then some true else bd (PF.laws_rTexts r456.1 r466.1) (fun r507 => some (!r507))) (fun t495 => bd (bif (bif t495 then true else ((len r456.1) == 0)) then some true else bd (ix r456.1 (wr ((len r456.1) - 1))) (fun x546 => some (!(x546.toList == r25.toList)))) (fun t533 => (bif t533 then some false else bd (PF.impl_FormulaDepth r25) (fun r551 => some (bif r551.2 then (decide (r551.1 < (r25.size : Int))) else false)))))))) (fun x405 => some x405)) (fun x234 => some x234))))))))))))))))

end Go.PF
