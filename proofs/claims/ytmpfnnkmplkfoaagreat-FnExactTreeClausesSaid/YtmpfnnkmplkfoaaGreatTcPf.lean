/- Part of the walks and plain laws behind the claim: it proves helpers, under no condition beyond their own. -/
import Derived.Test.YtmpfnnkmplkfoaaGreatPl1
set_option linter.unusedVariables false
namespace Go.PF
open Go.Pu

structure Cnf where
  vars : Int
  clauses : List (List Int)
def okCnf (s : Cnf) : Prop := okI s.vars ∧ (okL (okL okI)) s.clauses

structure ResStep where
  clause : List Int
  left : Int
  right : Int
  pivot : Int
def okResStep (s : ResStep) : Prop := (okL okI) s.clause ∧ okI s.left ∧ okI s.right ∧ okI s.pivot

structure Bench where
  stage : Int
  formula : Cnf
  steps : List ResStep
  wide : Int
  count : Int
def okBench (s : Bench) : Prop := okI s.stage ∧ okCnf s.formula ∧ (okL okResStep) s.steps ∧ okI s.wide ∧ okI s.count

structure l15Work where
  now : List (List Int)
  most : Int
  all : List (List Int)
  ok : Bool
def okl15Work (s : l15Work) : Prop := (okL (okL okI)) s.now ∧ okI s.most ∧ (okL (okL okI)) s.all ∧ okT s.ok

structure SpaceStep where
  kind : Int
  a : Int
  b : Int
  pivot : Int
def okSpaceStep (s : SpaceStep) : Prop := okI s.kind ∧ okI s.a ∧ okI s.b ∧ okI s.pivot

structure TreeNode where
  var : Int
  low : Int
  high : Int
  clause : Int
def okTreeNode (s : TreeNode) : Prop := okI s.var ∧ okI s.low ∧ okI s.high ∧ okI s.clause

structure weaver where
  steps : List ResStep
  became : List Int
def okweaver (s : weaver) : Prop := (okL okResStep) s.steps ∧ (okL okI) s.became

structure ring where
  p : Int
  vars : Int
def okring (s : ring) : Prop := okI s.p ∧ okI s.vars

structure algebra where
  ring : ring
  f : Cnf
  q : List (List Int)
def okalgebra (s : algebra) : Prop := okring s.ring ∧ okCnf s.f ∧ (okL (okL okI)) s.q

structure Term where
  mono : Int
  coeff : Int
def okTerm (s : Term) : Prop := okI s.mono ∧ okI s.coeff

structure echelon where
  ring : ring
  rows : List (List Int)
  made : List (List Int)
  many : Int
def okechelon (s : echelon) : Prop := okring s.ring ∧ (okL (okL okI)) s.rows ∧ (okL (okL okI)) s.made ∧ okI s.many

def laws_szIntS (a0 : List Int) (a1 : Int) : Int :=
  (bif (decide ((wr (a1 - (len a0))) < 0)) then (-1) else (wr (a1 - (len a0))))

def laws_szIntSS (a0 : List (List Int)) (a1 : Int) : Option Int :=
  (bif (decide ((wr (a1 - (len a0))) < 0)) then some (-1) else bdR (forL (S := Int) (X := Int) a0 (fun i23 y22 s23 => (bif (decide ((PF.laws_szIntS y22 s23) < 0)) then some (Lp.rt (-1)) else some (Lp.nx (PF.laws_szIntS y22 s23)))) (wr (a1 - (len a0)))) (fun s23 => some s23) (fun x23 => some x23))

def laws_szCnf (a0 : Cnf) (a1 : Int) : Option Int :=
  bd (PF.laws_szIntSS a0.clauses a1) (fun r29 => (bif (decide (r29 < 0)) then some (-1) else some r29))

def laws_szTreeNodeS (a0 : List TreeNode) (a1 : Int) : Int :=
  (bif (decide ((wr (a1 - (len a0))) < 0)) then (-1) else (wr (a1 - (len a0))))

def laws_toIntS (a0 : List Int) : Option (List Int) :=
  bd (mk2 (0 : Int) (len a0) (len a0)) (fun xs21 => bdR (forL (S := (List Int)) (X := Empty) a0 (fun i32 y31 s32 => bd (ix s32 ((i32 : Nat) : Int)) (fun x117 => bd (put s32 ((i32 : Nat) : Int) y31) (fun xs122 => some (Lp.nx xs122)))) xs21) (fun s32 => some s32) (fun x32 => nomatch x32))

def laws_toIntSS (a0 : List (List Int)) : Option (List (List Int)) :=
  bd (mk2 ([] : List Int) (len a0) (len a0)) (fun xs21 => bdR (forL (S := (List (List Int))) (X := Empty) a0 (fun i33 y32 s33 => bd (PF.laws_toIntS y32) (fun r155 => bd (ix s33 ((i33 : Nat) : Int)) (fun x171 => bd (put s33 ((i33 : Nat) : Int) r155) (fun xs183 => some (Lp.nx xs183))))) xs21) (fun s33 => some s33) (fun x33 => nomatch x33))

def laws_toCnf (a0 : Cnf) : Option Cnf :=
  bd (PF.laws_toIntSS a0.clauses) (fun r40 => some (Cnf.mk a0.vars r40))

def laws_toTreeNode (a0 : TreeNode) : TreeNode :=
  a0

def laws_toTreeNodeS (a0 : List TreeNode) : Option (List TreeNode) :=
  bd (mk2 ((TreeNode.mk 0 0 0 0) : TreeNode) (len a0) (len a0)) (fun xs21 => bdR (forL (S := (List TreeNode)) (X := Empty) a0 (fun i32 y31 s32 => bd (ix s32 ((i32 : Nat) : Int)) (fun x126 => bd (put s32 ((i32 : Nat) : Int) (PF.laws_toTreeNode y31)) (fun xs131 => some (Lp.nx xs131)))) xs21) (fun s32 => some s32) (fun x32 => nomatch x32))

def spec_l1In (a0 : Int) (a1 : Int) (a2 : Int) : Bool :=
  (bif (decide (a1 ≤ a0)) then (decide (a0 ≤ a2)) else false)

def spec_l2Vars (a0 : Int) : Bool :=
  (PF.spec_l1In a0 0 12)

def spec_l2Lit (a0 : Int) (a1 : Int) : Bool :=
  (bif (PF.spec_l1In a1 (wr (-a0)) a0) then (!(a1 == 0)) else false)

def spec_l2Var (a0 : Int) : Int :=
  (bif (decide (a0 < 0)) then (wr (-a0)) else a0)

def spec_l2Clause (a0 : Int) (a1 : List Int) : Option Bool :=
  (bif (!(PF.spec_l2Vars a0)) then some false else bdR (forL (S := Unit) (X := Bool) a1 (fun i26 y25 s26 => bd (bif (!(PF.spec_l2Lit a0 y25)) then some true else bd (bif (decide (0 < ((i26 : Nat) : Int))) then bd (ix a1 (wr (((i26 : Nat) : Int) - 1))) (fun x226 => some (decide ((PF.spec_l2Var y25) ≤ (PF.spec_l2Var x226)))) else some false) (fun t213 => some t213)) (fun t192 => (bif t192 then some (Lp.rt false) else some (Lp.nx ())))) ()) (fun s26 => some true) (fun x26 => some x26))

noncomputable def spec_l2Good (a0 : Cnf) : Option Bool :=
  (bif (bif (!(PF.spec_l2Vars a0.vars)) then true else (decide (60 < (len a0.clauses)))) then some false else bdR (iter (S := Int) (X := Bool) (fun s42 => (bif (decide (s42 < (len a0.clauses))) then bd (ix a0.clauses s42) (fun x83 => bd (PF.spec_l2Clause a0.vars x83) (fun r87 => (bif (!r87) then some (Lp.rt false) else some (Lp.nx (wr (s42 + 1)))))) else some (Lp.bk s42))) 0) (fun s42 => some true) (fun x42 => some x42))

def spec_l9Leaf (a0 : TreeNode) : Bool :=
  (a0.var == 0)

def spec_l9Node (a0 : Cnf) (a1 : TreeNode) (a2 : Int) : Bool :=
  (bif (PF.spec_l9Leaf a1) then (bif (bif (a1.low == 0) then (a1.high == 0) else false) then (PF.spec_l1In a1.clause 0 (wr ((len a0.clauses) - 1))) else false) else (bif (bif (bif (bif (PF.spec_l1In a1.var 1 a0.vars) then (PF.spec_l1In a1.low 0 (wr (a2 - 1))) else false) then (PF.spec_l1In a1.high 0 (wr (a2 - 1))) else false) then (!(a1.low == a1.high)) else false) then (a1.clause == 0) else false))

def spec_l1Has (a0 : List Int) (a1 : Int) : Option Bool :=
  bdR (forL (S := Unit) (X := Bool) a0 (fun i22 y21 s22 => (bif (y21 == a1) then some (Lp.rt true) else some (Lp.nx ()))) ()) (fun s22 => some false) (fun x22 => some x22)

def spec_l2Has (a0 : List Int) (a1 : Int) : Option Bool :=
  bd (PF.spec_l1Has a0 a1) (fun r21 => some r21)

def spec_l1Own (a0 : List Int) : Option (List Int) :=
  bd (app [] a0) (fun xs26 => some xs26)

noncomputable def spec_l2Put (a0 : List Int) (a1 : Int) : Option (List Int) :=
  bdR (iter (S := Int) (X := Empty) (fun s21 => bd (bif (decide (s21 < (len a0))) then bd (ix a0 s21) (fun x105 => some (decide ((PF.spec_l2Var x105) < (PF.spec_l2Var a1)))) else some false) (fun t92 => (bif t92 then some (Lp.nx (wr (s21 + 1))) else some (Lp.bk s21)))) 0) (fun s21 => bd (cut a0 0 s21) (fun xs9127 => bd (PF.spec_l1Own xs9127) (fun r12127 => bd (app r12127 [a1]) (fun xs21127 => bd (cut a0 s21 (len a0)) (fun xs30127 => bd (app xs21127 xs30127) (fun xs33127 => some xs33127)))))) (fun x21 => nomatch x21)

noncomputable def spec_l9Paths (a0 : Cnf) (a1 : List TreeNode) : Option ((List (List Int)) × Bool) :=
  bd (PF.spec_l2Good a0) (fun r29 => (bif (bif (!r29) then true else (!(PF.spec_l1In (len a1) 1 199))) then some ([], false) else bd (mk2 (0 : Int) (len a1) (len a1)) (fun xs56 => bdR (forL (S := (List Int)) (X := ((List (List Int)) × Bool)) a1 (fun i67 y66 s67 => (bif (!(PF.spec_l9Node a0 y66 ((i67 : Nat) : Int))) then some (Lp.rt ([], false)) else (bif (!(PF.spec_l9Leaf y66)) then bd (ix s67 y66.low) (fun x267235 => bd (ix s67 y66.low) (fun x276235 => bd (put s67 y66.low (wr (x267235 + 1))) (fun xs279232 => bd (ix xs279232 y66.high) (fun x324249 => bd (ix xs279232 y66.high) (fun x333249 => bd (put xs279232 y66.high (wr (x324249 + 1))) (fun xs336246 => some (Lp.nx xs336246))))))) else some (Lp.nx s67)))) xs56) (fun s67 => bdR (iter (S := Int) (X := ((List (List Int)) × Bool)) (fun s342265 => (bif (decide (s342265 < (wr ((len a1) - 1)))) then bd (ix s67 s342265) (fun x342304 => (bif (!(x342304 == 1)) then some (Lp.rt ([], false)) else some (Lp.nx (wr (s342265 + 1))))) else some (Lp.bk s342265))) 0) (fun s342265 => bd (mk2 ([] : List Int) (len a1) (len a1)) (fun xs342319 => bd (ix xs342319 (wr ((len a1) - 1))) (fun x342341 => bd (put xs342319 (wr ((len a1) - 1)) []) (fun xs342353 => bdR (iter (S := ((List (List Int)) × Int)) (X := ((List (List Int)) × Bool)) (fun s342359 => (bif (decide (0 ≤ s342359.2)) then bd (ix a1 s342359.2) (fun x516614 => (bif (PF.spec_l9Leaf x516614) then some (Lp.nx (s342359.1, (wr (s342359.2 - 1)))) else bd (ix s342359.1 s342359.2) (fun x516638 => bd (PF.spec_l2Has x516638 x516614.var) (fun r516642 => bd (bif r516642 then some true else bd (ix s342359.1 s342359.2) (fun x516669 => bd (PF.spec_l2Has x516669 (wr (-x516614.var))) (fun r516673 => some r516673))) (fun t516656 => (bif t516656 then some (Lp.rt ([], false)) else bd (ix s342359.1 s342359.2) (fun x534695 => bd (PF.spec_l2Put x534695 (wr (-x516614.var))) (fun r549689 => bd (ix s342359.1 x516614.low) (fun x552695 => bd (put s342359.1 x516614.low r549689) (fun xs555697 => bd (ix xs555697 s342359.2) (fun x579710 => bd (PF.spec_l2Put x579710 x516614.var) (fun r591704 => bd (ix xs555697 x516614.high) (fun x594710 => bd (put xs555697 x516614.high r591704) (fun xs597712 => some (Lp.nx (xs597712, (wr (s342359.2 - 1)))))))))))))))))) else some (Lp.bk (s342359.1, s342359.2)))) (xs342353, (wr ((len a1) - 1)))) (fun s342359 => some (s342359.1, true)) (fun x342359 => some x342359))))) (fun x342265 => some x342265)) (fun x67 => some x67))))

def spec_l3Value (a0 : List Int) (a1 : List Int) : Option Int :=
  bdR (forL (S := Int) (X := Int) a0 (fun i22 y21 s22 => bd (PF.spec_l2Has a1 y21) (fun r71 => (bif r71 then some (Lp.rt 1) else bd (PF.spec_l2Has a1 (wr (-y21))) (fun r83 => (bif (!r83) then some (Lp.nx 0) else some (Lp.nx s22)))))) (-1)) (fun s22 => some s22) (fun x22 => some x22)

def spec_l9Bad (a0 : Cnf) (a1 : List TreeNode) (a2 : List (List Int)) : Option Int :=
  bdR (forL (S := Unit) (X := Int) a1 (fun i30 y29 s30 => bd (bif (PF.spec_l9Leaf y29) then bd (ix a0.clauses y29.clause) (fun x182 => bd (ix a2 ((i30 : Nat) : Int)) (fun x192 => bd (PF.spec_l3Value x182 x192) (fun r196 => some (decide (0 ≤ r196))))) else some false) (fun t163 => (bif t163 then some (Lp.rt ((i30 : Nat) : Int)) else some (Lp.nx ())))) ()) (fun s30 => some (-1)) (fun x30 => some x30)

noncomputable def spec_l9Search (a0 : Cnf) (a1 : List TreeNode) : Option ((List (List Int)) × Bool) :=
  bd (PF.spec_l9Paths a0 a1) (fun r29 => bd (bif r29.2 then bd (PF.spec_l9Bad a0 a1 r29.1) (fun r65 => some (decide (r65 < 0))) else some false) (fun t52 => some (r29.1, t52)))

def spec_l2Without (a0 : List Int) (a1 : Int) : Option (List Int) :=
  bdR (forL (S := (List Int)) (X := Empty) a0 (fun i27 y26 s27 => (bif (!((PF.spec_l2Var y26) == a1)) then bd (app s27 [y26]) (fun xs103 => some (Lp.nx xs103)) else some (Lp.nx s27))) []) (fun s27 => some s27) (fun x27 => nomatch x27)

noncomputable def spec_l2Join (a0 : List Int) (a1 : List Int) : Option ((List Int) × Bool) :=
  bd (PF.spec_l1Own a0) (fun r21 => bdR (forL (S := (List Int)) (X := ((List Int) × Bool)) a1 (fun i32 y31 s32 => bd (PF.spec_l2Has s32 (wr (-y31))) (fun r200 => (bif r200 then some (Lp.rt ([], false)) else bd (PF.spec_l2Has s32 y31) (fun r222 => (bif (!r222) then bd (PF.spec_l2Put s32 y31) (fun r239 => some (Lp.nx r239)) else some (Lp.nx s32)))))) r21) (fun s32 => some (s32, true)) (fun x32 => some x32))

noncomputable def spec_l2Resolve (a0 : List Int) (a1 : List Int) (a2 : Int) : Option ((List Int) × Bool) :=
  bd (PF.spec_l2Has a0 a2) (fun r21 => bd (bif (!r21) then some true else bd (PF.spec_l2Has a1 (wr (-a2))) (fun r38 => some (!r38))) (fun t31 => (bif t31 then some ([], false) else bd (PF.spec_l2Without a0 a2) (fun r53 => bd (PF.spec_l2Without a1 a2) (fun r63 => bd (PF.spec_l2Join r53 r63) (fun r83 => some (r83.1, r83.2)))))))

noncomputable def spec_l9Steps (a0 : Cnf) (a1 : List TreeNode) : Option ((List ResStep) × (List Int)) :=
  bdR (forL (S := ((List Int) × (List ResStep))) (X := Empty) a1 (fun i40 y39 s40 => (bif (PF.spec_l9Leaf y39) then bd (app s40.1 [(len s40.2)]) (fun xs111289 => bd (ix a0.clauses y39.clause) (fun x132306 => bd (app [] x132306) (fun xs138300 => bd (app s40.2 [(ResStep.mk xs138300 (-1) y39.clause 0)]) (fun xs153300 => some (Lp.nx (xs111289, xs153300)))))) else bd (ix s40.1 y39.low) (fun x162323 => bd (ix s40.2 x162323) (fun x162331 => bd (ix s40.1 y39.high) (fun x162341 => bd (ix s40.2 x162341) (fun x162349 => bd (PF.spec_l2Has x162331.clause y39.var) (fun r162356 => (bif (!r162356) then bd (ix s40.1 y39.low) (fun x162368 => bd (app s40.1 [x162368]) (fun xs162375 => some (Lp.nx (xs162375, s40.2)))) else bd (PF.spec_l2Has x162349.clause (wr (-y39.var))) (fun r162386 => (bif (!r162386) then bd (ix s40.1 y39.high) (fun x162398 => bd (app s40.1 [x162398]) (fun xs162405 => some (Lp.nx (xs162405, s40.2)))) else bd (PF.spec_l2Resolve x162331.clause x162349.clause y39.var) (fun r162416 => bd (app s40.1 [(len s40.2)]) (fun xs162431 => bd (ix xs162431 y39.low) (fun x180448 => bd (ix xs162431 y39.high) (fun x195448 => bd (app s40.2 [(ResStep.mk r162416.1 x180448 x195448 y39.var)]) (fun xs213442 => some (Lp.nx (xs162431, xs213442))))))))))))))))) ([], [])) (fun s40 => some (s40.2, s40.1)) (fun x40 => nomatch x40)

noncomputable def spec_TreeClauses (a0 : Cnf) (a1 : List TreeNode) : Option ((List (List Int)) × Bool) :=
  bd (PF.spec_l9Search a0 a1) (fun r34 => (bif (!r34.2) then some ([], false) else bd (PF.spec_l9Steps a0 a1) (fun r47 => bdR (forL (S := (List (List Int))) (X := Empty) a1 (fun i64 y63 s64 => bd (ix r47.2 ((i64 : Nat) : Int)) (fun x157 => bd (ix r47.1 x157) (fun x165 => bd (app [] x165.clause) (fun xs169 => bd (app s64 [xs169]) (fun xs190 => some (Lp.nx xs190)))))) []) (fun s64 => some (s64, true)) (fun x64 => nomatch x64))))

def impl_within (a0 : Int) (a1 : Int) (a2 : Int) : Bool :=
  (bif (decide (a1 ≤ a0)) then (decide (a0 ≤ a2)) else false)

def impl_isLiteral (a0 : Int) (a1 : Int) : Bool :=
  (bif (!(a1 == 0)) then (PF.impl_within a1 (wr (-a0)) a0) else false)

def impl_abs (a0 : Int) : Int :=
  (mx a0 (wr (-a0)))

def impl_varsOk (a0 : Int) : Bool :=
  (PF.impl_within a0 0 12)

def impl_IsClause (a0 : Int) (a1 : List Int) : Option Bool :=
  bdR (forL (S := Unit) (X := Bool) a1 (fun i22 y21 s22 => bd (bif (!(PF.impl_isLiteral a0 y21)) then some true else bd (bif (decide (0 < ((i22 : Nat) : Int))) then bd (ix a1 (wr (((i22 : Nat) : Int) - 1))) (fun x192 => some (decide ((PF.impl_abs y21) ≤ (PF.impl_abs x192)))) else some false) (fun t179 => some t179)) (fun t164 => (bif t164 then some (Lp.rt false) else some (Lp.nx ())))) ()) (fun s22 => some (PF.impl_varsOk a0)) (fun x22 => some x22)

def impl_IsCnf (a0 : Cnf) : Option Bool :=
  bdR (forL (S := Unit) (X := Bool) a0.clauses (fun i30 y29 s30 => bd (PF.impl_IsClause a0.vars y29) (fun r71 => (bif (!r71) then some (Lp.rt false) else some (Lp.nx ())))) ()) (fun s30 => some (bif (PF.impl_varsOk a0.vars) then (decide ((len a0.clauses) ≤ 60)) else false)) (fun x30 => some x30)

def impl_isVar (a0 : Int) (a1 : Int) : Bool :=
  (PF.impl_within a1 1 a0)

def impl_nodeOk (a0 : Cnf) (a1 : Int) (a2 : TreeNode) : Bool :=
  (bif (a2.var == 0) then (bif (bif (a2.low == 0) then (a2.high == 0) else false) then (PF.impl_within a2.clause 0 (wr ((len a0.clauses) - 1))) else false) else (bif (bif (bif (bif (PF.impl_isVar a0.vars a2.var) then (!(a2.low == a2.high)) else false) then (PF.impl_within a2.low 0 (wr (a1 - 1))) else false) then (PF.impl_within a2.high 0 (wr (a1 - 1))) else false) then (a2.clause == 0) else false))


def slices_Sort_int_int (a0 : List Int) : Option (List Int) := sortI a0

def slices_Compact_int_int (a0 : List Int) : Option (List Int) := some (compactL a0)

def impl_varsOf (a0 : List (List Int)) : Option (List Int) :=
  bdR (forL (S := (List Int)) (X := Empty) a0 (fun i22 y21 s22 => bdR (forL (S := (List Int)) (X := Empty) y21 (fun i126 y125 s126 => bd (app s126 [(PF.impl_abs y125)]) (fun xs194 => some (Lp.nx xs194))) s22) (fun s126 => some (Lp.nx s126)) (fun x126 => nomatch x126)) []) (fun s22 => bd (PF.slices_Sort_int_int s22) (fun r234 => bd (PF.slices_Compact_int_int r234) (fun r242 => some r242))) (fun x22 => nomatch x22)

def slices_Index_int_int (a0 : List Int) (a1 : Int) : Option Int :=
  bdR (forL (S := Unit) (X := Int) a0 (fun i22 y21 s22 => (bif (a1 == y21) then some (Lp.rt ((i22 : Nat) : Int)) else some (Lp.nx ()))) ()) (fun s22 => some (-1)) (fun x22 => some x22)

def slices_Contains_int_int (a0 : List Int) (a1 : Int) : Option Bool :=
  bd (PF.slices_Index_int_int a0 a1) (fun r21 => some (decide (0 ≤ r21)))

def slices_Clone_int_int (a0 : List Int) : Option (List Int) :=
  bd (app [] a0) (fun xs30 => some xs30)

def slices_IndexFunc_int_int (a0 : List Int) (a1 : Int → Option Bool) : Option Int :=
  bdR (forL (S := Unit) (X := Int) a0 (fun i22 y21 s22 => bd (a1 y21) (fun r64 => (bif r64 then some (Lp.rt ((i22 : Nat) : Int)) else some (Lp.nx ())))) ()) (fun s22 => some (-1)) (fun x22 => some x22)

noncomputable def slices_DeleteFunc_int_int (a0 : List Int) (a1 : Int → Option Bool) : Option (List Int) :=
  bd (PF.slices_IndexFunc_int_int a0 a1) (fun r26 => (bif (r26 == (-1)) then some a0 else bdR (iter (S := ((List Int) × Int × Int)) (X := Empty) (fun s32 => (bif (decide (s32.2.2 < (len s32.1))) then bd (ix s32.1 s32.2.2) (fun x141 => bd (a1 x141) (fun r143 => (bif (!r143) then bd (ix s32.1 s32.2.1) (fun x160 => bd (put s32.1 s32.2.1 x141) (fun xs165 => some (Lp.nx (xs165, (wr (s32.2.1 + 1)), (wr (s32.2.2 + 1)))))) else some (Lp.nx (s32.1, s32.2.1, (wr (s32.2.2 + 1))))))) else some (Lp.bk (s32.1, s32.2.1, s32.2.2)))) (a0, r26, (wr (r26 + 1)))) (fun s32 => bd (cut s32.1 s32.2.1 (len s32.1)) (fun xs178 => bd (cut (clearL 0 s32.1 s32.2.1) 0 s32.2.1) (fun xs188 => some xs188))) (fun x32 => nomatch x32)))

def impl_withoutVar_1 (a0 : Int) (b0 : Int) : Bool :=
  ((PF.impl_abs a0) == b0)

noncomputable def impl_withoutVar (a0 : List Int) (a1 : Int) : Option (List Int) :=
  bd (PF.slices_Clone_int_int a0) (fun r29 => bd (PF.slices_DeleteFunc_int_int r29 (fun x0 => some (PF.impl_withoutVar_1 x0 a1))) (fun r39 => some r39))

noncomputable def slices_SortFunc_int_int (a0 : List Int) (a1 : Int → Int → Option Int) : Option (List Int) := sortF a1 a0

def cmp_isNaN_int (a0 : Int) : Bool :=
  (!(a0 == a0))

def cmp_Compare_int (a0 : Int) (a1 : Int) : Int :=
  (bif (PF.cmp_isNaN_int a0) then (bif (PF.cmp_isNaN_int a1) then 0 else (-1)) else (bif (PF.cmp_isNaN_int a1) then 1 else (bif (decide (a0 < a1)) then (-1) else (bif (decide (a1 < a0)) then 1 else 0))))

def cmp_Or_int (a0 : List Int) : Option Int :=
  bdR (forL (S := Unit) (X := Int) a0 (fun i22 y21 s22 => (bif (!(y21 == 0)) then some (Lp.rt y21) else some (Lp.nx ()))) ()) (fun s22 => some 0) (fun x22 => some x22)

def impl_compareLiterals (a0 : Int) (a1 : Int) : Option Int :=
  bd (PF.cmp_Or_int [(PF.cmp_Compare_int (PF.impl_abs a0) (PF.impl_abs a1)), (PF.cmp_Compare_int a1 a0)]) (fun r43 => some r43)

noncomputable def impl_clause (a0 : List Int) : Option ((List Int) × Bool) :=
  bd (PF.slices_Clone_int_int a0) (fun r21 => bd (PF.slices_SortFunc_int_int r21 (fun x0 x1 => PF.impl_compareLiterals x0 x1)) (fun r31 => bd (PF.slices_Compact_int_int r31) (fun r39 => bdR (iter (S := Int) (X := ((List Int) × Bool)) (fun s49 => (bif (decide (s49 < (len r39))) then bd (ix r39 s49) (fun x94 => bd (ix r39 (wr (s49 - 1))) (fun x102 => (bif (x94 == (wr (-x102))) then some (Lp.rt ([], false)) else some (Lp.nx (wr (s49 + 1)))))) else some (Lp.bk s49))) 1) (fun s49 => some (r39, true)) (fun x49 => some x49))))

noncomputable def impl_mustClause (a0 : List Int) : Option (List Int) :=
  bd (PF.impl_clause a0) (fun r21 => some r21.1)

noncomputable def impl_set (a0 : List Int) (a1 : Int) : Option (List Int) :=
  bd (PF.impl_withoutVar a0 (PF.impl_abs a1)) (fun r24 => bd (app r24 [a1]) (fun xs39 => bd (PF.impl_mustClause xs39) (fun r55 => some r55)))

noncomputable def impl_paths (a0 : List TreeNode) : Option ((List (List Int)) × Bool) :=
  bd (mk2 ([] : List Int) (len a0) (len a0)) (fun xs29 => bd (mk2 (false : Bool) (len a0) (len a0)) (fun xs47 => bd (ix xs47 (wr ((len a0) - 1))) (fun x70 => bd (put xs47 (wr ((len a0) - 1)) true) (fun xs75 => bdR (forB (S := ((List Bool) × (List (List Int)))) (X := Bool) a0 (fun y86 j86 s86 => bd (ix s86.1 ((j86 : Nat) : Int)) (fun x324362 => (bif (!x324362) then some (Lp.rt false) else (bif (y86.var == 0) then some (Lp.nx (s86.1, s86.2)) else bd (ix s86.1 y86.low) (fun x336378 => bd (bif x336378 then some true else bd (ix s86.1 y86.high) (fun x354378 => some x354378)) (fun t324371_11 => bd (bif t324371_11 then some true else bd (ix s86.2 ((j86 : Nat) : Int)) (fun x372378 => bd (PF.impl_varsOf [x372378]) (fun r381377 => bd (PF.slices_Contains_int_int r381377 y86.var) (fun r390377 => some r390377)))) (fun t324371_22 => (bif t324371_22 then some (Lp.rt false) else bd (ix s86.1 y86.low) (fun x399398 => bd (put s86.1 y86.low true) (fun xs399403 => bd (ix xs399403 y86.high) (fun x399414 => bd (put xs399403 y86.high true) (fun xs399419 => bd (ix s86.2 ((j86 : Nat) : Int)) (fun x417430 => bd (PF.impl_set x417430 (wr (-y86.var))) (fun r432424 => bd (ix s86.2 y86.low) (fun x435430 => bd (put s86.2 y86.low r432424) (fun xs438432 => bd (ix xs438432 ((j86 : Nat) : Int)) (fun x462447 => bd (PF.impl_set x462447 y86.var) (fun r474441 => bd (ix xs438432 y86.high) (fun x477447 => bd (put xs438432 y86.high r474441) (fun xs480449 => some (Lp.nx (xs399419, xs480449)))))))))))))))))))))) (xs75, xs29)) (fun s86 => some (s86.2, true)) (fun x86 => some ([], x86))))))

noncomputable def impl_IsTree (a0 : Cnf) (a1 : List TreeNode) : Option Bool :=
  bd (PF.impl_IsCnf a0) (fun r29 => (bif (bif (!r29) then true else (!(PF.impl_within (len a1) 1 199))) then some false else bdR (forL (S := Unit) (X := Bool) a1 (fun i52 y51 s52 => (bif (!(PF.impl_nodeOk a0 ((i52 : Nat) : Int) y51)) then some (Lp.rt false) else some (Lp.nx ()))) ()) (fun s52 => bd (PF.impl_paths a1) (fun r122 => some r122.2)) (fun x52 => some x52)))

noncomputable def impl_upTo (a0 : Int) : Option (List Int) :=
  bdR (iter (S := ((List Int) × Int)) (X := Empty) (fun s22 => (bif (decide (s22.2 ≤ a0)) then bd (app s22.1 [s22.2]) (fun xs66 => some (Lp.nx (xs66, (wr (s22.2 + 1))))) else some (Lp.bk (s22.1, s22.2)))) ([], 1)) (fun s22 => some s22.1) (fun x22 => nomatch x22)

def impl_clauseValue (a0 : List Int) (a1 : List Int) : Option Int :=
  bdR (forL (S := Int) (X := Int) a0 (fun i22 y21 s22 => bd (PF.slices_Contains_int_int a1 y21) (fun r67 => (bif r67 then some (Lp.rt 1) else bd (PF.slices_Contains_int_int a1 (wr (-y21))) (fun r73 => (bif (!r73) then some (Lp.nx 0) else some (Lp.nx s22)))))) (-1)) (fun s22 => some s22) (fun x22 => some x22)

def impl_badLeaf_1 (a0 : Int) (b0 : List TreeNode) (b1 : Cnf) (b2 : List (List Int)) : Option Bool :=
  bd (ix b0 (wr (a0 - 1))) (fun x27 => bd (bif (x27.var == 0) then bd (ix b1.clauses x27.clause) (fun x76 => bd (ix b2 (wr (a0 - 1))) (fun x86 => bd (PF.impl_clauseValue x76 x86) (fun r90 => some (decide (0 ≤ r90))))) else some false) (fun t63 => some t63))

noncomputable def impl_badLeaf (a0 : Cnf) (a1 : List TreeNode) : Option Int :=
  bd (PF.impl_paths a1) (fun r37 => bd (PF.impl_upTo (len a1)) (fun r66 => bd (PF.slices_IndexFunc_int_int r66 (fun x0 => PF.impl_badLeaf_1 x0 a1 a0 r37.1)) (fun r81 => some r81)))

noncomputable def impl_IsSearchTree (a0 : Cnf) (a1 : List TreeNode) : Option (Bool × Bool) :=
  bd (PF.impl_IsTree a0 a1) (fun r29 => (bif (!r29) then some (false, false) else bd (PF.impl_badLeaf a0 a1) (fun r35 => some ((decide (r35 < 0)), true))))

noncomputable def impl_searchTree (a0 : Cnf) (a1 : List TreeNode) : Option Bool :=
  bd (PF.impl_IsSearchTree a0 a1) (fun r29 => some r29.1)

def slices_Grow_int_int (a1 : Int) : Option (List Int) := if 0 ≤ a1 ∧ a1 ≤ lim then some [] else none

def slices_Concat_int_int (a0 : List (List Int)) : Option (List Int) :=
  bdR (forL (S := Int) (X := Empty) a0 (fun i22 y21 s22 => (bif (decide ((wr (s22 + (len y21))) < 0)) then none else some (Lp.nx (wr (s22 + (len y21)))))) 0) (fun s22 => bd (PF.slices_Grow_int_int s22) (fun r69 => bdR (forL (S := (List Int)) (X := Empty) a0 (fun i80 y79 s80 => bd (app s80 y79) (fun xs129 => some (Lp.nx xs129))) r69) (fun s80 => some s80) (fun x80 => nomatch x80))) (fun x22 => nomatch x22)

noncomputable def impl_resolve (a0 : List Int) (a1 : List Int) (a2 : Int) : Option ((List Int) × Bool) :=
  bd (PF.slices_Contains_int_int a0 a2) (fun r21 => bd (bif (!r21) then some true else bd (PF.slices_Contains_int_int a1 (wr (-a2))) (fun r38 => some (!r38))) (fun t31 => (bif t31 then some ([], false) else bd (PF.impl_withoutVar a0 a2) (fun r48 => bd (PF.impl_withoutVar a1 a2) (fun r58 => bd (PF.slices_Concat_int_int [r48, r58]) (fun r88 => bd (PF.impl_clause r88) (fun r105 => some (r105.1, r105.2))))))))

noncomputable def impl_weaver_resolvent (a0 : weaver) (a1 : Int) (a2 : Int) (a3 : Int) : Option (Int × weaver) :=
  bd (ix a0.steps a1) (fun x27 => bd (PF.slices_Contains_int_int x27.clause a3) (fun r31 => (bif (!r31) then some (a1, a0) else bd (ix a0.steps a2) (fun x43 => bd (PF.slices_Contains_int_int x43.clause (wr (-a3))) (fun r47 => (bif (!r47) then some (a2, a0) else bd (ix a0.steps a1) (fun x18059 => bd (ix a0.steps a2) (fun x42059 => bd (PF.impl_resolve x18059.clause x42059.clause a3) (fun r54053 => bd (β := _) (bd (app a0.steps [(ResStep.mk r54053.1 a1 a2 a3)]) (fun xs210129 => some (xs210129, (wr ((len xs210129) - 1)))) : Option ((List ResStep) × Int)) (fun s186115 => some (s186115.2, (weaver.mk s186115.1 a0.became))))))))))))

noncomputable def impl_treeSteps (a0 : Cnf) (a1 : List TreeNode) : Option (Option weaver) :=
  bdR (forL (S := ((List Int) × (List ResStep))) (X := Empty) a1 (fun i38 y37 s38 => bdR (S := ((List ResStep) × Int)) (X := Empty) ((bif (y37.var == 0) then bd (ix a0.clauses y37.clause) (fun x360319 => bd (PF.slices_Clone_int_int x360319) (fun r366313 => bd (β := _) (bd (app s38.2 [(ResStep.mk r366313 (-1) y37.clause 0)]) (fun xs441346 => some (xs441346, (wr ((len xs441346) - 1)))) : Option ((List ResStep) × Int)) (fun s417332 => some (Rs.go (s417332.1, s417332.2))))) else bd (ix s38.1 y37.low) (fun x411336 => bd (ix s38.1 y37.high) (fun x435336 => bd (PF.impl_weaver_resolvent (weaver.mk s38.2 s38.1) x411336 x435336 y37.var) (fun r447330 => some (Rs.go (r447330.2.steps, r447330.1))))))) (fun s342304 => bd (app s38.1 [s342304.2]) (fun xs456363 => some (Lp.nx (xs456363, s342304.1)))) (fun x342306 => nomatch x342306)) ([], [])) (fun s38 => some (some (weaver.mk s38.2 s38.1))) (fun x38 => nomatch x38)

noncomputable def impl_TreeClauses (a0 : Cnf) (a1 : List TreeNode) : Option ((List (List Int)) × Bool) :=
  bd (PF.impl_searchTree a0 a1) (fun r29 => (bif (!r29) then some ([], false) else bd (PF.impl_treeSteps a0 a1) (fun r35 => bd r35 (fun y43 => bdR (forL (S := (List (List Int))) (X := Empty) y43.became (fun i56 y55 s56 => bd (ix y43.steps y55) (fun x143 => bd (PF.slices_Clone_int_int x143.clause) (fun r147 => bd (app s56 [r147]) (fun xs168 => some (Lp.nx xs168))))) []) (fun s56 => some (s56, true)) (fun x56 => nomatch x56)))))

def laws_eqIntS (a0 : List Int) (a1 : List Int) : Option Bool :=
  (bif (!((len a0) == (len a1))) then some false else bdR (forL (S := Unit) (X := Bool) a0 (fun i23 y22 s23 => bd (ix a1 ((i23 : Nat) : Int)) (fun x72 => (bif (!(y22 == x72)) then some (Lp.rt false) else some (Lp.nx ())))) ()) (fun s23 => some true) (fun x23 => some x23))

def laws_eqIntSS (a0 : List (List Int)) (a1 : List (List Int)) : Option Bool :=
  (bif (!((len a0) == (len a1))) then some false else bdR (forL (S := Unit) (X := Bool) a0 (fun i23 y22 s23 => bd (ix a1 ((i23 : Nat) : Int)) (fun x80 => bd (PF.laws_eqIntS y22 x80) (fun r84 => (bif (!r84) then some (Lp.rt false) else some (Lp.nx ()))))) ()) (fun s23 => some true) (fun x23 => some x23))

def laws_eqCnf (a0 : Cnf) (a1 : Cnf) : Option Bool :=
  (bif (!(a0.vars == a1.vars)) then some false else bd (PF.laws_eqIntSS a0.clauses a1.clauses) (fun r38 => (bif (!r38) then some false else some true)))

def laws_eqTreeNode (a0 : TreeNode) (a1 : TreeNode) : Bool :=
  (bif (!(a0.var == a1.var)) then false else (bif (!(a0.low == a1.low)) then false else (bif (!(a0.high == a1.high)) then false else (bif (!(a0.clause == a1.clause)) then false else true))))

def laws_eqTreeNodeS (a0 : List TreeNode) (a1 : List TreeNode) : Option Bool :=
  (bif (!((len a0) == (len a1))) then some false else bdR (forL (S := Unit) (X := Bool) a0 (fun i23 y22 s23 => bd (ix a1 ((i23 : Nat) : Int)) (fun x72 => (bif (!(PF.laws_eqTreeNode y22 x72)) then some (Lp.rt false) else some (Lp.nx ())))) ()) (fun s23 => some true) (fun x23 => some x23))

def laws_markIntS (a0 : List Int) (a1 : Int) : List Int × Int :=
  markFrom (fun y m => (m, (wr (m + 1)))) a0 a1

def laws_markIntSS (a0 : List (List Int)) (a1 : Int) : List (List Int) × Int :=
  markFrom (fun y m => ((PF.laws_markIntS y m).1, (PF.laws_markIntS y m).2)) a0 a1

def laws_markCnf (a0 : Cnf) (a1 : Int) : Cnf × Int :=
  let r := PF.laws_markIntSS a0.clauses a1
  ((Cnf.mk a0.vars r.1), r.2)

def laws_markTreeNodeS (a0 : List TreeNode) (a1 : Int) : List TreeNode × Int :=
  markFrom (fun y m => ((TreeNode.mk m (wr (m + 1)) (wr ((wr (m + 1)) + 1)) (wr ((wr ((wr (m + 1)) + 1)) + 1))), (wr ((wr ((wr ((wr (m + 1)) + 1)) + 1)) + 1)))) a0 a1

def laws_heldIntS (a0 : List Int) (a1 : Int) : Option Int :=
  bdR (forL (S := Int) (X := Int) a0 (fun i22 y21 s22 => (bif (!(y21 == s22)) then some (Lp.rt (-1)) else some (Lp.nx (wr (s22 + 1))))) a1) (fun s22 => some s22) (fun x22 => some x22)

def laws_heldIntSS (a0 : List (List Int)) (a1 : Int) : Option Int :=
  bdR (forL (S := Int) (X := Int) a0 (fun i22 y21 s22 => bd (PF.laws_heldIntS y21 s22) (fun r61 => (bif (decide (r61 < 0)) then some (Lp.rt (-1)) else some (Lp.nx r61)))) a1) (fun s22 => some s22) (fun x22 => some x22)

noncomputable def laws_FnExactTreeClauses (a0 : Cnf) (a1 : List TreeNode) : Option Bool :=
  bd (PF.laws_szCnf a0 1048576) (fun r29 => (bif (decide (r29 < 0)) then some true else (bif (decide ((PF.laws_szTreeNodeS a1 r29) < 0)) then some true else bd (PF.laws_toCnf a0) (fun r41 => bd (PF.laws_toTreeNodeS a1) (fun r53 => bd (PF.spec_TreeClauses r41 r53) (fun r69 => bd (PF.laws_toCnf a0) (fun r88 => bd (PF.laws_toTreeNodeS a1) (fun r112 => bd (PF.impl_TreeClauses r88 r112) (fun r128 => bd (PF.laws_eqIntSS r128.1 r69.1) (fun r147 => (bif (bif (!r147) then true else (!(r128.2 == r69.2))) then some false else bd (PF.laws_toCnf a0) (fun r9170 => bd (PF.laws_eqCnf r88 r9170) (fun r12170 => (bif (!r12170) then some false else bd (PF.laws_toTreeNodeS a1) (fun r21186 => bd (PF.laws_eqTreeNodeS r112 r21186) (fun r21202 => (bif (!r21202) then some false else bd (bif (decide ((PF.laws_markTreeNodeS r112 ((PF.laws_markCnf r88 1).2)).2 < 0)) then some true else bd (PF.laws_eqIntSS r128.1 r69.1) (fun r21252 => some (!r21252))) (fun t21245 => (bif (bif t21245 then true else (!(r128.2 == r69.2))) then some false else bd (PF.laws_heldIntSS ((PF.laws_markIntSS r128.1 1).1) 1) (fun r21291 => (bif (decide (r21291 < 0)) then some false else (bif (!(r21291 == (PF.laws_markIntSS r128.1 1).2)) then some false else bd (PF.laws_toCnf a0) (fun r21299 => bd (PF.laws_toTreeNodeS a1) (fun r21311 => bd (PF.impl_TreeClauses r21299 r21311) (fun r21327 => bd (PF.laws_eqIntSS r21327.1 r69.1) (fun r21346 => (bif (bif (!r21346) then true else (!(r21327.2 == r69.2))) then some false else bd (PF.laws_heldIntSS ((PF.laws_markIntSS r128.1 1).1) 1) (fun r21363 => (bif (decide (r21363 < 0)) then some false else (bif (!(r21363 == (PF.laws_markIntSS r128.1 1).2)) then some false else some true))))))))))))))))))))))))))))))

end Go.PF
