/- Part of the walks and plain laws behind the claim: it proves helpers, under no condition beyond their own. -/
import Derived.Test.YtmpfnnkmplkfoaaGreatPl1
import Derived.Test.YtmpfnnkmplkfoaaGreatCrPu2
set_option linter.unusedVariables false
namespace Go.PF
open Go.Pu

structure Cnf where
  vars : Int
  clauses : List (List Int)
def okCnf (s : Cnf) : Prop := okI s.vars ∧ (okL (okL okI)) s.clauses

structure ResStep where
  clause : List Int
  left : Int
  right : Int
  pivot : Int
def okResStep (s : ResStep) : Prop := (okL okI) s.clause ∧ okI s.left ∧ okI s.right ∧ okI s.pivot

structure Bench where
  stage : Int
  formula : Cnf
  steps : List ResStep
  wide : Int
  count : Int
def okBench (s : Bench) : Prop := okI s.stage ∧ okCnf s.formula ∧ (okL okResStep) s.steps ∧ okI s.wide ∧ okI s.count

structure l15Work where
  now : List (List Int)
  most : Int
  all : List (List Int)
  ok : Bool
def okl15Work (s : l15Work) : Prop := (okL (okL okI)) s.now ∧ okI s.most ∧ (okL (okL okI)) s.all ∧ okT s.ok

structure SpaceStep where
  kind : Int
  a : Int
  b : Int
  pivot : Int
def okSpaceStep (s : SpaceStep) : Prop := okI s.kind ∧ okI s.a ∧ okI s.b ∧ okI s.pivot

structure TreeNode where
  var : Int
  low : Int
  high : Int
  clause : Int
def okTreeNode (s : TreeNode) : Prop := okI s.var ∧ okI s.low ∧ okI s.high ∧ okI s.clause

structure weaver where
  steps : List ResStep
  became : List Int
def okweaver (s : weaver) : Prop := (okL okResStep) s.steps ∧ (okL okI) s.became

structure grower where
  f : Cnf
  nodes : List TreeNode
  ask : (List Int) → Option Int
def okgrower (s : grower) : Prop := okCnf s.f ∧ (okL okTreeNode) s.nodes ∧ okT s.ask

structure ring where
  p : Int
  vars : Int
def okring (s : ring) : Prop := okI s.p ∧ okI s.vars

structure algebra where
  ring : ring
  f : Cnf
  q : List (List Int)
def okalgebra (s : algebra) : Prop := okring s.ring ∧ okCnf s.f ∧ (okL (okL okI)) s.q

structure Term where
  mono : Int
  coeff : Int
def okTerm (s : Term) : Prop := okI s.mono ∧ okI s.coeff

structure echelon where
  ring : ring
  rows : List (List Int)
  made : List (List Int)
  many : Int
def okechelon (s : echelon) : Prop := okring s.ring ∧ (okL (okL okI)) s.rows ∧ (okL (okL okI)) s.made ∧ okI s.many

def laws_szIntS (a0 : List Int) (a1 : Int) : Int :=
  (bif (decide ((wr (a1 - (len a0))) < 0)) then (-1) else (wr (a1 - (len a0))))

def laws_szIntSS (a0 : List (List Int)) (a1 : Int) : Option Int :=
  (bif (decide ((wr (a1 - (len a0))) < 0)) then some (-1) else bdR (forL (S := Int) (X := Int) a0 (fun i23 y22 s23 => (bif (decide ((PF.laws_szIntS y22 s23) < 0)) then some (Lp.rt (-1)) else some (Lp.nx (PF.laws_szIntS y22 s23)))) (wr (a1 - (len a0)))) (fun s23 => some s23) (fun x23 => some x23))

def laws_szCnf (a0 : Cnf) (a1 : Int) : Option Int :=
  bd (PF.laws_szIntSS a0.clauses a1) (fun r29 => (bif (decide (r29 < 0)) then some (-1) else some r29))

def laws_szSpaceStepS (a0 : List SpaceStep) (a1 : Int) : Int :=
  (bif (decide ((wr (a1 - (len a0))) < 0)) then (-1) else (wr (a1 - (len a0))))

def laws_toIntS (a0 : List Int) : Option (List Int) :=
  bd (mk2 (0 : Int) (len a0) (len a0)) (fun xs21 => bdR (forL (S := (List Int)) (X := Empty) a0 (fun i32 y31 s32 => bd (ix s32 ((i32 : Nat) : Int)) (fun x117 => bd (put s32 ((i32 : Nat) : Int) y31) (fun xs122 => some (Lp.nx xs122)))) xs21) (fun s32 => some s32) (fun x32 => nomatch x32))

def laws_toIntSS (a0 : List (List Int)) : Option (List (List Int)) :=
  bd (mk2 ([] : List Int) (len a0) (len a0)) (fun xs21 => bdR (forL (S := (List (List Int))) (X := Empty) a0 (fun i33 y32 s33 => bd (PF.laws_toIntS y32) (fun r155 => bd (ix s33 ((i33 : Nat) : Int)) (fun x171 => bd (put s33 ((i33 : Nat) : Int) r155) (fun xs183 => some (Lp.nx xs183))))) xs21) (fun s33 => some s33) (fun x33 => nomatch x33))

def laws_toCnf (a0 : Cnf) : Option Cnf :=
  bd (PF.laws_toIntSS a0.clauses) (fun r40 => some (Cnf.mk a0.vars r40))

def laws_toSpaceStep (a0 : SpaceStep) : SpaceStep :=
  a0

def laws_toSpaceStepS (a0 : List SpaceStep) : Option (List SpaceStep) :=
  bd (mk2 ((SpaceStep.mk 0 0 0 0) : SpaceStep) (len a0) (len a0)) (fun xs21 => bdR (forL (S := (List SpaceStep)) (X := Empty) a0 (fun i32 y31 s32 => bd (ix s32 ((i32 : Nat) : Int)) (fun x126 => bd (put s32 ((i32 : Nat) : Int) (PF.laws_toSpaceStep y31)) (fun xs131 => some (Lp.nx xs131)))) xs21) (fun s32 => some s32) (fun x32 => nomatch x32))

def spec_l1In (a0 : Int) (a1 : Int) (a2 : Int) : Bool :=
  (bif (decide (a1 ≤ a0)) then (decide (a0 ≤ a2)) else false)

def spec_l2Vars (a0 : Int) : Bool :=
  (PF.spec_l1In a0 0 12)

def spec_l2Lit (a0 : Int) (a1 : Int) : Bool :=
  (bif (PF.spec_l1In a1 (wr (-a0)) a0) then (!(a1 == 0)) else false)

def spec_l2Var (a0 : Int) : Int :=
  (bif (decide (a0 < 0)) then (wr (-a0)) else a0)

def spec_l2Clause (a0 : Int) (a1 : List Int) : Option Bool :=
  (bif (!(PF.spec_l2Vars a0)) then some false else bdR (forL (S := Unit) (X := Bool) a1 (fun i26 y25 s26 => bd (bif (!(PF.spec_l2Lit a0 y25)) then some true else bd (bif (decide (0 < ((i26 : Nat) : Int))) then bd (ix a1 (wr (((i26 : Nat) : Int) - 1))) (fun x226 => some (decide ((PF.spec_l2Var y25) ≤ (PF.spec_l2Var x226)))) else some false) (fun t213 => some t213)) (fun t192 => (bif t192 then some (Lp.rt false) else some (Lp.nx ())))) ()) (fun s26 => some true) (fun x26 => some x26))

noncomputable def spec_l2Good (a0 : Cnf) : Option Bool :=
  (bif (bif (!(PF.spec_l2Vars a0.vars)) then true else (decide (60 < (len a0.clauses)))) then some false else bdR (iter (S := Int) (X := Bool) (fun s42 => (bif (decide (s42 < (len a0.clauses))) then bd (ix a0.clauses s42) (fun x83 => bd (PF.spec_l2Clause a0.vars x83) (fun r87 => (bif (!r87) then some (Lp.rt false) else some (Lp.nx (wr (s42 + 1)))))) else some (Lp.bk s42))) 0) (fun s42 => some true) (fun x42 => some x42))

def spec_l2Key (a0 : Int) : Int :=
  (bif (decide (a0 < 0)) then (wr ((wr ((-2) * a0)) + 1)) else (wr (2 * a0)))

def spec_l2Before (a0 : List Int) (a1 : List Int) : Option Bool :=
  (bif (!((len a0) == (len a1))) then some (decide ((len a0) < (len a1))) else bdR (forL (S := Unit) (X := Bool) a0 (fun i23 y22 s23 => bd (ix a1 ((i23 : Nat) : Int)) (fun x90 => (bif (!(y22 == x90)) then bd (ix a1 ((i23 : Nat) : Int)) (fun x109 => some (Lp.rt (decide ((PF.spec_l2Key y22) < (PF.spec_l2Key x109))))) else some (Lp.nx ())))) ()) (fun s23 => some false) (fun x23 => some x23))

noncomputable def spec_l2Place (a0 : List (List Int)) (a1 : List Int) : Option Int :=
  bdR (iter (S := (Int × Int)) (X := Empty) (fun s21 => (bif (decide (s21.1 < s21.2)) then bd (ix a0 (wr ((wr (s21.1 + s21.2)).tdiv 2))) (fun x64 => bd (PF.spec_l2Before x64 a1) (fun r68 => (bif r68 then some (Lp.nx ((wr ((wr ((wr (s21.1 + s21.2)).tdiv 2)) + 1)), s21.2)) else some (Lp.nx (s21.1, (wr ((wr (s21.1 + s21.2)).tdiv 2))))))) else some (Lp.bk (s21.1, s21.2)))) (0, (len a0))) (fun s21 => some s21.1) (fun x21 => nomatch x21)

def spec_l1Same (a0 : List Int) (a1 : List Int) : Option Bool :=
  (bif (!((len a0) == (len a1))) then some false else bdR (forL (S := Unit) (X := Bool) a0 (fun i23 y22 s23 => bd (ix a1 ((i23 : Nat) : Int)) (fun x72 => (bif (!(y22 == x72)) then some (Lp.rt false) else some (Lp.nx ())))) ()) (fun s23 => some true) (fun x23 => some x23))

noncomputable def spec_l2At (a0 : List (List Int)) (a1 : List Int) : Option Int :=
  bd (PF.spec_l2Place a0 a1) (fun r21 => bd (bif (decide (r21 < (len a0))) then bd (ix a0 r21) (fun x54 => bd (PF.spec_l1Same x54 a1) (fun r58 => some r58)) else some false) (fun t41 => (bif t41 then some r21 else some (-1))))

noncomputable def spec_l2Insert (a0 : List (List Int)) (a1 : List Int) : Option (List (List Int)) :=
  bd (PF.spec_l2Place a0 a1) (fun r21 => bd (bif (decide (r21 < (len a0))) then bd (ix a0 r21) (fun x54 => bd (PF.spec_l1Same x54 a1) (fun r58 => some r58)) else some false) (fun t41 => (bif t41 then some a0 else bd (cut a0 0 r21) (fun xs12068 => bd (app [] xs12068) (fun xs15068 => bd (app xs15068 [a1]) (fun xs24068 => bd (cut a0 r21 (len a0)) (fun xs33068 => bd (app xs24068 xs33068) (fun xs36068 => some xs36068))))))))

def spec_l1Has (a0 : List Int) (a1 : Int) : Option Bool :=
  bdR (forL (S := Unit) (X := Bool) a0 (fun i22 y21 s22 => (bif (y21 == a1) then some (Lp.rt true) else some (Lp.nx ()))) ()) (fun s22 => some false) (fun x22 => some x22)

def spec_l2Has (a0 : List Int) (a1 : Int) : Option Bool :=
  bd (PF.spec_l1Has a0 a1) (fun r21 => some r21)

def spec_l2Without (a0 : List Int) (a1 : Int) : Option (List Int) :=
  bdR (forL (S := (List Int)) (X := Empty) a0 (fun i27 y26 s27 => (bif (!((PF.spec_l2Var y26) == a1)) then bd (app s27 [y26]) (fun xs103 => some (Lp.nx xs103)) else some (Lp.nx s27))) []) (fun s27 => some s27) (fun x27 => nomatch x27)

def spec_l1Own (a0 : List Int) : Option (List Int) :=
  bd (app [] a0) (fun xs26 => some xs26)

noncomputable def spec_l2Put (a0 : List Int) (a1 : Int) : Option (List Int) :=
  bdR (iter (S := Int) (X := Empty) (fun s21 => bd (bif (decide (s21 < (len a0))) then bd (ix a0 s21) (fun x105 => some (decide ((PF.spec_l2Var x105) < (PF.spec_l2Var a1)))) else some false) (fun t92 => (bif t92 then some (Lp.nx (wr (s21 + 1))) else some (Lp.bk s21)))) 0) (fun s21 => bd (cut a0 0 s21) (fun xs9127 => bd (PF.spec_l1Own xs9127) (fun r12127 => bd (app r12127 [a1]) (fun xs21127 => bd (cut a0 s21 (len a0)) (fun xs30127 => bd (app xs21127 xs30127) (fun xs33127 => some xs33127)))))) (fun x21 => nomatch x21)

noncomputable def spec_l2Join (a0 : List Int) (a1 : List Int) : Option ((List Int) × Bool) :=
  bd (PF.spec_l1Own a0) (fun r21 => bdR (forL (S := (List Int)) (X := ((List Int) × Bool)) a1 (fun i32 y31 s32 => bd (PF.spec_l2Has s32 (wr (-y31))) (fun r200 => (bif r200 then some (Lp.rt ([], false)) else bd (PF.spec_l2Has s32 y31) (fun r222 => (bif (!r222) then bd (PF.spec_l2Put s32 y31) (fun r239 => some (Lp.nx r239)) else some (Lp.nx s32)))))) r21) (fun s32 => some (s32, true)) (fun x32 => some x32))

noncomputable def spec_l2Resolve (a0 : List Int) (a1 : List Int) (a2 : Int) : Option ((List Int) × Bool) :=
  bd (PF.spec_l2Has a0 a2) (fun r21 => bd (bif (!r21) then some true else bd (PF.spec_l2Has a1 (wr (-a2))) (fun r38 => some (!r38))) (fun t31 => (bif t31 then some ([], false) else bd (PF.spec_l2Without a0 a2) (fun r53 => bd (PF.spec_l2Without a1 a2) (fun r63 => bd (PF.spec_l2Join r53 r63) (fun r83 => some (r83.1, r83.2)))))))

noncomputable def spec_l15Step (a0 : Cnf) (a1 : List (List Int)) (a2 : SpaceStep) : Option ((List (List Int)) × (List Int) × Bool) :=
  (bif (a2.kind == 1) then bd (bif (bif (bif (!(PF.spec_l1In a2.a 0 (wr ((len a0.clauses) - 1)))) then true else (!(a2.b == 0))) then true else (!(a2.pivot == 0))) then some true else bd (ix a0.clauses a2.a) (fun x91 => bd (PF.spec_l2At a1 x91) (fun r95 => some (decide (0 ≤ r95))))) (fun t78 => (bif t78 then some ([], [], false) else bd (ix a0.clauses a2.a) (fun x18132 => bd (PF.spec_l2Insert a1 x18132) (fun r24126 => bd (ix a0.clauses a2.a) (fun x39132 => some (r24126, x39132, true)))))) else (bif (!(PF.spec_l1In a2.a 0 (wr ((len a1) - 1)))) then some ([], [], false) else (bif (a2.kind == 3) then bd (cut a1 0 a2.a) (fun xs72165 => bd (app [] xs72165) (fun xs75165 => bd (cut a1 (wr (a2.a + 1)) (len a1)) (fun xs90165 => bd (app xs75165 xs90165) (fun xs93165 => some (xs93165, [], (bif (a2.b == 0) then (a2.pivot == 0) else false)))))) else (bif (bif (bif (!(a2.kind == 2)) then true else (!(PF.spec_l1In a2.b 0 (wr ((len a1) - 1))))) then true else (!(PF.spec_l1In a2.pivot 1 a0.vars))) then some ([], [], false) else bd (ix a1 a2.a) (fun x159261 => bd (ix a1 a2.b) (fun x174261 => bd (PF.spec_l2Resolve x159261 x174261 a2.pivot) (fun r186255 => bd (bif (!r186255.2) then some true else bd (PF.spec_l2At a1 r186255.1) (fun r207290 => some (decide (0 ≤ r207290)))) (fun t207278 => (bif t207278 then some ([], [], false) else bd (PF.spec_l2Insert a1 r186255.1) (fun r207325 => some (r207325, r186255.1, true)))))))))))

def spec_l1Most (a0 : Int) (a1 : Int) : Int :=
  (bif (decide (a1 < a0)) then a0 else a1)

noncomputable def spec_l15Run (a0 : Cnf) (a1 : List SpaceStep) : Option l15Work :=
  bdR (iter (S := ((List (List Int)) × Int × (List (List Int)) × Bool × Int)) (X := Empty) (fun s62 => (bif (bif (decide (s62.2.2.2.2 < (len a1))) then s62.2.2.2.1 else false) then bd (ix a1 s62.2.2.2.2) (fun x120287 => bd (PF.spec_l15Step a0 s62.1 x120287) (fun r126281 => bd (bif r126281.2.2 then bd (ix a1 s62.2.2.2.2) (fun x153332 => some (!(x153332.kind == 3))) else some false) (fun t153319 => (bif t153319 then bd (PF.spec_l2Insert s62.2.2.1 r126281.2.1) (fun r153342 => some (Lp.nx (r126281.1, (PF.spec_l1Most s62.2.1 (len r126281.1)), r153342, r126281.2.2, (wr (s62.2.2.2.2 + 1))))) else some (Lp.nx (r126281.1, (PF.spec_l1Most s62.2.1 (len r126281.1)), s62.2.2.1, r126281.2.2, (wr (s62.2.2.2.2 + 1)))))))) else some (Lp.bk (s62.1, s62.2.1, s62.2.2.1, s62.2.2.2.1, s62.2.2.2.2)))) ([], 0, [], (decide ((len a1) ≤ 300)), 0)) (fun s62 => some (l15Work.mk s62.1 s62.2.1 s62.2.2.1 s62.2.2.2.1)) (fun x62 => nomatch x62)

def spec_l10Copy (a0 : List (List Int)) : Option (List (List Int)) :=
  bdR (forL (S := (List (List Int))) (X := Empty) a0 (fun i27 y26 s27 => bd (PF.spec_l1Own y26) (fun r98 => bd (app s27 [r98]) (fun xs119 => some (Lp.nx xs119)))) []) (fun s27 => some s27) (fun x27 => nomatch x27)

noncomputable def spec_ClausesOfRun (a0 : Cnf) (a1 : List SpaceStep) : Option ((List (List Int)) × Bool) :=
  bd (PF.spec_l2Good a0) (fun r29 => (bif (!r29) then some ([], false) else bd (PF.spec_l15Run a0 a1) (fun r40 => (bif (!r40.ok) then some ([], false) else bd (PF.spec_l10Copy r40.all) (fun r67 => some (r67, true))))))

def impl_within (a0 : Int) (a1 : Int) (a2 : Int) : Bool :=
  (bif (decide (a1 ≤ a0)) then (decide (a0 ≤ a2)) else false)

def impl_isLiteral (a0 : Int) (a1 : Int) : Bool :=
  (bif (!(a1 == 0)) then (PF.impl_within a1 (wr (-a0)) a0) else false)

def impl_abs (a0 : Int) : Int :=
  (mx a0 (wr (-a0)))

def impl_varsOk (a0 : Int) : Bool :=
  (PF.impl_within a0 0 12)

def impl_IsClause (a0 : Int) (a1 : List Int) : Option Bool :=
  bdR (forL (S := Unit) (X := Bool) a1 (fun i22 y21 s22 => bd (bif (!(PF.impl_isLiteral a0 y21)) then some true else bd (bif (decide (0 < ((i22 : Nat) : Int))) then bd (ix a1 (wr (((i22 : Nat) : Int) - 1))) (fun x192 => some (decide ((PF.impl_abs y21) ≤ (PF.impl_abs x192)))) else some false) (fun t179 => some t179)) (fun t164 => (bif t164 then some (Lp.rt false) else some (Lp.nx ())))) ()) (fun s22 => some (PF.impl_varsOk a0)) (fun x22 => some x22)

def impl_IsCnf (a0 : Cnf) : Option Bool :=
  bdR (forL (S := Unit) (X := Bool) a0.clauses (fun i30 y29 s30 => bd (PF.impl_IsClause a0.vars y29) (fun r71 => (bif (!r71) then some (Lp.rt false) else some (Lp.nx ())))) ()) (fun s30 => some (bif (PF.impl_varsOk a0.vars) then (decide ((len a0.clauses) ≤ 60)) else false)) (fun x30 => some x30)

def impl_last_impl_config (a0 : List (List (List Int))) : Option (List (List Int)) :=
  bd (ix a0 (wr ((len a0) - 1))) (fun x27 => some x27)

def slices_Clone_LLint_Lint (a0 : List (List Int)) : Option (List (List Int)) :=
  bd (app [] a0) (fun xs30 => some xs30)

def slices_Delete_LLint_Lint (a0 : List (List Int)) (a1 : Int) (a2 : Int) : Option (List (List Int)) := delL a0 a1 a2

def impl_without_int (a0 : List (List Int)) (a1 : Int) : Option (List (List Int)) :=
  bd (PF.slices_Clone_LLint_Lint a0) (fun r21 => bd (PF.slices_Delete_LLint_Lint r21 a1 (wr (a1 + 1))) (fun r31 => some r31))

def impl_isVar (a0 : Int) (a1 : Int) : Bool :=
  (PF.impl_within a1 1 a0)

def slices_Index_int_int (a0 : List Int) (a1 : Int) : Option Int :=
  bdR (forL (S := Unit) (X := Int) a0 (fun i22 y21 s22 => (bif (a1 == y21) then some (Lp.rt ((i22 : Nat) : Int)) else some (Lp.nx ()))) ()) (fun s22 => some (-1)) (fun x22 => some x22)

def slices_Contains_int_int (a0 : List Int) (a1 : Int) : Option Bool :=
  bd (PF.slices_Index_int_int a0 a1) (fun r21 => some (decide (0 ≤ r21)))

def slices_Clone_int_int (a0 : List Int) : Option (List Int) :=
  bd (app [] a0) (fun xs30 => some xs30)

def slices_IndexFunc_int_int (a0 : List Int) (a1 : Int → Option Bool) : Option Int :=
  bdR (forL (S := Unit) (X := Int) a0 (fun i22 y21 s22 => bd (a1 y21) (fun r64 => (bif r64 then some (Lp.rt ((i22 : Nat) : Int)) else some (Lp.nx ())))) ()) (fun s22 => some (-1)) (fun x22 => some x22)

noncomputable def slices_DeleteFunc_int_int (a0 : List Int) (a1 : Int → Option Bool) : Option (List Int) :=
  bd (PF.slices_IndexFunc_int_int a0 a1) (fun r26 => (bif (r26 == (-1)) then some a0 else bdR (iter (S := ((List Int) × Int × Int)) (X := Empty) (fun s32 => (bif (decide (s32.2.2 < (len s32.1))) then bd (ix s32.1 s32.2.2) (fun x141 => bd (a1 x141) (fun r143 => (bif (!r143) then bd (ix s32.1 s32.2.1) (fun x160 => bd (put s32.1 s32.2.1 x141) (fun xs165 => some (Lp.nx (xs165, (wr (s32.2.1 + 1)), (wr (s32.2.2 + 1)))))) else some (Lp.nx (s32.1, s32.2.1, (wr (s32.2.2 + 1))))))) else some (Lp.bk (s32.1, s32.2.1, s32.2.2)))) (a0, r26, (wr (r26 + 1)))) (fun s32 => bd (cut s32.1 s32.2.1 (len s32.1)) (fun xs178 => bd (cut (clearL 0 s32.1 s32.2.1) 0 s32.2.1) (fun xs188 => some xs188))) (fun x32 => nomatch x32)))

def impl_withoutVar_1 (a0 : Int) (b0 : Int) : Bool :=
  ((PF.impl_abs a0) == b0)

noncomputable def impl_withoutVar (a0 : List Int) (a1 : Int) : Option (List Int) :=
  bd (PF.slices_Clone_int_int a0) (fun r29 => bd (PF.slices_DeleteFunc_int_int r29 (fun x0 => some (PF.impl_withoutVar_1 x0 a1))) (fun r39 => some r39))

def slices_Grow_int_int (a1 : Int) : Option (List Int) := if 0 ≤ a1 ∧ a1 ≤ lim then some [] else none

def slices_Concat_int_int (a0 : List (List Int)) : Option (List Int) :=
  bdR (forL (S := Int) (X := Empty) a0 (fun i22 y21 s22 => (bif (decide ((wr (s22 + (len y21))) < 0)) then none else some (Lp.nx (wr (s22 + (len y21)))))) 0) (fun s22 => bd (PF.slices_Grow_int_int s22) (fun r69 => bdR (forL (S := (List Int)) (X := Empty) a0 (fun i80 y79 s80 => bd (app s80 y79) (fun xs129 => some (Lp.nx xs129))) r69) (fun s80 => some s80) (fun x80 => nomatch x80))) (fun x22 => nomatch x22)

noncomputable def slices_SortFunc_int_int (a0 : List Int) (a1 : Int → Int → Option Int) : Option (List Int) := sortF a1 a0

def cmp_isNaN_int (a0 : Int) : Bool :=
  (!(a0 == a0))

def cmp_Compare_int (a0 : Int) (a1 : Int) : Int :=
  (bif (PF.cmp_isNaN_int a0) then (bif (PF.cmp_isNaN_int a1) then 0 else (-1)) else (bif (PF.cmp_isNaN_int a1) then 1 else (bif (decide (a0 < a1)) then (-1) else (bif (decide (a1 < a0)) then 1 else 0))))

def cmp_Or_int (a0 : List Int) : Option Int :=
  bdR (forL (S := Unit) (X := Int) a0 (fun i22 y21 s22 => (bif (!(y21 == 0)) then some (Lp.rt y21) else some (Lp.nx ()))) ()) (fun s22 => some 0) (fun x22 => some x22)

def impl_compareLiterals (a0 : Int) (a1 : Int) : Option Int :=
  bd (PF.cmp_Or_int [(PF.cmp_Compare_int (PF.impl_abs a0) (PF.impl_abs a1)), (PF.cmp_Compare_int a1 a0)]) (fun r43 => some r43)

def slices_Compact_int_int (a0 : List Int) : Option (List Int) := some (compactL a0)

noncomputable def impl_clause (a0 : List Int) : Option ((List Int) × Bool) :=
  bd (PF.slices_Clone_int_int a0) (fun r21 => bd (PF.slices_SortFunc_int_int r21 (fun x0 x1 => PF.impl_compareLiterals x0 x1)) (fun r31 => bd (PF.slices_Compact_int_int r31) (fun r39 => bdR (iter (S := Int) (X := ((List Int) × Bool)) (fun s49 => (bif (decide (s49 < (len r39))) then bd (ix r39 s49) (fun x94 => bd (ix r39 (wr (s49 - 1))) (fun x102 => (bif (x94 == (wr (-x102))) then some (Lp.rt ([], false)) else some (Lp.nx (wr (s49 + 1)))))) else some (Lp.bk s49))) 1) (fun s49 => some (r39, true)) (fun x49 => some x49))))

noncomputable def impl_resolve (a0 : List Int) (a1 : List Int) (a2 : Int) : Option ((List Int) × Bool) :=
  bd (PF.slices_Contains_int_int a0 a2) (fun r21 => bd (bif (!r21) then some true else bd (PF.slices_Contains_int_int a1 (wr (-a2))) (fun r38 => some (!r38))) (fun t31 => (bif t31 then some ([], false) else bd (PF.impl_withoutVar a0 a2) (fun r48 => bd (PF.impl_withoutVar a1 a2) (fun r58 => bd (PF.slices_Concat_int_int [r48, r58]) (fun r88 => bd (PF.impl_clause r88) (fun r105 => some (r105.1, r105.2))))))))

noncomputable def impl_config_put (a0 : List (List Int)) (a1 : Cnf) (a2 : SpaceStep) : Option ((List Int) × Bool) :=
  (bif (bif (bif (bif (a2.kind == 1) then (PF.impl_within a2.a 0 (wr ((len a1.clauses) - 1))) else false) then (a2.b == 0) else false) then (a2.pivot == 0) else false) then bd (ix a1.clauses a2.a) (fun x86 => some (x86, true)) else (bif (bif (bif (bif (a2.kind == 2) then (PF.impl_within a2.a 0 (wr ((len a0) - 1))) else false) then (PF.impl_within a2.b 0 (wr ((len a0) - 1))) else false) then (PF.impl_isVar a1.vars a2.pivot) else false) then bd (ix a0 a2.a) (fun x12148 => bd (ix a0 a2.b) (fun x27148 => bd (PF.impl_resolve x12148 x27148 a2.pivot) (fun r39142 => some (r39142.1, r39142.2)))) else some ([], false)))

def slices_IndexFunc_LLint_Lint (a0 : List (List Int)) (a1 : (List Int) → Option Bool) : Option Int :=
  bdR (forL (S := Unit) (X := Int) a0 (fun i22 y21 s22 => bd (a1 y21) (fun r68 => (bif r68 then some (Lp.rt ((i22 : Nat) : Int)) else some (Lp.nx ())))) ()) (fun s22 => some (-1)) (fun x22 => some x22)

def slices_Equal_int_int (a0 : List Int) (a1 : List Int) : Option Bool :=
  (bif (!((len a0) == (len a1))) then some false else bdR (forL (S := Unit) (X := Bool) a0 (fun i23 y22 s23 => bd (ix a1 ((i23 : Nat) : Int)) (fun x74 => (bif (!(y22 == x74)) then some (Lp.rt false) else some (Lp.nx ())))) ()) (fun s23 => some true) (fun x23 => some x23))

def impl_indexOf_1 (a0 : List Int) (b0 : List Int) : Option Bool :=
  bd (PF.slices_Equal_int_int b0 a0) (fun r21 => some r21)

def impl_indexOf (a0 : List (List Int)) (a1 : List Int) : Option Int :=
  bd (PF.slices_IndexFunc_LLint_Lint a0 (fun x0 => PF.impl_indexOf_1 x0 a1)) (fun r29 => some r29)

def impl_hasList (a0 : List (List Int)) (a1 : List Int) : Option Bool :=
  bd (PF.impl_indexOf a0 a1) (fun r21 => some (decide (0 ≤ r21)))

def slices_Clone_impl_config_Lint (a0 : List (List Int)) : Option (List (List Int)) :=
  bd (app [] a0) (fun xs30 => some xs30)

noncomputable def slices_SortFunc_impl_config_Lint (a0 : List (List Int)) (a1 : (List Int) → (List Int) → Option Int) : Option (List (List Int)) := sortF a1 a0

def slices_CompareFunc_int_int_int_int (a0 : List Int) (a1 : List Int) (a2 : Int → Int → Option Int) : Option Int :=
  bdR (forL (S := Unit) (X := Int) a0 (fun i22 y21 s22 => (bif (decide ((len a1) ≤ ((i22 : Nat) : Int))) then some (Lp.rt 1) else bd (ix a1 ((i22 : Nat) : Int)) (fun x84 => bd (a2 y21 x84) (fun r86 => (bif (!(r86 == 0)) then some (Lp.rt r86) else some (Lp.nx ())))))) ()) (fun s22 => (bif (decide ((len a0) < (len a1))) then some (-1) else some 0)) (fun x22 => some x22)

def impl_compareClauses (a0 : List Int) (a1 : List Int) : Option Int :=
  bd (PF.slices_CompareFunc_int_int_int_int a0 a1 (fun x0 x1 => PF.impl_compareLiterals x0 x1)) (fun r24 => bd (PF.cmp_Or_int [(PF.cmp_Compare_int (len a0) (len a1)), r24]) (fun r39 => some r39))

noncomputable def impl_config_with (a0 : List (List Int)) (a1 : List Int) : Option ((List (List Int)) × Bool) :=
  bd (PF.impl_hasList a0 a1) (fun r21 => (bif r21 then some ([], false) else bd (PF.slices_Clone_impl_config_Lint a0) (fun r27 => bd (app r27 [a1]) (fun xs42 => bd (PF.slices_SortFunc_impl_config_Lint xs42 (fun x0 x1 => PF.impl_compareClauses x0 x1)) (fun r53 => some (r53, true))))))

noncomputable def impl_config_after (a0 : List (List Int)) (a1 : Cnf) (a2 : SpaceStep) : Option ((List (List Int)) × Bool) :=
  (bif (a2.kind == 3) then (bif (bif (bif (!(PF.impl_within a2.a 0 (wr ((len a0) - 1)))) then true else (!(a2.b == 0))) then true else (!(a2.pivot == 0))) then some ([], false) else bd (PF.impl_without_int a0 a2.a) (fun r62 => some (r62, true))) else bd (PF.impl_config_put a0 a1 a2) (fun r72 => (bif (!r72.2) then some ([], false) else bd (PF.impl_config_with a0 r72.1) (fun r81 => some (r81.1, r81.2)))))

noncomputable def impl_configs (a0 : Cnf) (a1 : List SpaceStep) : Option ((List (List (List Int))) × Bool) :=
  bd (PF.impl_IsCnf a0) (fun r29 => (bif (bif (!r29) then true else (decide (300 < (len a1)))) then some ([], false) else bdR (forL (S := (List (List (List Int)))) (X := ((List (List (List Int))) × Bool)) a1 (fun i51 y50 s51 => bd (β := _) (bd (ix s51 (wr ((len s51) - 1))) (fun x42167 => some x42167) : Option (List (List Int))) (fun s42158 => bd (PF.impl_config_after s42158 a0 y50) (fun r51148 => (bif (!r51148.2) then some (Lp.rt ([], false)) else bd (app s51 [r51148.1]) (fun xs72176 => some (Lp.nx xs72176)))))) [[]]) (fun s51 => some (s51, true)) (fun x51 => some x51)))

def impl_cloneLists (a0 : List (List Int)) : Option (List (List Int)) :=
  bdR (forL (S := (List (List Int))) (X := Empty) a0 (fun i22 y21 s22 => bd (PF.slices_Clone_int_int y21) (fun r95 => bd (app s22 [r95]) (fun xs116 => some (Lp.nx xs116)))) []) (fun s22 => some s22) (fun x22 => nomatch x22)

noncomputable def slices_SortFunc_LLint_Lint (a0 : List (List Int)) (a1 : (List Int) → (List Int) → Option Int) : Option (List (List Int)) := sortF a1 a0

def slices_CompactFunc_LLint_Lint (a0 : List (List Int)) (a1 : (List Int) → (List Int) → Option Bool) : Option (List (List Int)) := compF a1 a0

noncomputable def impl_ClausesOfRun (a0 : Cnf) (a1 : List SpaceStep) : Option ((List (List Int)) × Bool) :=
  bd (PF.impl_configs a0 a1) (fun r29 => (bif (!r29.2) then some ([], false) else bd (chk (len r29.1)) (fun m40 => bdR (forR (S := (List (List Int))) (X := Empty) 0 m40 (fun i41 s41 => bd (ix r29.1 ((i41 : Nat) : Int)) (fun x104 => bd (PF.impl_cloneLists x104) (fun r108 => bd (app s41 r108) (fun xs120 => some (Lp.nx xs120))))) []) (fun s41 => bd (PF.slices_SortFunc_LLint_Lint s41 (fun x0 x1 => PF.impl_compareClauses x0 x1)) (fun r138 => bd (PF.slices_CompactFunc_LLint_Lint r138 (fun x0 x1 => PF.slices_Equal_int_int x0 x1)) (fun r148 => some (r148, true)))) (fun x41 => nomatch x41))))

def laws_eqIntS (a0 : List Int) (a1 : List Int) : Option Bool :=
  (bif (!((len a0) == (len a1))) then some false else bdR (forL (S := Unit) (X := Bool) a0 (fun i23 y22 s23 => bd (ix a1 ((i23 : Nat) : Int)) (fun x72 => (bif (!(y22 == x72)) then some (Lp.rt false) else some (Lp.nx ())))) ()) (fun s23 => some true) (fun x23 => some x23))

def laws_eqIntSS (a0 : List (List Int)) (a1 : List (List Int)) : Option Bool :=
  (bif (!((len a0) == (len a1))) then some false else bdR (forL (S := Unit) (X := Bool) a0 (fun i23 y22 s23 => bd (ix a1 ((i23 : Nat) : Int)) (fun x80 => bd (PF.laws_eqIntS y22 x80) (fun r84 => (bif (!r84) then some (Lp.rt false) else some (Lp.nx ()))))) ()) (fun s23 => some true) (fun x23 => some x23))

def laws_eqCnf (a0 : Cnf) (a1 : Cnf) : Option Bool :=
  (bif (!(a0.vars == a1.vars)) then some false else bd (PF.laws_eqIntSS a0.clauses a1.clauses) (fun r38 => (bif (!r38) then some false else some true)))

def laws_eqSpaceStep (a0 : SpaceStep) (a1 : SpaceStep) : Bool :=
  (bif (!(a0.kind == a1.kind)) then false else (bif (!(a0.a == a1.a)) then false else (bif (!(a0.b == a1.b)) then false else (bif (!(a0.pivot == a1.pivot)) then false else true))))

def laws_eqSpaceStepS (a0 : List SpaceStep) (a1 : List SpaceStep) : Option Bool :=
  (bif (!((len a0) == (len a1))) then some false else bdR (forL (S := Unit) (X := Bool) a0 (fun i23 y22 s23 => bd (ix a1 ((i23 : Nat) : Int)) (fun x72 => (bif (!(PF.laws_eqSpaceStep y22 x72)) then some (Lp.rt false) else some (Lp.nx ())))) ()) (fun s23 => some true) (fun x23 => some x23))

def laws_markIntS (a0 : List Int) (a1 : Int) : List Int × Int :=
  markFrom (fun y m => (m, (wr (m + 1)))) a0 a1

def laws_markIntSS (a0 : List (List Int)) (a1 : Int) : List (List Int) × Int :=
  markFrom (fun y m => ((PF.laws_markIntS y m).1, (PF.laws_markIntS y m).2)) a0 a1

def laws_markCnf (a0 : Cnf) (a1 : Int) : Cnf × Int :=
  let r := PF.laws_markIntSS a0.clauses a1
  ((Cnf.mk a0.vars r.1), r.2)

def laws_markSpaceStepS (a0 : List SpaceStep) (a1 : Int) : List SpaceStep × Int :=
  markFrom (fun y m => ((SpaceStep.mk m (wr (m + 1)) (wr ((wr (m + 1)) + 1)) (wr ((wr ((wr (m + 1)) + 1)) + 1))), (wr ((wr ((wr ((wr (m + 1)) + 1)) + 1)) + 1)))) a0 a1

def laws_heldIntS (a0 : List Int) (a1 : Int) : Option Int :=
  bdR (forL (S := Int) (X := Int) a0 (fun i22 y21 s22 => (bif (!(y21 == s22)) then some (Lp.rt (-1)) else some (Lp.nx (wr (s22 + 1))))) a1) (fun s22 => some s22) (fun x22 => some x22)

def laws_heldIntSS (a0 : List (List Int)) (a1 : Int) : Option Int :=
  bdR (forL (S := Int) (X := Int) a0 (fun i22 y21 s22 => bd (PF.laws_heldIntS y21 s22) (fun r61 => (bif (decide (r61 < 0)) then some (Lp.rt (-1)) else some (Lp.nx r61)))) a1) (fun s22 => some s22) (fun x22 => some x22)

noncomputable def laws_FnExactClausesOfRun (a0 : Cnf) (a1 : List SpaceStep) : Option Bool :=
  bd (PF.laws_szCnf a0 1048576) (fun r29 => (bif (decide (r29 < 0)) then some true else (bif (decide ((PF.laws_szSpaceStepS a1 r29) < 0)) then some true else bd (PF.laws_toCnf a0) (fun r41 => bd (PF.laws_toSpaceStepS a1) (fun r54 => bd (PF.spec_ClausesOfRun r41 r54) (fun r70 => bd (PF.laws_toCnf a0) (fun r89 => bd (PF.laws_toSpaceStepS a1) (fun r114 => bd (PF.impl_ClausesOfRun r89 r114) (fun r130 => bd (PF.laws_eqIntSS r130.1 r70.1) (fun r149 => (bif (bif (!r149) then true else (!(r130.2 == r70.2))) then some false else bd (PF.laws_toCnf a0) (fun r9172 => bd (PF.laws_eqCnf r89 r9172) (fun r12172 => (bif (!r12172) then some false else bd (PF.laws_toSpaceStepS a1) (fun r21188 => bd (PF.laws_eqSpaceStepS r114 r21188) (fun r21204 => (bif (!r21204) then some false else bd (bif (decide ((PF.laws_markSpaceStepS r114 ((PF.laws_markCnf r89 1).2)).2 < 0)) then some true else bd (PF.laws_eqIntSS r130.1 r70.1) (fun r21254 => some (!r21254))) (fun t21247 => (bif (bif t21247 then true else (!(r130.2 == r70.2))) then some false else bd (PF.laws_heldIntSS ((PF.laws_markIntSS r130.1 1).1) 1) (fun r21293 => (bif (decide (r21293 < 0)) then some false else (bif (!(r21293 == (PF.laws_markIntSS r130.1 1).2)) then some false else bd (PF.laws_toCnf a0) (fun r21301 => bd (PF.laws_toSpaceStepS a1) (fun r21314 => bd (PF.impl_ClausesOfRun r21301 r21314) (fun r21330 => bd (PF.laws_eqIntSS r21330.1 r70.1) (fun r21349 => (bif (bif (!r21349) then true else (!(r21330.2 == r70.2))) then some false else bd (PF.laws_heldIntSS ((PF.laws_markIntSS r130.1 1).1) 1) (fun r21366 => (bif (decide (r21366 < 0)) then some false else (bif (!(r21366 == (PF.laws_markIntSS r130.1 1).2)) then some false else some true))))))))))))))))))))))))))))))

end Go.PF
