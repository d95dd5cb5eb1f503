/- Part of the walks and plain laws behind the claim: it proves helpers, under no condition beyond their own. -/
import Derived.Test.YtjkdeonnohadeaaGreatPl1
set_option linter.unusedVariables false
namespace Go.PF
open Go.Pu

structure Cnf where
  vars : Int
  clauses : List (List Int)
def okCnf (s : Cnf) : Prop := okI s.vars ∧ (okL (okL okI)) s.clauses

structure ResStep where
  clause : List Int
  left : Int
  right : Int
  pivot : Int
def okResStep (s : ResStep) : Prop := (okL okI) s.clause ∧ okI s.left ∧ okI s.right ∧ okI s.pivot

structure Bench where
  stage : Int
  formula : Cnf
  steps : List ResStep
  wide : Int
  count : Int
def okBench (s : Bench) : Prop := okI s.stage ∧ okCnf s.formula ∧ (okL okResStep) s.steps ∧ okI s.wide ∧ okI s.count

structure weaver where
  steps : List ResStep
  became : List Int
def okweaver (s : weaver) : Prop := (okL okResStep) s.steps ∧ (okL okI) s.became

structure l11Use where
  reason : Int
  v : Int
  clause : List Int
def okl11Use (s : l11Use) : Prop := okI s.reason ∧ okI s.v ∧ (okL okI) s.clause

def laws_szIntS (a0 : List Int) (a1 : Int) : Int :=
  (bif (decide ((wr (a1 - (len a0))) < 0)) then (-1) else (wr (a1 - (len a0))))

def laws_szIntSS (a0 : List (List Int)) (a1 : Int) : Option Int :=
  (bif (decide ((wr (a1 - (len a0))) < 0)) then some (-1) else bdR (forL (S := Int) (X := Int) a0 (fun i23 y22 s23 => (bif (decide ((PF.laws_szIntS y22 s23) < 0)) then some (Lp.rt (-1)) else some (Lp.nx (PF.laws_szIntS y22 s23)))) (wr (a1 - (len a0)))) (fun s23 => some s23) (fun x23 => some x23))

def laws_szCnf (a0 : Cnf) (a1 : Int) : Option Int :=
  bd (PF.laws_szIntSS a0.clauses a1) (fun r29 => (bif (decide (r29 < 0)) then some (-1) else some r29))

def laws_toIntS (a0 : List Int) : Option (List Int) :=
  bd (mk2 (0 : Int) (len a0) (len a0)) (fun xs21 => bdR (forL (S := (List Int)) (X := Empty) a0 (fun i32 y31 s32 => bd (ix s32 ((i32 : Nat) : Int)) (fun x117 => bd (put s32 ((i32 : Nat) : Int) y31) (fun xs122 => some (Lp.nx xs122)))) xs21) (fun s32 => some s32) (fun x32 => nomatch x32))

def laws_toIntSS (a0 : List (List Int)) : Option (List (List Int)) :=
  bd (mk2 ([] : List Int) (len a0) (len a0)) (fun xs21 => bdR (forL (S := (List (List Int))) (X := Empty) a0 (fun i33 y32 s33 => bd (PF.laws_toIntS y32) (fun r155 => bd (ix s33 ((i33 : Nat) : Int)) (fun x171 => bd (put s33 ((i33 : Nat) : Int) r155) (fun xs183 => some (Lp.nx xs183))))) xs21) (fun s33 => some s33) (fun x33 => nomatch x33))

def laws_toCnf (a0 : Cnf) : Option Cnf :=
  bd (PF.laws_toIntSS a0.clauses) (fun r40 => some (Cnf.mk a0.vars r40))

def spec_l1In (a0 : Int) (a1 : Int) (a2 : Int) : Bool :=
  (bif (decide (a1 ≤ a0)) then (decide (a0 ≤ a2)) else false)

def spec_l2Vars (a0 : Int) : Bool :=
  (PF.spec_l1In a0 0 12)

def spec_l2Lit (a0 : Int) (a1 : Int) : Bool :=
  (bif (PF.spec_l1In a1 (wr (-a0)) a0) then (!(a1 == 0)) else false)

def spec_l2Var (a0 : Int) : Int :=
  (bif (decide (a0 < 0)) then (wr (-a0)) else a0)

def spec_l2Clause (a0 : Int) (a1 : List Int) : Option Bool :=
  (bif (!(PF.spec_l2Vars a0)) then some false else bdR (forL (S := Unit) (X := Bool) a1 (fun i26 y25 s26 => bd (bif (!(PF.spec_l2Lit a0 y25)) then some true else bd (bif (decide (0 < ((i26 : Nat) : Int))) then bd (ix a1 (wr (((i26 : Nat) : Int) - 1))) (fun x226 => some (decide ((PF.spec_l2Var y25) ≤ (PF.spec_l2Var x226)))) else some false) (fun t213 => some t213)) (fun t192 => (bif t192 then some (Lp.rt false) else some (Lp.nx ())))) ()) (fun s26 => some true) (fun x26 => some x26))

noncomputable def spec_l2Good (a0 : Cnf) : Option Bool :=
  (bif (bif (!(PF.spec_l2Vars a0.vars)) then true else (decide (60 < (len a0.clauses)))) then some false else bdR (iter (S := Int) (X := Bool) (fun s42 => (bif (decide (s42 < (len a0.clauses))) then bd (ix a0.clauses s42) (fun x83 => bd (PF.spec_l2Clause a0.vars x83) (fun r87 => (bif (!r87) then some (Lp.rt false) else some (Lp.nx (wr (s42 + 1)))))) else some (Lp.bk s42))) 0) (fun s42 => some true) (fun x42 => some x42))

noncomputable def spec_l11Takes (a0 : Cnf) (a1 : List (List Int)) : Option Bool :=
  bd (PF.spec_l2Good a0) (fun r29 => (bif (bif (!r29) then true else (decide (60 < (len a1)))) then some false else bdR (forL (S := Unit) (X := Bool) a1 (fun i46 y45 s46 => bd (PF.spec_l2Clause a0.vars y45) (fun r87 => (bif (!r87) then some (Lp.rt false) else some (Lp.nx ())))) ()) (fun s46 => some true) (fun x46 => some x46)))

def spec_l11With (a0 : Cnf) (a1 : List (List Int)) : Option Cnf :=
  bd (app [] a0.clauses) (fun xs18033 => bd (app xs18033 a1) (fun xs24033 => some (Cnf.mk a0.vars xs24033)))

def spec_l11Deny (a0 : List Int) : Option (List Int) :=
  bdR (forL (S := (List Int)) (X := Empty) a0 (fun i27 y26 s27 => bd (app s27 [(wr (-y26))]) (fun xs81 => some (Lp.nx xs81))) []) (fun s27 => some s27) (fun x27 => nomatch x27)

def spec_l1Own (a0 : List Int) : Option (List Int) :=
  bd (app [] a0) (fun xs26 => some xs26)

def spec_l1Has (a0 : List Int) (a1 : Int) : Option Bool :=
  bdR (forL (S := Unit) (X := Bool) a0 (fun i22 y21 s22 => (bif (y21 == a1) then some (Lp.rt true) else some (Lp.nx ()))) ()) (fun s22 => some false) (fun x22 => some x22)

def spec_l2Has (a0 : List Int) (a1 : Int) : Option Bool :=
  bd (PF.spec_l1Has a0 a1) (fun r21 => some r21)

def spec_l3Value (a0 : List Int) (a1 : List Int) : Option Int :=
  bdR (forL (S := Int) (X := Int) a0 (fun i22 y21 s22 => bd (PF.spec_l2Has a1 y21) (fun r71 => (bif r71 then some (Lp.rt 1) else bd (PF.spec_l2Has a1 (wr (-y21))) (fun r83 => (bif (!r83) then some (Lp.nx 0) else some (Lp.nx s22)))))) (-1)) (fun s22 => some s22) (fun x22 => some x22)

def spec_l1Least (a0 : Int) (a1 : Int) : Int :=
  (bif (decide (a0 < a1)) then a0 else a1)

noncomputable def spec_l3CnfValue (a0 : Cnf) (a1 : List Int) : Option Int :=
  bdR (iter (S := (Int × Int)) (X := Empty) (fun s29 => (bif (decide (s29.2 < (len a0.clauses))) then bd (ix a0.clauses s29.2) (fun x74 => bd (PF.spec_l3Value x74 a1) (fun r78 => some (Lp.nx ((PF.spec_l1Least s29.1 r78), (wr (s29.2 + 1)))))) else some (Lp.bk (s29.1, s29.2)))) (1, 0)) (fun s29 => some s29.1) (fun x29 => nomatch x29)

def spec_l3Left (a0 : List Int) (a1 : List Int) : Option (List Int) :=
  bdR (forL (S := (List Int)) (X := Empty) a0 (fun i27 y26 s27 => bd (PF.spec_l2Has a1 (wr (-y26))) (fun r90 => (bif (!r90) then bd (app s27 [y26]) (fun xs107 => some (Lp.nx xs107)) else some (Lp.nx s27)))) []) (fun s27 => some s27) (fun x27 => nomatch x27)

def spec_l3Unit (a0 : List Int) (a1 : List Int) : Option Int :=
  bd (PF.spec_l3Left a0 a1) (fun r21 => bd (PF.spec_l3Value a0 a1) (fun r31 => (bif (bif (!(r31 == 0)) then true else (!((len r21) == 1))) then some 0 else bd (ix r21 0) (fun x52 => some x52))))

def spec_l2Without (a0 : List Int) (a1 : Int) : Option (List Int) :=
  bdR (forL (S := (List Int)) (X := Empty) a0 (fun i27 y26 s27 => (bif (!((PF.spec_l2Var y26) == a1)) then bd (app s27 [y26]) (fun xs103 => some (Lp.nx xs103)) else some (Lp.nx s27))) []) (fun s27 => some s27) (fun x27 => nomatch x27)

noncomputable def spec_l2Put (a0 : List Int) (a1 : Int) : Option (List Int) :=
  bdR (iter (S := Int) (X := Empty) (fun s21 => bd (bif (decide (s21 < (len a0))) then bd (ix a0 s21) (fun x105 => some (decide ((PF.spec_l2Var x105) < (PF.spec_l2Var a1)))) else some false) (fun t92 => (bif t92 then some (Lp.nx (wr (s21 + 1))) else some (Lp.bk s21)))) 0) (fun s21 => bd (cut a0 0 s21) (fun xs9127 => bd (PF.spec_l1Own xs9127) (fun r12127 => bd (app r12127 [a1]) (fun xs21127 => bd (cut a0 s21 (len a0)) (fun xs30127 => bd (app xs21127 xs30127) (fun xs33127 => some xs33127)))))) (fun x21 => nomatch x21)

noncomputable def spec_l3Set (a0 : List Int) (a1 : Int) : Option (List Int) :=
  bd (PF.spec_l2Without a0 (PF.spec_l2Var a1)) (fun r24 => bd (PF.spec_l2Put r24 a1) (fun r39 => some r39))

noncomputable def spec_l3Steps (a0 : Cnf) (a1 : List Int) : Option ((List (Int × Int)) × (List Int) × Bool) :=
  bd (PF.spec_l1Own a1) (fun r34 => bdR (iter (S := ((List (Int × Int)) × (List Int))) (X := ((List (Int × Int)) × (List Int) × Bool)) (fun s44 => bd (PF.spec_l3CnfValue a0 s44.2) (fun r324 => (bif (decide (0 ≤ r324)) then bdR (iter (S := (Int × Int)) (X := Empty) (fun s330 => (bif (decide (0 ≤ s330.2)) then bd (ix a0.clauses s330.2) (fun x380 => bd (PF.spec_l3Unit x380 s44.2) (fun r389 => (bif (!(r389 == 0)) then some (Lp.nx (s330.2, (wr (s330.2 - 1)))) else some (Lp.nx (s330.1, (wr (s330.2 - 1))))))) else some (Lp.bk (s330.1, s330.2)))) ((-1), (wr ((len a0.clauses) - 1)))) (fun s330 => (bif (decide (s330.1 < 0)) then some (Lp.rt (s44.1, s44.2, false)) else bd (ix a0.clauses s330.1) (fun x412 => bd (PF.spec_l3Unit x412 s44.2) (fun r421 => bd (app s44.1 [(r421, s330.1)]) (fun xs431 => bd (PF.spec_l3Set s44.2 r421) (fun r447 => some (Lp.nx (xs431, r447)))))))) (fun x330 => nomatch x330) else some (Lp.bk (s44.1, s44.2))))) ([], r34)) (fun s44 => some (s44.1, s44.2, true)) (fun x44 => some x44))

noncomputable def spec_l11Follows (a0 : Cnf) (a1 : List Int) : Option Bool :=
  bd (PF.spec_l11Deny a1) (fun r9029 => bd (PF.spec_l3Steps a0 r9029) (fun r12034 => some r12034.2.2))

noncomputable def spec_l11First (a0 : Cnf) (a1 : List (List Int)) : Option Int :=
  bdR (forL (S := Unit) (X := Int) a1 (fun i30 y29 s30 => bd (cut a1 0 ((i30 : Nat) : Int)) (fun xs51057 => bd (PF.spec_l11With a0 xs51057) (fun r54057 => bd (PF.spec_l11Follows r54057 y29) (fun r69057 => (bif (!r69057) then some (Lp.rt ((i30 : Nat) : Int)) else some (Lp.nx ())))))) ()) (fun s30 => some (-1)) (fun x30 => some x30)

noncomputable def spec_l11Good (a0 : Cnf) (a1 : List (List Int)) : Option Bool :=
  bd (PF.spec_l11Takes a0 a1) (fun r29 => bd (bif r29 then bd (PF.spec_l11First a0 a1) (fun r46 => some (decide (r46 < 0))) else some false) (fun t39 => some t39))

noncomputable def spec_l9False (a0 : Cnf) (a1 : List Int) : Option Int :=
  bdR (iter (S := Int) (X := Int) (fun s29 => (bif (decide (s29 < (len a0.clauses))) then bd (ix a0.clauses s29) (fun x70 => bd (PF.spec_l3Value x70 a1) (fun r74 => (bif (decide (r74 < 0)) then some (Lp.rt s29) else some (Lp.nx (wr (s29 + 1)))))) else some (Lp.bk s29))) 0) (fun s29 => some (-1)) (fun x29 => some x29)

noncomputable def spec_l11Trail (a0 : Cnf) (a1 : List (List Int)) (a2 : Int) : Option ((List (Int × Int)) × Int) :=
  bd (cut a1 0 a2) (fun xs12029 => bd (PF.spec_l11With a0 xs12029) (fun r15029 => bd (ix a1 a2) (fun x39048 => bd (PF.spec_l11Deny x39048) (fun r45042 => bd (PF.spec_l3Steps r15029 r45042) (fun r48047 => bd (PF.spec_l9False r15029 r48047.2.1) (fun r75064 => some (r48047.1, r75064)))))))

noncomputable def spec_l2Join (a0 : List Int) (a1 : List Int) : Option ((List Int) × Bool) :=
  bd (PF.spec_l1Own a0) (fun r21 => bdR (forL (S := (List Int)) (X := ((List Int) × Bool)) a1 (fun i32 y31 s32 => bd (PF.spec_l2Has s32 (wr (-y31))) (fun r200 => (bif r200 then some (Lp.rt ([], false)) else bd (PF.spec_l2Has s32 y31) (fun r222 => (bif (!r222) then bd (PF.spec_l2Put s32 y31) (fun r239 => some (Lp.nx r239)) else some (Lp.nx s32)))))) r21) (fun s32 => some (s32, true)) (fun x32 => some x32))

noncomputable def spec_l2Resolve (a0 : List Int) (a1 : List Int) (a2 : Int) : Option ((List Int) × Bool) :=
  bd (PF.spec_l2Has a0 a2) (fun r21 => bd (bif (!r21) then some true else bd (PF.spec_l2Has a1 (wr (-a2))) (fun r38 => some (!r38))) (fun t31 => (bif t31 then some ([], false) else bd (PF.spec_l2Without a0 a2) (fun r53 => bd (PF.spec_l2Without a1 a2) (fun r63 => bd (PF.spec_l2Join r53 r63) (fun r83 => some (r83.1, r83.2)))))))

noncomputable def spec_l11Analyse (a0 : Cnf) (a1 : List (List Int)) (a2 : Int) : Option (Int × (List l11Use)) :=
  bd (PF.spec_l11Trail a0 a1 a2) (fun r29 => bd (cut a1 0 a2) (fun xs12039 => bd (PF.spec_l11With a0 xs12039) (fun r15039 => bd (ix r15039.clauses r29.2) (fun x27058 => bdR (iter (S := ((List l11Use) × (List Int) × Int)) (X := Empty) (fun s27067 => (bif (decide (0 ≤ s27067.2.2)) then bd (ix r29.1 s27067.2.2) (fun x27219 => bd (ix r29.1 s27067.2.2) (fun x27227 => bd (PF.spec_l2Has s27067.2.1 (wr (-x27219.1))) (fun r27232 => (bif (!r27232) then some (Lp.nx (s27067.1, s27067.2.1, (wr (s27067.2.2 - 1)))) else (bif (decide (x27219.1 < 0)) then bd (ix r15039.clauses x27227.2) (fun x27245 => bd (PF.spec_l2Resolve s27067.2.1 x27245 (wr (-x27219.1))) (fun r27249 => bd (app s27067.1 [(l11Use.mk x27227.2 (PF.spec_l2Var x27219.1) r27249.1)]) (fun xs27273 => some (Lp.nx (xs27273, r27249.1, (wr (s27067.2.2 - 1))))))) else bd (ix r15039.clauses x27227.2) (fun x27291 => bd (PF.spec_l2Resolve x27291 s27067.2.1 x27219.1) (fun r27295 => bd (app s27067.1 [(l11Use.mk x27227.2 (PF.spec_l2Var x27219.1) r27295.1)]) (fun xs27319 => some (Lp.nx (xs27319, r27295.1, (wr (s27067.2.2 - 1)))))))))))) else some (Lp.bk (s27067.1, s27067.2.1, s27067.2.2)))) ([], x27058, (wr ((len r29.1) - 1)))) (fun s27067 => some (r29.2, s27067.1)) (fun x27067 => nomatch x27067)))))

def spec_l11End (a0 : Cnf) (a1 : List (List Int)) (a2 : Int) (a3 : List l11Use) : Option (List Int) :=
  (bif (decide (0 < (len a3))) then bd (ix a3 (wr ((len a3) - 1))) (fun x36 => some x36.clause) else bd (PF.spec_l11With a0 a1) (fun r40 => bd (ix r40.clauses a2) (fun x54 => some x54)))

noncomputable def spec_l1Put (a0 : List Int) (a1 : Int) : Option (List Int) :=
  bdR (iter (S := Int) (X := Empty) (fun s21 => bd (bif (decide (s21 < (len a0))) then bd (ix a0 s21) (fun x87 => some (decide (x87 < a1))) else some false) (fun t74 => (bif t74 then some (Lp.nx (wr (s21 + 1))) else some (Lp.bk s21)))) 0) (fun s21 => bd (bif (decide (s21 < (len a0))) then bd (ix a0 s21) (fun x124 => some (x124 == a1)) else some false) (fun t111 => (bif t111 then some a0 else bd (cut a0 0 s21) (fun xs12131 => bd (app [] xs12131) (fun xs15131 => bd (app xs15131 [a1]) (fun xs24131 => bd (cut a0 s21 (len a0)) (fun xs33131 => bd (app xs24131 xs33131) (fun xs36131 => some xs36131)))))))) (fun x21 => nomatch x21)

noncomputable def spec_l11Used (a0 : Int) (a1 : List l11Use) : Option (List Int) :=
  bdR (forL (S := (List Int)) (X := Empty) a1 (fun i32 y26 s32 => bd (PF.spec_l1Put s32 y26.reason) (fun r75 => some (Lp.nx r75))) [a0]) (fun s32 => some s32) (fun x32 => nomatch x32)

noncomputable def spec_AnalysisOf (a0 : Cnf) (a1 : List (List Int)) (a2 : Int) : Option ((List Int) × (List Int) × Bool) :=
  bd (PF.spec_l11Good a0 a1) (fun r29 => (bif (bif (!r29) then true else (!(PF.spec_l1In a2 0 (wr ((len a1) - 1))))) then some ([], [], false) else bd (PF.spec_l11Analyse a0 a1 a2) (fun r67 => bd (PF.spec_l11End a0 a1 r67.1 r67.2) (fun r90 => bd (app [] r90) (fun xs98 => bd (PF.spec_l11Used r67.1 r67.2) (fun r108 => some (xs98, r108, true)))))))

def impl_within (a0 : Int) (a1 : Int) (a2 : Int) : Bool :=
  (bif (decide (a1 ≤ a0)) then (decide (a0 ≤ a2)) else false)

def impl_isLiteral (a0 : Int) (a1 : Int) : Bool :=
  (bif (!(a1 == 0)) then (PF.impl_within a1 (wr (-a0)) a0) else false)

def impl_abs (a0 : Int) : Int :=
  (mx a0 (wr (-a0)))

def impl_varsOk (a0 : Int) : Bool :=
  (PF.impl_within a0 0 12)

def impl_IsClause (a0 : Int) (a1 : List Int) : Option Bool :=
  bdR (forL (S := Unit) (X := Bool) a1 (fun i22 y21 s22 => bd (bif (!(PF.impl_isLiteral a0 y21)) then some true else bd (bif (decide (0 < ((i22 : Nat) : Int))) then bd (ix a1 (wr (((i22 : Nat) : Int) - 1))) (fun x192 => some (decide ((PF.impl_abs y21) ≤ (PF.impl_abs x192)))) else some false) (fun t179 => some t179)) (fun t164 => (bif t164 then some (Lp.rt false) else some (Lp.nx ())))) ()) (fun s22 => some (PF.impl_varsOk a0)) (fun x22 => some x22)

def impl_IsCnf (a0 : Cnf) : Option Bool :=
  bdR (forL (S := Unit) (X := Bool) a0.clauses (fun i30 y29 s30 => bd (PF.impl_IsClause a0.vars y29) (fun r71 => (bif (!r71) then some (Lp.rt false) else some (Lp.nx ())))) ()) (fun s30 => some (bif (PF.impl_varsOk a0.vars) then (decide ((len a0.clauses) ≤ 60)) else false)) (fun x30 => some x30)

def slices_IndexFunc_LLint_Lint (a0 : List (List Int)) (a1 : (List Int) → Option Bool) : Option Int :=
  bdR (forL (S := Unit) (X := Int) a0 (fun i22 y21 s22 => bd (a1 y21) (fun r68 => (bif r68 then some (Lp.rt ((i22 : Nat) : Int)) else some (Lp.nx ())))) ()) (fun s22 => some (-1)) (fun x22 => some x22)

def slices_ContainsFunc_LLint_Lint (a0 : List (List Int)) (a1 : (List Int) → Option Bool) : Option Bool :=
  bd (PF.slices_IndexFunc_LLint_Lint a0 a1) (fun r21 => some (decide (0 ≤ r21)))

def impl_listOk_1 (a0 : List Int) (b0 : Cnf) : Option Bool :=
  bd (PF.impl_IsClause b0.vars a0) (fun r21 => some (!r21))

def impl_listOk (a0 : Cnf) (a1 : List (List Int)) : Option Bool :=
  bd (PF.impl_IsCnf a0) (fun r29 => bd (bif (bif r29 then (decide ((len a1) ≤ 60)) else false) then bd (PF.slices_ContainsFunc_LLint_Lint a1 (fun x0 => PF.impl_listOk_1 x0 a0)) (fun r56 => some (!r56)) else some false) (fun t49 => some t49))

def slices_Grow_LLint_Lint (a1 : Int) : Option (List (List Int)) := if 0 ≤ a1 ∧ a1 ≤ lim then some [] else none

def slices_Concat_LLint_Lint (a0 : List (List (List Int))) : Option (List (List Int)) :=
  bdR (forL (S := Int) (X := Empty) a0 (fun i22 y21 s22 => (bif (decide ((wr (s22 + (len y21))) < 0)) then none else some (Lp.nx (wr (s22 + (len y21)))))) 0) (fun s22 => bd (PF.slices_Grow_LLint_Lint s22) (fun r69 => bdR (forL (S := (List (List Int))) (X := Empty) a0 (fun i82 y81 s82 => bd (app s82 y81) (fun xs131 => some (Lp.nx xs131))) r69) (fun s82 => some s82) (fun x82 => nomatch x82))) (fun x22 => nomatch x22)

def impl_before (a0 : Cnf) (a1 : List (List Int)) (a2 : Int) : Option (List (List Int)) :=
  bd (cut a1 0 a2) (fun xs15029 => bd (PF.slices_Concat_LLint_Lint [a0.clauses, xs15029]) (fun r21034 => some r21034))

def impl_negated (a0 : List Int) : Option (List Int) :=
  bdR (forL (S := (List Int)) (X := Empty) a0 (fun i22 y21 s22 => bd (app s22 [(wr (-y21))]) (fun xs78 => some (Lp.nx xs78))) []) (fun s22 => some s22) (fun x22 => nomatch x22)

def slices_Clone_int_int (a0 : List Int) : Option (List Int) :=
  bd (app [] a0) (fun xs30 => some xs30)

def slices_Index_int_int (a0 : List Int) (a1 : Int) : Option Int :=
  bdR (forL (S := Unit) (X := Int) a0 (fun i22 y21 s22 => (bif (a1 == y21) then some (Lp.rt ((i22 : Nat) : Int)) else some (Lp.nx ()))) ()) (fun s22 => some (-1)) (fun x22 => some x22)

def slices_Contains_int_int (a0 : List Int) (a1 : Int) : Option Bool :=
  bd (PF.slices_Index_int_int a0 a1) (fun r21 => some (decide (0 ≤ r21)))

def impl_clauseValue (a0 : List Int) (a1 : List Int) : Option Int :=
  bdR (forL (S := Int) (X := Int) a0 (fun i22 y21 s22 => bd (PF.slices_Contains_int_int a1 y21) (fun r67 => (bif r67 then some (Lp.rt 1) else bd (PF.slices_Contains_int_int a1 (wr (-y21))) (fun r73 => (bif (!r73) then some (Lp.nx 0) else some (Lp.nx s22)))))) (-1)) (fun s22 => some s22) (fun x22 => some x22)

def impl_falseClauses (a0 : List (List Int)) (a1 : List Int) : Option (List Int) :=
  bdR (forL (S := (List Int)) (X := Empty) a0 (fun i22 y21 s22 => bd (PF.impl_clauseValue y21 a1) (fun r85 => (bif (decide (r85 < 0)) then bd (app s22 [((i22 : Nat) : Int)]) (fun xs96 => some (Lp.nx xs96)) else some (Lp.nx s22)))) []) (fun s22 => some s22) (fun x22 => nomatch x22)

def slices_IndexFunc_int_int (a0 : List Int) (a1 : Int → Option Bool) : Option Int :=
  bdR (forL (S := Unit) (X := Int) a0 (fun i22 y21 s22 => bd (a1 y21) (fun r64 => (bif r64 then some (Lp.rt ((i22 : Nat) : Int)) else some (Lp.nx ())))) ()) (fun s22 => some (-1)) (fun x22 => some x22)

noncomputable def slices_DeleteFunc_int_int (a0 : List Int) (a1 : Int → Option Bool) : Option (List Int) :=
  bd (PF.slices_IndexFunc_int_int a0 a1) (fun r26 => (bif (r26 == (-1)) then some a0 else bdR (iter (S := ((List Int) × Int × Int)) (X := Empty) (fun s32 => (bif (decide (s32.2.2 < (len s32.1))) then bd (ix s32.1 s32.2.2) (fun x141 => bd (a1 x141) (fun r143 => (bif (!r143) then bd (ix s32.1 s32.2.1) (fun x160 => bd (put s32.1 s32.2.1 x141) (fun xs165 => some (Lp.nx (xs165, (wr (s32.2.1 + 1)), (wr (s32.2.2 + 1)))))) else some (Lp.nx (s32.1, s32.2.1, (wr (s32.2.2 + 1))))))) else some (Lp.bk (s32.1, s32.2.1, s32.2.2)))) (a0, r26, (wr (r26 + 1)))) (fun s32 => bd (cut s32.1 s32.2.1 (len s32.1)) (fun xs178 => bd (cut (clearL 0 s32.1 s32.2.1) 0 s32.2.1) (fun xs188 => some xs188))) (fun x32 => nomatch x32)))

def impl_openPart_1 (a0 : Int) (b0 : List Int) : Option Bool :=
  bd (PF.slices_Contains_int_int b0 (wr (-a0))) (fun r21 => some r21)

noncomputable def impl_openPart (a0 : List Int) (a1 : List Int) : Option (List Int) :=
  bd (PF.slices_Clone_int_int a0) (fun r29 => bd (PF.slices_DeleteFunc_int_int r29 (fun x0 => PF.impl_openPart_1 x0 a1)) (fun r39 => some r39))

noncomputable def impl_unit (a0 : List Int) (a1 : List Int) : Option Int :=
  bd (PF.impl_clauseValue a0 a1) (fun r21 => (bif (!(r21 == 0)) then some 0 else bd (PF.impl_openPart a0 a1) (fun r27 => (bif ((len r27) == 1) then bd (ix r27 0) (fun x44 => some x44) else some 0))))

def impl_withoutVar_1 (a0 : Int) (b0 : Int) : Bool :=
  ((PF.impl_abs a0) == b0)

noncomputable def impl_withoutVar (a0 : List Int) (a1 : Int) : Option (List Int) :=
  bd (PF.slices_Clone_int_int a0) (fun r29 => bd (PF.slices_DeleteFunc_int_int r29 (fun x0 => some (PF.impl_withoutVar_1 x0 a1))) (fun r39 => some r39))

noncomputable def slices_SortFunc_int_int (a0 : List Int) (a1 : Int → Int → Option Int) : Option (List Int) := sortF a1 a0

def cmp_isNaN_int (a0 : Int) : Bool :=
  (!(a0 == a0))

def cmp_Compare_int (a0 : Int) (a1 : Int) : Int :=
  (bif (PF.cmp_isNaN_int a0) then (bif (PF.cmp_isNaN_int a1) then 0 else (-1)) else (bif (PF.cmp_isNaN_int a1) then 1 else (bif (decide (a0 < a1)) then (-1) else (bif (decide (a1 < a0)) then 1 else 0))))

def cmp_Or_int (a0 : List Int) : Option Int :=
  bdR (forL (S := Unit) (X := Int) a0 (fun i22 y21 s22 => (bif (!(y21 == 0)) then some (Lp.rt y21) else some (Lp.nx ()))) ()) (fun s22 => some 0) (fun x22 => some x22)

def impl_compareLiterals (a0 : Int) (a1 : Int) : Option Int :=
  bd (PF.cmp_Or_int [(PF.cmp_Compare_int (PF.impl_abs a0) (PF.impl_abs a1)), (PF.cmp_Compare_int a1 a0)]) (fun r43 => some r43)

def slices_Compact_int_int (a0 : List Int) : Option (List Int) := some (compactL a0)

noncomputable def impl_clause (a0 : List Int) : Option ((List Int) × Bool) :=
  bd (PF.slices_Clone_int_int a0) (fun r21 => bd (PF.slices_SortFunc_int_int r21 (fun x0 x1 => PF.impl_compareLiterals x0 x1)) (fun r31 => bd (PF.slices_Compact_int_int r31) (fun r39 => bdR (iter (S := Int) (X := ((List Int) × Bool)) (fun s49 => (bif (decide (s49 < (len r39))) then bd (ix r39 s49) (fun x94 => bd (ix r39 (wr (s49 - 1))) (fun x102 => (bif (x94 == (wr (-x102))) then some (Lp.rt ([], false)) else some (Lp.nx (wr (s49 + 1)))))) else some (Lp.bk s49))) 1) (fun s49 => some (r39, true)) (fun x49 => some x49))))

noncomputable def impl_mustClause (a0 : List Int) : Option (List Int) :=
  bd (PF.impl_clause a0) (fun r21 => some r21.1)

noncomputable def impl_set (a0 : List Int) (a1 : Int) : Option (List Int) :=
  bd (PF.impl_withoutVar a0 (PF.impl_abs a1)) (fun r24 => bd (app r24 [a1]) (fun xs39 => bd (PF.impl_mustClause xs39) (fun r55 => some r55)))

noncomputable def impl_propagate (a0 : List (List Int)) (a1 : List Int) : Option ((List Int) × (List (Int × Int)) × Bool) :=
  bd (PF.slices_Clone_int_int a1) (fun r25 => bdR (iter (S := ((List Int) × (List (Int × Int)))) (X := ((List Int) × (List (Int × Int)) × Bool)) (fun s43 => bd (PF.impl_falseClauses a0 s43.1) (fun r304 => (bif (decide (0 < (len r304))) then some (Lp.rt (s43.1, s43.2, true)) else bd (β := _) (bdR (forL (S := Unit) (X := Int) a0 (fun i362 y361 s362 => bd (β := _) (bd (PF.impl_unit y361 s43.1) (fun r415 => some (!(r415 == 0))) : Option Bool) (fun s414 => (bif s414 then some (Lp.rt ((i362 : Nat) : Int)) else some (Lp.nx ())))) ()) (fun s362 => some (-1)) (fun x362 => some x362) : Option Int) (fun s360 => (bif (decide (s360 < 0)) then some (Lp.rt (s43.1, s43.2, false)) else bd (ix a0 s360) (fun x454 => bd (PF.impl_unit x454 s43.1) (fun r458 => bd (PF.impl_set s43.1 r458) (fun r463 => bd (app s43.2 [(r458, s360)]) (fun xs481 => some (Lp.nx (r463, xs481))))))))))) (r25, [])) (fun s43 => some ([], [], false)) (fun x43 => some x43))

noncomputable def impl_follows (a0 : List (List Int)) (a1 : List Int) : Option Bool :=
  bd (PF.impl_negated a1) (fun r21 => bd (PF.impl_propagate a0 r21) (fun r36 => some r36.2.2))

noncomputable def impl_firstUnfollowed (a0 : Cnf) (a1 : List (List Int)) : Option Int :=
  bdR (forL (S := Unit) (X := Int) a1 (fun i30 y29 s30 => bd (PF.impl_before a0 a1 ((i30 : Nat) : Int)) (fun r88 => bd (PF.impl_follows r88 y29) (fun r103 => (bif (!r103) then some (Lp.rt ((i30 : Nat) : Int)) else some (Lp.nx ()))))) ()) (fun s30 => some (-1)) (fun x30 => some x30)

noncomputable def impl_learned (a0 : Cnf) (a1 : List (List Int)) : Option Bool :=
  bd (PF.impl_listOk a0 a1) (fun r29 => bd (bif r29 then bd (PF.impl_firstUnfollowed a0 a1) (fun r46 => some (decide (r46 < 0))) else some false) (fun t39 => some t39))

noncomputable def impl_trail (a0 : Cnf) (a1 : List (List Int)) (a2 : Int) : Option ((List (Int × Int)) × Int) :=
  bd (PF.impl_before a0 a1 a2) (fun r29 => bd (ix a1 a2) (fun x45 => bd (PF.impl_negated x45) (fun r49 => bd (PF.impl_propagate r29 r49) (fun r69 => bd (PF.impl_falseClauses r29 r69.1) (fun r12089 => bd (ix r12089 0) (fun x15090 => some (r69.2.1, x15090)))))))


def slices_Grow_int_int (a1 : Int) : Option (List Int) := if 0 ≤ a1 ∧ a1 ≤ lim then some [] else none

def slices_Concat_int_int (a0 : List (List Int)) : Option (List Int) :=
  bdR (forL (S := Int) (X := Empty) a0 (fun i22 y21 s22 => (bif (decide ((wr (s22 + (len y21))) < 0)) then none else some (Lp.nx (wr (s22 + (len y21)))))) 0) (fun s22 => bd (PF.slices_Grow_int_int s22) (fun r69 => bdR (forL (S := (List Int)) (X := Empty) a0 (fun i80 y79 s80 => bd (app s80 y79) (fun xs129 => some (Lp.nx xs129))) r69) (fun s80 => some s80) (fun x80 => nomatch x80))) (fun x22 => nomatch x22)

noncomputable def impl_resolve (a0 : List Int) (a1 : List Int) (a2 : Int) : Option ((List Int) × Bool) :=
  bd (PF.slices_Contains_int_int a0 a2) (fun r21 => bd (bif (!r21) then some true else bd (PF.slices_Contains_int_int a1 (wr (-a2))) (fun r38 => some (!r38))) (fun t31 => (bif t31 then some ([], false) else bd (PF.impl_withoutVar a0 a2) (fun r48 => bd (PF.impl_withoutVar a1 a2) (fun r58 => bd (PF.slices_Concat_int_int [r48, r58]) (fun r88 => bd (PF.impl_clause r88) (fun r105 => some (r105.1, r105.2))))))))

def slices_Sort_int_int (a0 : List Int) : Option (List Int) := sortI a0

noncomputable def impl_analysis (a0 : Cnf) (a1 : List (List Int)) (a2 : Int) : Option ((List Int) × (List Int)) :=
  bd (β := _) (bd (PF.impl_before a0 a1 a2) (fun r243496 => bd (PF.impl_trail a0 a1 a2) (fun r243513 => bd (ix r243496 r243513.2) (fun x243529 => bdR (forB (S := ((List Int) × (List Int))) (X := Empty) r243513.1 (fun y243553 j243553 s243553 => bd (PF.slices_Contains_int_int s243553.2 (wr (-y243553.1))) (fun r405820 => (bif (!r405820) then some (Lp.nx (s243553.1, s243553.2)) else (bif (decide (0 < y243553.1)) then bd (ix r243496 y243553.2) (fun x414833 => bd (PF.impl_resolve x414833 s243553.2 y243553.1) (fun r426827 => bd (β := _) (bd (app s243553.1 [y243553.2]) (fun xs444870 => some xs444870) : Option (List Int)) (fun s444860 => some (Lp.nx (s444860, r426827.1))))) else bd (ix r243496 y243553.2) (fun x456895 => bd (PF.impl_resolve s243553.2 x456895 (wr (-y243553.1))) (fun r468889 => bd (β := _) (bd (app s243553.1 [y243553.2]) (fun xs486932 => some xs486932) : Option (List Int)) (fun s486922 => some (Lp.nx (s486922, r468889.1))))))))) ([], x243529)) (fun s243553 => some (s243553.1, r243513.2, s243553.2)) (fun x243553 => nomatch x243553)))) : Option ((List Int) × Int × (List Int))) (fun s243473 => bd (app s243473.1 [s243473.2.1]) (fun xs486968 => bd (PF.slices_Sort_int_int xs486968) (fun r486982 => bd (PF.slices_Clone_int_int s243473.2.2) (fun r492991 => bd (PF.slices_Compact_int_int r486982) (fun r498991 => some (r492991, r498991))))))

noncomputable def impl_AnalysisOf (a0 : Cnf) (a1 : List (List Int)) (a2 : Int) : Option ((List Int) × (List Int) × Bool) :=
  bd (PF.impl_learned a0 a1) (fun r29 => (bif (bif (!r29) then true else (!(PF.impl_within a2 0 (wr ((len a1) - 1))))) then some ([], [], false) else bd (PF.impl_analysis a0 a1 a2) (fun r52 => some (r52.1, r52.2, true))))

def laws_eqIntS (a0 : List Int) (a1 : List Int) : Option Bool :=
  (bif (!((len a0) == (len a1))) then some false else bdR (forL (S := Unit) (X := Bool) a0 (fun i23 y22 s23 => bd (ix a1 ((i23 : Nat) : Int)) (fun x72 => (bif (!(y22 == x72)) then some (Lp.rt false) else some (Lp.nx ())))) ()) (fun s23 => some true) (fun x23 => some x23))

def laws_eqIntSS (a0 : List (List Int)) (a1 : List (List Int)) : Option Bool :=
  (bif (!((len a0) == (len a1))) then some false else bdR (forL (S := Unit) (X := Bool) a0 (fun i23 y22 s23 => bd (ix a1 ((i23 : Nat) : Int)) (fun x80 => bd (PF.laws_eqIntS y22 x80) (fun r84 => (bif (!r84) then some (Lp.rt false) else some (Lp.nx ()))))) ()) (fun s23 => some true) (fun x23 => some x23))

def laws_eqCnf (a0 : Cnf) (a1 : Cnf) : Option Bool :=
  (bif (!(a0.vars == a1.vars)) then some false else bd (PF.laws_eqIntSS a0.clauses a1.clauses) (fun r38 => (bif (!r38) then some false else some true)))

def laws_markIntS (a0 : List Int) (a1 : Int) : List Int × Int :=
  markFrom (fun y m => (m, (wr (m + 1)))) a0 a1

def laws_markIntSS (a0 : List (List Int)) (a1 : Int) : List (List Int) × Int :=
  markFrom (fun y m => ((PF.laws_markIntS y m).1, (PF.laws_markIntS y m).2)) a0 a1

def laws_markCnf (a0 : Cnf) (a1 : Int) : Cnf × Int :=
  let r := PF.laws_markIntSS a0.clauses a1
  ((Cnf.mk a0.vars r.1), r.2)

def laws_heldIntS (a0 : List Int) (a1 : Int) : Option Int :=
  bdR (forL (S := Int) (X := Int) a0 (fun i22 y21 s22 => (bif (!(y21 == s22)) then some (Lp.rt (-1)) else some (Lp.nx (wr (s22 + 1))))) a1) (fun s22 => some s22) (fun x22 => some x22)

noncomputable def laws_FnExactAnalysisOf (a0 : Cnf) (a1 : List (List Int)) (a2 : Int) : Option Bool :=
  bd (PF.laws_szCnf a0 1048576) (fun r29 => (bif (decide (r29 < 0)) then some true else bd (PF.laws_szIntSS a1 r29) (fun r36 => (bif (decide (r36 < 0)) then some true else bd (PF.laws_toCnf a0) (fun r43 => bd (PF.laws_toIntSS a1) (fun r55 => bd (PF.spec_AnalysisOf r43 r55 a2) (fun r74 => bd (PF.laws_toCnf a0) (fun r92 => bd (PF.laws_toIntSS a1) (fun r116 => bd (PF.impl_AnalysisOf r92 r116 a2) (fun r135 => bd (PF.laws_eqIntS r135.1 r74.1) (fun r166 => bd (bif (!r166) then some true else bd (PF.laws_eqIntS r135.2.1 r74.2.1) (fun r185 => some (!r185))) (fun t178 => (bif (bif t178 then true else (!(r135.2.2 == r74.2.2))) then some false else bd (PF.laws_toCnf a0) (fun r9223 => bd (PF.laws_eqCnf r92 r9223) (fun r12223 => (bif (!r12223) then some false else bd (PF.laws_toIntSS a1) (fun r21242 => bd (PF.laws_eqIntSS r116 r21242) (fun r21261 => (bif (!r21261) then some false else bd (bif (decide ((PF.laws_markIntSS r116 ((PF.laws_markCnf r92 1).2)).2 < 0)) then some true else bd (PF.laws_eqIntS r135.1 r74.1) (fun r21315 => some (!r21315))) (fun t21308 => bd (bif t21308 then some true else bd (PF.laws_eqIntS r135.2.1 r74.2.1) (fun r21344 => some (!r21344))) (fun t21337 => (bif (bif t21337 then true else (!(r135.2.2 == r74.2.2))) then some false else bd (PF.laws_heldIntS ((PF.laws_markIntS r135.1 1).1) 1) (fun r21397 => (bif (decide (r21397 < 0)) then some false else bd (PF.laws_heldIntS ((PF.laws_markIntS r135.2.1 ((PF.laws_markIntS r135.1 1).2)).1) r21397) (fun r21404 => (bif (decide (r21404 < 0)) then some false else (bif (!(r21404 == (PF.laws_markIntS r135.2.1 ((PF.laws_markIntS r135.1 1).2)).2)) then some false else bd (PF.laws_toCnf a0) (fun r21412 => bd (PF.laws_toIntSS a1) (fun r21424 => bd (PF.impl_AnalysisOf r21412 r21424 a2) (fun r21443 => bd (PF.laws_eqIntS r21443.1 r74.1) (fun r21474 => bd (bif (!r21474) then some true else bd (PF.laws_eqIntS r21443.2.1 r74.2.1) (fun r21493 => some (!r21493))) (fun t21486 => (bif (bif t21486 then true else (!(r21443.2.2 == r74.2.2))) then some false else bd (PF.laws_heldIntS ((PF.laws_markIntS r135.1 1).1) 1) (fun r21517 => (bif (decide (r21517 < 0)) then some false else bd (PF.laws_heldIntS ((PF.laws_markIntS r135.2.1 ((PF.laws_markIntS r135.1 1).2)).1) r21517) (fun r21524 => (bif (decide (r21524 < 0)) then some false else (bif (!(r21524 == (PF.laws_markIntS r135.2.1 ((PF.laws_markIntS r135.1 1).2)).2)) then some false else some true))))))))))))))))))))))))))))))))))))))

end Go.PF
