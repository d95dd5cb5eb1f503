/- Part of the walks and plain laws behind the claim: it proves helpers, under no condition beyond their own. -/
import Derived.Test.YtjkdeonnohadeaaGreatPl1
set_option linter.unusedVariables false
namespace Go.PF
open Go.Pu

structure Cnf where
  vars : Int
  clauses : List (List Int)
def okCnf (s : Cnf) : Prop := okI s.vars ∧ (okL (okL okI)) s.clauses

structure ResStep where
  clause : List Int
  left : Int
  right : Int
  pivot : Int
def okResStep (s : ResStep) : Prop := (okL okI) s.clause ∧ okI s.left ∧ okI s.right ∧ okI s.pivot

structure Bench where
  stage : Int
  formula : Cnf
  steps : List ResStep
  wide : Int
  count : Int
def okBench (s : Bench) : Prop := okI s.stage ∧ okCnf s.formula ∧ (okL okResStep) s.steps ∧ okI s.wide ∧ okI s.count

structure weaver where
  steps : List ResStep
  became : List Int
def okweaver (s : weaver) : Prop := (okL okResStep) s.steps ∧ (okL okI) s.became

structure l11Use where
  reason : Int
  v : Int
  clause : List Int
def okl11Use (s : l11Use) : Prop := okI s.reason ∧ okI s.v ∧ (okL okI) s.clause

def laws_szIntS (a0 : List Int) (a1 : Int) : Int :=
  (bif (decide ((wr (a1 - (len a0))) < 0)) then (-1) else (wr (a1 - (len a0))))

def laws_szIntSS (a0 : List (List Int)) (a1 : Int) : Option Int :=
  (bif (decide ((wr (a1 - (len a0))) < 0)) then some (-1) else bdR (forL (S := Int) (X := Int) a0 (fun i23 y22 s23 => (bif (decide ((PF.laws_szIntS y22 s23) < 0)) then some (Lp.rt (-1)) else some (Lp.nx (PF.laws_szIntS y22 s23)))) (wr (a1 - (len a0)))) (fun s23 => some s23) (fun x23 => some x23))

def laws_szCnf (a0 : Cnf) (a1 : Int) : Option Int :=
  bd (PF.laws_szIntSS a0.clauses a1) (fun r29 => (bif (decide (r29 < 0)) then some (-1) else some r29))

def laws_toIntS (a0 : List Int) : Option (List Int) :=
  bd (mk2 (0 : Int) (len a0) (len a0)) (fun xs21 => bdR (forL (S := (List Int)) (X := Empty) a0 (fun i32 y31 s32 => bd (ix s32 ((i32 : Nat) : Int)) (fun x117 => bd (put s32 ((i32 : Nat) : Int) y31) (fun xs122 => some (Lp.nx xs122)))) xs21) (fun s32 => some s32) (fun x32 => nomatch x32))

def laws_toIntSS (a0 : List (List Int)) : Option (List (List Int)) :=
  bd (mk2 ([] : List Int) (len a0) (len a0)) (fun xs21 => bdR (forL (S := (List (List Int))) (X := Empty) a0 (fun i33 y32 s33 => bd (PF.laws_toIntS y32) (fun r155 => bd (ix s33 ((i33 : Nat) : Int)) (fun x171 => bd (put s33 ((i33 : Nat) : Int) r155) (fun xs183 => some (Lp.nx xs183))))) xs21) (fun s33 => some s33) (fun x33 => nomatch x33))

def laws_toCnf (a0 : Cnf) : Option Cnf :=
  bd (PF.laws_toIntSS a0.clauses) (fun r40 => some (Cnf.mk a0.vars r40))

def spec_l1In (a0 : Int) (a1 : Int) (a2 : Int) : Bool :=
  (bif (decide (a1 ≤ a0)) then (decide (a0 ≤ a2)) else false)

def spec_l2Vars (a0 : Int) : Bool :=
  (PF.spec_l1In a0 0 12)

def spec_l2Lit (a0 : Int) (a1 : Int) : Bool :=
  (bif (PF.spec_l1In a1 (wr (-a0)) a0) then (!(a1 == 0)) else false)

def spec_l2Var (a0 : Int) : Int :=
  (bif (decide (a0 < 0)) then (wr (-a0)) else a0)

def spec_l2Clause (a0 : Int) (a1 : List Int) : Option Bool :=
  (bif (!(PF.spec_l2Vars a0)) then some false else bdR (forL (S := Unit) (X := Bool) a1 (fun i26 y25 s26 => bd (bif (!(PF.spec_l2Lit a0 y25)) then some true else bd (bif (decide (0 < ((i26 : Nat) : Int))) then bd (ix a1 (wr (((i26 : Nat) : Int) - 1))) (fun x226 => some (decide ((PF.spec_l2Var y25) ≤ (PF.spec_l2Var x226)))) else some false) (fun t213 => some t213)) (fun t192 => (bif t192 then some (Lp.rt false) else some (Lp.nx ())))) ()) (fun s26 => some true) (fun x26 => some x26))

noncomputable def spec_l2Good (a0 : Cnf) : Option Bool :=
  (bif (bif (!(PF.spec_l2Vars a0.vars)) then true else (decide (60 < (len a0.clauses)))) then some false else bdR (iter (S := Int) (X := Bool) (fun s42 => (bif (decide (s42 < (len a0.clauses))) then bd (ix a0.clauses s42) (fun x83 => bd (PF.spec_l2Clause a0.vars x83) (fun r87 => (bif (!r87) then some (Lp.rt false) else some (Lp.nx (wr (s42 + 1)))))) else some (Lp.bk s42))) 0) (fun s42 => some true) (fun x42 => some x42))

noncomputable def spec_l11Takes (a0 : Cnf) (a1 : List (List Int)) : Option Bool :=
  bd (PF.spec_l2Good a0) (fun r29 => (bif (bif (!r29) then true else (decide (60 < (len a1)))) then some false else bdR (forL (S := Unit) (X := Bool) a1 (fun i46 y45 s46 => bd (PF.spec_l2Clause a0.vars y45) (fun r87 => (bif (!r87) then some (Lp.rt false) else some (Lp.nx ())))) ()) (fun s46 => some true) (fun x46 => some x46)))

def spec_l11With (a0 : Cnf) (a1 : List (List Int)) : Option Cnf :=
  bd (app [] a0.clauses) (fun xs18033 => bd (app xs18033 a1) (fun xs24033 => some (Cnf.mk a0.vars xs24033)))

def spec_l11Deny (a0 : List Int) : Option (List Int) :=
  bdR (forL (S := (List Int)) (X := Empty) a0 (fun i27 y26 s27 => bd (app s27 [(wr (-y26))]) (fun xs81 => some (Lp.nx xs81))) []) (fun s27 => some s27) (fun x27 => nomatch x27)

def spec_l1Own (a0 : List Int) : Option (List Int) :=
  bd (app [] a0) (fun xs26 => some xs26)

def spec_l1Has (a0 : List Int) (a1 : Int) : Option Bool :=
  bdR (forL (S := Unit) (X := Bool) a0 (fun i22 y21 s22 => (bif (y21 == a1) then some (Lp.rt true) else some (Lp.nx ()))) ()) (fun s22 => some false) (fun x22 => some x22)

def spec_l2Has (a0 : List Int) (a1 : Int) : Option Bool :=
  bd (PF.spec_l1Has a0 a1) (fun r21 => some r21)

def spec_l3Value (a0 : List Int) (a1 : List Int) : Option Int :=
  bdR (forL (S := Int) (X := Int) a0 (fun i22 y21 s22 => bd (PF.spec_l2Has a1 y21) (fun r71 => (bif r71 then some (Lp.rt 1) else bd (PF.spec_l2Has a1 (wr (-y21))) (fun r83 => (bif (!r83) then some (Lp.nx 0) else some (Lp.nx s22)))))) (-1)) (fun s22 => some s22) (fun x22 => some x22)

def spec_l1Least (a0 : Int) (a1 : Int) : Int :=
  (bif (decide (a0 < a1)) then a0 else a1)

noncomputable def spec_l3CnfValue (a0 : Cnf) (a1 : List Int) : Option Int :=
  bdR (iter (S := (Int × Int)) (X := Empty) (fun s29 => (bif (decide (s29.2 < (len a0.clauses))) then bd (ix a0.clauses s29.2) (fun x74 => bd (PF.spec_l3Value x74 a1) (fun r78 => some (Lp.nx ((PF.spec_l1Least s29.1 r78), (wr (s29.2 + 1)))))) else some (Lp.bk (s29.1, s29.2)))) (1, 0)) (fun s29 => some s29.1) (fun x29 => nomatch x29)

def spec_l3Left (a0 : List Int) (a1 : List Int) : Option (List Int) :=
  bdR (forL (S := (List Int)) (X := Empty) a0 (fun i27 y26 s27 => bd (PF.spec_l2Has a1 (wr (-y26))) (fun r90 => (bif (!r90) then bd (app s27 [y26]) (fun xs107 => some (Lp.nx xs107)) else some (Lp.nx s27)))) []) (fun s27 => some s27) (fun x27 => nomatch x27)

def spec_l3Unit (a0 : List Int) (a1 : List Int) : Option Int :=
  bd (PF.spec_l3Left a0 a1) (fun r21 => bd (PF.spec_l3Value a0 a1) (fun r31 => (bif (bif (!(r31 == 0)) then true else (!((len r21) == 1))) then some 0 else bd (ix r21 0) (fun x52 => some x52))))

def spec_l2Without (a0 : List Int) (a1 : Int) : Option (List Int) :=
  bdR (forL (S := (List Int)) (X := Empty) a0 (fun i27 y26 s27 => (bif (!((PF.spec_l2Var y26) == a1)) then bd (app s27 [y26]) (fun xs103 => some (Lp.nx xs103)) else some (Lp.nx s27))) []) (fun s27 => some s27) (fun x27 => nomatch x27)

noncomputable def spec_l2Put (a0 : List Int) (a1 : Int) : Option (List Int) :=
  bdR (iter (S := Int) (X := Empty) (fun s21 => bd (bif (decide (s21 < (len a0))) then bd (ix a0 s21) (fun x105 => some (decide ((PF.spec_l2Var x105) < (PF.spec_l2Var a1)))) else some false) (fun t92 => (bif t92 then some (Lp.nx (wr (s21 + 1))) else some (Lp.bk s21)))) 0) (fun s21 => bd (cut a0 0 s21) (fun xs9127 => bd (PF.spec_l1Own xs9127) (fun r12127 => bd (app r12127 [a1]) (fun xs21127 => bd (cut a0 s21 (len a0)) (fun xs30127 => bd (app xs21127 xs30127) (fun xs33127 => some xs33127)))))) (fun x21 => nomatch x21)

noncomputable def spec_l3Set (a0 : List Int) (a1 : Int) : Option (List Int) :=
  bd (PF.spec_l2Without a0 (PF.spec_l2Var a1)) (fun r24 => bd (PF.spec_l2Put r24 a1) (fun r39 => some r39))

noncomputable def spec_l3Steps (a0 : Cnf) (a1 : List Int) : Option ((List (Int × Int)) × (List Int) × Bool) :=
  bd (PF.spec_l1Own a1) (fun r34 => bdR (iter (S := ((List (Int × Int)) × (List Int))) (X := ((List (Int × Int)) × (List Int) × Bool)) (fun s44 => bd (PF.spec_l3CnfValue a0 s44.2) (fun r324 => (bif (decide (0 ≤ r324)) then bdR (iter (S := (Int × Int)) (X := Empty) (fun s330 => (bif (decide (0 ≤ s330.2)) then bd (ix a0.clauses s330.2) (fun x380 => bd (PF.spec_l3Unit x380 s44.2) (fun r389 => (bif (!(r389 == 0)) then some (Lp.nx (s330.2, (wr (s330.2 - 1)))) else some (Lp.nx (s330.1, (wr (s330.2 - 1))))))) else some (Lp.bk (s330.1, s330.2)))) ((-1), (wr ((len a0.clauses) - 1)))) (fun s330 => (bif (decide (s330.1 < 0)) then some (Lp.rt (s44.1, s44.2, false)) else bd (ix a0.clauses s330.1) (fun x412 => bd (PF.spec_l3Unit x412 s44.2) (fun r421 => bd (app s44.1 [(r421, s330.1)]) (fun xs431 => bd (PF.spec_l3Set s44.2 r421) (fun r447 => some (Lp.nx (xs431, r447)))))))) (fun x330 => nomatch x330) else some (Lp.bk (s44.1, s44.2))))) ([], r34)) (fun s44 => some (s44.1, s44.2, true)) (fun x44 => some x44))

noncomputable def spec_l11Follows (a0 : Cnf) (a1 : List Int) : Option Bool :=
  bd (PF.spec_l11Deny a1) (fun r9029 => bd (PF.spec_l3Steps a0 r9029) (fun r12034 => some r12034.2.2))

noncomputable def spec_l11First (a0 : Cnf) (a1 : List (List Int)) : Option Int :=
  bdR (forL (S := Unit) (X := Int) a1 (fun i30 y29 s30 => bd (cut a1 0 ((i30 : Nat) : Int)) (fun xs51057 => bd (PF.spec_l11With a0 xs51057) (fun r54057 => bd (PF.spec_l11Follows r54057 y29) (fun r69057 => (bif (!r69057) then some (Lp.rt ((i30 : Nat) : Int)) else some (Lp.nx ())))))) ()) (fun s30 => some (-1)) (fun x30 => some x30)

noncomputable def spec_l11Good (a0 : Cnf) (a1 : List (List Int)) : Option Bool :=
  bd (PF.spec_l11Takes a0 a1) (fun r29 => bd (bif r29 then bd (PF.spec_l11First a0 a1) (fun r46 => some (decide (r46 < 0))) else some false) (fun t39 => some t39))

noncomputable def spec_l9False (a0 : Cnf) (a1 : List Int) : Option Int :=
  bdR (iter (S := Int) (X := Int) (fun s29 => (bif (decide (s29 < (len a0.clauses))) then bd (ix a0.clauses s29) (fun x70 => bd (PF.spec_l3Value x70 a1) (fun r74 => (bif (decide (r74 < 0)) then some (Lp.rt s29) else some (Lp.nx (wr (s29 + 1)))))) else some (Lp.bk s29))) 0) (fun s29 => some (-1)) (fun x29 => some x29)

noncomputable def spec_l11Trail (a0 : Cnf) (a1 : List (List Int)) (a2 : Int) : Option ((List (Int × Int)) × Int) :=
  bd (cut a1 0 a2) (fun xs12029 => bd (PF.spec_l11With a0 xs12029) (fun r15029 => bd (ix a1 a2) (fun x39048 => bd (PF.spec_l11Deny x39048) (fun r45042 => bd (PF.spec_l3Steps r15029 r45042) (fun r48047 => bd (PF.spec_l9False r15029 r48047.2.1) (fun r75064 => some (r48047.1, r75064)))))))

noncomputable def spec_l2Join (a0 : List Int) (a1 : List Int) : Option ((List Int) × Bool) :=
  bd (PF.spec_l1Own a0) (fun r21 => bdR (forL (S := (List Int)) (X := ((List Int) × Bool)) a1 (fun i32 y31 s32 => bd (PF.spec_l2Has s32 (wr (-y31))) (fun r200 => (bif r200 then some (Lp.rt ([], false)) else bd (PF.spec_l2Has s32 y31) (fun r222 => (bif (!r222) then bd (PF.spec_l2Put s32 y31) (fun r239 => some (Lp.nx r239)) else some (Lp.nx s32)))))) r21) (fun s32 => some (s32, true)) (fun x32 => some x32))

noncomputable def spec_l2Resolve (a0 : List Int) (a1 : List Int) (a2 : Int) : Option ((List Int) × Bool) :=
  bd (PF.spec_l2Has a0 a2) (fun r21 => bd (bif (!r21) then some true else bd (PF.spec_l2Has a1 (wr (-a2))) (fun r38 => some (!r38))) (fun t31 => (bif t31 then some ([], false) else bd (PF.spec_l2Without a0 a2) (fun r53 => bd (PF.spec_l2Without a1 a2) (fun r63 => bd (PF.spec_l2Join r53 r63) (fun r83 => some (r83.1, r83.2)))))))

noncomputable def spec_l11Analyse (a0 : Cnf) (a1 : List (List Int)) (a2 : Int) : Option (Int × (List l11Use)) :=
  bd (PF.spec_l11Trail a0 a1 a2) (fun r29 => bd (cut a1 0 a2) (fun xs12039 => bd (PF.spec_l11With a0 xs12039) (fun r15039 => bd (ix r15039.clauses r29.2) (fun x27058 => bdR (iter (S := ((List l11Use) × (List Int) × Int)) (X := Empty) (fun s27067 => (bif (decide (0 ≤ s27067.2.2)) then bd (ix r29.1 s27067.2.2) (fun x27219 => bd (ix r29.1 s27067.2.2) (fun x27227 => bd (PF.spec_l2Has s27067.2.1 (wr (-x27219.1))) (fun r27232 => (bif (!r27232) then some (Lp.nx (s27067.1, s27067.2.1, (wr (s27067.2.2 - 1)))) else (bif (decide (x27219.1 < 0)) then bd (ix r15039.clauses x27227.2) (fun x27245 => bd (PF.spec_l2Resolve s27067.2.1 x27245 (wr (-x27219.1))) (fun r27249 => bd (app s27067.1 [(l11Use.mk x27227.2 (PF.spec_l2Var x27219.1) r27249.1)]) (fun xs27273 => some (Lp.nx (xs27273, r27249.1, (wr (s27067.2.2 - 1))))))) else bd (ix r15039.clauses x27227.2) (fun x27291 => bd (PF.spec_l2Resolve x27291 s27067.2.1 x27219.1) (fun r27295 => bd (app s27067.1 [(l11Use.mk x27227.2 (PF.spec_l2Var x27219.1) r27295.1)]) (fun xs27319 => some (Lp.nx (xs27319, r27295.1, (wr (s27067.2.2 - 1)))))))))))) else some (Lp.bk (s27067.1, s27067.2.1, s27067.2.2)))) ([], x27058, (wr ((len r29.1) - 1)))) (fun s27067 => some (r29.2, s27067.1)) (fun x27067 => nomatch x27067)))))

def spec_l11Axiom (a0 : Cnf) (a1 : Int) (a2 : List ResStep) (a3 : List Int) : Option ((List ResStep) × (List Int)) :=
  bd (ix a3 a1) (fun x35 => (bif (decide (0 ≤ x35)) then some (a2, a3) else bd (ix a3 a1) (fun x44 => bd (put a3 a1 (len a2)) (fun xs49 => bd (ix a0.clauses a1) (fun x65 => bd (app [] x65) (fun xs69 => bd (app a2 [(ResStep.mk xs69 (-1) a1 0)]) (fun xs90 => some (xs90, xs49))))))))

def spec_l1Same (a0 : List Int) (a1 : List Int) : Option Bool :=
  (bif (!((len a0) == (len a1))) then some false else bdR (forL (S := Unit) (X := Bool) a0 (fun i23 y22 s23 => bd (ix a1 ((i23 : Nat) : Int)) (fun x72 => (bif (!(y22 == x72)) then some (Lp.rt false) else some (Lp.nx ())))) ()) (fun s23 => some true) (fun x23 => some x23))

noncomputable def spec_l11Steps (a0 : Cnf) (a1 : List (List Int)) : Option ((List ResStep) × Int) :=
  bdR (iter (S := ((List Int) × Int)) (X := Empty) (fun s39 => (bif (decide (s39.2 < (wr ((len a0.clauses) + (len a1))))) then bd (app s39.1 [(-1)]) (fun xs87 => some (Lp.nx (xs87, (wr (s39.2 + 1))))) else some (Lp.bk (s39.1, s39.2)))) ([], 0)) (fun s39 => bdR (iter (S := ((List Int) × (List ResStep) × Int)) (X := Empty) (fun s108 => (bif (bif (decide (s108.2.2 < (len a1))) then (decide ((len s108.2.1) ≤ 200)) else false) then bd (PF.spec_l11Analyse a0 a1 s108.2.2) (fun r126477 => bd (PF.spec_l11Axiom a0 r126477.1 s108.2.1 s108.1) (fun r126489 => bd (ix r126489.2 r126477.1) (fun x126512 => bdR (iter (S := ((List ResStep) × (List Int) × Int × Int)) (X := Empty) (fun s126514 => (bif (decide (s126514.2.2.2 < (len r126477.2))) then bd (ix r126477.2 s126514.2.2.2) (fun x264674 => bd (PF.spec_l11Axiom a0 x264674.reason s126514.1 s126514.2.1) (fun r279668 => bd (ix r126477.2 s126514.2.2.2) (fun x312697 => bd (app [] x312697.clause) (fun xs321691 => bd (ix r126477.2 s126514.2.2.2) (fun x336697 => bd (ix r279668.2 x336697.reason) (fun x345697 => bd (ix r126477.2 s126514.2.2.2) (fun x357697 => bd (ix r279668.1 s126514.2.2.1) (fun x378717 => bd (ix r126477.2 s126514.2.2.2) (fun x378727 => bd (PF.spec_l2Has x378717.clause x378727.v) (fun r378731 => (bif (!r378731) then bd (app r279668.1 [(ResStep.mk xs321691 x345697 s126514.2.2.1 x357697.v)]) (fun xs378750 => some (Lp.nx (xs378750, r279668.2, (wr ((len xs378750) - 1)), (wr (s126514.2.2.2 + 1))))) else bd (app r279668.1 [(ResStep.mk xs321691 s126514.2.2.1 x345697 x357697.v)]) (fun xs378768 => some (Lp.nx (xs378768, r279668.2, (wr ((len xs378768) - 1)), (wr (s126514.2.2.2 + 1)))))))))))))))) else some (Lp.bk (s126514.1, s126514.2.1, s126514.2.2.1, s126514.2.2.2)))) (r126489.1, r126489.2, x126512, 0)) (fun s126514 => bd (ix s126514.1 s126514.2.2.1) (fun x378799 => bd (ix a1 s108.2.2) (fun x378809 => bd (PF.spec_l1Same x378799.clause x378809) (fun r378813 => bdR (S := ((List ResStep) × Int)) (X := Empty) ((bif (!r378813) then bd (ix a1 s108.2.2) (fun x378887 => bd (app [] x378887) (fun xs378891 => bd (app s126514.1 [(ResStep.mk xs378891 s126514.2.2.1 (-1) 0)]) (fun xs378912 => some (Rs.go (xs378912, (wr ((len xs378912) - 1))))))) else some (Rs.go (s126514.1, s126514.2.2.1)))) (fun s378867 => bd (ix s126514.2.1 (wr ((len a0.clauses) + s108.2.2))) (fun x378941 => bd (put s126514.2.1 (wr ((len a0.clauses) + s108.2.2)) s378867.2) (fun xs378946 => some (Lp.nx (xs378946, s378867.1, (wr (s108.2.2 + 1))))))) (fun x378869 => nomatch x378869))))) (fun x126514 => nomatch x126514)))) else some (Lp.bk (s108.1, s108.2.1, s108.2.2)))) (s39.1, [], 0)) (fun s108 => bd (ix s108.1 (wr ((len s108.1) - 1))) (fun x378966 => some (s108.2.1, x378966))) (fun x108 => nomatch x108)) (fun x39 => nomatch x39)

def spec_l7Uses (a0 : ResStep) : (List Int) :=
  (bif (a0.left == (-1)) then [] else (bif (a0.right == (-1)) then [a0.left] else [a0.left, a0.right]))

noncomputable def spec_l7Needed (a0 : List ResStep) : Option (List Bool) :=
  bd (mk2 (false : Bool) (len a0) (len a0)) (fun xs21 => bdR (iter (S := ((List Bool) × Int)) (X := Empty) (fun s31 => (bif (decide (0 ≤ s31.2)) then (bif (s31.2 == (wr ((len a0) - 1))) then bd (ix s31.1 s31.2) (fun x626 => bd (put s31.1 s31.2 true) (fun xs631 => bd (ix a0 s31.2) (fun x642 => bdR (iter (S := ((List Bool) × Int)) (X := Empty) (fun s654 => bd (bif (decide (s654.2 < (len (PF.spec_l7Uses x642)))) then bd (ix s654.1 s31.2) (fun x818 => some x818) else some false) (fun t805 => (bif t805 then bd (ix (PF.spec_l7Uses x642) s654.2) (fun x833 => bd (ix s654.1 x833) (fun x841 => bd (put s654.1 x833 true) (fun xs846 => some (Lp.nx (xs846, (wr (s654.2 + 1))))))) else some (Lp.bk (s654.1, s654.2))))) (xs631, 0)) (fun s654 => some (Lp.nx (s654.1, (wr (s31.2 - 1))))) (fun x654 => nomatch x654)))) else bd (ix a0 s31.2) (fun x866 => bdR (iter (S := ((List Bool) × Int)) (X := Empty) (fun s878 => bd (bif (decide (s878.2 < (len (PF.spec_l7Uses x866)))) then bd (ix s878.1 s31.2) (fun x1042 => some x1042) else some false) (fun t1029 => (bif t1029 then bd (ix (PF.spec_l7Uses x866) s878.2) (fun x1057 => bd (ix s878.1 x1057) (fun x1065 => bd (put s878.1 x1057 true) (fun xs1070 => some (Lp.nx (xs1070, (wr (s878.2 + 1))))))) else some (Lp.bk (s878.1, s878.2))))) (s31.1, 0)) (fun s878 => some (Lp.nx (s878.1, (wr (s31.2 - 1))))) (fun x878 => nomatch x878))) else some (Lp.bk (s31.1, s31.2)))) (xs21, (wr ((len a0) - 1)))) (fun s31 => some s31.1) (fun x31 => nomatch x31))

def spec_l7Moved (a0 : ResStep) (a1 : List Int) : Option ResStep :=
  bd (PF.spec_l1Own a0.clause) (fun r9033 => (bif (decide (0 ≤ a0.left)) then bd (ix a1 a0.left) (fun x42054 => (bif (decide (0 ≤ a0.right)) then bd (ix a1 a0.right) (fun x42066 => some (ResStep.mk r9033 x42054 x42066 a0.pivot)) else some (ResStep.mk r9033 x42054 a0.right a0.pivot))) else some (ResStep.mk r9033 a0.left a0.right a0.pivot)))

noncomputable def spec_l7Trim (a0 : List ResStep) : Option (List ResStep) :=
  bd (PF.spec_l7Needed a0) (fun r9021 => bd (mk2 (0 : Int) (len a0) (len a0)) (fun xs18021 => bdR (forL (S := ((List ResStep) × (List Int))) (X := Empty) a0 (fun i33045 y33044 s33045 => bd (ix r9021 ((i33045 : Nat) : Int)) (fun x33230 => (bif x33230 then bd (ix s33045.2 ((i33045 : Nat) : Int)) (fun x33239 => bd (put s33045.2 ((i33045 : Nat) : Int) (len s33045.1)) (fun xs33244 => bd (PF.spec_l7Moved y33044 xs33244) (fun r33262 => bd (app s33045.1 [r33262]) (fun xs33279 => some (Lp.nx (xs33279, xs33244)))))) else some (Lp.nx (s33045.1, s33045.2))))) ([], xs18021)) (fun s33045 => some s33045.1) (fun x33045 => nomatch x33045)))

noncomputable def spec_LearnedToProof (a0 : Cnf) (a1 : List (List Int)) : Option ((List ResStep) × Bool) :=
  bd (PF.spec_l11Good a0 a1) (fun r29 => (bif (bif (!r29) then true else ((len a1) == 0)) then some ([], false) else bd (PF.spec_l11Steps a0 a1) (fun r50 => (bif (decide (200 < (len r50.1))) then some ([], false) else bd (cut r50.1 0 (wr (r50.2 + 1))) (fun xs74 => bd (PF.spec_l7Trim xs74) (fun r79 => some (r79, true)))))))

def impl_within (a0 : Int) (a1 : Int) (a2 : Int) : Bool :=
  (bif (decide (a1 ≤ a0)) then (decide (a0 ≤ a2)) else false)

def impl_isLiteral (a0 : Int) (a1 : Int) : Bool :=
  (bif (!(a1 == 0)) then (PF.impl_within a1 (wr (-a0)) a0) else false)

def impl_abs (a0 : Int) : Int :=
  (mx a0 (wr (-a0)))

def impl_varsOk (a0 : Int) : Bool :=
  (PF.impl_within a0 0 12)

def impl_IsClause (a0 : Int) (a1 : List Int) : Option Bool :=
  bdR (forL (S := Unit) (X := Bool) a1 (fun i22 y21 s22 => bd (bif (!(PF.impl_isLiteral a0 y21)) then some true else bd (bif (decide (0 < ((i22 : Nat) : Int))) then bd (ix a1 (wr (((i22 : Nat) : Int) - 1))) (fun x192 => some (decide ((PF.impl_abs y21) ≤ (PF.impl_abs x192)))) else some false) (fun t179 => some t179)) (fun t164 => (bif t164 then some (Lp.rt false) else some (Lp.nx ())))) ()) (fun s22 => some (PF.impl_varsOk a0)) (fun x22 => some x22)

def impl_IsCnf (a0 : Cnf) : Option Bool :=
  bdR (forL (S := Unit) (X := Bool) a0.clauses (fun i30 y29 s30 => bd (PF.impl_IsClause a0.vars y29) (fun r71 => (bif (!r71) then some (Lp.rt false) else some (Lp.nx ())))) ()) (fun s30 => some (bif (PF.impl_varsOk a0.vars) then (decide ((len a0.clauses) ≤ 60)) else false)) (fun x30 => some x30)

def slices_IndexFunc_LLint_Lint (a0 : List (List Int)) (a1 : (List Int) → Option Bool) : Option Int :=
  bdR (forL (S := Unit) (X := Int) a0 (fun i22 y21 s22 => bd (a1 y21) (fun r68 => (bif r68 then some (Lp.rt ((i22 : Nat) : Int)) else some (Lp.nx ())))) ()) (fun s22 => some (-1)) (fun x22 => some x22)

def slices_ContainsFunc_LLint_Lint (a0 : List (List Int)) (a1 : (List Int) → Option Bool) : Option Bool :=
  bd (PF.slices_IndexFunc_LLint_Lint a0 a1) (fun r21 => some (decide (0 ≤ r21)))

def impl_listOk_1 (a0 : List Int) (b0 : Cnf) : Option Bool :=
  bd (PF.impl_IsClause b0.vars a0) (fun r21 => some (!r21))

def impl_listOk (a0 : Cnf) (a1 : List (List Int)) : Option Bool :=
  bd (PF.impl_IsCnf a0) (fun r29 => bd (bif (bif r29 then (decide ((len a1) ≤ 60)) else false) then bd (PF.slices_ContainsFunc_LLint_Lint a1 (fun x0 => PF.impl_listOk_1 x0 a0)) (fun r56 => some (!r56)) else some false) (fun t49 => some t49))

def slices_Grow_LLint_Lint (a1 : Int) : Option (List (List Int)) := if 0 ≤ a1 ∧ a1 ≤ lim then some [] else none

def slices_Concat_LLint_Lint (a0 : List (List (List Int))) : Option (List (List Int)) :=
  bdR (forL (S := Int) (X := Empty) a0 (fun i22 y21 s22 => (bif (decide ((wr (s22 + (len y21))) < 0)) then none else some (Lp.nx (wr (s22 + (len y21)))))) 0) (fun s22 => bd (PF.slices_Grow_LLint_Lint s22) (fun r69 => bdR (forL (S := (List (List Int))) (X := Empty) a0 (fun i82 y81 s82 => bd (app s82 y81) (fun xs131 => some (Lp.nx xs131))) r69) (fun s82 => some s82) (fun x82 => nomatch x82))) (fun x22 => nomatch x22)

def impl_before (a0 : Cnf) (a1 : List (List Int)) (a2 : Int) : Option (List (List Int)) :=
  bd (cut a1 0 a2) (fun xs15029 => bd (PF.slices_Concat_LLint_Lint [a0.clauses, xs15029]) (fun r21034 => some r21034))

def impl_negated (a0 : List Int) : Option (List Int) :=
  bdR (forL (S := (List Int)) (X := Empty) a0 (fun i22 y21 s22 => bd (app s22 [(wr (-y21))]) (fun xs78 => some (Lp.nx xs78))) []) (fun s22 => some s22) (fun x22 => nomatch x22)

def slices_Clone_int_int (a0 : List Int) : Option (List Int) :=
  bd (app [] a0) (fun xs30 => some xs30)

def slices_Index_int_int (a0 : List Int) (a1 : Int) : Option Int :=
  bdR (forL (S := Unit) (X := Int) a0 (fun i22 y21 s22 => (bif (a1 == y21) then some (Lp.rt ((i22 : Nat) : Int)) else some (Lp.nx ()))) ()) (fun s22 => some (-1)) (fun x22 => some x22)

def slices_Contains_int_int (a0 : List Int) (a1 : Int) : Option Bool :=
  bd (PF.slices_Index_int_int a0 a1) (fun r21 => some (decide (0 ≤ r21)))

def impl_clauseValue (a0 : List Int) (a1 : List Int) : Option Int :=
  bdR (forL (S := Int) (X := Int) a0 (fun i22 y21 s22 => bd (PF.slices_Contains_int_int a1 y21) (fun r67 => (bif r67 then some (Lp.rt 1) else bd (PF.slices_Contains_int_int a1 (wr (-y21))) (fun r73 => (bif (!r73) then some (Lp.nx 0) else some (Lp.nx s22)))))) (-1)) (fun s22 => some s22) (fun x22 => some x22)

def impl_falseClauses (a0 : List (List Int)) (a1 : List Int) : Option (List Int) :=
  bdR (forL (S := (List Int)) (X := Empty) a0 (fun i22 y21 s22 => bd (PF.impl_clauseValue y21 a1) (fun r85 => (bif (decide (r85 < 0)) then bd (app s22 [((i22 : Nat) : Int)]) (fun xs96 => some (Lp.nx xs96)) else some (Lp.nx s22)))) []) (fun s22 => some s22) (fun x22 => nomatch x22)

def slices_IndexFunc_int_int (a0 : List Int) (a1 : Int → Option Bool) : Option Int :=
  bdR (forL (S := Unit) (X := Int) a0 (fun i22 y21 s22 => bd (a1 y21) (fun r64 => (bif r64 then some (Lp.rt ((i22 : Nat) : Int)) else some (Lp.nx ())))) ()) (fun s22 => some (-1)) (fun x22 => some x22)

noncomputable def slices_DeleteFunc_int_int (a0 : List Int) (a1 : Int → Option Bool) : Option (List Int) :=
  bd (PF.slices_IndexFunc_int_int a0 a1) (fun r26 => (bif (r26 == (-1)) then some a0 else bdR (iter (S := ((List Int) × Int × Int)) (X := Empty) (fun s32 => (bif (decide (s32.2.2 < (len s32.1))) then bd (ix s32.1 s32.2.2) (fun x141 => bd (a1 x141) (fun r143 => (bif (!r143) then bd (ix s32.1 s32.2.1) (fun x160 => bd (put s32.1 s32.2.1 x141) (fun xs165 => some (Lp.nx (xs165, (wr (s32.2.1 + 1)), (wr (s32.2.2 + 1)))))) else some (Lp.nx (s32.1, s32.2.1, (wr (s32.2.2 + 1))))))) else some (Lp.bk (s32.1, s32.2.1, s32.2.2)))) (a0, r26, (wr (r26 + 1)))) (fun s32 => bd (cut s32.1 s32.2.1 (len s32.1)) (fun xs178 => bd (cut (clearL 0 s32.1 s32.2.1) 0 s32.2.1) (fun xs188 => some xs188))) (fun x32 => nomatch x32)))

def impl_openPart_1 (a0 : Int) (b0 : List Int) : Option Bool :=
  bd (PF.slices_Contains_int_int b0 (wr (-a0))) (fun r21 => some r21)

noncomputable def impl_openPart (a0 : List Int) (a1 : List Int) : Option (List Int) :=
  bd (PF.slices_Clone_int_int a0) (fun r29 => bd (PF.slices_DeleteFunc_int_int r29 (fun x0 => PF.impl_openPart_1 x0 a1)) (fun r39 => some r39))

noncomputable def impl_unit (a0 : List Int) (a1 : List Int) : Option Int :=
  bd (PF.impl_clauseValue a0 a1) (fun r21 => (bif (!(r21 == 0)) then some 0 else bd (PF.impl_openPart a0 a1) (fun r27 => (bif ((len r27) == 1) then bd (ix r27 0) (fun x44 => some x44) else some 0))))

def impl_withoutVar_1 (a0 : Int) (b0 : Int) : Bool :=
  ((PF.impl_abs a0) == b0)

noncomputable def impl_withoutVar (a0 : List Int) (a1 : Int) : Option (List Int) :=
  bd (PF.slices_Clone_int_int a0) (fun r29 => bd (PF.slices_DeleteFunc_int_int r29 (fun x0 => some (PF.impl_withoutVar_1 x0 a1))) (fun r39 => some r39))

noncomputable def slices_SortFunc_int_int (a0 : List Int) (a1 : Int → Int → Option Int) : Option (List Int) := sortF a1 a0

def cmp_isNaN_int (a0 : Int) : Bool :=
  (!(a0 == a0))

def cmp_Compare_int (a0 : Int) (a1 : Int) : Int :=
  (bif (PF.cmp_isNaN_int a0) then (bif (PF.cmp_isNaN_int a1) then 0 else (-1)) else (bif (PF.cmp_isNaN_int a1) then 1 else (bif (decide (a0 < a1)) then (-1) else (bif (decide (a1 < a0)) then 1 else 0))))

def cmp_Or_int (a0 : List Int) : Option Int :=
  bdR (forL (S := Unit) (X := Int) a0 (fun i22 y21 s22 => (bif (!(y21 == 0)) then some (Lp.rt y21) else some (Lp.nx ()))) ()) (fun s22 => some 0) (fun x22 => some x22)

def impl_compareLiterals (a0 : Int) (a1 : Int) : Option Int :=
  bd (PF.cmp_Or_int [(PF.cmp_Compare_int (PF.impl_abs a0) (PF.impl_abs a1)), (PF.cmp_Compare_int a1 a0)]) (fun r43 => some r43)

def slices_Compact_int_int (a0 : List Int) : Option (List Int) := some (compactL a0)

noncomputable def impl_clause (a0 : List Int) : Option ((List Int) × Bool) :=
  bd (PF.slices_Clone_int_int a0) (fun r21 => bd (PF.slices_SortFunc_int_int r21 (fun x0 x1 => PF.impl_compareLiterals x0 x1)) (fun r31 => bd (PF.slices_Compact_int_int r31) (fun r39 => bdR (iter (S := Int) (X := ((List Int) × Bool)) (fun s49 => (bif (decide (s49 < (len r39))) then bd (ix r39 s49) (fun x94 => bd (ix r39 (wr (s49 - 1))) (fun x102 => (bif (x94 == (wr (-x102))) then some (Lp.rt ([], false)) else some (Lp.nx (wr (s49 + 1)))))) else some (Lp.bk s49))) 1) (fun s49 => some (r39, true)) (fun x49 => some x49))))

noncomputable def impl_mustClause (a0 : List Int) : Option (List Int) :=
  bd (PF.impl_clause a0) (fun r21 => some r21.1)

noncomputable def impl_set (a0 : List Int) (a1 : Int) : Option (List Int) :=
  bd (PF.impl_withoutVar a0 (PF.impl_abs a1)) (fun r24 => bd (app r24 [a1]) (fun xs39 => bd (PF.impl_mustClause xs39) (fun r55 => some r55)))

noncomputable def impl_propagate (a0 : List (List Int)) (a1 : List Int) : Option ((List Int) × (List (Int × Int)) × Bool) :=
  bd (PF.slices_Clone_int_int a1) (fun r25 => bdR (iter (S := ((List Int) × (List (Int × Int)))) (X := ((List Int) × (List (Int × Int)) × Bool)) (fun s43 => bd (PF.impl_falseClauses a0 s43.1) (fun r304 => (bif (decide (0 < (len r304))) then some (Lp.rt (s43.1, s43.2, true)) else bd (β := _) (bdR (forL (S := Unit) (X := Int) a0 (fun i362 y361 s362 => bd (β := _) (bd (PF.impl_unit y361 s43.1) (fun r415 => some (!(r415 == 0))) : Option Bool) (fun s414 => (bif s414 then some (Lp.rt ((i362 : Nat) : Int)) else some (Lp.nx ())))) ()) (fun s362 => some (-1)) (fun x362 => some x362) : Option Int) (fun s360 => (bif (decide (s360 < 0)) then some (Lp.rt (s43.1, s43.2, false)) else bd (ix a0 s360) (fun x454 => bd (PF.impl_unit x454 s43.1) (fun r458 => bd (PF.impl_set s43.1 r458) (fun r463 => bd (app s43.2 [(r458, s360)]) (fun xs481 => some (Lp.nx (r463, xs481))))))))))) (r25, [])) (fun s43 => some ([], [], false)) (fun x43 => some x43))

noncomputable def impl_follows (a0 : List (List Int)) (a1 : List Int) : Option Bool :=
  bd (PF.impl_negated a1) (fun r21 => bd (PF.impl_propagate a0 r21) (fun r36 => some r36.2.2))

noncomputable def impl_firstUnfollowed (a0 : Cnf) (a1 : List (List Int)) : Option Int :=
  bdR (forL (S := Unit) (X := Int) a1 (fun i30 y29 s30 => bd (PF.impl_before a0 a1 ((i30 : Nat) : Int)) (fun r88 => bd (PF.impl_follows r88 y29) (fun r103 => (bif (!r103) then some (Lp.rt ((i30 : Nat) : Int)) else some (Lp.nx ()))))) ()) (fun s30 => some (-1)) (fun x30 => some x30)

noncomputable def impl_learned (a0 : Cnf) (a1 : List (List Int)) : Option Bool :=
  bd (PF.impl_listOk a0 a1) (fun r29 => bd (bif r29 then bd (PF.impl_firstUnfollowed a0 a1) (fun r46 => some (decide (r46 < 0))) else some false) (fun t39 => some t39))

noncomputable def impl_trail (a0 : Cnf) (a1 : List (List Int)) (a2 : Int) : Option ((List (Int × Int)) × Int) :=
  bd (PF.impl_before a0 a1 a2) (fun r29 => bd (ix a1 a2) (fun x45 => bd (PF.impl_negated x45) (fun r49 => bd (PF.impl_propagate r29 r49) (fun r69 => bd (PF.impl_falseClauses r29 r69.1) (fun r12089 => bd (ix r12089 0) (fun x15090 => some (r69.2.1, x15090)))))))


def slices_Grow_int_int (a1 : Int) : Option (List Int) := if 0 ≤ a1 ∧ a1 ≤ lim then some [] else none

def slices_Concat_int_int (a0 : List (List Int)) : Option (List Int) :=
  bdR (forL (S := Int) (X := Empty) a0 (fun i22 y21 s22 => (bif (decide ((wr (s22 + (len y21))) < 0)) then none else some (Lp.nx (wr (s22 + (len y21)))))) 0) (fun s22 => bd (PF.slices_Grow_int_int s22) (fun r69 => bdR (forL (S := (List Int)) (X := Empty) a0 (fun i80 y79 s80 => bd (app s80 y79) (fun xs129 => some (Lp.nx xs129))) r69) (fun s80 => some s80) (fun x80 => nomatch x80))) (fun x22 => nomatch x22)

noncomputable def impl_resolve (a0 : List Int) (a1 : List Int) (a2 : Int) : Option ((List Int) × Bool) :=
  bd (PF.slices_Contains_int_int a0 a2) (fun r21 => bd (bif (!r21) then some true else bd (PF.slices_Contains_int_int a1 (wr (-a2))) (fun r38 => some (!r38))) (fun t31 => (bif t31 then some ([], false) else bd (PF.impl_withoutVar a0 a2) (fun r48 => bd (PF.impl_withoutVar a1 a2) (fun r58 => bd (PF.slices_Concat_int_int [r48, r58]) (fun r88 => bd (PF.impl_clause r88) (fun r105 => some (r105.1, r105.2))))))))

def slices_Equal_int_int (a0 : List Int) (a1 : List Int) : Option Bool :=
  (bif (!((len a0) == (len a1))) then some false else bdR (forL (S := Unit) (X := Bool) a0 (fun i23 y22 s23 => bd (ix a1 ((i23 : Nat) : Int)) (fun x74 => (bif (!(y22 == x74)) then some (Lp.rt false) else some (Lp.nx ())))) ()) (fun s23 => some true) (fun x23 => some x23))


def impl_ResStep_isAxiom (a0 : ResStep) : Bool :=
  (decide (a0.left < 0))

def impl_ResStep_isWeakening (a0 : ResStep) : Bool :=
  (bif (decide (0 ≤ a0.left)) then (decide (a0.right < 0)) else false)

def impl_ResStep_premises (a0 : ResStep) : (List Int) :=
  (bif (PF.impl_ResStep_isAxiom a0) then [] else (bif (PF.impl_ResStep_isWeakening a0) then [a0.left] else [a0.left, a0.right]))

noncomputable def slices_Reverse_int_int (a0 : List Int) : Option (List Int) :=
  bdR (iter (S := ((List Int) × Int × Int)) (X := Empty) (fun s21 => (bif (decide (s21.2.1 < s21.2.2)) then bd (ix s21.1 s21.2.2) (fun x129077 => bd (ix s21.1 s21.2.1) (fun x141077 => bd (ix s21.1 s21.2.1) (fun x147077 => bd (put s21.1 s21.2.1 x129077) (fun xs150074 => bd (ix xs150074 s21.2.2) (fun x153077 => bd (put xs150074 s21.2.2 x141077) (fun xs156074 => some (Lp.nx (xs156074, (wr (s21.2.1 + 1)), (wr (s21.2.2 - 1)))))))))) else some (Lp.bk (s21.1, s21.2.1, s21.2.2)))) (a0, 0, (wr ((len a0) - 1)))) (fun s21 => some s21.1) (fun x21 => nomatch x21)

noncomputable def impl_neededSteps (a0 : List ResStep) : Option (List Int) :=
  bd (mk2 (false : Bool) (len a0) (len a0)) (fun xs29 => bdR (forB (S := ((List Int) × (List Bool))) (X := Empty) a0 (fun y58 j58 s58 => bd (ix s58.2 ((j58 : Nat) : Int)) (fun x433 => (bif (bif (!x433) then (decide (((j58 : Nat) : Int) < (wr ((len a0) - 1)))) else false) then some (Lp.nx (s58.1, s58.2)) else bd (app s58.1 [((j58 : Nat) : Int)]) (fun xs454 => bd (chk (len (PF.impl_ResStep_premises y58))) (fun m476 => bdR (forR (S := (List Bool)) (X := Empty) 0 m476 (fun i477 s477 => bd (ix (PF.impl_ResStep_premises y58) ((i477 : Nat) : Int)) (fun x569 => bd (ix s477 x569) (fun x577 => bd (put s477 x569 true) (fun xs582 => some (Lp.nx xs582))))) s58.2) (fun s477 => some (Lp.nx (xs454, s477))) (fun x477 => nomatch x477)))))) ([], xs29)) (fun s58 => bd (PF.slices_Reverse_int_int s58.1) (fun r612 => some r612)) (fun x58 => nomatch x58))

def impl_ResStep_isResolvent (a0 : ResStep) : Bool :=
  (bif (decide (0 ≤ a0.left)) then (decide (0 ≤ a0.right)) else false)

def impl_ResStep_moved (a0 : ResStep) (a1 : Int → Option Int) : Option ResStep :=
  bd (PF.slices_Clone_int_int a0.clause) (fun r29 => bdR (S := (Int × Int × Int)) (X := Empty) ((bif (PF.impl_ResStep_isResolvent (ResStep.mk r29 a0.left a0.right a0.pivot)) then bd (a1 a0.right) (fun r68 => some (Rs.go (a0.left, r68, a0.pivot))) else some (Rs.go (a0.left, a0.right, a0.pivot)))) (fun s64 => (bif (!(PF.impl_ResStep_isAxiom (ResStep.mk r29 s64.1 s64.2.1 s64.2.2))) then bd (a1 s64.1) (fun r98 => some (ResStep.mk r29 r98 s64.2.1 s64.2.2)) else some (ResStep.mk r29 s64.1 s64.2.1 s64.2.2))) (fun x66 => nomatch x66))

def impl_trimSteps_1 (a0 : Int) (b0 : List Int) : Option Int :=
  bd (PF.slices_Index_int_int b0 a0) (fun r21 => some r21)

noncomputable def impl_trimSteps (a0 : List ResStep) : Option (List ResStep) :=
  bd (PF.impl_neededSteps a0) (fun r21 => bdR (forL (S := (List ResStep)) (X := Empty) r21 (fun i50 y49 s50 => bd (ix a0 y49) (fun x133 => bd (PF.impl_ResStep_moved x133 (fun x0 => PF.impl_trimSteps_1 x0 r21)) (fun r137 => bd (app s50 [r137]) (fun xs152 => some (Lp.nx xs152))))) []) (fun s50 => some s50) (fun x50 => nomatch x50))

noncomputable def impl_LearnedToProof (a0 : Cnf) (a1 : List (List Int)) : Option ((List ResStep) × Bool) :=
  bd (PF.impl_learned a0 a1) (fun r29 => (bif (bif (!r29) then true else ((len a1) == 0)) then some ([], false) else bdR (forL (S := ((List ResStep) × (List Int) × Int × (List (List Int)) × (List (Int × Int)))) (X := ((List ResStep) × Bool)) a1 (fun i58 y57 s58 => bd (β := _) (bd (PF.impl_trail (Cnf.mk s58.2.2.1 s58.2.2.2.1) a1 ((i58 : Nat) : Int)) (fun r2351619 => bd (β := _) ((bif (!((mget s58.2.2.2.2 r2351619.2).isSome)) then bd (ix s58.2.2.2.1 r2351619.2) (fun x2435671 => bd (PF.slices_Clone_int_int x2435671) (fun r2441665 => bd (β := _) (bd (app s58.1 [(ResStep.mk r2441665 (-1) r2351619.2 0)]) (fun xs2513706 => some (xs2513706, s58.2.1, s58.2.2.1, s58.2.2.2.1, (wr ((len xs2513706) - 1)))) : Option ((List ResStep) × (List Int) × Int × (List (List Int)) × Int)) (fun s2489688 => some (s2489688.1, s2489688.2.1, s2489688.2.2.1, s2489688.2.2.2.1, (mput s58.2.2.2.2 r2351619.2 s2489688.2.2.2.2), s2489688.2.2.2.2)))) else some (s58.1, s58.2.1, s58.2.2.1, s58.2.2.2.1, s58.2.2.2.2, ((mget s58.2.2.2.2 r2351619.2).getD 0))) : Option ((List ResStep) × (List Int) × Int × (List (List Int)) × (List (Int × Int)) × Int)) (fun s2405652 => bd (β := _) (bd (PF.impl_before (Cnf.mk s2405652.2.2.1 s2405652.2.2.2.1) a1 ((i58 : Nat) : Int)) (fun r3099409 => bd (PF.impl_trail (Cnf.mk s2405652.2.2.1 s2405652.2.2.2.1) a1 ((i58 : Nat) : Int)) (fun r3099426 => bd (ix r3099409 r3099426.2) (fun x3099442 => bdR (forB (S := ((List ResStep) × (List Int) × Int × (List Int) × Int × (List (List Int)) × (List (Int × Int)))) (X := Empty) r3099426.1 (fun y3099466 j3099466 s3099466 => bd (PF.slices_Contains_int_int s3099466.2.1 (wr (-y3099466.1))) (fun r3525896 => (bif (!r3525896) then some (Lp.nx (s3099466.1, s3099466.2.1, s3099466.2.2.1, s3099466.2.2.2.1, s3099466.2.2.2.2.1, s3099466.2.2.2.2.2.1, s3099466.2.2.2.2.2.2)) else (bif (decide (0 < y3099466.1)) then bd (ix r3099409 y3099466.2) (fun x3534909 => bd (PF.impl_resolve x3534909 s3099466.2.1 y3099466.1) (fun r3546903 => bd (β := _) (bd (β := _) ((bif (!((mget s3099466.2.2.2.2.2.2 y3099466.2).isSome)) then bd (ix s3099466.2.2.2.2.2.1 y3099466.2) (fun x3724022 => bd (PF.slices_Clone_int_int x3724022) (fun r3730016 => bd (β := _) (bd (app s3099466.1 [(ResStep.mk r3730016 (-1) y3099466.2 0)]) (fun xs3802057 => some (xs3802057, s3099466.2.2.2.1, s3099466.2.2.2.2.1, s3099466.2.2.2.2.2.1, (wr ((len xs3802057) - 1)))) : Option ((List ResStep) × (List Int) × Int × (List (List Int)) × Int)) (fun s3778039 => some (s3778039.1, s3778039.2.1, s3778039.2.2.1, s3778039.2.2.2.1, (mput s3099466.2.2.2.2.2.2 y3099466.2 s3778039.2.2.2.2), s3778039.2.2.2.2)))) else some (s3099466.1, s3099466.2.2.2.1, s3099466.2.2.2.2.1, s3099466.2.2.2.2.2.1, s3099466.2.2.2.2.2.2, ((mget s3099466.2.2.2.2.2.2 y3099466.2).getD 0))) : Option ((List ResStep) × (List Int) × Int × (List (List Int)) × (List (Int × Int)) × Int)) (fun s3694003 => bdR (S := (Int × Int)) (X := Empty) ((bif (decide (y3099466.1 < 0)) then some (Rs.go (s3099466.2.2.1, s3694003.2.2.2.2.2)) else some (Rs.go (s3694003.2.2.2.2.2, s3099466.2.2.1)))) (fun s3655004 => bd (PF.slices_Clone_int_int r3546903.1) (fun r3670019 => bd (β := _) (bd (app s3694003.1 [(ResStep.mk r3670019 s3655004.1 s3655004.2 (PF.impl_abs y3099466.1))]) (fun xs3751060 => some (xs3751060, s3694003.2.1, s3694003.2.2.1, s3694003.2.2.2.1, (wr ((len xs3751060) - 1)))) : Option ((List ResStep) × (List Int) × Int × (List (List Int)) × Int)) (fun s3727042 => some (s3727042.1, s3727042.2.2.2.2, s3727042.2.1, s3727042.2.2.1, s3727042.2.2.2.1, s3694003.2.2.2.2.1)))) (fun x3655006 => nomatch x3655006)) : Option ((List ResStep) × Int × (List Int) × Int × (List (List Int)) × (List (Int × Int)))) (fun s3630968 => some (Lp.nx (s3630968.1, r3546903.1, s3630968.2.1, s3630968.2.2.1, s3630968.2.2.2.1, s3630968.2.2.2.2.1, s3630968.2.2.2.2.2))))) else bd (ix r3099409 y3099466.2) (fun x3709045 => bd (PF.impl_resolve s3099466.2.1 x3709045 (wr (-y3099466.1))) (fun r3721039 => bd (β := _) (bd (β := _) ((bif (!((mget s3099466.2.2.2.2.2.2 y3099466.2).isSome)) then bd (ix s3099466.2.2.2.2.2.1 y3099466.2) (fun x3898158 => bd (PF.slices_Clone_int_int x3898158) (fun r3904152 => bd (β := _) (bd (app s3099466.1 [(ResStep.mk r3904152 (-1) y3099466.2 0)]) (fun xs3976193 => some (xs3976193, s3099466.2.2.2.1, s3099466.2.2.2.2.1, s3099466.2.2.2.2.2.1, (wr ((len xs3976193) - 1)))) : Option ((List ResStep) × (List Int) × Int × (List (List Int)) × Int)) (fun s3952175 => some (s3952175.1, s3952175.2.1, s3952175.2.2.1, s3952175.2.2.2.1, (mput s3099466.2.2.2.2.2.2 y3099466.2 s3952175.2.2.2.2), s3952175.2.2.2.2)))) else some (s3099466.1, s3099466.2.2.2.1, s3099466.2.2.2.2.1, s3099466.2.2.2.2.2.1, s3099466.2.2.2.2.2.2, ((mget s3099466.2.2.2.2.2.2 y3099466.2).getD 0))) : Option ((List ResStep) × (List Int) × Int × (List (List Int)) × (List (Int × Int)) × Int)) (fun s3868139 => bdR (S := (Int × Int)) (X := Empty) ((bif (decide (y3099466.1 < 0)) then some (Rs.go (s3099466.2.2.1, s3868139.2.2.2.2.2)) else some (Rs.go (s3868139.2.2.2.2.2, s3099466.2.2.1)))) (fun s3829140 => bd (PF.slices_Clone_int_int r3721039.1) (fun r3844155 => bd (β := _) (bd (app s3868139.1 [(ResStep.mk r3844155 s3829140.1 s3829140.2 (PF.impl_abs y3099466.1))]) (fun xs3925196 => some (xs3925196, s3868139.2.1, s3868139.2.2.1, s3868139.2.2.2.1, (wr ((len xs3925196) - 1)))) : Option ((List ResStep) × (List Int) × Int × (List (List Int)) × Int)) (fun s3901178 => some (s3901178.1, s3901178.2.2.2.2, s3901178.2.1, s3901178.2.2.1, s3901178.2.2.2.1, s3868139.2.2.2.2.1)))) (fun x3829142 => nomatch x3829142)) : Option ((List ResStep) × Int × (List Int) × Int × (List (List Int)) × (List (Int × Int)))) (fun s3805104 => some (Lp.nx (s3805104.1, r3721039.1, s3805104.2.1, s3805104.2.2.1, s3805104.2.2.2.1, s3805104.2.2.2.2.1, s3805104.2.2.2.2.2))))))))) (s2405652.1, x3099442, s2405652.2.2.2.2.2, s2405652.2.1, s2405652.2.2.1, s2405652.2.2.2.1, s2405652.2.2.2.2.1)) (fun s3099466 => some (s3099466.1, s3099466.2.2.1, s3099466.2.2.2.1, s3099466.2.2.2.2.1, s3099466.2.2.2.2.2.1, s3099466.2.2.2.2.2.2, r3099426.2, s3099466.2.1)) (fun x3099466 => nomatch x3099466)))) : Option ((List ResStep) × Int × (List Int) × Int × (List (List Int)) × (List (Int × Int)) × Int × (List Int))) (fun s3099379 => bd (PF.slices_Equal_int_int s3099379.2.2.2.2.2.2.2 y57) (fun r3871195 => bdR (S := ((List ResStep) × Int × (List Int) × Int × (List (List Int)))) (X := Empty) ((bif (!r3871195) then bd (PF.slices_Clone_int_int y57) (fun r3937231 => bd (β := _) (bd (app s3099379.1 [(ResStep.mk r3937231 s3099379.2.1 (-1) 0)]) (fun xs4009272 => some (xs4009272, s3099379.2.2.1, s3099379.2.2.2.1, s3099379.2.2.2.2.1, (wr ((len xs4009272) - 1)))) : Option ((List ResStep) × (List Int) × Int × (List (List Int)) × Int)) (fun s3985254 => some (Rs.go (s3985254.1, s3985254.2.2.2.2, s3985254.2.1, s3985254.2.2.1, s3985254.2.2.2.1)))) else some (Rs.go (s3099379.1, s3099379.2.1, s3099379.2.2.1, s3099379.2.2.2.1, s3099379.2.2.2.2.1)))) (fun s3913218 => some (s3913218.1, s3913218.2.2.1, s3913218.2.2.2.1, s3913218.2.2.2.2, (mput s3099379.2.2.2.2.2.1 (wr ((len s3913218.2.2.2.2) + ((i58 : Nat) : Int))) s3913218.2.1))) (fun x3913220 => nomatch x3913220))))) : Option ((List ResStep) × (List Int) × Int × (List (List Int)) × (List (Int × Int)))) (fun s2351599 => (bif (decide (200 < (len s2351599.1))) then some (Lp.rt ([], false)) else some (Lp.nx (s2351599.1, s2351599.2.1, s2351599.2.2.1, s2351599.2.2.2.1, s2351599.2.2.2.2))))) ([], [], a0.vars, a0.clauses, [])) (fun s58 => bd (cut s58.1 0 (wr (((mget s58.2.2.2.2 (wr ((wr ((len a0.clauses) + (len a1))) - 1))).getD 0) + 1))) (fun xs4060286 => bd (PF.impl_trimSteps xs4060286) (fun r4063280 => some (r4063280, true)))) (fun x58 => some x58)))

def laws_eqIntS (a0 : List Int) (a1 : List Int) : Option Bool :=
  (bif (!((len a0) == (len a1))) then some false else bdR (forL (S := Unit) (X := Bool) a0 (fun i23 y22 s23 => bd (ix a1 ((i23 : Nat) : Int)) (fun x72 => (bif (!(y22 == x72)) then some (Lp.rt false) else some (Lp.nx ())))) ()) (fun s23 => some true) (fun x23 => some x23))

def laws_eqResStep (a0 : ResStep) (a1 : ResStep) : Option Bool :=
  bd (PF.laws_eqIntS a0.clause a1.clause) (fun r37 => (bif (!r37) then some false else (bif (!(a0.left == a1.left)) then some false else (bif (!(a0.right == a1.right)) then some false else (bif (!(a0.pivot == a1.pivot)) then some false else some true)))))

def laws_eqResStepS (a0 : List ResStep) (a1 : List ResStep) : Option Bool :=
  (bif (!((len a0) == (len a1))) then some false else bdR (forL (S := Unit) (X := Bool) a0 (fun i23 y22 s23 => bd (ix a1 ((i23 : Nat) : Int)) (fun x80 => bd (PF.laws_eqResStep y22 x80) (fun r84 => (bif (!r84) then some (Lp.rt false) else some (Lp.nx ()))))) ()) (fun s23 => some true) (fun x23 => some x23))

def laws_eqIntSS (a0 : List (List Int)) (a1 : List (List Int)) : Option Bool :=
  (bif (!((len a0) == (len a1))) then some false else bdR (forL (S := Unit) (X := Bool) a0 (fun i23 y22 s23 => bd (ix a1 ((i23 : Nat) : Int)) (fun x80 => bd (PF.laws_eqIntS y22 x80) (fun r84 => (bif (!r84) then some (Lp.rt false) else some (Lp.nx ()))))) ()) (fun s23 => some true) (fun x23 => some x23))

def laws_eqCnf (a0 : Cnf) (a1 : Cnf) : Option Bool :=
  (bif (!(a0.vars == a1.vars)) then some false else bd (PF.laws_eqIntSS a0.clauses a1.clauses) (fun r38 => (bif (!r38) then some false else some true)))

def laws_markIntS (a0 : List Int) (a1 : Int) : List Int × Int :=
  markFrom (fun y m => (m, (wr (m + 1)))) a0 a1

def laws_markIntSS (a0 : List (List Int)) (a1 : Int) : List (List Int) × Int :=
  markFrom (fun y m => ((PF.laws_markIntS y m).1, (PF.laws_markIntS y m).2)) a0 a1

def laws_markCnf (a0 : Cnf) (a1 : Int) : Cnf × Int :=
  let r := PF.laws_markIntSS a0.clauses a1
  ((Cnf.mk a0.vars r.1), r.2)

def laws_markResStepS (a0 : List ResStep) (a1 : Int) : List ResStep × Int :=
  markFrom (fun y m => ((ResStep.mk ((PF.laws_markIntS y.clause m).1) ((PF.laws_markIntS y.clause m).2) (wr ((PF.laws_markIntS y.clause m).2 + 1)) (wr ((wr ((PF.laws_markIntS y.clause m).2 + 1)) + 1))), (wr ((wr ((wr ((PF.laws_markIntS y.clause m).2 + 1)) + 1)) + 1)))) a0 a1

def laws_heldIntS (a0 : List Int) (a1 : Int) : Option Int :=
  bdR (forL (S := Int) (X := Int) a0 (fun i22 y21 s22 => (bif (!(y21 == s22)) then some (Lp.rt (-1)) else some (Lp.nx (wr (s22 + 1))))) a1) (fun s22 => some s22) (fun x22 => some x22)

def laws_heldResStepS (a0 : List ResStep) (a1 : Int) : Option Int :=
  bdR (forL (S := Int) (X := Int) a0 (fun i22 y21 s22 => bd (PF.laws_heldIntS y21.clause s22) (fun r88 => (bif (decide (r88 < 0)) then some (Lp.rt (-1)) else (bif (!(y21.left == r88)) then some (Lp.rt (-1)) else (bif (!(y21.right == (wr (r88 + 1)))) then some (Lp.rt (-1)) else (bif (!(y21.pivot == (wr ((wr (r88 + 1)) + 1)))) then some (Lp.rt (-1)) else some (Lp.nx (wr ((wr ((wr (r88 + 1)) + 1)) + 1))))))))) a1) (fun s22 => some s22) (fun x22 => some x22)

noncomputable def laws_FnExactLearnedToProof (a0 : Cnf) (a1 : List (List Int)) : Option Bool :=
  bd (PF.laws_szCnf a0 1048576) (fun r29 => (bif (decide (r29 < 0)) then some true else bd (PF.laws_szIntSS a1 r29) (fun r36 => (bif (decide (r36 < 0)) then some true else bd (PF.laws_toCnf a0) (fun r43 => bd (PF.laws_toIntSS a1) (fun r55 => bd (PF.spec_LearnedToProof r43 r55) (fun r74 => bd (PF.laws_toCnf a0) (fun r93 => bd (PF.laws_toIntSS a1) (fun r117 => bd (PF.impl_LearnedToProof r93 r117) (fun r136 => bd (PF.laws_eqResStepS r136.1 r74.1) (fun r155 => (bif (bif (!r155) then true else (!(r136.2 == r74.2))) then some false else bd (PF.laws_toCnf a0) (fun r9178 => bd (PF.laws_eqCnf r93 r9178) (fun r12178 => (bif (!r12178) then some false else bd (PF.laws_toIntSS a1) (fun r21194 => bd (PF.laws_eqIntSS r117 r21194) (fun r21213 => (bif (!r21213) then some false else bd (bif (decide ((PF.laws_markIntSS r117 ((PF.laws_markCnf r93 1).2)).2 < 0)) then some true else bd (PF.laws_eqResStepS r136.1 r74.1) (fun r21267 => some (!r21267))) (fun t21260 => (bif (bif t21260 then true else (!(r136.2 == r74.2))) then some false else bd (PF.laws_heldResStepS ((PF.laws_markResStepS r136.1 1).1) 1) (fun r21306 => (bif (decide (r21306 < 0)) then some false else (bif (!(r21306 == (PF.laws_markResStepS r136.1 1).2)) then some false else bd (PF.laws_toCnf a0) (fun r21314 => bd (PF.laws_toIntSS a1) (fun r21326 => bd (PF.impl_LearnedToProof r21314 r21326) (fun r21345 => bd (PF.laws_eqResStepS r21345.1 r74.1) (fun r21364 => (bif (bif (!r21364) then true else (!(r21345.2 == r74.2))) then some false else bd (PF.laws_heldResStepS ((PF.laws_markResStepS r136.1 1).1) 1) (fun r21381 => (bif (decide (r21381 < 0)) then some false else (bif (!(r21381 == (PF.laws_markResStepS r136.1 1).2)) then some false else some true)))))))))))))))))))))))))))))))

end Go.PF
