/- Part of the walks and plain laws behind the claim: it proves helpers, under no condition beyond their own. -/
import Derived.Test.YtjpjbfbloplacaaGreatTdPl1
set_option linter.unusedVariables false
namespace Go.PF
open Go.Pu

structure Cnf where
  vars : Int
  clauses : List (List Int)
def okCnf (s : Cnf) : Prop := okI s.vars ∧ (okL (okL okI)) s.clauses

structure ResStep where
  clause : List Int
  left : Int
  right : Int
  pivot : Int
def okResStep (s : ResStep) : Prop := (okL okI) s.clause ∧ okI s.left ∧ okI s.right ∧ okI s.pivot

structure Term where
  mono : Int
  coeff : Int
structure PcStep where
  kind : Int
  poly : List Term
  a : Int
  b : Int
  x : Int
  y : Int
structure ring where
  p : Int
  vars : Int
structure algebra where
  ring : ring
  f : Cnf
  q : List (List Int)
structure Inequality where
  coeffs : List Int
  bound : Int
structure PlaneStep where
  ineq : Inequality
  kind : Int
  a : Int
  b : Int
  k : Int
structure planer where
  vars : Int
  steps : List PlaneStep
structure echelon where
  ring : ring
  rows : List (List Int)
  made : List (List Int)
  many : Int
structure l21Work where
  pc : List PcStep
  to : List Int
structure translator where
  algebra : algebra
  steps : List PcStep
  polys : List (List Int)
  at_ : List Int
def laws_szIntS (a0 : List Int) (a1 : Int) : Int :=
  (bif (decide ((wr (a1 - (len a0))) < 0)) then (-1) else (wr (a1 - (len a0))))

def laws_szIntSS (a0 : List (List Int)) (a1 : Int) : Option Int :=
  (bif (decide ((wr (a1 - (len a0))) < 0)) then some (-1) else bdR (forL (S := Int) (X := Int) a0 (fun i23 y22 s23 => (bif (decide ((PF.laws_szIntS y22 s23) < 0)) then some (Lp.rt (-1)) else some (Lp.nx (PF.laws_szIntS y22 s23)))) (wr (a1 - (len a0)))) (fun s23 => some s23) (fun x23 => some x23))

def laws_szCnf (a0 : Cnf) (a1 : Int) : Option Int :=
  bd (PF.laws_szIntSS a0.clauses a1) (fun r29 => (bif (decide (r29 < 0)) then some (-1) else some r29))

def laws_szResStep (a0 : ResStep) (a1 : Int) : Int :=
  (bif (decide ((PF.laws_szIntS a0.clause a1) < 0)) then (-1) else (PF.laws_szIntS a0.clause a1))

def laws_szResStepS (a0 : List ResStep) (a1 : Int) : Option Int :=
  (bif (decide ((wr (a1 - (len a0))) < 0)) then some (-1) else bdR (forL (S := Int) (X := Int) a0 (fun i23 y22 s23 => (bif (decide ((PF.laws_szResStep y22 s23) < 0)) then some (Lp.rt (-1)) else some (Lp.nx (PF.laws_szResStep y22 s23)))) (wr (a1 - (len a0)))) (fun s23 => some s23) (fun x23 => some x23))

def laws_toIntS (a0 : List Int) : Option (List Int) :=
  bd (mk2 (0 : Int) (len a0) (len a0)) (fun xs21 => bdR (forL (S := (List Int)) (X := Empty) a0 (fun i32 y31 s32 => bd (ix s32 ((i32 : Nat) : Int)) (fun x117 => bd (put s32 ((i32 : Nat) : Int) y31) (fun xs122 => some (Lp.nx xs122)))) xs21) (fun s32 => some s32) (fun x32 => nomatch x32))

def laws_toIntSS (a0 : List (List Int)) : Option (List (List Int)) :=
  bd (mk2 ([] : List Int) (len a0) (len a0)) (fun xs21 => bdR (forL (S := (List (List Int))) (X := Empty) a0 (fun i33 y32 s33 => bd (PF.laws_toIntS y32) (fun r155 => bd (ix s33 ((i33 : Nat) : Int)) (fun x171 => bd (put s33 ((i33 : Nat) : Int) r155) (fun xs183 => some (Lp.nx xs183))))) xs21) (fun s33 => some s33) (fun x33 => nomatch x33))

def laws_toCnf (a0 : Cnf) : Option Cnf :=
  bd (PF.laws_toIntSS a0.clauses) (fun r40 => some (Cnf.mk a0.vars r40))

def laws_toResStep (a0 : ResStep) : Option ResStep :=
  bd (PF.laws_toIntS a0.clause) (fun r37 => some (ResStep.mk r37 a0.left a0.right a0.pivot))

def laws_toResStepS (a0 : List ResStep) : Option (List ResStep) :=
  bd (mk2 ((ResStep.mk [] 0 0 0) : ResStep) (len a0) (len a0)) (fun xs21 => bdR (forL (S := (List ResStep)) (X := Empty) a0 (fun i33 y32 s33 => bd (PF.laws_toResStep y32) (fun r143 => bd (ix s33 ((i33 : Nat) : Int)) (fun x158 => bd (put s33 ((i33 : Nat) : Int) r143) (fun xs165 => some (Lp.nx xs165))))) xs21) (fun s33 => some s33) (fun x33 => nomatch x33))

def spec_l1In (a0 : Int) (a1 : Int) (a2 : Int) : Bool :=
  (bif (decide (a1 ≤ a0)) then (decide (a0 ≤ a2)) else false)

def spec_l18Prime (a0 : Int) (a1 : Int) : Bool :=
  (bif (bif (bif (a0 == 2) then true else (a0 == 3)) then true else (a0 == 5)) then (PF.spec_l1In a1 0 6) else false)

def spec_l2Vars (a0 : Int) : Bool :=
  (PF.spec_l1In a0 0 12)

def spec_l2Lit (a0 : Int) (a1 : Int) : Bool :=
  (bif (PF.spec_l1In a1 (wr (-a0)) a0) then (!(a1 == 0)) else false)

def spec_l2Var (a0 : Int) : Int :=
  (bif (decide (a0 < 0)) then (wr (-a0)) else a0)

def spec_l2Clause (a0 : Int) (a1 : List Int) : Option Bool :=
  (bif (!(PF.spec_l2Vars a0)) then some false else bdR (forL (S := Unit) (X := Bool) a1 (fun i26 y25 s26 => bd (bif (!(PF.spec_l2Lit a0 y25)) then some true else bd (bif (decide (0 < ((i26 : Nat) : Int))) then bd (ix a1 (wr (((i26 : Nat) : Int) - 1))) (fun x226 => some (decide ((PF.spec_l2Var y25) ≤ (PF.spec_l2Var x226)))) else some false) (fun t213 => some t213)) (fun t192 => (bif t192 then some (Lp.rt false) else some (Lp.nx ())))) ()) (fun s26 => some true) (fun x26 => some x26))

noncomputable def spec_l2Good (a0 : Cnf) : Option Bool :=
  (bif (bif (!(PF.spec_l2Vars a0.vars)) then true else (decide (60 < (len a0.clauses)))) then some false else bdR (iter (S := Int) (X := Bool) (fun s42 => (bif (decide (s42 < (len a0.clauses))) then bd (ix a0.clauses s42) (fun x83 => bd (PF.spec_l2Clause a0.vars x83) (fun r87 => (bif (!r87) then some (Lp.rt false) else some (Lp.nx (wr (s42 + 1)))))) else some (Lp.bk s42))) 0) (fun s42 => some true) (fun x42 => some x42))

noncomputable def spec_l20Asked (a0 : Int) (a1 : Cnf) : Option Bool :=
  bd (bif (PF.spec_l18Prime a0 a1.vars) then bd (PF.spec_l2Good a1) (fun r44 => some r44) else some false) (fun t37 => some t37)

noncomputable def spec_l7Asked (a0 : Cnf) (a1 : List ResStep) : Option Bool :=
  bd (bif (decide ((len a1) ≤ 200)) then bd (PF.spec_l2Good a0) (fun r41 => some r41) else some false) (fun t34 => some t34)

def spec_l1Same (a0 : List Int) (a1 : List Int) : Option Bool :=
  (bif (!((len a0) == (len a1))) then some false else bdR (forL (S := Unit) (X := Bool) a0 (fun i23 y22 s23 => bd (ix a1 ((i23 : Nat) : Int)) (fun x72 => (bif (!(y22 == x72)) then some (Lp.rt false) else some (Lp.nx ())))) ()) (fun s23 => some true) (fun x23 => some x23))

def spec_l7Clause (a0 : Cnf) (a1 : List ResStep) (a2 : Int) (a3 : Int) : Option Bool :=
  bd (bif (PF.spec_l1In a3 0 (wr (a2 - 1))) then bd (ix a1 a3) (fun x55 => bd (PF.spec_l2Clause a0.vars x55.clause) (fun r59 => some r59)) else some false) (fun t42 => some t42)

def spec_l1Has (a0 : List Int) (a1 : Int) : Option Bool :=
  bdR (forL (S := Unit) (X := Bool) a0 (fun i22 y21 s22 => (bif (y21 == a1) then some (Lp.rt true) else some (Lp.nx ()))) ()) (fun s22 => some false) (fun x22 => some x22)

def spec_l2Has (a0 : List Int) (a1 : Int) : Option Bool :=
  bd (PF.spec_l1Has a0 a1) (fun r21 => some r21)

def spec_l2Sub (a0 : List Int) (a1 : List Int) : Option Bool :=
  bdR (forL (S := Unit) (X := Bool) a0 (fun i22 y21 s22 => bd (PF.spec_l2Has a1 y21) (fun r57 => (bif (!r57) then some (Lp.rt false) else some (Lp.nx ())))) ()) (fun s22 => some true) (fun x22 => some x22)

def spec_l2Without (a0 : List Int) (a1 : Int) : Option (List Int) :=
  bdR (forL (S := (List Int)) (X := Empty) a0 (fun i27 y26 s27 => (bif (!((PF.spec_l2Var y26) == a1)) then bd (app s27 [y26]) (fun xs103 => some (Lp.nx xs103)) else some (Lp.nx s27))) []) (fun s27 => some s27) (fun x27 => nomatch x27)

def spec_l1Own (a0 : List Int) : Option (List Int) :=
  bd (app [] a0) (fun xs26 => some xs26)

noncomputable def spec_l2Put (a0 : List Int) (a1 : Int) : Option (List Int) :=
  bdR (iter (S := Int) (X := Empty) (fun s21 => bd (bif (decide (s21 < (len a0))) then bd (ix a0 s21) (fun x105 => some (decide ((PF.spec_l2Var x105) < (PF.spec_l2Var a1)))) else some false) (fun t92 => (bif t92 then some (Lp.nx (wr (s21 + 1))) else some (Lp.bk s21)))) 0) (fun s21 => bd (cut a0 0 s21) (fun xs9127 => bd (PF.spec_l1Own xs9127) (fun r12127 => bd (app r12127 [a1]) (fun xs21127 => bd (cut a0 s21 (len a0)) (fun xs30127 => bd (app xs21127 xs30127) (fun xs33127 => some xs33127)))))) (fun x21 => nomatch x21)

noncomputable def spec_l2Join (a0 : List Int) (a1 : List Int) : Option ((List Int) × Bool) :=
  bd (PF.spec_l1Own a0) (fun r21 => bdR (forL (S := (List Int)) (X := ((List Int) × Bool)) a1 (fun i32 y31 s32 => bd (PF.spec_l2Has s32 (wr (-y31))) (fun r200 => (bif r200 then some (Lp.rt ([], false)) else bd (PF.spec_l2Has s32 y31) (fun r222 => (bif (!r222) then bd (PF.spec_l2Put s32 y31) (fun r239 => some (Lp.nx r239)) else some (Lp.nx s32)))))) r21) (fun s32 => some (s32, true)) (fun x32 => some x32))

noncomputable def spec_l2Resolve (a0 : List Int) (a1 : List Int) (a2 : Int) : Option ((List Int) × Bool) :=
  bd (PF.spec_l2Has a0 a2) (fun r21 => bd (bif (!r21) then some true else bd (PF.spec_l2Has a1 (wr (-a2))) (fun r38 => some (!r38))) (fun t31 => (bif t31 then some ([], false) else bd (PF.spec_l2Without a0 a2) (fun r53 => bd (PF.spec_l2Without a1 a2) (fun r63 => bd (PF.spec_l2Join r53 r63) (fun r83 => some (r83.1, r83.2)))))))

noncomputable def spec_l7Correct (a0 : Cnf) (a1 : List ResStep) (a2 : Int) : Option Bool :=
  bd (ix a1 a2) (fun x35 => bd (PF.spec_l2Clause a0.vars x35.clause) (fun r50 => (bif (!r50) then some false else (bif (x35.left == (-1)) then bd (bif (bif (x35.pivot == 0) then (PF.spec_l1In x35.right 0 (wr ((len a0.clauses) - 1))) else false) then bd (ix a0.clauses x35.right) (fun x93 => bd (PF.spec_l1Same x93 x35.clause) (fun r97 => some r97)) else some false) (fun t80 => some t80) else bd (PF.spec_l7Clause a0 a1 a2 x35.left) (fun r103 => (bif (!r103) then some false else (bif (x35.right == (-1)) then bd (bif (x35.pivot == 0) then bd (ix a1 x35.left) (fun x136 => bd (PF.spec_l2Sub x136.clause x35.clause) (fun r140 => some r140)) else some false) (fun t123 => some t123) else bd (PF.spec_l7Clause a0 a1 a2 x35.right) (fun r146 => (bif (bif (!r146) then true else (!(PF.spec_l1In x35.pivot 1 a0.vars))) then some false else bd (ix a1 x35.left) (fun x12174 => bd (ix a1 x35.right) (fun x30174 => bd (PF.spec_l2Resolve x12174.clause x30174.clause x35.pivot) (fun r45168 => bd (bif r45168.2 then bd (PF.spec_l1Same r45168.1 x35.clause) (fun r66203 => some r66203) else some false) (fun t66191 => some t66191)))))))))))))

noncomputable def spec_l7Wrong (a0 : Cnf) (a1 : List ResStep) : Option Int :=
  bdR (forL (S := Unit) (X := Int) a1 (fun i30 y29 s30 => bd (PF.spec_l7Correct a0 a1 ((i30 : Nat) : Int)) (fun r53 => (bif (!r53) then some (Lp.rt ((i30 : Nat) : Int)) else some (Lp.nx ())))) ()) (fun s30 => some (-1)) (fun x30 => some x30)

noncomputable def spec_l7Good (a0 : Cnf) (a1 : List ResStep) : Option Bool :=
  bd (PF.spec_l7Asked a0 a1) (fun r29 => bd (bif r29 then bd (PF.spec_l7Wrong a0 a1) (fun r46 => some (decide (r46 < 0))) else some false) (fun t39 => some t39))

noncomputable def spec_l21Asked (a0 : Int) (a1 : Cnf) (a2 : List ResStep) : Option Bool :=
  bd (PF.spec_l20Asked a0 a1) (fun r29 => bd (bif r29 then bd (PF.spec_l7Good a1 a2) (fun r46 => some r46) else some false) (fun t39 => some t39))

def spec_l18Sparse (a0 : Int) (a1 : List Int) : Option (List Term) :=
  bdR (forL (S := (List Term)) (X := Empty) a1 (fun i27 y26 s27 => bd (nz a0) (fun u82 => (bif (!((y26.tmod a0) == 0)) then bd (app s27 [(Term.mk ((i27 : Nat) : Int) (y26.tmod a0))]) (fun xs89 => some (Lp.nx xs89)) else some (Lp.nx s27)))) []) (fun s27 => some s27) (fun x27 => nomatch x27)

def spec_l18Mul (a0 : Int) (a1 : Int) (a2 : List Term) (a3 : List Term) : Option (List Term) :=
  bd (nn a1) (fun u22 => bd (mk2 (0 : Int) (shlK true 64 1 a1) (shlK true 64 1 a1)) (fun xs23 => bdR (forL (S := (List Int)) (X := Empty) a2 (fun i34 y33 s34 => bdR (forL (S := (List Int)) (X := Empty) a3 (fun i288292 y288291 s288292 => bd (ix s288292 (orK true 64 y33.mono y288291.mono)) (fun x447414 => bd (nz a0) (fun u492409 => bd (ix s288292 (orK true 64 y33.mono y288291.mono)) (fun x495414 => bd (put s288292 (orK true 64 y33.mono y288291.mono) ((wr (x447414 + (wr (y33.coeff * y288291.coeff)))).tmod a0)) (fun xs498411 => some (Lp.nx xs498411)))))) s34) (fun s288292 => some (Lp.nx s288292)) (fun x288292 => nomatch x288292)) xs23) (fun s34 => bd (PF.spec_l18Sparse a0 s34) (fun r504459 => some r504459)) (fun x34 => nomatch x34)))

def spec_l18Clause (a0 : Int) (a1 : Int) (a2 : List Int) : Option (List Term) :=
  bdR (forL (S := (List Term)) (X := Empty) a2 (fun i27 y26 s27 => bd (nn (wr ((PF.spec_l2Var y26) - 1))) (fun u242 => (bif (decide (y26 < 0)) then bd (PF.spec_l18Mul a0 a1 s27 [(Term.mk (shlK true 64 1 (wr ((PF.spec_l2Var y26) - 1))) 1)]) (fun r276 => some (Lp.nx r276)) else bd (PF.spec_l18Mul a0 a1 s27 [(Term.mk 0 1), (Term.mk (shlK true 64 1 (wr ((PF.spec_l2Var y26) - 1))) (wr (a0 - 1)))]) (fun r303 => some (Lp.nx r303))))) [(Term.mk 0 1)]) (fun s27 => some s27) (fun x27 => nomatch x27)

def spec_l20Times (a0 : Int) (a1 : Int) (a2 : List Term) (a3 : Int) : Option (List Term) :=
  bd (nn (wr (a3 - 1))) (fun u22 => bd (PF.spec_l18Mul a0 a1 a2 [(Term.mk (shlK true 64 1 (wr (a3 - 1))) 1)]) (fun r33 => some r33))

def spec_l18Dense (a0 : Int) (a1 : List Term) : Option (List Int) :=
  bd (nn a0) (fun u22 => bd (mk2 (0 : Int) (shlK true 64 1 a0) (shlK true 64 1 a0)) (fun xs23 => bdR (forL (S := (List Int)) (X := Empty) a1 (fun i34 y33 s34 => bd (ix s34 y33.mono) (fun x126093 => bd (put s34 y33.mono y33.coeff) (fun xs129090 => some (Lp.nx xs129090)))) xs23) (fun s34 => some s34) (fun x34 => nomatch x34)))

noncomputable def spec_l18Add (a0 : Int) (a1 : Int) (a2 : List Term) (a3 : List Term) (a4 : Int) : Option (List Term) :=
  bd (PF.spec_l18Dense a1 a2) (fun r21 => bd (PF.spec_l18Dense a1 a3) (fun r31 => bdR (iter (S := ((List Int) × Int)) (X := Empty) (fun s41 => (bif (decide (s41.2 < (len s41.1))) then bd (ix s41.1 s41.2) (fun x117113 => bd (ix r31 s41.2) (fun x132113 => bd (ix s41.1 s41.2) (fun x144113 => bd (put s41.1 s41.2 (wr (x117113 + (wr (a4 * x132113))))) (fun xs147110 => some (Lp.nx (xs147110, (wr (s41.2 + 1)))))))) else some (Lp.bk (s41.1, s41.2)))) (r21, 0)) (fun s41 => bd (PF.spec_l18Sparse a0 s41.1) (fun r153135 => some r153135)) (fun x41 => nomatch x41)))

noncomputable def spec_l20Sum (a0 : Int) (a1 : Int) (a2 : List Term) (a3 : Int) (a4 : List Term) (a5 : Int) : Option (List Term) :=
  bd (PF.spec_l18Add a0 a1 [] a2 a3) (fun r31 => bd (PF.spec_l18Add a0 a1 r31 a4 a5) (fun r48 => some r48))

def spec_l20Terms (a0 : List Term) : Option (List Term) :=
  bd (app [] a0) (fun xs26 => some xs26)

noncomputable def spec_l21Translate (a0 : Int) (a1 : Cnf) (a2 : List ResStep) : Option l21Work :=
  bdR (forL (S := ((List Int) × (List PcStep))) (X := Empty) a2 (fun i51 y50 s51 => (bif (y50.left == (-1)) then bd (PF.spec_l18Clause a0 a1.vars y50.clause) (fun r816582 => bd (app s51.2 [(PcStep.mk 1 r816582 y50.right 0 0 0)]) (fun xs831582 => bd (app s51.1 [(wr ((len xs831582) - 1))]) (fun xs843604 => some (Lp.nx (xs843604, xs831582))))) else (bif (y50.right == (-1)) then bd (ix s51.1 y50.left) (fun x870625 => bd (ix a2 y50.left) (fun x885625 => bd (β := _) (bdR (forL (S := ((List PcStep) × Int)) (X := Empty) y50.clause (fun i1038958 y1038957 s1038958 => bd (PF.spec_l2Has x885625.clause y1038957) (fun r1177268 => (bif (bif r1177268 then true else ((PF.spec_l2Var y1038957) == 0)) then some (Lp.nx (s1038958.1, s1038958.2)) else bd (ix s1038958.1 s1038958.2) (fun x1177322 => bd (PF.spec_l20Times a0 a1.vars x1177322.poly (PF.spec_l2Var y1038957)) (fun r1177329 => bd (app s1038958.1 [(PcStep.mk 3 r1177329 s1038958.2 0 (PF.spec_l2Var y1038957) 0)]) (fun xs1177350 => (bif (decide (0 < y1038957)) then bd (PF.spec_l20Sum a0 a1.vars x1177322.poly 1 r1177329 (wr (a0 - 1))) (fun r1204372 => bd (app xs1177350 [(PcStep.mk 2 r1204372 s1038958.2 (wr ((len xs1177350) - 1)) 1 (wr (a0 - 1)))]) (fun xs1234372 => some (Lp.nx (xs1234372, (wr ((len xs1234372) - 1)))))) else some (Lp.nx (xs1177350, (wr ((len xs1177350) - 1))))))))))) (s51.2, x870625)) (fun s1038958 => some (s1038958.1, s1038958.2)) (fun x1038958 => nomatch x1038958) : Option ((List PcStep) × Int)) (fun s1038943 => bd (ix s51.1 y50.left) (fun x921644 => (bif (s1038943.2 == x921644) then bd (ix s1038943.1 s1038943.2) (fun x939653 => bd (PF.spec_l20Terms x939653.poly) (fun r948647 => bd (app s1038943.1 [(PcStep.mk 2 r948647 s1038943.2 s1038943.2 1 0)]) (fun xs963647 => bd (app s51.1 [(wr ((len xs963647) - 1))]) (fun xs975669 => some (Lp.nx (xs975669, xs963647)))))) else bd (app s51.1 [s1038943.2]) (fun xs975688 => some (Lp.nx (xs975688, s1038943.1)))))))) else bd (ix a2 y50.left) (fun x975709 => bd (ix a2 y50.right) (fun x975719 => bd (ix s51.1 y50.left) (fun x1002732 => bd (β := _) (bdR (forL (S := ((List PcStep) × Int)) (X := Empty) x975719.clause (fun i1159065 y1159064 s1159065 => bd (PF.spec_l2Has x975709.clause y1159064) (fun r1297375 => (bif (bif r1297375 then true else ((PF.spec_l2Var y1159064) == y50.pivot)) then some (Lp.nx (s1159065.1, s1159065.2)) else bd (ix s1159065.1 s1159065.2) (fun x1297429 => bd (PF.spec_l20Times a0 a1.vars x1297429.poly (PF.spec_l2Var y1159064)) (fun r1297436 => bd (app s1159065.1 [(PcStep.mk 3 r1297436 s1159065.2 0 (PF.spec_l2Var y1159064) 0)]) (fun xs1297457 => (bif (decide (0 < y1159064)) then bd (PF.spec_l20Sum a0 a1.vars x1297429.poly 1 r1297436 (wr (a0 - 1))) (fun r1324479 => bd (app xs1297457 [(PcStep.mk 2 r1324479 s1159065.2 (wr ((len xs1297457) - 1)) 1 (wr (a0 - 1)))]) (fun xs1354479 => some (Lp.nx (xs1354479, (wr ((len xs1354479) - 1)))))) else some (Lp.nx (xs1297457, (wr ((len xs1297457) - 1))))))))))) (s51.2, x1002732)) (fun s1159065 => some (s1159065.1, s1159065.2)) (fun x1159065 => nomatch x1159065) : Option ((List PcStep) × Int)) (fun s1159050 => bd (ix s51.1 y50.right) (fun x1068753 => bd (β := _) (bdR (forL (S := ((List PcStep) × Int)) (X := Empty) x975709.clause (fun i1225086 y1225085 s1225086 => bd (PF.spec_l2Has x975719.clause y1225085) (fun r1363396 => (bif (bif r1363396 then true else ((PF.spec_l2Var y1225085) == y50.pivot)) then some (Lp.nx (s1225086.1, s1225086.2)) else bd (ix s1225086.1 s1225086.2) (fun x1363450 => bd (PF.spec_l20Times a0 a1.vars x1363450.poly (PF.spec_l2Var y1225085)) (fun r1363457 => bd (app s1225086.1 [(PcStep.mk 3 r1363457 s1225086.2 0 (PF.spec_l2Var y1225085) 0)]) (fun xs1363478 => (bif (decide (0 < y1225085)) then bd (PF.spec_l20Sum a0 a1.vars x1363450.poly 1 r1363457 (wr (a0 - 1))) (fun r1390500 => bd (app xs1363478 [(PcStep.mk 2 r1390500 s1225086.2 (wr ((len xs1363478) - 1)) 1 (wr (a0 - 1)))]) (fun xs1420500 => some (Lp.nx (xs1420500, (wr ((len xs1420500) - 1)))))) else some (Lp.nx (xs1363478, (wr ((len xs1363478) - 1))))))))))) (s1159050.1, x1068753)) (fun s1225086 => some (s1225086.1, s1225086.2)) (fun x1225086 => nomatch x1225086) : Option ((List PcStep) × Int)) (fun s1225071 => bd (ix s1225071.1 s1159050.2) (fun x1134772 => bd (ix s1225071.1 s1225071.2) (fun x1152772 => bd (PF.spec_l20Sum a0 a1.vars x1134772.poly 1 x1152772.poly 1) (fun r1161766 => bd (app s1225071.1 [(PcStep.mk 2 r1161766 s1159050.2 s1225071.2 1 1)]) (fun xs1176766 => bd (app s51.1 [(wr ((len xs1176766) - 1))]) (fun xs1188788 => some (Lp.nx (xs1188788, xs1176766)))))))))))))))) ([], [])) (fun s51 => some (l21Work.mk s51.2 s51.1)) (fun x51 => nomatch x51)

noncomputable def spec_l21Pc (a0 : Int) (a1 : Cnf) (a2 : List ResStep) : Option ((List PcStep) × Bool) :=
  bd (PF.spec_l21Asked a0 a1 a2) (fun r29 => (bif (!r29) then some ([], false) else bd (PF.spec_l21Translate a0 a1 a2) (fun r46 => (bif (decide (300 < (len r46.pc))) then some ([], false) else some (r46.pc, true)))))

def spec_l18Good (a0 : Int) (a1 : Int) (a2 : List Term) : Option Bool :=
  (bif (!(PF.spec_l18Prime a0 a1)) then some false else bdR (forL (S := Unit) (X := Bool) a2 (fun i26 y25 s26 => bd (nn a1) (fun u184 => bd (bif (bif (!(PF.spec_l1In y25.mono 0 (wr ((shlK true 64 1 a1) - 1)))) then true else (!(PF.spec_l1In y25.coeff 1 (wr (a0 - 1))))) then some true else bd (bif (decide (0 < ((i26 : Nat) : Int))) then bd (ix a2 (wr (((i26 : Nat) : Int) - 1))) (fun x284 => some (decide (y25.mono ≤ x284.mono))) else some false) (fun t271 => some t271)) (fun t250 => (bif t250 then some (Lp.rt false) else some (Lp.nx ()))))) ()) (fun s26 => some true) (fun x26 => some x26))

def spec_l20Same (a0 : List Term) (a1 : List Term) : Option Bool :=
  (bif (!((len a0) == (len a1))) then some false else bdR (forL (S := Unit) (X := Bool) a0 (fun i23 y22 s23 => bd (ix a1 ((i23 : Nat) : Int)) (fun x72 => (bif (!((y22.mono == x72.mono) && (y22.coeff == x72.coeff))) then some (Lp.rt false) else some (Lp.nx ())))) ()) (fun s23 => some true) (fun x23 => some x23))

def spec_l20Earlier (a0 : Int) (a1 : Cnf) (a2 : List PcStep) (a3 : Int) (a4 : Int) : Option Bool :=
  bd (bif (PF.spec_l1In a4 0 (wr (a3 - 1))) then bd (ix a2 a4) (fun x55 => bd (PF.spec_l18Good a0 a1.vars x55.poly) (fun r59 => some r59)) else some false) (fun t42 => some t42)

noncomputable def spec_l20Correct (a0 : Int) (a1 : Cnf) (a2 : List PcStep) (a3 : Int) : Option Bool :=
  bd (ix a2 a3) (fun x35 => bd (PF.spec_l18Good a0 a1.vars x35.poly) (fun r50 => (bif (!r50) then some false else (bif (x35.kind == 1) then bd (bif (bif (bif (bif (x35.b == 0) then (x35.x == 0) else false) then (x35.y == 0) else false) then (PF.spec_l1In x35.a 0 (wr ((len a1.clauses) - 1))) else false) then bd (ix a1.clauses x35.a) (fun x99063 => bd (PF.spec_l18Clause a0 a1.vars x99063) (fun r105057 => bd (PF.spec_l20Same x35.poly r105057) (fun r108062 => some r108062))) else some false) (fun t56_36 => some t56_36) else bd (bif (bif (!(x35.kind == 2)) then (!(x35.kind == 3)) else false) then some true else bd (PF.spec_l20Earlier a0 a1 a2 a3 x35.a) (fun r120089 => some (!r120089))) (fun t120082 => (bif t120082 then some false else (bif (x35.kind == 3) then bd (bif (bif (bif (x35.b == 0) then (x35.y == 0) else false) then (PF.spec_l1In x35.x 1 a1.vars) else false) then bd (ix a2 x35.a) (fun x195108 => bd (PF.spec_l20Times a0 a1.vars x195108.poly x35.x) (fun r210102 => bd (PF.spec_l20Same x35.poly r210102) (fun r213107 => some r213107))) else some false) (fun t120101_31 => some t120101_31) else bd (PF.spec_l20Earlier a0 a1 a2 a3 x35.b) (fun r225109 => (bif (bif (bif (!r225109) then true else (!(PF.spec_l1In x35.x 0 (wr (a0 - 1))))) then true else (!(PF.spec_l1In x35.y 0 (wr (a0 - 1))))) then some false else bd (ix a2 x35.a) (fun x252157 => bd (ix a2 x35.b) (fun x276157 => bd (PF.spec_l20Sum a0 a1.vars x252157.poly x35.x x276157.poly x35.y) (fun r291151 => bd (PF.spec_l20Same x35.poly r291151) (fun r294156 => some r294156)))))))))))))

noncomputable def spec_l20Wrong (a0 : Int) (a1 : Cnf) (a2 : List PcStep) : Option Int :=
  bdR (forL (S := Unit) (X := Int) a2 (fun i30 y29 s30 => bd (PF.spec_l20Correct a0 a1 a2 ((i30 : Nat) : Int)) (fun r55 => (bif (!r55) then some (Lp.rt ((i30 : Nat) : Int)) else some (Lp.nx ())))) ()) (fun s30 => some (-1)) (fun x30 => some x30)

noncomputable def spec_l20Good (a0 : Int) (a1 : Cnf) (a2 : List PcStep) : Option Bool :=
  bd (PF.spec_l20Asked a0 a1) (fun r29 => bd (bif (bif r29 then (decide ((len a2) ≤ 300)) else false) then bd (PF.spec_l20Wrong a0 a1 a2) (fun r57 => some (decide (r57 < 0))) else some false) (fun t50 => some t50))

noncomputable def spec_l14Count (a0 : Int) : Option Int :=
  bdR (iter (S := (Int × Int)) (X := Empty) (fun s21 => (bif (decide (0 < s21.1)) then some (Lp.nx ((wr (s21.1.tdiv 2)), (wr (s21.2 + (s21.1.tmod 2))))) else some (Lp.bk (s21.1, s21.2)))) (a0, 0)) (fun s21 => some s21.2) (fun x21 => nomatch x21)

def spec_l1Most (a0 : Int) (a1 : Int) : Int :=
  (bif (decide (a1 < a0)) then a0 else a1)

noncomputable def spec_l18Degree (a0 : List Term) : Option Int :=
  bdR (forL (S := Int) (X := Empty) a0 (fun i22 y21 s22 => bd (PF.spec_l14Count y21.mono) (fun r59 => some (Lp.nx (PF.spec_l1Most s22 r59)))) (-1)) (fun s22 => some s22) (fun x22 => nomatch x22)

noncomputable def spec_PcDegree (a0 : Int) (a1 : Cnf) (a2 : List PcStep) : Option (Int × Bool) :=
  bd (PF.spec_l20Good a0 a1 a2) (fun r29 => (bif (!r29) then some (0, false) else bdR (forL (S := Int) (X := Empty) a2 (fun i36 y35 s36 => bd (PF.spec_l18Degree y35.poly) (fun r77 => some (Lp.nx (PF.spec_l1Most s36 r77)))) (-1)) (fun s36 => some (s36, true)) (fun x36 => nomatch x36)))

noncomputable def spec_TranslatedDegree (a0 : Int) (a1 : Cnf) (a2 : List ResStep) : Option (Int × Bool) :=
  bd (PF.spec_l21Pc a0 a1 a2) (fun r29 => (bif (!r29.2) then some (0, false) else bd (PF.spec_PcDegree a0 a1 r29.1) (fun r41 => some (r41.1, r41.2))))

def impl_within (a0 : Int) (a1 : Int) (a2 : Int) : Bool :=
  (bif (decide (a1 ≤ a0)) then (decide (a0 ≤ a2)) else false)

def impl_ringOf (a0 : Int) (a1 : Int) : (ring × Bool) :=
  ((ring.mk a0 a1), (bif (bif (bif (a0 == 2) then true else (a0 == 3)) then true else (a0 == 5)) then (PF.impl_within a1 0 6) else false))

def impl_isLiteral (a0 : Int) (a1 : Int) : Bool :=
  (bif (!(a1 == 0)) then (PF.impl_within a1 (wr (-a0)) a0) else false)

def impl_abs (a0 : Int) : Int :=
  (mx a0 (wr (-a0)))

def impl_varsOk (a0 : Int) : Bool :=
  (PF.impl_within a0 0 12)

def impl_IsClause (a0 : Int) (a1 : List Int) : Option Bool :=
  bdR (forL (S := Unit) (X := Bool) a1 (fun i22 y21 s22 => bd (bif (!(PF.impl_isLiteral a0 y21)) then some true else bd (bif (decide (0 < ((i22 : Nat) : Int))) then bd (ix a1 (wr (((i22 : Nat) : Int) - 1))) (fun x192 => some (decide ((PF.impl_abs y21) ≤ (PF.impl_abs x192)))) else some false) (fun t179 => some t179)) (fun t164 => (bif t164 then some (Lp.rt false) else some (Lp.nx ())))) ()) (fun s22 => some (PF.impl_varsOk a0)) (fun x22 => some x22)

def impl_IsCnf (a0 : Cnf) : Option Bool :=
  bdR (forL (S := Unit) (X := Bool) a0.clauses (fun i30 y29 s30 => bd (PF.impl_IsClause a0.vars y29) (fun r71 => (bif (!r71) then some (Lp.rt false) else some (Lp.nx ())))) ()) (fun s30 => some (bif (PF.impl_varsOk a0.vars) then (decide ((len a0.clauses) ≤ 60)) else false)) (fun x30 => some x30)

def impl_ring_zero (a0 : ring) : Option (List Int) :=
  bd (nn a0.vars) (fun u30 => bd (mk2 (0 : Int) (shlK true 64 1 a0.vars) (shlK true 64 1 a0.vars)) (fun xs31 => some xs31))

def impl_ring_mono (a0 : ring) (a1 : Int) : Option (List Int) :=
  bd (PF.impl_ring_zero a0) (fun r29 => bd (ix r29 a1) (fun x45 => bd (put r29 a1 1) (fun xs50 => some xs50)))

def slices_Clone_impl_dense_int (a0 : List Int) : Option (List Int) :=
  bd (app [] a0) (fun xs30 => some xs30)

def impl_ring_plus (a0 : ring) (a1 : List Int) (a2 : List Int) (a3 : Int) : Option (List Int) :=
  bd (PF.slices_Clone_impl_dense_int a1) (fun r29 => bdR (forL (S := (List Int)) (X := Empty) a2 (fun i40 y39 s40 => bd (ix s40 ((i40 : Nat) : Int)) (fun x117132 => bd (nz a0.p) (fun u141127 => bd (ix s40 ((i40 : Nat) : Int)) (fun x144132 => bd (put s40 ((i40 : Nat) : Int) ((wr (x117132 + (wr (a3 * y39)))).tmod a0.p)) (fun xs147129 => some (Lp.nx xs147129)))))) r29) (fun s40 => some s40) (fun x40 => nomatch x40))

def impl_ring_literal (a0 : ring) (a1 : Int) : Option (List Int) :=
  (bif (decide (0 < a1)) then bd (nn (wr (a1 - 1))) (fun u12031 => bd (PF.impl_ring_mono a0 (shlK true 64 1 (wr (a1 - 1)))) (fun r15030 => some r15030)) else bd (PF.impl_ring_mono a0 0) (fun r33041 => bd (nn (wr ((wr (-a1)) - 1))) (fun u48042 => bd (PF.impl_ring_mono a0 (shlK true 64 1 (wr ((wr (-a1)) - 1)))) (fun r51041 => bd (PF.impl_ring_plus a0 r33041 r51041 (wr (a0.p - 1))) (fun r63051 => some r63051)))))

def impl_ring_times (a0 : ring) (a1 : List Int) (a2 : List Int) : Option (List Int) :=
  bd (PF.impl_ring_zero a0) (fun r29 => bdR (forL (S := (List Int)) (X := Empty) a1 (fun i40 y39 s40 => bdR (forL (S := (List Int)) (X := Empty) a2 (fun i252331 y252330 s252331 => bd (ix s252331 (orK true 64 ((i40 : Nat) : Int) ((i252331 : Nat) : Int))) (fun x405448 => bd (nz a0.p) (fun u429443 => bd (ix s252331 (orK true 64 ((i40 : Nat) : Int) ((i252331 : Nat) : Int))) (fun x432448 => bd (put s252331 (orK true 64 ((i40 : Nat) : Int) ((i252331 : Nat) : Int)) ((wr (x405448 + (wr (y39 * y252330)))).tmod a0.p)) (fun xs435445 => some (Lp.nx xs435445)))))) s40) (fun s252331 => some (Lp.nx s252331)) (fun x252331 => nomatch x252331)) r29) (fun s40 => some s40) (fun x40 => nomatch x40))

def impl_ring_clause (a0 : ring) (a1 : List Int) : Option (List Int) :=
  bd (PF.impl_ring_mono a0 0) (fun r29 => bdR (forL (S := (List Int)) (X := Empty) a1 (fun i40 y39 s40 => bd (PF.impl_ring_literal a0 (wr (-y39))) (fun r78125 => bd (PF.impl_ring_times a0 s40 r78125) (fun r81135 => some (Lp.nx r81135)))) r29) (fun s40 => some s40) (fun x40 => nomatch x40))

def impl_algebraOf (a0 : Int) (a1 : Cnf) : Option ((Option algebra) × Bool) :=
  bd (bif (!((PF.impl_ringOf a0 a1.vars).2)) then some true else bd (PF.impl_IsCnf a1) (fun r55 => some (!r55))) (fun t48 => (bif t48 then some (none, false) else bdR (forL (S := ((List (List Int)) × Int × Int × Int × (List (List Int)))) (X := Empty) a1.clauses (fun i71 y70 s71 => bd (PF.impl_ring_clause ((PF.impl_ringOf a0 a1.vars).1) y70) (fun r114167 => bd (app s71.1 [r114167]) (fun xs120167 => some (Lp.nx (xs120167, s71.2.1, s71.2.2.1, s71.2.2.2.1, s71.2.2.2.2))))) ([], ((PF.impl_ringOf a0 a1.vars).1).p, ((PF.impl_ringOf a0 a1.vars).1).vars, a1.vars, a1.clauses)) (fun s71 => some ((some (algebra.mk (ring.mk s71.2.1 s71.2.2.1) (Cnf.mk s71.2.2.2.1 s71.2.2.2.2) s71.1)), true)) (fun x71 => nomatch x71)))

def slices_Equal_int_int (a0 : List Int) (a1 : List Int) : Option Bool :=
  (bif (!((len a0) == (len a1))) then some false else bdR (forL (S := Unit) (X := Bool) a0 (fun i23 y22 s23 => bd (ix a1 ((i23 : Nat) : Int)) (fun x74 => (bif (!(y22 == x74)) then some (Lp.rt false) else some (Lp.nx ())))) ()) (fun s23 => some true) (fun x23 => some x23))

def impl_earlier (a0 : Cnf) (a1 : List ResStep) (a2 : Int) (a3 : Int) : Option ((List Int) × Bool) :=
  bd (bif (!(PF.impl_within a3 0 (wr (a2 - 1)))) then some true else bd (ix a1 a3) (fun x55 => bd (PF.impl_IsClause a0.vars x55.clause) (fun r59 => some (!r59)))) (fun t42 => (bif t42 then some ([], false) else bd (ix a1 a3) (fun x74 => some (x74.clause, true))))

def slices_IndexFunc_int_int (a0 : List Int) (a1 : Int → Option Bool) : Option Int :=
  bdR (forL (S := Unit) (X := Int) a0 (fun i22 y21 s22 => bd (a1 y21) (fun r64 => (bif r64 then some (Lp.rt ((i22 : Nat) : Int)) else some (Lp.nx ())))) ()) (fun s22 => some (-1)) (fun x22 => some x22)

def slices_ContainsFunc_int_int (a0 : List Int) (a1 : Int → Option Bool) : Option Bool :=
  bd (PF.slices_IndexFunc_int_int a0 a1) (fun r21 => some (decide (0 ≤ r21)))

def slices_Index_int_int (a0 : List Int) (a1 : Int) : Option Int :=
  bdR (forL (S := Unit) (X := Int) a0 (fun i22 y21 s22 => (bif (a1 == y21) then some (Lp.rt ((i22 : Nat) : Int)) else some (Lp.nx ()))) ()) (fun s22 => some (-1)) (fun x22 => some x22)

def slices_Contains_int_int (a0 : List Int) (a1 : Int) : Option Bool :=
  bd (PF.slices_Index_int_int a0 a1) (fun r21 => some (decide (0 ≤ r21)))

def impl_part_1 (a0 : Int) (b0 : List Int) : Option Bool :=
  bd (PF.slices_Contains_int_int b0 a0) (fun r21 => some (!r21))

def impl_part (a0 : List Int) (a1 : List Int) : Option Bool :=
  bd (PF.slices_ContainsFunc_int_int a0 (fun x0 => PF.impl_part_1 x0 a1)) (fun r29 => some (!r29))

def impl_isVar (a0 : Int) (a1 : Int) : Bool :=
  (PF.impl_within a1 1 a0)

def slices_Clone_int_int (a0 : List Int) : Option (List Int) :=
  bd (app [] a0) (fun xs30 => some xs30)

noncomputable def slices_DeleteFunc_int_int (a0 : List Int) (a1 : Int → Option Bool) : Option (List Int) :=
  bd (PF.slices_IndexFunc_int_int a0 a1) (fun r26 => (bif (r26 == (-1)) then some a0 else bdR (iter (S := ((List Int) × Int × Int)) (X := Empty) (fun s32 => (bif (decide (s32.2.2 < (len s32.1))) then bd (ix s32.1 s32.2.2) (fun x141 => bd (a1 x141) (fun r143 => (bif (!r143) then bd (ix s32.1 s32.2.1) (fun x160 => bd (put s32.1 s32.2.1 x141) (fun xs165 => some (Lp.nx (xs165, (wr (s32.2.1 + 1)), (wr (s32.2.2 + 1)))))) else some (Lp.nx (s32.1, s32.2.1, (wr (s32.2.2 + 1))))))) else some (Lp.bk (s32.1, s32.2.1, s32.2.2)))) (a0, r26, (wr (r26 + 1)))) (fun s32 => bd (cut s32.1 s32.2.1 (len s32.1)) (fun xs178 => bd (cut (clearL 0 s32.1 s32.2.1) 0 s32.2.1) (fun xs188 => some xs188))) (fun x32 => nomatch x32)))

def impl_withoutVar_1 (a0 : Int) (b0 : Int) : Bool :=
  ((PF.impl_abs a0) == b0)

noncomputable def impl_withoutVar (a0 : List Int) (a1 : Int) : Option (List Int) :=
  bd (PF.slices_Clone_int_int a0) (fun r29 => bd (PF.slices_DeleteFunc_int_int r29 (fun x0 => some (PF.impl_withoutVar_1 x0 a1))) (fun r39 => some r39))

def slices_Grow_int_int (a1 : Int) : Option (List Int) := if 0 ≤ a1 ∧ a1 ≤ lim then some [] else none

def slices_Concat_int_int (a0 : List (List Int)) : Option (List Int) :=
  bdR (forL (S := Int) (X := Empty) a0 (fun i22 y21 s22 => (bif (decide ((wr (s22 + (len y21))) < 0)) then none else some (Lp.nx (wr (s22 + (len y21)))))) 0) (fun s22 => bd (PF.slices_Grow_int_int s22) (fun r69 => bdR (forL (S := (List Int)) (X := Empty) a0 (fun i80 y79 s80 => bd (app s80 y79) (fun xs129 => some (Lp.nx xs129))) r69) (fun s80 => some s80) (fun x80 => nomatch x80))) (fun x22 => nomatch x22)

noncomputable def slices_SortFunc_int_int (a0 : List Int) (a1 : Int → Int → Option Int) : Option (List Int) := sortF a1 a0

def cmp_isNaN_int (a0 : Int) : Bool :=
  (!(a0 == a0))

def cmp_Compare_int (a0 : Int) (a1 : Int) : Int :=
  (bif (PF.cmp_isNaN_int a0) then (bif (PF.cmp_isNaN_int a1) then 0 else (-1)) else (bif (PF.cmp_isNaN_int a1) then 1 else (bif (decide (a0 < a1)) then (-1) else (bif (decide (a1 < a0)) then 1 else 0))))

def cmp_Or_int (a0 : List Int) : Option Int :=
  bdR (forL (S := Unit) (X := Int) a0 (fun i22 y21 s22 => (bif (!(y21 == 0)) then some (Lp.rt y21) else some (Lp.nx ()))) ()) (fun s22 => some 0) (fun x22 => some x22)

def impl_compareLiterals (a0 : Int) (a1 : Int) : Option Int :=
  bd (PF.cmp_Or_int [(PF.cmp_Compare_int (PF.impl_abs a0) (PF.impl_abs a1)), (PF.cmp_Compare_int a1 a0)]) (fun r43 => some r43)

def slices_Compact_int_int (a0 : List Int) : Option (List Int) := some (compactL a0)

noncomputable def impl_clause (a0 : List Int) : Option ((List Int) × Bool) :=
  bd (PF.slices_Clone_int_int a0) (fun r21 => bd (PF.slices_SortFunc_int_int r21 (fun x0 x1 => PF.impl_compareLiterals x0 x1)) (fun r31 => bd (PF.slices_Compact_int_int r31) (fun r39 => bdR (iter (S := Int) (X := ((List Int) × Bool)) (fun s49 => (bif (decide (s49 < (len r39))) then bd (ix r39 s49) (fun x94 => bd (ix r39 (wr (s49 - 1))) (fun x102 => (bif (x94 == (wr (-x102))) then some (Lp.rt ([], false)) else some (Lp.nx (wr (s49 + 1)))))) else some (Lp.bk s49))) 1) (fun s49 => some (r39, true)) (fun x49 => some x49))))

noncomputable def impl_resolve (a0 : List Int) (a1 : List Int) (a2 : Int) : Option ((List Int) × Bool) :=
  bd (PF.slices_Contains_int_int a0 a2) (fun r21 => bd (bif (!r21) then some true else bd (PF.slices_Contains_int_int a1 (wr (-a2))) (fun r38 => some (!r38))) (fun t31 => (bif t31 then some ([], false) else bd (PF.impl_withoutVar a0 a2) (fun r48 => bd (PF.impl_withoutVar a1 a2) (fun r58 => bd (PF.slices_Concat_int_int [r48, r58]) (fun r88 => bd (PF.impl_clause r88) (fun r105 => some (r105.1, r105.2))))))))

noncomputable def impl_correct (a0 : Cnf) (a1 : List ResStep) (a2 : Int) : Option Bool :=
  bd (ix a1 a2) (fun x35 => bd (PF.impl_IsClause a0.vars x35.clause) (fun r50 => (bif (!r50) then some false else (bif (x35.left == (-1)) then bd (bif (bif (x35.pivot == 0) then (PF.impl_within x35.right 0 (wr ((len a0.clauses) - 1))) else false) then bd (ix a0.clauses x35.right) (fun x93 => bd (PF.slices_Equal_int_int x93 x35.clause) (fun r97 => some r97)) else some false) (fun t80 => some t80) else bd (PF.impl_earlier a0 a1 a2 x35.left) (fun r103 => (bif (!r103.2) then some false else (bif (x35.right == (-1)) then bd (bif (x35.pivot == 0) then bd (PF.impl_part r103.1 x35.clause) (fun r125 => some r125) else some false) (fun t118 => some t118) else bd (PF.impl_earlier a0 a1 a2 x35.right) (fun r131 => (bif (bif (!r131.2) then true else (!(PF.impl_isVar a0.vars x35.pivot))) then some false else bd (PF.impl_resolve r103.1 r131.1 x35.pivot) (fun r157 => bd (bif r157.2 then bd (PF.slices_Equal_int_int r157.1 x35.clause) (fun r189 => some r189) else some false) (fun t177 => some t177)))))))))))

noncomputable def impl_firstWrong (a0 : Cnf) (a1 : List ResStep) : Option Int :=
  bdR (forL (S := Unit) (X := Int) a1 (fun i30 y29 s30 => bd (PF.impl_correct a0 a1 ((i30 : Nat) : Int)) (fun r55 => (bif (!r55) then some (Lp.rt ((i30 : Nat) : Int)) else some (Lp.nx ())))) ()) (fun s30 => some (-1)) (fun x30 => some x30)

noncomputable def impl_IsDerivation (a0 : Cnf) (a1 : List ResStep) : Option Bool :=
  bd (PF.impl_IsCnf a0) (fun r29 => bd (bif (bif r29 then (decide ((len a1) ≤ 200)) else false) then bd (PF.impl_firstWrong a0 a1) (fun r56 => some (decide (r56 < 0))) else some false) (fun t49 => some t49))

def impl_ResStep_isAxiom (a0 : ResStep) : Bool :=
  (decide (a0.left < 0))

def impl_dense_terms (a0 : List Int) : Option (List Term) :=
  bdR (forL (S := (List Term)) (X := Empty) a0 (fun i22 y21 s22 => (bif (!(y21 == 0)) then bd (app s22 [(Term.mk ((i22 : Nat) : Int) y21)]) (fun xs80 => some (Lp.nx xs80)) else some (Lp.nx s22))) []) (fun s22 => some s22) (fun x22 => nomatch x22)

def impl_ResStep_isWeakening (a0 : ResStep) : Bool :=
  (bif (decide (0 ≤ a0.left)) then (decide (a0.right < 0)) else false)

def impl_further_1 (a0 : Int) (b0 : List Int) : Option Bool :=
  bd (PF.slices_Contains_int_int b0 a0) (fun r21 => some r21)

noncomputable def impl_further (a0 : List Int) (a1 : List Int) : Option (List Int) :=
  bd (PF.slices_Clone_int_int a0) (fun r29 => bd (PF.slices_DeleteFunc_int_int r29 (fun x0 => PF.impl_further_1 x0 a1)) (fun r39 => some r39))

def impl_translator_sum (a0 : translator) (a1 : Int) (a2 : Int) (a3 : Int) (a4 : Int) : Option (Int × translator) :=
  bd (PF.impl_ring_zero a0.algebra.ring) (fun r66021 => bd (ix a0.polys a1) (fun x84027 => bd (PF.impl_ring_plus a0.algebra.ring r66021 x84027 a3) (fun r93026 => bd (ix a0.polys a2) (fun x111027 => bd (PF.impl_ring_plus a0.algebra.ring r93026 x111027 a4) (fun r120026 => bd (β := _) (bd (PF.impl_dense_terms r120026) (fun r207166 => bd (app a0.steps [(PcStep.mk 2 r207166 a1 a2 a3 a4)]) (fun xs231179 => bd (app a0.polys [r120026]) (fun xs246198 => some (xs231179, xs246198, (wr ((len xs231179) - 1)))))) : Option ((List PcStep) × (List (List Int)) × Int)) (fun s207152 => some (s207152.2.2, (translator.mk a0.algebra s207152.1 s207152.2.1 a0.at_))))))))

def impl_translator_widen (a0 : translator) (a1 : Int) (a2 : List Int) : Option (Int × translator) :=
  bdR (forL (S := ((List PcStep) × (List (List Int)) × Int)) (X := Empty) a2 (fun i22 y21 s22 => bd (ix s22.2.1 s22.2.2) (fun x258168 => bd (PF.impl_ring_literal a0.algebra.ring (PF.impl_abs y21)) (fun r291162 => bd (PF.impl_ring_times a0.algebra.ring x258168 r291162) (fun r294167 => bd (β := _) (bd (PF.impl_dense_terms r294167) (fun r375289 => bd (app s22.1 [(PcStep.mk 3 r375289 s22.2.2 0 (PF.impl_abs y21) 0)]) (fun xs399302 => bd (app s22.2.1 [r294167]) (fun xs414321 => some (xs399302, xs414321, (wr ((len xs399302) - 1)))))) : Option ((List PcStep) × (List (List Int)) × Int)) (fun s375275 => (bif (decide (0 < y21)) then bd (PF.impl_translator_sum (translator.mk a0.algebra s375275.1 s375275.2.1 a0.at_) s22.2.2 s375275.2.2 1 (wr (a0.algebra.ring.p - 1))) (fun r306185 => some (Lp.nx (r306185.2.steps, r306185.2.polys, r306185.1))) else some (Lp.nx (s375275.1, s375275.2.1, s375275.2.2)))))))) (a0.steps, a0.polys, a1)) (fun s22 => some (s22.2.2, (translator.mk a0.algebra s22.1 s22.2.1 a0.at_))) (fun x22 => nomatch x22)

noncomputable def impl_translator_step (a0 : translator) (a1 : List ResStep) (a2 : ResStep) : Option (Int × translator) :=
  (bif (PF.impl_ResStep_isAxiom a2) then bd (ix a0.algebra.q a2.right) (fun x42039 => bd (β := _) (bd (PF.impl_dense_terms x42039) (fun r87095 => bd (app a0.steps [(PcStep.mk 1 r87095 a2.right 0 0 0)]) (fun xs111108 => bd (app a0.polys [x42039]) (fun xs126126 => some (xs111108, xs126126, (wr ((len xs111108) - 1)))))) : Option ((List PcStep) × (List (List Int)) × Int)) (fun s87081 => some (s87081.2.2, (translator.mk a0.algebra s87081.1 s87081.2.1 a0.at_)))) else (bif (PF.impl_ResStep_isWeakening a2) then bd (ix a1 a2.left) (fun x75059 => bd (PF.impl_further a2.clause x75059.clause) (fun r84053 => (bif ((len r84053) == 0) then bd (ix a0.at_ a2.left) (fun x117073 => bd (ix a0.at_ a2.left) (fun x141073 => bd (PF.impl_translator_sum a0 x117073 x141073 1 0) (fun r147067 => some (r147067.1, (translator.mk a0.algebra r147067.2.steps r147067.2.polys a0.at_))))) else bd (ix a0.at_ a2.left) (fun x180089 => bd (PF.impl_translator_widen a0 x180089 r84053) (fun r189088 => some (r189088.1, (translator.mk a0.algebra r189088.2.steps r189088.2.polys a0.at_))))))) else bd (ix a1 a2.left) (fun x198106 => bd (ix a1 a2.right) (fun x198116 => bd (ix a0.at_ a2.left) (fun x222129 => bd (PF.impl_further x198116.clause x198106.clause) (fun r234123 => bd (PF.impl_withoutVar r234123 a2.pivot) (fun r243128 => bd (PF.impl_translator_widen a0 x222129 r243128) (fun r246128 => bd (ix a0.at_ a2.right) (fun x279149 => bd (PF.impl_further x198106.clause x198116.clause) (fun r291143 => bd (PF.impl_withoutVar r291143 a2.pivot) (fun r300148 => bd (PF.impl_translator_widen (translator.mk a0.algebra r246128.2.steps r246128.2.polys a0.at_) x279149 r300148) (fun r303148 => bd (PF.impl_translator_sum (translator.mk a0.algebra r303148.2.steps r303148.2.polys a0.at_) r246128.1 r303148.1 1 1) (fun r312161 => some (r312161.1, (translator.mk a0.algebra r312161.2.steps r312161.2.polys a0.at_)))))))))))))))

noncomputable def impl_translate (a0 : Int) (a1 : Cnf) (a2 : List ResStep) : Option ((Option translator) × Bool) :=
  bd (PF.impl_algebraOf a0 a1) (fun r29 => bd (bif (!r29.2) then some true else bd (PF.impl_IsDerivation a1 a2) (fun r49 => some (!r49))) (fun t42 => (bif t42 then some (none, false) else bd r29.1 (fun y58 => bdR (forL (S := ((List Int) × (List (List Int)) × (List PcStep))) (X := Empty) a2 (fun i80 y79 s80 => bd (PF.impl_translator_step (translator.mk y58 s80.2.2 s80.2.1 s80.1) a2 y79) (fun r123227 => bd (app s80.1 [r123227.1]) (fun xs129227 => some (Lp.nx (xs129227, r123227.2.polys, r123227.2.steps))))) ([], [], [])) (fun s80 => some ((some (translator.mk y58 s80.2.2 s80.2.1 s80.1)), true)) (fun x80 => nomatch x80)))))

noncomputable def impl_ResToPc (a0 : Int) (a1 : Cnf) (a2 : List ResStep) : Option ((List PcStep) × Bool) :=
  bd (PF.impl_translate a0 a1 a2) (fun r29 => bd (bif (!r29.2) then some true else bd r29.1 (fun y67 => some (decide (300 < (len y67.steps))))) (fun t60 => (bif t60 then some ([], false) else bd r29.1 (fun y93 => some (y93.steps, true)))))

def impl_bitsOk (a0 : Int) (a1 : Int) : Option Bool :=
  bd (nn a0) (fun u22 => some (PF.impl_within a1 0 (wr ((shlK true 64 1 a0) - 1))))

def impl_ring_is (a0 : ring) (a1 : List Term) : Option Bool :=
  bdR (forL (S := Unit) (X := Bool) a1 (fun i30 y29 s30 => bd (PF.impl_bitsOk a0.vars y29.mono) (fun r181 => bd (bif (bif (!r181) then true else (!(PF.impl_within y29.coeff 1 (wr (a0.p - 1))))) then some true else bd (bif (decide (0 < ((i30 : Nat) : Int))) then bd (ix a1 (wr (((i30 : Nat) : Int) - 1))) (fun x256 => some (decide (y29.mono ≤ x256.mono))) else some false) (fun t243 => some t243)) (fun t228 => (bif t228 then some (Lp.rt false) else some (Lp.nx ()))))) ()) (fun s30 => some true) (fun x30 => some x30)

def impl_ring_dense (a0 : ring) (a1 : List Term) : Option (List Int) :=
  bd (PF.impl_ring_zero a0) (fun r29 => bdR (forL (S := (List Int)) (X := Empty) a1 (fun i40 y39 s40 => bd (ix s40 y39.mono) (fun x129160 => bd (nz a0.p) (fun u150155 => bd (ix s40 y39.mono) (fun x153160 => bd (put s40 y39.mono ((wr (x129160 + y39.coeff)).tmod a0.p)) (fun xs156157 => some (Lp.nx xs156157)))))) r29) (fun s40 => some s40) (fun x40 => nomatch x40))

def impl_algebra_polyBefore (a0 : algebra) (a1 : List PcStep) (a2 : Int) (a3 : Int) : Option ((List Int) × Bool) :=
  bd (bif (!(PF.impl_within a3 0 (wr (a2 - 1)))) then some true else bd (ix a1 a3) (fun x47 => bd (PF.impl_ring_is a0.ring x47.poly) (fun r51 => some (!r51)))) (fun t34 => (bif t34 then some ([], false) else bd (ix a1 a3) (fun x21067 => bd (PF.impl_ring_dense a0.ring x21067.poly) (fun r30061 => some (r30061, true)))))

def impl_algebra_pcDue (a0 : algebra) (a1 : List PcStep) (a2 : Int) : Option ((List Int) × Bool) :=
  bd (ix a1 a2) (fun x27 => bd (PF.impl_algebra_polyBefore a0 a1 a2 x27.a) (fun r42 => bd (PF.impl_algebra_polyBefore a0 a1 a2 x27.b) (fun r52 => (bif (bif (bif (bif (bif (x27.kind == 1) then (PF.impl_within x27.a 0 (wr ((len a0.q) - 1))) else false) then (x27.b == 0) else false) then (x27.x == 0) else false) then (x27.y == 0) else false) then bd (ix a0.q x27.a) (fun x130 => some (x130, true)) else (bif (bif (bif (bif (bif (x27.kind == 2) then r42.2 else false) then r52.2 else false) then (PF.impl_within x27.x 0 (wr (a0.ring.p - 1))) else false) then (PF.impl_within x27.y 0 (wr (a0.ring.p - 1))) else false) then bd (PF.impl_ring_zero a0.ring) (fun r39195 => bd (PF.impl_ring_plus a0.ring r39195 r42.1 x27.x) (fun r51205 => bd (PF.impl_ring_plus a0.ring r51205 r52.1 x27.y) (fun r63205 => some (r63205, true)))) else (bif (bif (bif (bif (bif (x27.kind == 3) then r42.2 else false) then (x27.b == 0) else false) then (PF.impl_isVar a0.ring.vars x27.x) else false) then (x27.y == 0) else false) then bd (PF.impl_ring_literal a0.ring x27.x) (fun r111261 => bd (PF.impl_ring_times a0.ring r42.1 r111261) (fun r114271 => some (r114271, true))) else some ([], false)))))))

def slices_Equal_impl_dense_int (a0 : List Int) (a1 : List Int) : Option Bool :=
  (bif (!((len a0) == (len a1))) then some false else bdR (forL (S := Unit) (X := Bool) a0 (fun i23 y22 s23 => bd (ix a1 ((i23 : Nat) : Int)) (fun x74 => (bif (!(y22 == x74)) then some (Lp.rt false) else some (Lp.nx ())))) ()) (fun s23 => some true) (fun x23 => some x23))

def impl_algebra_pcCorrect (a0 : algebra) (a1 : List PcStep) (a2 : Int) : Option Bool :=
  bd (PF.impl_algebra_pcDue a0 a1 a2) (fun r21 => bd (bif r21.2 then bd (ix a1 a2) (fun x27035 => bd (PF.impl_ring_is a0.ring x27035.poly) (fun r36029 => some r36029)) else some false) (fun t28_12 => bd (bif t28_12 then bd (ix a1 a2) (fun x66035 => bd (PF.impl_ring_dense a0.ring x66035.poly) (fun r75029 => bd (PF.slices_Equal_impl_dense_int r21.1 r75029) (fun r78034 => some r78034))) else some false) (fun t28_26 => some t28_26)))

def impl_algebra_firstWrongPc (a0 : algebra) (a1 : List PcStep) : Option Int :=
  bdR (forL (S := Unit) (X := Int) a1 (fun i22 y21 s22 => bd (PF.impl_algebra_pcCorrect a0 a1 ((i22 : Nat) : Int)) (fun r47 => (bif (!r47) then some (Lp.rt ((i22 : Nat) : Int)) else some (Lp.nx ())))) ()) (fun s22 => some (-1)) (fun x22 => some x22)

def impl_algebra_pcDerivation (a0 : algebra) (a1 : List PcStep) : Option Bool :=
  bd (bif (decide ((len a1) ≤ 300)) then bd (PF.impl_algebra_firstWrongPc a0 a1) (fun r33 => some (decide (r33 < 0))) else some false) (fun t26 => some t26)

def oc0 (a0 : Int) : Int := (wrk false 64 ((andK false 64 (shrK 64 a0 1) 6148914691236517205) + (andK false 64 a0 6148914691236517205)))
def oc1 (a0 : Int) : Int := (wrk false 64 ((andK false 64 (shrK 64 (PF.oc0 a0) 2) 3689348814741910323) + (andK false 64 (PF.oc0 a0) 3689348814741910323)))
def oc2 (a0 : Int) : Int := (andK false 64 (wrk false 64 ((shrK 64 (PF.oc1 a0) 4) + (PF.oc1 a0))) 1085102592571150095)
def oc3 (a0 : Int) : Int := (wrk false 64 ((PF.oc2 a0) + (shrK 64 (PF.oc2 a0) 8)))
def oc4 (a0 : Int) : Int := (wrk false 64 ((PF.oc3 a0) + (shrK 64 (PF.oc3 a0) 16)))
def oc5 (a0 : Int) : Int := (wrk false 64 ((PF.oc4 a0) + (shrK 64 (PF.oc4 a0) 32)))
def math_bits_OnesCount64 (a0 : Int) : Int :=
  (andK true 64 (wrk true 64 (PF.oc5 a0)) 127)

def math_bits_OnesCount (a0 : Int) : Int :=
  (PF.math_bits_OnesCount64 a0)

def impl_degreeOf (a0 : Int) : Int :=
  (PF.math_bits_OnesCount (wrk false 64 a0))

def impl_dense_degree (a0 : List Int) : Option Int :=
  bdR (forL (S := Int) (X := Empty) a0 (fun i22 y21 s22 => (bif (!(y21 == 0)) then some (Lp.nx (mx s22 (PF.impl_degreeOf ((i22 : Nat) : Int)))) else some (Lp.nx s22))) (-1)) (fun s22 => some s22) (fun x22 => nomatch x22)

def impl_PcDegree (a0 : Int) (a1 : Cnf) (a2 : List PcStep) : Option (Int × Bool) :=
  bd (PF.impl_algebraOf a0 a1) (fun r29 => bd (bif (!r29.2) then some true else bd r29.1 (fun y60 => bd (PF.impl_algebra_pcDerivation y60 a2) (fun r71 => some (!r71)))) (fun t53 => (bif t53 then some (0, false) else bdR (forL (S := Int) (X := Empty) a2 (fun i81 y80 s81 => bd r29.1 (fun y39161 => bd (PF.impl_ring_dense y39161.ring y80.poly) (fun r63172 => bd (PF.impl_dense_degree r63172) (fun r66177 => some (Lp.nx (mx s81 r66177)))))) (-1)) (fun s81 => some (s81, true)) (fun x81 => nomatch x81))))

noncomputable def impl_TranslatedDegree (a0 : Int) (a1 : Cnf) (a2 : List ResStep) : Option (Int × Bool) :=
  bd (PF.impl_ResToPc a0 a1 a2) (fun r29 => (bif (!r29.2) then some (0, false) else bd (PF.impl_PcDegree a0 a1 r29.1) (fun r41 => some (r41.1, r41.2))))

def laws_eqIntS (a0 : List Int) (a1 : List Int) : Option Bool :=
  (bif (!((len a0) == (len a1))) then some false else bdR (forL (S := Unit) (X := Bool) a0 (fun i23 y22 s23 => bd (ix a1 ((i23 : Nat) : Int)) (fun x72 => (bif (!(y22 == x72)) then some (Lp.rt false) else some (Lp.nx ())))) ()) (fun s23 => some true) (fun x23 => some x23))

def laws_eqIntSS (a0 : List (List Int)) (a1 : List (List Int)) : Option Bool :=
  (bif (!((len a0) == (len a1))) then some false else bdR (forL (S := Unit) (X := Bool) a0 (fun i23 y22 s23 => bd (ix a1 ((i23 : Nat) : Int)) (fun x80 => bd (PF.laws_eqIntS y22 x80) (fun r84 => (bif (!r84) then some (Lp.rt false) else some (Lp.nx ()))))) ()) (fun s23 => some true) (fun x23 => some x23))

def laws_eqCnf (a0 : Cnf) (a1 : Cnf) : Option Bool :=
  (bif (!(a0.vars == a1.vars)) then some false else bd (PF.laws_eqIntSS a0.clauses a1.clauses) (fun r38 => (bif (!r38) then some false else some true)))

def laws_eqResStep (a0 : ResStep) (a1 : ResStep) : Option Bool :=
  bd (PF.laws_eqIntS a0.clause a1.clause) (fun r37 => (bif (!r37) then some false else (bif (!(a0.left == a1.left)) then some false else (bif (!(a0.right == a1.right)) then some false else (bif (!(a0.pivot == a1.pivot)) then some false else some true)))))

def laws_eqResStepS (a0 : List ResStep) (a1 : List ResStep) : Option Bool :=
  (bif (!((len a0) == (len a1))) then some false else bdR (forL (S := Unit) (X := Bool) a0 (fun i23 y22 s23 => bd (ix a1 ((i23 : Nat) : Int)) (fun x80 => bd (PF.laws_eqResStep y22 x80) (fun r84 => (bif (!r84) then some (Lp.rt false) else some (Lp.nx ()))))) ()) (fun s23 => some true) (fun x23 => some x23))

noncomputable def laws_FnExactTranslatedDegree (a0 : Int) (a1 : Cnf) (a2 : List ResStep) : Option Bool :=
  bd (PF.laws_szCnf a1 1048576) (fun r29 => (bif (decide (r29 < 0)) then some true else bd (PF.laws_szResStepS a2 r29) (fun r36 => (bif (decide (r36 < 0)) then some true else bd (PF.laws_toCnf a1) (fun r43 => bd (PF.laws_toResStepS a2) (fun r55 => bd (PF.spec_TranslatedDegree a0 r43 r55) (fun r74 => bd (PF.laws_toCnf a1) (fun r80 => bd (PF.laws_toResStepS a2) (fun r104 => bd (PF.impl_TranslatedDegree a0 r80 r104) (fun r123 => (bif (bif (!(r123.1 == r74.1)) then true else (!(r123.2 == r74.2))) then some false else bd (PF.laws_toCnf a1) (fun r9142 => bd (PF.laws_eqCnf r80 r9142) (fun r12142 => (bif (!r12142) then some false else bd (PF.laws_toResStepS a2) (fun r21152 => bd (PF.laws_eqResStepS r104 r21152) (fun r21171 => (bif (!r21171) then some false else some true)))))))))))))))))

end Go.PF
