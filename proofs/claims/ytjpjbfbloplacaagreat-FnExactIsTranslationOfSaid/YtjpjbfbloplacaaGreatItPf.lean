/- Part of the walks and plain laws behind the claim: it proves helpers, under no condition beyond their own. -/
import Derived.Test.YtjpjbfbloplacaaGreatPl1
set_option linter.unusedVariables false
namespace Go.PF
open Go.Pu

structure Cnf where
  vars : Int
  clauses : List (List Int)
def okCnf (s : Cnf) : Prop := okI s.vars ∧ (okL (okL okI)) s.clauses

structure ResStep where
  clause : List Int
  left : Int
  right : Int
  pivot : Int
def okResStep (s : ResStep) : Prop := (okL okI) s.clause ∧ okI s.left ∧ okI s.right ∧ okI s.pivot

structure Term where
  mono : Int
  coeff : Int
def okTerm (s : Term) : Prop := okI s.mono ∧ okI s.coeff

structure PcStep where
  kind : Int
  poly : List Term
  a : Int
  b : Int
  x : Int
  y : Int
def okPcStep (s : PcStep) : Prop := okI s.kind ∧ (okL okTerm) s.poly ∧ okI s.a ∧ okI s.b ∧ okI s.x ∧ okI s.y

structure ring where
  p : Int
  vars : Int
def okring (s : ring) : Prop := okI s.p ∧ okI s.vars

structure algebra where
  ring : ring
  f : Cnf
  q : List (List Int)
def okalgebra (s : algebra) : Prop := okring s.ring ∧ okCnf s.f ∧ (okL (okL okI)) s.q

structure Inequality where
  coeffs : List Int
  bound : Int
def okInequality (s : Inequality) : Prop := (okL okI) s.coeffs ∧ okI s.bound

structure PlaneStep where
  ineq : Inequality
  kind : Int
  a : Int
  b : Int
  k : Int
def okPlaneStep (s : PlaneStep) : Prop := okInequality s.ineq ∧ okI s.kind ∧ okI s.a ∧ okI s.b ∧ okI s.k

structure planer where
  vars : Int
  steps : List PlaneStep
def okplaner (s : planer) : Prop := okI s.vars ∧ (okL okPlaneStep) s.steps

structure echelon where
  ring : ring
  rows : List (List Int)
  made : List (List Int)
  many : Int
def okechelon (s : echelon) : Prop := okring s.ring ∧ (okL (okL okI)) s.rows ∧ (okL (okL okI)) s.made ∧ okI s.many

structure l21Work where
  pc : List PcStep
  to : List Int
def okl21Work (s : l21Work) : Prop := (okL okPcStep) s.pc ∧ (okL okI) s.to

structure translator where
  algebra : algebra
  steps : List PcStep
  polys : List (List Int)
  at_ : List Int
def oktranslator (s : translator) : Prop := okT s.algebra ∧ (okL okPcStep) s.steps ∧ (okL (okL okI)) s.polys ∧ (okL okI) s.at_

def laws_szIntS (a0 : List Int) (a1 : Int) : Int :=
  (bif (decide ((wr (a1 - (len a0))) < 0)) then (-1) else (wr (a1 - (len a0))))

def laws_szIntSS (a0 : List (List Int)) (a1 : Int) : Option Int :=
  (bif (decide ((wr (a1 - (len a0))) < 0)) then some (-1) else bdR (forL (S := Int) (X := Int) a0 (fun i23 y22 s23 => (bif (decide ((PF.laws_szIntS y22 s23) < 0)) then some (Lp.rt (-1)) else some (Lp.nx (PF.laws_szIntS y22 s23)))) (wr (a1 - (len a0)))) (fun s23 => some s23) (fun x23 => some x23))

def laws_szCnf (a0 : Cnf) (a1 : Int) : Option Int :=
  bd (PF.laws_szIntSS a0.clauses a1) (fun r29 => (bif (decide (r29 < 0)) then some (-1) else some r29))

def laws_szResStep (a0 : ResStep) (a1 : Int) : Int :=
  (bif (decide ((PF.laws_szIntS a0.clause a1) < 0)) then (-1) else (PF.laws_szIntS a0.clause a1))

def laws_szResStepS (a0 : List ResStep) (a1 : Int) : Option Int :=
  (bif (decide ((wr (a1 - (len a0))) < 0)) then some (-1) else bdR (forL (S := Int) (X := Int) a0 (fun i23 y22 s23 => (bif (decide ((PF.laws_szResStep y22 s23) < 0)) then some (Lp.rt (-1)) else some (Lp.nx (PF.laws_szResStep y22 s23)))) (wr (a1 - (len a0)))) (fun s23 => some s23) (fun x23 => some x23))

def laws_szTermS (a0 : List Term) (a1 : Int) : Int :=
  (bif (decide ((wr (a1 - (len a0))) < 0)) then (-1) else (wr (a1 - (len a0))))

def laws_szPcStep (a0 : PcStep) (a1 : Int) : Int :=
  (bif (decide ((PF.laws_szTermS a0.poly a1) < 0)) then (-1) else (PF.laws_szTermS a0.poly a1))

def laws_szPcStepS (a0 : List PcStep) (a1 : Int) : Option Int :=
  (bif (decide ((wr (a1 - (len a0))) < 0)) then some (-1) else bdR (forL (S := Int) (X := Int) a0 (fun i23 y22 s23 => (bif (decide ((PF.laws_szPcStep y22 s23) < 0)) then some (Lp.rt (-1)) else some (Lp.nx (PF.laws_szPcStep y22 s23)))) (wr (a1 - (len a0)))) (fun s23 => some s23) (fun x23 => some x23))

def laws_toIntS (a0 : List Int) : Option (List Int) :=
  bd (mk2 (0 : Int) (len a0) (len a0)) (fun xs21 => bdR (forL (S := (List Int)) (X := Empty) a0 (fun i32 y31 s32 => bd (ix s32 ((i32 : Nat) : Int)) (fun x117 => bd (put s32 ((i32 : Nat) : Int) y31) (fun xs122 => some (Lp.nx xs122)))) xs21) (fun s32 => some s32) (fun x32 => nomatch x32))

def laws_toIntSS (a0 : List (List Int)) : Option (List (List Int)) :=
  bd (mk2 ([] : List Int) (len a0) (len a0)) (fun xs21 => bdR (forL (S := (List (List Int))) (X := Empty) a0 (fun i33 y32 s33 => bd (PF.laws_toIntS y32) (fun r155 => bd (ix s33 ((i33 : Nat) : Int)) (fun x171 => bd (put s33 ((i33 : Nat) : Int) r155) (fun xs183 => some (Lp.nx xs183))))) xs21) (fun s33 => some s33) (fun x33 => nomatch x33))

def laws_toCnf (a0 : Cnf) : Option Cnf :=
  bd (PF.laws_toIntSS a0.clauses) (fun r40 => some (Cnf.mk a0.vars r40))

def laws_toResStep (a0 : ResStep) : Option ResStep :=
  bd (PF.laws_toIntS a0.clause) (fun r37 => some (ResStep.mk r37 a0.left a0.right a0.pivot))

def laws_toResStepS (a0 : List ResStep) : Option (List ResStep) :=
  bd (mk2 ((ResStep.mk [] 0 0 0) : ResStep) (len a0) (len a0)) (fun xs21 => bdR (forL (S := (List ResStep)) (X := Empty) a0 (fun i33 y32 s33 => bd (PF.laws_toResStep y32) (fun r143 => bd (ix s33 ((i33 : Nat) : Int)) (fun x158 => bd (put s33 ((i33 : Nat) : Int) r143) (fun xs165 => some (Lp.nx xs165))))) xs21) (fun s33 => some s33) (fun x33 => nomatch x33))

def laws_toTerm (a0 : Term) : Term :=
  a0

def laws_toTermS (a0 : List Term) : Option (List Term) :=
  bd (mk2 ((Term.mk 0 0) : Term) (len a0) (len a0)) (fun xs21 => bdR (forL (S := (List Term)) (X := Empty) a0 (fun i32 y31 s32 => bd (ix s32 ((i32 : Nat) : Int)) (fun x126 => bd (put s32 ((i32 : Nat) : Int) (PF.laws_toTerm y31)) (fun xs131 => some (Lp.nx xs131)))) xs21) (fun s32 => some s32) (fun x32 => nomatch x32))

def laws_toPcStep (a0 : PcStep) : Option PcStep :=
  bd (PF.laws_toTermS a0.poly) (fun r40 => some (PcStep.mk a0.kind r40 a0.a a0.b a0.x a0.y))

def laws_toPcStepS (a0 : List PcStep) : Option (List PcStep) :=
  bd (mk2 ((PcStep.mk 0 [] 0 0 0 0) : PcStep) (len a0) (len a0)) (fun xs21 => bdR (forL (S := (List PcStep)) (X := Empty) a0 (fun i33 y32 s33 => bd (PF.laws_toPcStep y32) (fun r143 => bd (ix s33 ((i33 : Nat) : Int)) (fun x158 => bd (put s33 ((i33 : Nat) : Int) r143) (fun xs165 => some (Lp.nx xs165))))) xs21) (fun s33 => some s33) (fun x33 => nomatch x33))

def spec_l1In (a0 : Int) (a1 : Int) (a2 : Int) : Bool :=
  (bif (decide (a1 ≤ a0)) then (decide (a0 ≤ a2)) else false)

def spec_l18Prime (a0 : Int) (a1 : Int) : Bool :=
  (bif (bif (bif (a0 == 2) then true else (a0 == 3)) then true else (a0 == 5)) then (PF.spec_l1In a1 0 6) else false)

def spec_l2Vars (a0 : Int) : Bool :=
  (PF.spec_l1In a0 0 12)

def spec_l2Lit (a0 : Int) (a1 : Int) : Bool :=
  (bif (PF.spec_l1In a1 (wr (-a0)) a0) then (!(a1 == 0)) else false)

def spec_l2Var (a0 : Int) : Int :=
  (bif (decide (a0 < 0)) then (wr (-a0)) else a0)

def spec_l2Clause (a0 : Int) (a1 : List Int) : Option Bool :=
  (bif (!(PF.spec_l2Vars a0)) then some false else bdR (forL (S := Unit) (X := Bool) a1 (fun i26 y25 s26 => bd (bif (!(PF.spec_l2Lit a0 y25)) then some true else bd (bif (decide (0 < ((i26 : Nat) : Int))) then bd (ix a1 (wr (((i26 : Nat) : Int) - 1))) (fun x226 => some (decide ((PF.spec_l2Var y25) ≤ (PF.spec_l2Var x226)))) else some false) (fun t213 => some t213)) (fun t192 => (bif t192 then some (Lp.rt false) else some (Lp.nx ())))) ()) (fun s26 => some true) (fun x26 => some x26))

noncomputable def spec_l2Good (a0 : Cnf) : Option Bool :=
  (bif (bif (!(PF.spec_l2Vars a0.vars)) then true else (decide (60 < (len a0.clauses)))) then some false else bdR (iter (S := Int) (X := Bool) (fun s42 => (bif (decide (s42 < (len a0.clauses))) then bd (ix a0.clauses s42) (fun x83 => bd (PF.spec_l2Clause a0.vars x83) (fun r87 => (bif (!r87) then some (Lp.rt false) else some (Lp.nx (wr (s42 + 1)))))) else some (Lp.bk s42))) 0) (fun s42 => some true) (fun x42 => some x42))

noncomputable def spec_l20Asked (a0 : Int) (a1 : Cnf) : Option Bool :=
  bd (bif (PF.spec_l18Prime a0 a1.vars) then bd (PF.spec_l2Good a1) (fun r44 => some r44) else some false) (fun t37 => some t37)

noncomputable def spec_l7Asked (a0 : Cnf) (a1 : List ResStep) : Option Bool :=
  bd (bif (decide ((len a1) ≤ 200)) then bd (PF.spec_l2Good a0) (fun r41 => some r41) else some false) (fun t34 => some t34)

def spec_l1Same (a0 : List Int) (a1 : List Int) : Option Bool :=
  (bif (!((len a0) == (len a1))) then some false else bdR (forL (S := Unit) (X := Bool) a0 (fun i23 y22 s23 => bd (ix a1 ((i23 : Nat) : Int)) (fun x72 => (bif (!(y22 == x72)) then some (Lp.rt false) else some (Lp.nx ())))) ()) (fun s23 => some true) (fun x23 => some x23))

def spec_l7Clause (a0 : Cnf) (a1 : List ResStep) (a2 : Int) (a3 : Int) : Option Bool :=
  bd (bif (PF.spec_l1In a3 0 (wr (a2 - 1))) then bd (ix a1 a3) (fun x55 => bd (PF.spec_l2Clause a0.vars x55.clause) (fun r59 => some r59)) else some false) (fun t42 => some t42)

def spec_l1Has (a0 : List Int) (a1 : Int) : Option Bool :=
  bdR (forL (S := Unit) (X := Bool) a0 (fun i22 y21 s22 => (bif (y21 == a1) then some (Lp.rt true) else some (Lp.nx ()))) ()) (fun s22 => some false) (fun x22 => some x22)

def spec_l2Has (a0 : List Int) (a1 : Int) : Option Bool :=
  bd (PF.spec_l1Has a0 a1) (fun r21 => some r21)

def spec_l2Sub (a0 : List Int) (a1 : List Int) : Option Bool :=
  bdR (forL (S := Unit) (X := Bool) a0 (fun i22 y21 s22 => bd (PF.spec_l2Has a1 y21) (fun r57 => (bif (!r57) then some (Lp.rt false) else some (Lp.nx ())))) ()) (fun s22 => some true) (fun x22 => some x22)

def spec_l2Without (a0 : List Int) (a1 : Int) : Option (List Int) :=
  bdR (forL (S := (List Int)) (X := Empty) a0 (fun i27 y26 s27 => (bif (!((PF.spec_l2Var y26) == a1)) then bd (app s27 [y26]) (fun xs103 => some (Lp.nx xs103)) else some (Lp.nx s27))) []) (fun s27 => some s27) (fun x27 => nomatch x27)

def spec_l1Own (a0 : List Int) : Option (List Int) :=
  bd (app [] a0) (fun xs26 => some xs26)

noncomputable def spec_l2Put (a0 : List Int) (a1 : Int) : Option (List Int) :=
  bdR (iter (S := Int) (X := Empty) (fun s21 => bd (bif (decide (s21 < (len a0))) then bd (ix a0 s21) (fun x105 => some (decide ((PF.spec_l2Var x105) < (PF.spec_l2Var a1)))) else some false) (fun t92 => (bif t92 then some (Lp.nx (wr (s21 + 1))) else some (Lp.bk s21)))) 0) (fun s21 => bd (cut a0 0 s21) (fun xs9127 => bd (PF.spec_l1Own xs9127) (fun r12127 => bd (app r12127 [a1]) (fun xs21127 => bd (cut a0 s21 (len a0)) (fun xs30127 => bd (app xs21127 xs30127) (fun xs33127 => some xs33127)))))) (fun x21 => nomatch x21)

noncomputable def spec_l2Join (a0 : List Int) (a1 : List Int) : Option ((List Int) × Bool) :=
  bd (PF.spec_l1Own a0) (fun r21 => bdR (forL (S := (List Int)) (X := ((List Int) × Bool)) a1 (fun i32 y31 s32 => bd (PF.spec_l2Has s32 (wr (-y31))) (fun r200 => (bif r200 then some (Lp.rt ([], false)) else bd (PF.spec_l2Has s32 y31) (fun r222 => (bif (!r222) then bd (PF.spec_l2Put s32 y31) (fun r239 => some (Lp.nx r239)) else some (Lp.nx s32)))))) r21) (fun s32 => some (s32, true)) (fun x32 => some x32))

noncomputable def spec_l2Resolve (a0 : List Int) (a1 : List Int) (a2 : Int) : Option ((List Int) × Bool) :=
  bd (PF.spec_l2Has a0 a2) (fun r21 => bd (bif (!r21) then some true else bd (PF.spec_l2Has a1 (wr (-a2))) (fun r38 => some (!r38))) (fun t31 => (bif t31 then some ([], false) else bd (PF.spec_l2Without a0 a2) (fun r53 => bd (PF.spec_l2Without a1 a2) (fun r63 => bd (PF.spec_l2Join r53 r63) (fun r83 => some (r83.1, r83.2)))))))

noncomputable def spec_l7Correct (a0 : Cnf) (a1 : List ResStep) (a2 : Int) : Option Bool :=
  bd (ix a1 a2) (fun x35 => bd (PF.spec_l2Clause a0.vars x35.clause) (fun r50 => (bif (!r50) then some false else (bif (x35.left == (-1)) then bd (bif (bif (x35.pivot == 0) then (PF.spec_l1In x35.right 0 (wr ((len a0.clauses) - 1))) else false) then bd (ix a0.clauses x35.right) (fun x93 => bd (PF.spec_l1Same x93 x35.clause) (fun r97 => some r97)) else some false) (fun t80 => some t80) else bd (PF.spec_l7Clause a0 a1 a2 x35.left) (fun r103 => (bif (!r103) then some false else (bif (x35.right == (-1)) then bd (bif (x35.pivot == 0) then bd (ix a1 x35.left) (fun x136 => bd (PF.spec_l2Sub x136.clause x35.clause) (fun r140 => some r140)) else some false) (fun t123 => some t123) else bd (PF.spec_l7Clause a0 a1 a2 x35.right) (fun r146 => (bif (bif (!r146) then true else (!(PF.spec_l1In x35.pivot 1 a0.vars))) then some false else bd (ix a1 x35.left) (fun x12174 => bd (ix a1 x35.right) (fun x30174 => bd (PF.spec_l2Resolve x12174.clause x30174.clause x35.pivot) (fun r45168 => bd (bif r45168.2 then bd (PF.spec_l1Same r45168.1 x35.clause) (fun r66203 => some r66203) else some false) (fun t66191 => some t66191)))))))))))))

noncomputable def spec_l7Wrong (a0 : Cnf) (a1 : List ResStep) : Option Int :=
  bdR (forL (S := Unit) (X := Int) a1 (fun i30 y29 s30 => bd (PF.spec_l7Correct a0 a1 ((i30 : Nat) : Int)) (fun r53 => (bif (!r53) then some (Lp.rt ((i30 : Nat) : Int)) else some (Lp.nx ())))) ()) (fun s30 => some (-1)) (fun x30 => some x30)

noncomputable def spec_l7Good (a0 : Cnf) (a1 : List ResStep) : Option Bool :=
  bd (PF.spec_l7Asked a0 a1) (fun r29 => bd (bif r29 then bd (PF.spec_l7Wrong a0 a1) (fun r46 => some (decide (r46 < 0))) else some false) (fun t39 => some t39))

noncomputable def spec_l21Asked (a0 : Int) (a1 : Cnf) (a2 : List ResStep) : Option Bool :=
  bd (PF.spec_l20Asked a0 a1) (fun r29 => bd (bif r29 then bd (PF.spec_l7Good a1 a2) (fun r46 => some r46) else some false) (fun t39 => some t39))

def spec_l18Good (a0 : Int) (a1 : Int) (a2 : List Term) : Option Bool :=
  (bif (!(PF.spec_l18Prime a0 a1)) then some false else bdR (forL (S := Unit) (X := Bool) a2 (fun i26 y25 s26 => bd (nn a1) (fun u184 => bd (bif (bif (!(PF.spec_l1In y25.mono 0 (wr ((shlK true 64 1 a1) - 1)))) then true else (!(PF.spec_l1In y25.coeff 1 (wr (a0 - 1))))) then some true else bd (bif (decide (0 < ((i26 : Nat) : Int))) then bd (ix a2 (wr (((i26 : Nat) : Int) - 1))) (fun x284 => some (decide (y25.mono ≤ x284.mono))) else some false) (fun t271 => some t271)) (fun t250 => (bif t250 then some (Lp.rt false) else some (Lp.nx ()))))) ()) (fun s26 => some true) (fun x26 => some x26))

def spec_l18Sparse (a0 : Int) (a1 : List Int) : Option (List Term) :=
  bdR (forL (S := (List Term)) (X := Empty) a1 (fun i27 y26 s27 => bd (nz a0) (fun u82 => (bif (!((y26.tmod a0) == 0)) then bd (app s27 [(Term.mk ((i27 : Nat) : Int) (y26.tmod a0))]) (fun xs89 => some (Lp.nx xs89)) else some (Lp.nx s27)))) []) (fun s27 => some s27) (fun x27 => nomatch x27)

def spec_l18Mul (a0 : Int) (a1 : Int) (a2 : List Term) (a3 : List Term) : Option (List Term) :=
  bd (nn a1) (fun u22 => bd (mk2 (0 : Int) (shlK true 64 1 a1) (shlK true 64 1 a1)) (fun xs23 => bdR (forL (S := (List Int)) (X := Empty) a2 (fun i34 y33 s34 => bdR (forL (S := (List Int)) (X := Empty) a3 (fun i288292 y288291 s288292 => bd (ix s288292 (orK true 64 y33.mono y288291.mono)) (fun x447414 => bd (nz a0) (fun u492409 => bd (ix s288292 (orK true 64 y33.mono y288291.mono)) (fun x495414 => bd (put s288292 (orK true 64 y33.mono y288291.mono) ((wr (x447414 + (wr (y33.coeff * y288291.coeff)))).tmod a0)) (fun xs498411 => some (Lp.nx xs498411)))))) s34) (fun s288292 => some (Lp.nx s288292)) (fun x288292 => nomatch x288292)) xs23) (fun s34 => bd (PF.spec_l18Sparse a0 s34) (fun r504459 => some r504459)) (fun x34 => nomatch x34)))

def spec_l18Clause (a0 : Int) (a1 : Int) (a2 : List Int) : Option (List Term) :=
  bdR (forL (S := (List Term)) (X := Empty) a2 (fun i27 y26 s27 => bd (nn (wr ((PF.spec_l2Var y26) - 1))) (fun u242 => (bif (decide (y26 < 0)) then bd (PF.spec_l18Mul a0 a1 s27 [(Term.mk (shlK true 64 1 (wr ((PF.spec_l2Var y26) - 1))) 1)]) (fun r276 => some (Lp.nx r276)) else bd (PF.spec_l18Mul a0 a1 s27 [(Term.mk 0 1), (Term.mk (shlK true 64 1 (wr ((PF.spec_l2Var y26) - 1))) (wr (a0 - 1)))]) (fun r303 => some (Lp.nx r303))))) [(Term.mk 0 1)]) (fun s27 => some s27) (fun x27 => nomatch x27)

def spec_l20Same (a0 : List Term) (a1 : List Term) : Option Bool :=
  (bif (!((len a0) == (len a1))) then some false else bdR (forL (S := Unit) (X := Bool) a0 (fun i23 y22 s23 => bd (ix a1 ((i23 : Nat) : Int)) (fun x72 => (bif (!((y22.mono == x72.mono) && (y22.coeff == x72.coeff))) then some (Lp.rt false) else some (Lp.nx ())))) ()) (fun s23 => some true) (fun x23 => some x23))

def spec_l20Earlier (a0 : Int) (a1 : Cnf) (a2 : List PcStep) (a3 : Int) (a4 : Int) : Option Bool :=
  bd (bif (PF.spec_l1In a4 0 (wr (a3 - 1))) then bd (ix a2 a4) (fun x55 => bd (PF.spec_l18Good a0 a1.vars x55.poly) (fun r59 => some r59)) else some false) (fun t42 => some t42)

def spec_l20Times (a0 : Int) (a1 : Int) (a2 : List Term) (a3 : Int) : Option (List Term) :=
  bd (nn (wr (a3 - 1))) (fun u22 => bd (PF.spec_l18Mul a0 a1 a2 [(Term.mk (shlK true 64 1 (wr (a3 - 1))) 1)]) (fun r33 => some r33))

def spec_l18Dense (a0 : Int) (a1 : List Term) : Option (List Int) :=
  bd (nn a0) (fun u22 => bd (mk2 (0 : Int) (shlK true 64 1 a0) (shlK true 64 1 a0)) (fun xs23 => bdR (forL (S := (List Int)) (X := Empty) a1 (fun i34 y33 s34 => bd (ix s34 y33.mono) (fun x126093 => bd (put s34 y33.mono y33.coeff) (fun xs129090 => some (Lp.nx xs129090)))) xs23) (fun s34 => some s34) (fun x34 => nomatch x34)))

noncomputable def spec_l18Add (a0 : Int) (a1 : Int) (a2 : List Term) (a3 : List Term) (a4 : Int) : Option (List Term) :=
  bd (PF.spec_l18Dense a1 a2) (fun r21 => bd (PF.spec_l18Dense a1 a3) (fun r31 => bdR (iter (S := ((List Int) × Int)) (X := Empty) (fun s41 => (bif (decide (s41.2 < (len s41.1))) then bd (ix s41.1 s41.2) (fun x117113 => bd (ix r31 s41.2) (fun x132113 => bd (ix s41.1 s41.2) (fun x144113 => bd (put s41.1 s41.2 (wr (x117113 + (wr (a4 * x132113))))) (fun xs147110 => some (Lp.nx (xs147110, (wr (s41.2 + 1)))))))) else some (Lp.bk (s41.1, s41.2)))) (r21, 0)) (fun s41 => bd (PF.spec_l18Sparse a0 s41.1) (fun r153135 => some r153135)) (fun x41 => nomatch x41)))

noncomputable def spec_l20Sum (a0 : Int) (a1 : Int) (a2 : List Term) (a3 : Int) (a4 : List Term) (a5 : Int) : Option (List Term) :=
  bd (PF.spec_l18Add a0 a1 [] a2 a3) (fun r31 => bd (PF.spec_l18Add a0 a1 r31 a4 a5) (fun r48 => some r48))

noncomputable def spec_l20Correct (a0 : Int) (a1 : Cnf) (a2 : List PcStep) (a3 : Int) : Option Bool :=
  bd (ix a2 a3) (fun x35 => bd (PF.spec_l18Good a0 a1.vars x35.poly) (fun r50 => (bif (!r50) then some false else (bif (x35.kind == 1) then bd (bif (bif (bif (bif (x35.b == 0) then (x35.x == 0) else false) then (x35.y == 0) else false) then (PF.spec_l1In x35.a 0 (wr ((len a1.clauses) - 1))) else false) then bd (ix a1.clauses x35.a) (fun x99063 => bd (PF.spec_l18Clause a0 a1.vars x99063) (fun r105057 => bd (PF.spec_l20Same x35.poly r105057) (fun r108062 => some r108062))) else some false) (fun t56_36 => some t56_36) else bd (bif (bif (!(x35.kind == 2)) then (!(x35.kind == 3)) else false) then some true else bd (PF.spec_l20Earlier a0 a1 a2 a3 x35.a) (fun r120089 => some (!r120089))) (fun t120082 => (bif t120082 then some false else (bif (x35.kind == 3) then bd (bif (bif (bif (x35.b == 0) then (x35.y == 0) else false) then (PF.spec_l1In x35.x 1 a1.vars) else false) then bd (ix a2 x35.a) (fun x195108 => bd (PF.spec_l20Times a0 a1.vars x195108.poly x35.x) (fun r210102 => bd (PF.spec_l20Same x35.poly r210102) (fun r213107 => some r213107))) else some false) (fun t120101_31 => some t120101_31) else bd (PF.spec_l20Earlier a0 a1 a2 a3 x35.b) (fun r225109 => (bif (bif (bif (!r225109) then true else (!(PF.spec_l1In x35.x 0 (wr (a0 - 1))))) then true else (!(PF.spec_l1In x35.y 0 (wr (a0 - 1))))) then some false else bd (ix a2 x35.a) (fun x252157 => bd (ix a2 x35.b) (fun x276157 => bd (PF.spec_l20Sum a0 a1.vars x252157.poly x35.x x276157.poly x35.y) (fun r291151 => bd (PF.spec_l20Same x35.poly r291151) (fun r294156 => some r294156)))))))))))))

noncomputable def spec_l20Wrong (a0 : Int) (a1 : Cnf) (a2 : List PcStep) : Option Int :=
  bdR (forL (S := Unit) (X := Int) a2 (fun i30 y29 s30 => bd (PF.spec_l20Correct a0 a1 a2 ((i30 : Nat) : Int)) (fun r55 => (bif (!r55) then some (Lp.rt ((i30 : Nat) : Int)) else some (Lp.nx ())))) ()) (fun s30 => some (-1)) (fun x30 => some x30)

noncomputable def spec_l20Good (a0 : Int) (a1 : Cnf) (a2 : List PcStep) : Option Bool :=
  bd (PF.spec_l20Asked a0 a1) (fun r29 => bd (bif (bif r29 then (decide ((len a2) ≤ 300)) else false) then bd (PF.spec_l20Wrong a0 a1 a2) (fun r57 => some (decide (r57 < 0))) else some false) (fun t50 => some t50))

noncomputable def spec_IsTranslationOf (a0 : Int) (a1 : Cnf) (a2 : List ResStep) (a3 : List PcStep) : Option (Bool × Bool) :=
  bd (PF.spec_l21Asked a0 a1 a2) (fun r29 => (bif (!r29) then some (false, false) else bd (PF.spec_l20Good a0 a1 a3) (fun r35 => (bif (!r35) then some (false, true) else bdR (forL (S := Int) (X := (Bool × Bool)) a2 (fun i42 y41 s42 => bd (PF.spec_l18Clause a0 a1.vars y41.clause) (fun r63174 => bdR (iter (S := Int) (X := Empty) (fun s72191 => bd (bif (decide (s72191 < (len a3))) then bd (ix a3 s72191) (fun x72305 => bd (PF.spec_l20Same x72305.poly r63174) (fun r72314 => some (!r72314))) else some false) (fun t72292 => (bif t72292 then some (Lp.nx (wr (s72191 + 1))) else some (Lp.bk s72191)))) s42) (fun s72191 => (bif (s72191 == (len a3)) then some (Lp.rt (false, true)) else some (Lp.nx s72191))) (fun x72191 => nomatch x72191))) 0) (fun s42 => some (true, true)) (fun x42 => some x42)))))

def impl_within (a0 : Int) (a1 : Int) (a2 : Int) : Bool :=
  (bif (decide (a1 ≤ a0)) then (decide (a0 ≤ a2)) else false)

def impl_ringOf (a0 : Int) (a1 : Int) : (ring × Bool) :=
  ((ring.mk a0 a1), (bif (bif (bif (a0 == 2) then true else (a0 == 3)) then true else (a0 == 5)) then (PF.impl_within a1 0 6) else false))

def impl_isLiteral (a0 : Int) (a1 : Int) : Bool :=
  (bif (!(a1 == 0)) then (PF.impl_within a1 (wr (-a0)) a0) else false)

def impl_abs (a0 : Int) : Int :=
  (mx a0 (wr (-a0)))

def impl_varsOk (a0 : Int) : Bool :=
  (PF.impl_within a0 0 12)

def impl_IsClause (a0 : Int) (a1 : List Int) : Option Bool :=
  bdR (forL (S := Unit) (X := Bool) a1 (fun i22 y21 s22 => bd (bif (!(PF.impl_isLiteral a0 y21)) then some true else bd (bif (decide (0 < ((i22 : Nat) : Int))) then bd (ix a1 (wr (((i22 : Nat) : Int) - 1))) (fun x192 => some (decide ((PF.impl_abs y21) ≤ (PF.impl_abs x192)))) else some false) (fun t179 => some t179)) (fun t164 => (bif t164 then some (Lp.rt false) else some (Lp.nx ())))) ()) (fun s22 => some (PF.impl_varsOk a0)) (fun x22 => some x22)

def impl_IsCnf (a0 : Cnf) : Option Bool :=
  bdR (forL (S := Unit) (X := Bool) a0.clauses (fun i30 y29 s30 => bd (PF.impl_IsClause a0.vars y29) (fun r71 => (bif (!r71) then some (Lp.rt false) else some (Lp.nx ())))) ()) (fun s30 => some (bif (PF.impl_varsOk a0.vars) then (decide ((len a0.clauses) ≤ 60)) else false)) (fun x30 => some x30)

def impl_ring_zero (a0 : ring) : Option (List Int) :=
  bd (nn a0.vars) (fun u30 => bd (mk2 (0 : Int) (shlK true 64 1 a0.vars) (shlK true 64 1 a0.vars)) (fun xs31 => some xs31))

def impl_ring_mono (a0 : ring) (a1 : Int) : Option (List Int) :=
  bd (PF.impl_ring_zero a0) (fun r29 => bd (ix r29 a1) (fun x45 => bd (put r29 a1 1) (fun xs50 => some xs50)))

def slices_Clone_impl_dense_int (a0 : List Int) : Option (List Int) :=
  bd (app [] a0) (fun xs30 => some xs30)

def impl_ring_plus (a0 : ring) (a1 : List Int) (a2 : List Int) (a3 : Int) : Option (List Int) :=
  bd (PF.slices_Clone_impl_dense_int a1) (fun r29 => bdR (forL (S := (List Int)) (X := Empty) a2 (fun i40 y39 s40 => bd (ix s40 ((i40 : Nat) : Int)) (fun x117132 => bd (nz a0.p) (fun u141127 => bd (ix s40 ((i40 : Nat) : Int)) (fun x144132 => bd (put s40 ((i40 : Nat) : Int) ((wr (x117132 + (wr (a3 * y39)))).tmod a0.p)) (fun xs147129 => some (Lp.nx xs147129)))))) r29) (fun s40 => some s40) (fun x40 => nomatch x40))

def impl_ring_literal (a0 : ring) (a1 : Int) : Option (List Int) :=
  (bif (decide (0 < a1)) then bd (nn (wr (a1 - 1))) (fun u12031 => bd (PF.impl_ring_mono a0 (shlK true 64 1 (wr (a1 - 1)))) (fun r15030 => some r15030)) else bd (PF.impl_ring_mono a0 0) (fun r33041 => bd (nn (wr ((wr (-a1)) - 1))) (fun u48042 => bd (PF.impl_ring_mono a0 (shlK true 64 1 (wr ((wr (-a1)) - 1)))) (fun r51041 => bd (PF.impl_ring_plus a0 r33041 r51041 (wr (a0.p - 1))) (fun r63051 => some r63051)))))

def impl_ring_times (a0 : ring) (a1 : List Int) (a2 : List Int) : Option (List Int) :=
  bd (PF.impl_ring_zero a0) (fun r29 => bdR (forL (S := (List Int)) (X := Empty) a1 (fun i40 y39 s40 => bdR (forL (S := (List Int)) (X := Empty) a2 (fun i252331 y252330 s252331 => bd (ix s252331 (orK true 64 ((i40 : Nat) : Int) ((i252331 : Nat) : Int))) (fun x405448 => bd (nz a0.p) (fun u429443 => bd (ix s252331 (orK true 64 ((i40 : Nat) : Int) ((i252331 : Nat) : Int))) (fun x432448 => bd (put s252331 (orK true 64 ((i40 : Nat) : Int) ((i252331 : Nat) : Int)) ((wr (x405448 + (wr (y39 * y252330)))).tmod a0.p)) (fun xs435445 => some (Lp.nx xs435445)))))) s40) (fun s252331 => some (Lp.nx s252331)) (fun x252331 => nomatch x252331)) r29) (fun s40 => some s40) (fun x40 => nomatch x40))

def impl_ring_clause (a0 : ring) (a1 : List Int) : Option (List Int) :=
  bd (PF.impl_ring_mono a0 0) (fun r29 => bdR (forL (S := (List Int)) (X := Empty) a1 (fun i40 y39 s40 => bd (PF.impl_ring_literal a0 (wr (-y39))) (fun r78125 => bd (PF.impl_ring_times a0 s40 r78125) (fun r81135 => some (Lp.nx r81135)))) r29) (fun s40 => some s40) (fun x40 => nomatch x40))

def impl_algebraOf (a0 : Int) (a1 : Cnf) : Option ((Option algebra) × Bool) :=
  bd (bif (!((PF.impl_ringOf a0 a1.vars).2)) then some true else bd (PF.impl_IsCnf a1) (fun r55 => some (!r55))) (fun t48 => (bif t48 then some (none, false) else bdR (forL (S := ((List (List Int)) × Int × Int × Int × (List (List Int)))) (X := Empty) a1.clauses (fun i71 y70 s71 => bd (PF.impl_ring_clause ((PF.impl_ringOf a0 a1.vars).1) y70) (fun r114167 => bd (app s71.1 [r114167]) (fun xs120167 => some (Lp.nx (xs120167, s71.2.1, s71.2.2.1, s71.2.2.2.1, s71.2.2.2.2))))) ([], ((PF.impl_ringOf a0 a1.vars).1).p, ((PF.impl_ringOf a0 a1.vars).1).vars, a1.vars, a1.clauses)) (fun s71 => some ((some (algebra.mk (ring.mk s71.2.1 s71.2.2.1) (Cnf.mk s71.2.2.2.1 s71.2.2.2.2) s71.1)), true)) (fun x71 => nomatch x71)))

def slices_Equal_int_int (a0 : List Int) (a1 : List Int) : Option Bool :=
  (bif (!((len a0) == (len a1))) then some false else bdR (forL (S := Unit) (X := Bool) a0 (fun i23 y22 s23 => bd (ix a1 ((i23 : Nat) : Int)) (fun x74 => (bif (!(y22 == x74)) then some (Lp.rt false) else some (Lp.nx ())))) ()) (fun s23 => some true) (fun x23 => some x23))

def impl_earlier (a0 : Cnf) (a1 : List ResStep) (a2 : Int) (a3 : Int) : Option ((List Int) × Bool) :=
  bd (bif (!(PF.impl_within a3 0 (wr (a2 - 1)))) then some true else bd (ix a1 a3) (fun x55 => bd (PF.impl_IsClause a0.vars x55.clause) (fun r59 => some (!r59)))) (fun t42 => (bif t42 then some ([], false) else bd (ix a1 a3) (fun x74 => some (x74.clause, true))))

def slices_IndexFunc_int_int (a0 : List Int) (a1 : Int → Option Bool) : Option Int :=
  bdR (forL (S := Unit) (X := Int) a0 (fun i22 y21 s22 => bd (a1 y21) (fun r64 => (bif r64 then some (Lp.rt ((i22 : Nat) : Int)) else some (Lp.nx ())))) ()) (fun s22 => some (-1)) (fun x22 => some x22)

def slices_ContainsFunc_int_int (a0 : List Int) (a1 : Int → Option Bool) : Option Bool :=
  bd (PF.slices_IndexFunc_int_int a0 a1) (fun r21 => some (decide (0 ≤ r21)))

def slices_Index_int_int (a0 : List Int) (a1 : Int) : Option Int :=
  bdR (forL (S := Unit) (X := Int) a0 (fun i22 y21 s22 => (bif (a1 == y21) then some (Lp.rt ((i22 : Nat) : Int)) else some (Lp.nx ()))) ()) (fun s22 => some (-1)) (fun x22 => some x22)

def slices_Contains_int_int (a0 : List Int) (a1 : Int) : Option Bool :=
  bd (PF.slices_Index_int_int a0 a1) (fun r21 => some (decide (0 ≤ r21)))

def impl_part_1 (a0 : Int) (b0 : List Int) : Option Bool :=
  bd (PF.slices_Contains_int_int b0 a0) (fun r21 => some (!r21))

def impl_part (a0 : List Int) (a1 : List Int) : Option Bool :=
  bd (PF.slices_ContainsFunc_int_int a0 (fun x0 => PF.impl_part_1 x0 a1)) (fun r29 => some (!r29))

def impl_isVar (a0 : Int) (a1 : Int) : Bool :=
  (PF.impl_within a1 1 a0)

def slices_Clone_int_int (a0 : List Int) : Option (List Int) :=
  bd (app [] a0) (fun xs30 => some xs30)

noncomputable def slices_DeleteFunc_int_int (a0 : List Int) (a1 : Int → Option Bool) : Option (List Int) :=
  bd (PF.slices_IndexFunc_int_int a0 a1) (fun r26 => (bif (r26 == (-1)) then some a0 else bdR (iter (S := ((List Int) × Int × Int)) (X := Empty) (fun s32 => (bif (decide (s32.2.2 < (len s32.1))) then bd (ix s32.1 s32.2.2) (fun x141 => bd (a1 x141) (fun r143 => (bif (!r143) then bd (ix s32.1 s32.2.1) (fun x160 => bd (put s32.1 s32.2.1 x141) (fun xs165 => some (Lp.nx (xs165, (wr (s32.2.1 + 1)), (wr (s32.2.2 + 1)))))) else some (Lp.nx (s32.1, s32.2.1, (wr (s32.2.2 + 1))))))) else some (Lp.bk (s32.1, s32.2.1, s32.2.2)))) (a0, r26, (wr (r26 + 1)))) (fun s32 => bd (cut s32.1 s32.2.1 (len s32.1)) (fun xs178 => bd (cut (clearL 0 s32.1 s32.2.1) 0 s32.2.1) (fun xs188 => some xs188))) (fun x32 => nomatch x32)))

def impl_withoutVar_1 (a0 : Int) (b0 : Int) : Bool :=
  ((PF.impl_abs a0) == b0)

noncomputable def impl_withoutVar (a0 : List Int) (a1 : Int) : Option (List Int) :=
  bd (PF.slices_Clone_int_int a0) (fun r29 => bd (PF.slices_DeleteFunc_int_int r29 (fun x0 => some (PF.impl_withoutVar_1 x0 a1))) (fun r39 => some r39))

def slices_Grow_int_int (a1 : Int) : Option (List Int) := if 0 ≤ a1 ∧ a1 ≤ lim then some [] else none

def slices_Concat_int_int (a0 : List (List Int)) : Option (List Int) :=
  bdR (forL (S := Int) (X := Empty) a0 (fun i22 y21 s22 => (bif (decide ((wr (s22 + (len y21))) < 0)) then none else some (Lp.nx (wr (s22 + (len y21)))))) 0) (fun s22 => bd (PF.slices_Grow_int_int s22) (fun r69 => bdR (forL (S := (List Int)) (X := Empty) a0 (fun i80 y79 s80 => bd (app s80 y79) (fun xs129 => some (Lp.nx xs129))) r69) (fun s80 => some s80) (fun x80 => nomatch x80))) (fun x22 => nomatch x22)

noncomputable def slices_SortFunc_int_int (a0 : List Int) (a1 : Int → Int → Option Int) : Option (List Int) := sortF a1 a0

def cmp_isNaN_int (a0 : Int) : Bool :=
  (!(a0 == a0))

def cmp_Compare_int (a0 : Int) (a1 : Int) : Int :=
  (bif (PF.cmp_isNaN_int a0) then (bif (PF.cmp_isNaN_int a1) then 0 else (-1)) else (bif (PF.cmp_isNaN_int a1) then 1 else (bif (decide (a0 < a1)) then (-1) else (bif (decide (a1 < a0)) then 1 else 0))))

def cmp_Or_int (a0 : List Int) : Option Int :=
  bdR (forL (S := Unit) (X := Int) a0 (fun i22 y21 s22 => (bif (!(y21 == 0)) then some (Lp.rt y21) else some (Lp.nx ()))) ()) (fun s22 => some 0) (fun x22 => some x22)

def impl_compareLiterals (a0 : Int) (a1 : Int) : Option Int :=
  bd (PF.cmp_Or_int [(PF.cmp_Compare_int (PF.impl_abs a0) (PF.impl_abs a1)), (PF.cmp_Compare_int a1 a0)]) (fun r43 => some r43)

def slices_Compact_int_int (a0 : List Int) : Option (List Int) := some (compactL a0)

noncomputable def impl_clause (a0 : List Int) : Option ((List Int) × Bool) :=
  bd (PF.slices_Clone_int_int a0) (fun r21 => bd (PF.slices_SortFunc_int_int r21 (fun x0 x1 => PF.impl_compareLiterals x0 x1)) (fun r31 => bd (PF.slices_Compact_int_int r31) (fun r39 => bdR (iter (S := Int) (X := ((List Int) × Bool)) (fun s49 => (bif (decide (s49 < (len r39))) then bd (ix r39 s49) (fun x94 => bd (ix r39 (wr (s49 - 1))) (fun x102 => (bif (x94 == (wr (-x102))) then some (Lp.rt ([], false)) else some (Lp.nx (wr (s49 + 1)))))) else some (Lp.bk s49))) 1) (fun s49 => some (r39, true)) (fun x49 => some x49))))

noncomputable def impl_resolve (a0 : List Int) (a1 : List Int) (a2 : Int) : Option ((List Int) × Bool) :=
  bd (PF.slices_Contains_int_int a0 a2) (fun r21 => bd (bif (!r21) then some true else bd (PF.slices_Contains_int_int a1 (wr (-a2))) (fun r38 => some (!r38))) (fun t31 => (bif t31 then some ([], false) else bd (PF.impl_withoutVar a0 a2) (fun r48 => bd (PF.impl_withoutVar a1 a2) (fun r58 => bd (PF.slices_Concat_int_int [r48, r58]) (fun r88 => bd (PF.impl_clause r88) (fun r105 => some (r105.1, r105.2))))))))

noncomputable def impl_correct (a0 : Cnf) (a1 : List ResStep) (a2 : Int) : Option Bool :=
  bd (ix a1 a2) (fun x35 => bd (PF.impl_IsClause a0.vars x35.clause) (fun r50 => (bif (!r50) then some false else (bif (x35.left == (-1)) then bd (bif (bif (x35.pivot == 0) then (PF.impl_within x35.right 0 (wr ((len a0.clauses) - 1))) else false) then bd (ix a0.clauses x35.right) (fun x93 => bd (PF.slices_Equal_int_int x93 x35.clause) (fun r97 => some r97)) else some false) (fun t80 => some t80) else bd (PF.impl_earlier a0 a1 a2 x35.left) (fun r103 => (bif (!r103.2) then some false else (bif (x35.right == (-1)) then bd (bif (x35.pivot == 0) then bd (PF.impl_part r103.1 x35.clause) (fun r125 => some r125) else some false) (fun t118 => some t118) else bd (PF.impl_earlier a0 a1 a2 x35.right) (fun r131 => (bif (bif (!r131.2) then true else (!(PF.impl_isVar a0.vars x35.pivot))) then some false else bd (PF.impl_resolve r103.1 r131.1 x35.pivot) (fun r157 => bd (bif r157.2 then bd (PF.slices_Equal_int_int r157.1 x35.clause) (fun r189 => some r189) else some false) (fun t177 => some t177)))))))))))

noncomputable def impl_firstWrong (a0 : Cnf) (a1 : List ResStep) : Option Int :=
  bdR (forL (S := Unit) (X := Int) a1 (fun i30 y29 s30 => bd (PF.impl_correct a0 a1 ((i30 : Nat) : Int)) (fun r55 => (bif (!r55) then some (Lp.rt ((i30 : Nat) : Int)) else some (Lp.nx ())))) ()) (fun s30 => some (-1)) (fun x30 => some x30)

noncomputable def impl_IsDerivation (a0 : Cnf) (a1 : List ResStep) : Option Bool :=
  bd (PF.impl_IsCnf a0) (fun r29 => bd (bif (bif r29 then (decide ((len a1) ≤ 200)) else false) then bd (PF.impl_firstWrong a0 a1) (fun r56 => some (decide (r56 < 0))) else some false) (fun t49 => some t49))

def impl_bitsOk (a0 : Int) (a1 : Int) : Option Bool :=
  bd (nn a0) (fun u22 => some (PF.impl_within a1 0 (wr ((shlK true 64 1 a0) - 1))))

def impl_ring_is (a0 : ring) (a1 : List Term) : Option Bool :=
  bdR (forL (S := Unit) (X := Bool) a1 (fun i30 y29 s30 => bd (PF.impl_bitsOk a0.vars y29.mono) (fun r181 => bd (bif (bif (!r181) then true else (!(PF.impl_within y29.coeff 1 (wr (a0.p - 1))))) then some true else bd (bif (decide (0 < ((i30 : Nat) : Int))) then bd (ix a1 (wr (((i30 : Nat) : Int) - 1))) (fun x256 => some (decide (y29.mono ≤ x256.mono))) else some false) (fun t243 => some t243)) (fun t228 => (bif t228 then some (Lp.rt false) else some (Lp.nx ()))))) ()) (fun s30 => some true) (fun x30 => some x30)

def impl_ring_dense (a0 : ring) (a1 : List Term) : Option (List Int) :=
  bd (PF.impl_ring_zero a0) (fun r29 => bdR (forL (S := (List Int)) (X := Empty) a1 (fun i40 y39 s40 => bd (ix s40 y39.mono) (fun x129160 => bd (nz a0.p) (fun u150155 => bd (ix s40 y39.mono) (fun x153160 => bd (put s40 y39.mono ((wr (x129160 + y39.coeff)).tmod a0.p)) (fun xs156157 => some (Lp.nx xs156157)))))) r29) (fun s40 => some s40) (fun x40 => nomatch x40))

def impl_algebra_polyBefore (a0 : algebra) (a1 : List PcStep) (a2 : Int) (a3 : Int) : Option ((List Int) × Bool) :=
  bd (bif (!(PF.impl_within a3 0 (wr (a2 - 1)))) then some true else bd (ix a1 a3) (fun x47 => bd (PF.impl_ring_is a0.ring x47.poly) (fun r51 => some (!r51)))) (fun t34 => (bif t34 then some ([], false) else bd (ix a1 a3) (fun x21067 => bd (PF.impl_ring_dense a0.ring x21067.poly) (fun r30061 => some (r30061, true)))))

def impl_algebra_pcDue (a0 : algebra) (a1 : List PcStep) (a2 : Int) : Option ((List Int) × Bool) :=
  bd (ix a1 a2) (fun x27 => bd (PF.impl_algebra_polyBefore a0 a1 a2 x27.a) (fun r42 => bd (PF.impl_algebra_polyBefore a0 a1 a2 x27.b) (fun r52 => (bif (bif (bif (bif (bif (x27.kind == 1) then (PF.impl_within x27.a 0 (wr ((len a0.q) - 1))) else false) then (x27.b == 0) else false) then (x27.x == 0) else false) then (x27.y == 0) else false) then bd (ix a0.q x27.a) (fun x130 => some (x130, true)) else (bif (bif (bif (bif (bif (x27.kind == 2) then r42.2 else false) then r52.2 else false) then (PF.impl_within x27.x 0 (wr (a0.ring.p - 1))) else false) then (PF.impl_within x27.y 0 (wr (a0.ring.p - 1))) else false) then bd (PF.impl_ring_zero a0.ring) (fun r39195 => bd (PF.impl_ring_plus a0.ring r39195 r42.1 x27.x) (fun r51205 => bd (PF.impl_ring_plus a0.ring r51205 r52.1 x27.y) (fun r63205 => some (r63205, true)))) else (bif (bif (bif (bif (bif (x27.kind == 3) then r42.2 else false) then (x27.b == 0) else false) then (PF.impl_isVar a0.ring.vars x27.x) else false) then (x27.y == 0) else false) then bd (PF.impl_ring_literal a0.ring x27.x) (fun r111261 => bd (PF.impl_ring_times a0.ring r42.1 r111261) (fun r114271 => some (r114271, true))) else some ([], false)))))))

def slices_Equal_impl_dense_int (a0 : List Int) (a1 : List Int) : Option Bool :=
  (bif (!((len a0) == (len a1))) then some false else bdR (forL (S := Unit) (X := Bool) a0 (fun i23 y22 s23 => bd (ix a1 ((i23 : Nat) : Int)) (fun x74 => (bif (!(y22 == x74)) then some (Lp.rt false) else some (Lp.nx ())))) ()) (fun s23 => some true) (fun x23 => some x23))

def impl_algebra_pcCorrect (a0 : algebra) (a1 : List PcStep) (a2 : Int) : Option Bool :=
  bd (PF.impl_algebra_pcDue a0 a1 a2) (fun r21 => bd (bif r21.2 then bd (ix a1 a2) (fun x27035 => bd (PF.impl_ring_is a0.ring x27035.poly) (fun r36029 => some r36029)) else some false) (fun t28_12 => bd (bif t28_12 then bd (ix a1 a2) (fun x66035 => bd (PF.impl_ring_dense a0.ring x66035.poly) (fun r75029 => bd (PF.slices_Equal_impl_dense_int r21.1 r75029) (fun r78034 => some r78034))) else some false) (fun t28_26 => some t28_26)))

def impl_algebra_firstWrongPc (a0 : algebra) (a1 : List PcStep) : Option Int :=
  bdR (forL (S := Unit) (X := Int) a1 (fun i22 y21 s22 => bd (PF.impl_algebra_pcCorrect a0 a1 ((i22 : Nat) : Int)) (fun r47 => (bif (!r47) then some (Lp.rt ((i22 : Nat) : Int)) else some (Lp.nx ())))) ()) (fun s22 => some (-1)) (fun x22 => some x22)

def impl_algebra_pcDerivation (a0 : algebra) (a1 : List PcStep) : Option Bool :=
  bd (bif (decide ((len a1) ≤ 300)) then bd (PF.impl_algebra_firstWrongPc a0 a1) (fun r33 => some (decide (r33 < 0))) else some false) (fun t26 => some t26)

def impl_dense_terms (a0 : List Int) : Option (List Term) :=
  bdR (forL (S := (List Term)) (X := Empty) a0 (fun i22 y21 s22 => (bif (!(y21 == 0)) then bd (app s22 [(Term.mk ((i22 : Nat) : Int) y21)]) (fun xs80 => some (Lp.nx xs80)) else some (Lp.nx s22))) []) (fun s22 => some s22) (fun x22 => nomatch x22)

def slices_Equal_impl_Term_impl_Term (a0 : List Term) (a1 : List Term) : Option Bool :=
  (bif (!((len a0) == (len a1))) then some false else bdR (forL (S := Unit) (X := Bool) a0 (fun i23 y22 s23 => bd (ix a1 ((i23 : Nat) : Int)) (fun x74 => (bif (!((y22.mono == x74.mono) && (y22.coeff == x74.coeff))) then some (Lp.rt false) else some (Lp.nx ())))) ()) (fun s23 => some true) (fun x23 => some x23))

noncomputable def impl_IsTranslationOf (a0 : Int) (a1 : Cnf) (a2 : List ResStep) (a3 : List PcStep) : Option (Bool × Bool) :=
  bd (PF.impl_algebraOf a0 a1) (fun r29 => bd (bif (!r29.2) then some true else bd (PF.impl_IsDerivation a1 a2) (fun r49 => some (!r49))) (fun t42 => (bif t42 then some (false, false) else bd r29.1 (fun y59 => bd (PF.impl_algebra_pcDerivation y59 a3) (fun r70 => (bif (!r70) then some (false, true) else bdR (forL (S := Int) (X := (Bool × Bool)) a2 (fun i77 y76 s77 => bd (PF.impl_ring_clause y59.ring y76.clause) (fun r54247 => bd (PF.impl_dense_terms r54247) (fun r57252 => bdR (iter (S := Int) (X := Empty) (fun s66264 => bd (bif (decide (s66264 < (len a3))) then bd (ix a3 s66264) (fun x66378 => bd (PF.slices_Equal_impl_Term_impl_Term x66378.poly r57252) (fun r66387 => some (!r66387))) else some false) (fun t66365 => (bif t66365 then some (Lp.nx (wr (s66264 + 1))) else some (Lp.bk s66264)))) s77) (fun s66264 => (bif (s66264 == (len a3)) then some (Lp.rt (false, true)) else some (Lp.nx s66264))) (fun x66264 => nomatch x66264)))) 0) (fun s77 => some (true, true)) (fun x77 => some x77)))))))

def laws_eqIntS (a0 : List Int) (a1 : List Int) : Option Bool :=
  (bif (!((len a0) == (len a1))) then some false else bdR (forL (S := Unit) (X := Bool) a0 (fun i23 y22 s23 => bd (ix a1 ((i23 : Nat) : Int)) (fun x72 => (bif (!(y22 == x72)) then some (Lp.rt false) else some (Lp.nx ())))) ()) (fun s23 => some true) (fun x23 => some x23))

def laws_eqIntSS (a0 : List (List Int)) (a1 : List (List Int)) : Option Bool :=
  (bif (!((len a0) == (len a1))) then some false else bdR (forL (S := Unit) (X := Bool) a0 (fun i23 y22 s23 => bd (ix a1 ((i23 : Nat) : Int)) (fun x80 => bd (PF.laws_eqIntS y22 x80) (fun r84 => (bif (!r84) then some (Lp.rt false) else some (Lp.nx ()))))) ()) (fun s23 => some true) (fun x23 => some x23))

def laws_eqCnf (a0 : Cnf) (a1 : Cnf) : Option Bool :=
  (bif (!(a0.vars == a1.vars)) then some false else bd (PF.laws_eqIntSS a0.clauses a1.clauses) (fun r38 => (bif (!r38) then some false else some true)))

def laws_eqResStep (a0 : ResStep) (a1 : ResStep) : Option Bool :=
  bd (PF.laws_eqIntS a0.clause a1.clause) (fun r37 => (bif (!r37) then some false else (bif (!(a0.left == a1.left)) then some false else (bif (!(a0.right == a1.right)) then some false else (bif (!(a0.pivot == a1.pivot)) then some false else some true)))))

def laws_eqResStepS (a0 : List ResStep) (a1 : List ResStep) : Option Bool :=
  (bif (!((len a0) == (len a1))) then some false else bdR (forL (S := Unit) (X := Bool) a0 (fun i23 y22 s23 => bd (ix a1 ((i23 : Nat) : Int)) (fun x80 => bd (PF.laws_eqResStep y22 x80) (fun r84 => (bif (!r84) then some (Lp.rt false) else some (Lp.nx ()))))) ()) (fun s23 => some true) (fun x23 => some x23))

def laws_eqTerm (a0 : Term) (a1 : Term) : Bool :=
  (bif (!(a0.mono == a1.mono)) then false else (bif (!(a0.coeff == a1.coeff)) then false else true))

def laws_eqTermS (a0 : List Term) (a1 : List Term) : Option Bool :=
  (bif (!((len a0) == (len a1))) then some false else bdR (forL (S := Unit) (X := Bool) a0 (fun i23 y22 s23 => bd (ix a1 ((i23 : Nat) : Int)) (fun x72 => (bif (!(PF.laws_eqTerm y22 x72)) then some (Lp.rt false) else some (Lp.nx ())))) ()) (fun s23 => some true) (fun x23 => some x23))

def laws_eqPcStep (a0 : PcStep) (a1 : PcStep) : Option Bool :=
  (bif (!(a0.kind == a1.kind)) then some false else bd (PF.laws_eqTermS a0.poly a1.poly) (fun r38 => (bif (!r38) then some false else (bif (!(a0.a == a1.a)) then some false else (bif (!(a0.b == a1.b)) then some false else (bif (!(a0.x == a1.x)) then some false else (bif (!(a0.y == a1.y)) then some false else some true)))))))

def laws_eqPcStepS (a0 : List PcStep) (a1 : List PcStep) : Option Bool :=
  (bif (!((len a0) == (len a1))) then some false else bdR (forL (S := Unit) (X := Bool) a0 (fun i23 y22 s23 => bd (ix a1 ((i23 : Nat) : Int)) (fun x80 => bd (PF.laws_eqPcStep y22 x80) (fun r84 => (bif (!r84) then some (Lp.rt false) else some (Lp.nx ()))))) ()) (fun s23 => some true) (fun x23 => some x23))

noncomputable def laws_FnExactIsTranslationOf (a0 : Int) (a1 : Cnf) (a2 : List ResStep) (a3 : List PcStep) : Option Bool :=
  bd (PF.laws_szCnf a1 1048576) (fun r29 => (bif (decide (r29 < 0)) then some true else bd (PF.laws_szResStepS a2 r29) (fun r36 => (bif (decide (r36 < 0)) then some true else bd (PF.laws_szPcStepS a3 r36) (fun r43 => (bif (decide (r43 < 0)) then some true else bd (PF.laws_toCnf a1) (fun r50 => bd (PF.laws_toResStepS a2) (fun r62 => bd (PF.laws_toPcStepS a3) (fun r81 => bd (PF.spec_IsTranslationOf a0 r50 r62 r81) (fun r100 => bd (PF.laws_toCnf a1) (fun r106 => bd (PF.laws_toResStepS a2) (fun r130 => bd (PF.laws_toPcStepS a3) (fun r149 => bd (PF.impl_IsTranslationOf a0 r106 r130 r149) (fun r168 => (bif (bif (!(r168.1 == r100.1)) then true else (!(r168.2 == r100.2))) then some false else bd (PF.laws_toCnf a1) (fun r9189 => bd (PF.laws_eqCnf r106 r9189) (fun r12189 => (bif (!r12189) then some false else bd (PF.laws_toResStepS a2) (fun r21201 => bd (PF.laws_eqResStepS r130 r21201) (fun r21220 => (bif (!r21220) then some false else bd (PF.laws_toPcStepS a3) (fun r21227 => bd (PF.laws_eqPcStepS r149 r21227) (fun r21246 => (bif (!r21246) then some false else some true))))))))))))))))))))))))

end Go.PF
