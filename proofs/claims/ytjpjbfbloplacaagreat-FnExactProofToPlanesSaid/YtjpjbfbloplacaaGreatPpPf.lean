/- Part of the walks and plain laws behind the claim: it proves helpers, under no condition beyond their own. -/
import Derived.Test.YtjpjbfbloplacaaGreatPl1
set_option linter.unusedVariables false
namespace Go.PF
open Go.Pu

structure Cnf where
  vars : Int
  clauses : List (List Int)
def okCnf (s : Cnf) : Prop := okI s.vars ∧ (okL (okL okI)) s.clauses

structure ResStep where
  clause : List Int
  left : Int
  right : Int
  pivot : Int
def okResStep (s : ResStep) : Prop := (okL okI) s.clause ∧ okI s.left ∧ okI s.right ∧ okI s.pivot

structure Term where
  mono : Int
  coeff : Int
def okTerm (s : Term) : Prop := okI s.mono ∧ okI s.coeff

structure PcStep where
  kind : Int
  poly : List Term
  a : Int
  b : Int
  x : Int
  y : Int
def okPcStep (s : PcStep) : Prop := okI s.kind ∧ (okL okTerm) s.poly ∧ okI s.a ∧ okI s.b ∧ okI s.x ∧ okI s.y

structure ring where
  p : Int
  vars : Int
def okring (s : ring) : Prop := okI s.p ∧ okI s.vars

structure algebra where
  ring : ring
  f : Cnf
  q : List (List Int)
def okalgebra (s : algebra) : Prop := okring s.ring ∧ okCnf s.f ∧ (okL (okL okI)) s.q

structure Inequality where
  coeffs : List Int
  bound : Int
def okInequality (s : Inequality) : Prop := (okL okI) s.coeffs ∧ okI s.bound

structure PlaneStep where
  ineq : Inequality
  kind : Int
  a : Int
  b : Int
  k : Int
def okPlaneStep (s : PlaneStep) : Prop := okInequality s.ineq ∧ okI s.kind ∧ okI s.a ∧ okI s.b ∧ okI s.k

structure planer where
  vars : Int
  steps : List PlaneStep
def okplaner (s : planer) : Prop := okI s.vars ∧ (okL okPlaneStep) s.steps

structure echelon where
  ring : ring
  rows : List (List Int)
  made : List (List Int)
  many : Int
def okechelon (s : echelon) : Prop := okring s.ring ∧ (okL (okL okI)) s.rows ∧ (okL (okL okI)) s.made ∧ okI s.many

structure l21Work where
  pc : List PcStep
  to : List Int
def okl21Work (s : l21Work) : Prop := (okL okPcStep) s.pc ∧ (okL okI) s.to

structure translator where
  algebra : algebra
  steps : List PcStep
  polys : List (List Int)
  at_ : List Int
def oktranslator (s : translator) : Prop := okT s.algebra ∧ (okL okPcStep) s.steps ∧ (okL (okL okI)) s.polys ∧ (okL okI) s.at_

def laws_szIntS (a0 : List Int) (a1 : Int) : Int :=
  (bif (decide ((wr (a1 - (len a0))) < 0)) then (-1) else (wr (a1 - (len a0))))

def laws_szIntSS (a0 : List (List Int)) (a1 : Int) : Option Int :=
  (bif (decide ((wr (a1 - (len a0))) < 0)) then some (-1) else bdR (forL (S := Int) (X := Int) a0 (fun i23 y22 s23 => (bif (decide ((PF.laws_szIntS y22 s23) < 0)) then some (Lp.rt (-1)) else some (Lp.nx (PF.laws_szIntS y22 s23)))) (wr (a1 - (len a0)))) (fun s23 => some s23) (fun x23 => some x23))

def laws_szCnf (a0 : Cnf) (a1 : Int) : Option Int :=
  bd (PF.laws_szIntSS a0.clauses a1) (fun r29 => (bif (decide (r29 < 0)) then some (-1) else some r29))

def laws_szResStep (a0 : ResStep) (a1 : Int) : Int :=
  (bif (decide ((PF.laws_szIntS a0.clause a1) < 0)) then (-1) else (PF.laws_szIntS a0.clause a1))

def laws_szResStepS (a0 : List ResStep) (a1 : Int) : Option Int :=
  (bif (decide ((wr (a1 - (len a0))) < 0)) then some (-1) else bdR (forL (S := Int) (X := Int) a0 (fun i23 y22 s23 => (bif (decide ((PF.laws_szResStep y22 s23) < 0)) then some (Lp.rt (-1)) else some (Lp.nx (PF.laws_szResStep y22 s23)))) (wr (a1 - (len a0)))) (fun s23 => some s23) (fun x23 => some x23))

def laws_toIntS (a0 : List Int) : Option (List Int) :=
  bd (mk2 (0 : Int) (len a0) (len a0)) (fun xs21 => bdR (forL (S := (List Int)) (X := Empty) a0 (fun i32 y31 s32 => bd (ix s32 ((i32 : Nat) : Int)) (fun x117 => bd (put s32 ((i32 : Nat) : Int) y31) (fun xs122 => some (Lp.nx xs122)))) xs21) (fun s32 => some s32) (fun x32 => nomatch x32))

def laws_toIntSS (a0 : List (List Int)) : Option (List (List Int)) :=
  bd (mk2 ([] : List Int) (len a0) (len a0)) (fun xs21 => bdR (forL (S := (List (List Int))) (X := Empty) a0 (fun i33 y32 s33 => bd (PF.laws_toIntS y32) (fun r155 => bd (ix s33 ((i33 : Nat) : Int)) (fun x171 => bd (put s33 ((i33 : Nat) : Int) r155) (fun xs183 => some (Lp.nx xs183))))) xs21) (fun s33 => some s33) (fun x33 => nomatch x33))

def laws_toCnf (a0 : Cnf) : Option Cnf :=
  bd (PF.laws_toIntSS a0.clauses) (fun r40 => some (Cnf.mk a0.vars r40))

def laws_toResStep (a0 : ResStep) : Option ResStep :=
  bd (PF.laws_toIntS a0.clause) (fun r37 => some (ResStep.mk r37 a0.left a0.right a0.pivot))

def laws_toResStepS (a0 : List ResStep) : Option (List ResStep) :=
  bd (mk2 ((ResStep.mk [] 0 0 0) : ResStep) (len a0) (len a0)) (fun xs21 => bdR (forL (S := (List ResStep)) (X := Empty) a0 (fun i33 y32 s33 => bd (PF.laws_toResStep y32) (fun r143 => bd (ix s33 ((i33 : Nat) : Int)) (fun x158 => bd (put s33 ((i33 : Nat) : Int) r143) (fun xs165 => some (Lp.nx xs165))))) xs21) (fun s33 => some s33) (fun x33 => nomatch x33))

def spec_l1In (a0 : Int) (a1 : Int) (a2 : Int) : Bool :=
  (bif (decide (a1 ≤ a0)) then (decide (a0 ≤ a2)) else false)

def spec_l2Vars (a0 : Int) : Bool :=
  (PF.spec_l1In a0 0 12)

def spec_l2Lit (a0 : Int) (a1 : Int) : Bool :=
  (bif (PF.spec_l1In a1 (wr (-a0)) a0) then (!(a1 == 0)) else false)

def spec_l2Var (a0 : Int) : Int :=
  (bif (decide (a0 < 0)) then (wr (-a0)) else a0)

def spec_l2Clause (a0 : Int) (a1 : List Int) : Option Bool :=
  (bif (!(PF.spec_l2Vars a0)) then some false else bdR (forL (S := Unit) (X := Bool) a1 (fun i26 y25 s26 => bd (bif (!(PF.spec_l2Lit a0 y25)) then some true else bd (bif (decide (0 < ((i26 : Nat) : Int))) then bd (ix a1 (wr (((i26 : Nat) : Int) - 1))) (fun x226 => some (decide ((PF.spec_l2Var y25) ≤ (PF.spec_l2Var x226)))) else some false) (fun t213 => some t213)) (fun t192 => (bif t192 then some (Lp.rt false) else some (Lp.nx ())))) ()) (fun s26 => some true) (fun x26 => some x26))

noncomputable def spec_l2Good (a0 : Cnf) : Option Bool :=
  (bif (bif (!(PF.spec_l2Vars a0.vars)) then true else (decide (60 < (len a0.clauses)))) then some false else bdR (iter (S := Int) (X := Bool) (fun s42 => (bif (decide (s42 < (len a0.clauses))) then bd (ix a0.clauses s42) (fun x83 => bd (PF.spec_l2Clause a0.vars x83) (fun r87 => (bif (!r87) then some (Lp.rt false) else some (Lp.nx (wr (s42 + 1)))))) else some (Lp.bk s42))) 0) (fun s42 => some true) (fun x42 => some x42))

noncomputable def spec_l7Asked (a0 : Cnf) (a1 : List ResStep) : Option Bool :=
  bd (bif (decide ((len a1) ≤ 200)) then bd (PF.spec_l2Good a0) (fun r41 => some r41) else some false) (fun t34 => some t34)

def spec_l1Same (a0 : List Int) (a1 : List Int) : Option Bool :=
  (bif (!((len a0) == (len a1))) then some false else bdR (forL (S := Unit) (X := Bool) a0 (fun i23 y22 s23 => bd (ix a1 ((i23 : Nat) : Int)) (fun x72 => (bif (!(y22 == x72)) then some (Lp.rt false) else some (Lp.nx ())))) ()) (fun s23 => some true) (fun x23 => some x23))

def spec_l7Clause (a0 : Cnf) (a1 : List ResStep) (a2 : Int) (a3 : Int) : Option Bool :=
  bd (bif (PF.spec_l1In a3 0 (wr (a2 - 1))) then bd (ix a1 a3) (fun x55 => bd (PF.spec_l2Clause a0.vars x55.clause) (fun r59 => some r59)) else some false) (fun t42 => some t42)

def spec_l1Has (a0 : List Int) (a1 : Int) : Option Bool :=
  bdR (forL (S := Unit) (X := Bool) a0 (fun i22 y21 s22 => (bif (y21 == a1) then some (Lp.rt true) else some (Lp.nx ()))) ()) (fun s22 => some false) (fun x22 => some x22)

def spec_l2Has (a0 : List Int) (a1 : Int) : Option Bool :=
  bd (PF.spec_l1Has a0 a1) (fun r21 => some r21)

def spec_l2Sub (a0 : List Int) (a1 : List Int) : Option Bool :=
  bdR (forL (S := Unit) (X := Bool) a0 (fun i22 y21 s22 => bd (PF.spec_l2Has a1 y21) (fun r57 => (bif (!r57) then some (Lp.rt false) else some (Lp.nx ())))) ()) (fun s22 => some true) (fun x22 => some x22)

def spec_l2Without (a0 : List Int) (a1 : Int) : Option (List Int) :=
  bdR (forL (S := (List Int)) (X := Empty) a0 (fun i27 y26 s27 => (bif (!((PF.spec_l2Var y26) == a1)) then bd (app s27 [y26]) (fun xs103 => some (Lp.nx xs103)) else some (Lp.nx s27))) []) (fun s27 => some s27) (fun x27 => nomatch x27)

def spec_l1Own (a0 : List Int) : Option (List Int) :=
  bd (app [] a0) (fun xs26 => some xs26)

noncomputable def spec_l2Put (a0 : List Int) (a1 : Int) : Option (List Int) :=
  bdR (iter (S := Int) (X := Empty) (fun s21 => bd (bif (decide (s21 < (len a0))) then bd (ix a0 s21) (fun x105 => some (decide ((PF.spec_l2Var x105) < (PF.spec_l2Var a1)))) else some false) (fun t92 => (bif t92 then some (Lp.nx (wr (s21 + 1))) else some (Lp.bk s21)))) 0) (fun s21 => bd (cut a0 0 s21) (fun xs9127 => bd (PF.spec_l1Own xs9127) (fun r12127 => bd (app r12127 [a1]) (fun xs21127 => bd (cut a0 s21 (len a0)) (fun xs30127 => bd (app xs21127 xs30127) (fun xs33127 => some xs33127)))))) (fun x21 => nomatch x21)

noncomputable def spec_l2Join (a0 : List Int) (a1 : List Int) : Option ((List Int) × Bool) :=
  bd (PF.spec_l1Own a0) (fun r21 => bdR (forL (S := (List Int)) (X := ((List Int) × Bool)) a1 (fun i32 y31 s32 => bd (PF.spec_l2Has s32 (wr (-y31))) (fun r200 => (bif r200 then some (Lp.rt ([], false)) else bd (PF.spec_l2Has s32 y31) (fun r222 => (bif (!r222) then bd (PF.spec_l2Put s32 y31) (fun r239 => some (Lp.nx r239)) else some (Lp.nx s32)))))) r21) (fun s32 => some (s32, true)) (fun x32 => some x32))

noncomputable def spec_l2Resolve (a0 : List Int) (a1 : List Int) (a2 : Int) : Option ((List Int) × Bool) :=
  bd (PF.spec_l2Has a0 a2) (fun r21 => bd (bif (!r21) then some true else bd (PF.spec_l2Has a1 (wr (-a2))) (fun r38 => some (!r38))) (fun t31 => (bif t31 then some ([], false) else bd (PF.spec_l2Without a0 a2) (fun r53 => bd (PF.spec_l2Without a1 a2) (fun r63 => bd (PF.spec_l2Join r53 r63) (fun r83 => some (r83.1, r83.2)))))))

noncomputable def spec_l7Correct (a0 : Cnf) (a1 : List ResStep) (a2 : Int) : Option Bool :=
  bd (ix a1 a2) (fun x35 => bd (PF.spec_l2Clause a0.vars x35.clause) (fun r50 => (bif (!r50) then some false else (bif (x35.left == (-1)) then bd (bif (bif (x35.pivot == 0) then (PF.spec_l1In x35.right 0 (wr ((len a0.clauses) - 1))) else false) then bd (ix a0.clauses x35.right) (fun x93 => bd (PF.spec_l1Same x93 x35.clause) (fun r97 => some r97)) else some false) (fun t80 => some t80) else bd (PF.spec_l7Clause a0 a1 a2 x35.left) (fun r103 => (bif (!r103) then some false else (bif (x35.right == (-1)) then bd (bif (x35.pivot == 0) then bd (ix a1 x35.left) (fun x136 => bd (PF.spec_l2Sub x136.clause x35.clause) (fun r140 => some r140)) else some false) (fun t123 => some t123) else bd (PF.spec_l7Clause a0 a1 a2 x35.right) (fun r146 => (bif (bif (!r146) then true else (!(PF.spec_l1In x35.pivot 1 a0.vars))) then some false else bd (ix a1 x35.left) (fun x12174 => bd (ix a1 x35.right) (fun x30174 => bd (PF.spec_l2Resolve x12174.clause x30174.clause x35.pivot) (fun r45168 => bd (bif r45168.2 then bd (PF.spec_l1Same r45168.1 x35.clause) (fun r66203 => some r66203) else some false) (fun t66191 => some t66191)))))))))))))

noncomputable def spec_l7Wrong (a0 : Cnf) (a1 : List ResStep) : Option Int :=
  bdR (forL (S := Unit) (X := Int) a1 (fun i30 y29 s30 => bd (PF.spec_l7Correct a0 a1 ((i30 : Nat) : Int)) (fun r53 => (bif (!r53) then some (Lp.rt ((i30 : Nat) : Int)) else some (Lp.nx ())))) ()) (fun s30 => some (-1)) (fun x30 => some x30)

noncomputable def spec_l7Good (a0 : Cnf) (a1 : List ResStep) : Option Bool :=
  bd (PF.spec_l7Asked a0 a1) (fun r29 => bd (bif r29 then bd (PF.spec_l7Wrong a0 a1) (fun r46 => some (decide (r46 < 0))) else some false) (fun t39 => some t39))

noncomputable def spec_l8Takes (a0 : Cnf) (a1 : List ResStep) : Option Bool :=
  bd (bif (decide (0 < (len a1))) then bd (PF.spec_l7Good a0 a1) (fun r41 => some r41) else some false) (fun t34 => some t34)

def spec_l8Axiom (a0 : ResStep) : Bool :=
  (decide (a0.left < 0))

def spec_l16OfClause (a0 : Int) (a1 : List Int) : Option Inequality :=
  bd (mk2 (0 : Int) a0 a0) (fun xs25 => bdR (forL (S := ((List Int) × Int)) (X := Empty) a1 (fun i43 y42 s43 => (bif (decide (0 < y42)) then bd (ix s43.1 (wr (y42 - 1))) (fun x162160 => bd (put s43.1 (wr (y42 - 1)) 1) (fun xs165157 => some (Lp.nx (xs165157, s43.2)))) else bd (ix s43.1 (wr ((wr (-y42)) - 1))) (fun x198174 => bd (put s43.1 (wr ((wr (-y42)) - 1)) (-1)) (fun xs201171 => some (Lp.nx (xs201171, (wr (s43.2 - 1)))))))) (xs25, 1)) (fun s43 => some (Inequality.mk s43.1 s43.2)) (fun x43 => nomatch x43))

def spec_l17Add (a0 : List PlaneStep) (a1 : Int) (a2 : Int) (a3 : Int) (a4 : Int) (a5 : Inequality) : Option (List PlaneStep) :=
  bd (app a0 [(PlaneStep.mk a5 a1 a2 a3 a4)]) (fun xs34 => some xs34)

def spec_l8Resolvent (a0 : ResStep) : Bool :=
  (bif (decide (0 ≤ a0.left)) then (decide (0 ≤ a0.right)) else false)

def spec_l17Extra (a0 : List Int) (a1 : List Int) : Option (List Int) :=
  bdR (forL (S := (List Int)) (X := Empty) a0 (fun i27 y26 s27 => bd (PF.spec_l2Has a1 y26) (fun r90 => (bif (!r90) then bd (app s27 [y26]) (fun xs107 => some (Lp.nx xs107)) else some (Lp.nx s27)))) []) (fun s27 => some s27) (fun x27 => nomatch x27)

def spec_l16Single (a0 : Int) (a1 : Int) (a2 : Int) (a3 : Int) : Option Inequality :=
  bd (mk2 (0 : Int) a0 a0) (fun xs25 => bd (ix xs25 (wr (a1 - 1))) (fun x48 => bd (put xs25 (wr (a1 - 1)) a2) (fun xs53 => some (Inequality.mk xs53 a3))))

def spec_l17Literal (a0 : Int) (a1 : Int) : Option Inequality :=
  (bif (decide (0 < a1)) then bd (PF.spec_l16Single a0 a1 1 0) (fun r26 => some r26) else bd (PF.spec_l16Single a0 (wr (-a1)) (-1) (-1)) (fun r38 => some r38))

noncomputable def spec_l16Add (a0 : Inequality) (a1 : Inequality) : Option Inequality :=
  bdR (iter (S := ((List Int) × Int × Int)) (X := Empty) (fun s54 => (bif (decide (s54.2.2 < (len a0.coeffs))) then bd (ix a0.coeffs s54.2.2) (fun x132126 => bd (ix a1.coeffs s54.2.2) (fun x147126 => bd (app s54.1 [(wr (x132126 + x147126))]) (fun xs159120 => some (Lp.nx (xs159120, s54.2.1, (wr (s54.2.2 + 1))))))) else some (Lp.bk (s54.1, s54.2.1, s54.2.2)))) ([], (wr (a0.bound + a1.bound)), 0)) (fun s54 => some (Inequality.mk s54.1 s54.2.1)) (fun x54 => nomatch x54)

def spec_l17Single (a0 : List Int) (a1 : List Int) (a2 : List Int) : Option (List Int) :=
  bdR (forL (S := (List Int)) (X := Empty) a0 (fun i27 y26 s27 => bd (PF.spec_l2Has a1 y26) (fun r102 => bd (PF.spec_l2Has a2 y26) (fun r110 => (bif (!(r102 == r110)) then bd (app s27 [y26]) (fun xs127 => some (Lp.nx xs127)) else some (Lp.nx s27))))) []) (fun s27 => some s27) (fun x27 => nomatch x27)

def spec_l16Up (a0 : Int) (a1 : Int) : Option Int :=
  (bif (decide (0 < a0)) then bd (nz a1) (fun u23 => some (wr ((wr ((wr (a0 + a1)) - 1)).tdiv a1))) else bd (nz a1) (fun u25 => some (wr (-(wr ((wr (-a0)).tdiv a1))))))

noncomputable def spec_l16Divide (a0 : Inequality) (a1 : Int) : Option (Inequality × Bool) :=
  bd (PF.spec_l16Up a0.bound a1) (fun r35 => bdR (iter (S := ((List Int) × Int × Int)) (X := (Inequality × Bool)) (fun s51 => (bif (decide (s51.2.2 < (len a0.coeffs))) then bd (ix a0.coeffs s51.2.2) (fun x90165 => bd (nz a1) (fun u90168 => (bif (!((x90165.tmod a1) == 0)) then some (Lp.rt ((Inequality.mk [] 0), false)) else bd (ix a0.coeffs s51.2.2) (fun x108186 => bd (nz a1) (fun u117181 => bd (app s51.1 [(wr (x108186.tdiv a1))]) (fun xs123180 => some (Lp.nx (xs123180, s51.2.1, (wr (s51.2.2 + 1)))))))))) else some (Lp.bk (s51.1, s51.2.1, s51.2.2)))) ([], r35, 0)) (fun s51 => some ((Inequality.mk s51.1 s51.2.1), true)) (fun x51 => some x51))

noncomputable def spec_l17Planes (a0 : Cnf) (a1 : List ResStep) : Option ((List PlaneStep) × (List Int)) :=
  bdR (iter (S := ((List Int) × (List PlaneStep) × Int)) (X := Empty) (fun s39 => (bif (bif (decide (s39.2.2 < (len a1))) then (decide ((len s39.2.1) ≤ 400)) else false) then bd (ix a1 s39.2.2) (fun x300281 => (bif (PF.spec_l8Axiom x300281) then bd (PF.spec_l16OfClause a0.vars x300281.clause) (fun r324300 => bd (PF.spec_l17Add s39.2.1 1 x300281.right 0 0 r324300) (fun r327300 => bd (app s39.1 [(wr ((len r327300) - 1))]) (fun xs336320 => some (Lp.nx (xs336320, r327300, (wr (s39.2.2 + 1))))))) else (bif (!(PF.spec_l8Resolvent x300281)) then bd (ix s39.1 x300281.left) (fun x357341 => bd (ix a1 x300281.left) (fun x378341 => bd (PF.spec_l17Extra x300281.clause x378341.clause) (fun r387335 => bd (β := _) (bdR (iter (S := ((List PlaneStep) × Int × Int)) (X := Empty) (fun s507423 => (bif (decide (s507423.2.2 < (len r387335))) then bd (ix r387335 s507423.2.2) (fun x624506 => (bif (decide (x624506 < 0)) then bd (ix r387335 s507423.2.2) (fun x639515 => bd (ix r387335 s507423.2.2) (fun x657515 => bd (PF.spec_l17Literal a0.vars x657515) (fun r663509 => bd (PF.spec_l17Add s507423.1 3 (PF.spec_l2Var x639515) 0 0 r663509) (fun r666509 => bd (ix r666509 s507423.2.1) (fun x699530 => bd (ix r666509 (wr ((len r666509) - 1))) (fun x720530 => bd (PF.spec_l16Add x699530.ineq x720530.ineq) (fun r729524 => bd (PF.spec_l17Add r666509 4 s507423.2.1 (wr ((len r666509) - 1)) 0 r729524) (fun r732524 => some (Lp.nx (r732524, (wr ((len r732524) - 1)), (wr (s507423.2.2 + 1)))))))))))) else bd (ix r387335 s507423.2.2) (fun x756544 => bd (ix r387335 s507423.2.2) (fun x774544 => bd (PF.spec_l17Literal a0.vars x774544) (fun r780538 => bd (PF.spec_l17Add s507423.1 2 (PF.spec_l2Var x756544) 0 0 r780538) (fun r783538 => bd (ix r783538 s507423.2.1) (fun x816559 => bd (ix r783538 (wr ((len r783538) - 1))) (fun x837559 => bd (PF.spec_l16Add x816559.ineq x837559.ineq) (fun r846553 => bd (PF.spec_l17Add r783538 4 s507423.2.1 (wr ((len r783538) - 1)) 0 r846553) (fun r849553 => some (Lp.nx (r849553, (wr ((len r849553) - 1)), (wr (s507423.2.2 + 1)))))))))))))) else some (Lp.bk (s507423.1, s507423.2.1, s507423.2.2)))) (s39.2.1, x357341, 0)) (fun s507423 => some (s507423.1, s507423.2.1)) (fun x507423 => nomatch x507423) : Option ((List PlaneStep) × Int)) (fun s507418 => bd (app s39.1 [s507418.2]) (fun xs411356 => some (Lp.nx (xs411356, s507418.1, (wr (s39.2.2 + 1))))))))) else bd (ix s39.1 x300281.left) (fun x426373 => bd (ix s39.1 x300281.right) (fun x441373 => bd (ix s39.1 x300281.left) (fun x459373 => bd (ix s39.2.1 x459373) (fun x465373 => bd (ix s39.1 x300281.right) (fun x486373 => bd (ix s39.2.1 x486373) (fun x492373 => bd (PF.spec_l16Add x465373.ineq x492373.ineq) (fun r501367 => bd (PF.spec_l17Add s39.2.1 4 x426373 x441373 0 r501367) (fun r504367 => bd (ix a1 x300281.left) (fun x549389 => bd (ix a1 x300281.right) (fun x567389 => bd (PF.spec_l17Single x300281.clause x549389.clause x567389.clause) (fun r576383 => bd (β := _) (bdR (iter (S := ((List PlaneStep) × Int × Int)) (X := Empty) (fun s696471 => (bif (decide (s696471.2.2 < (len r576383))) then bd (ix r576383 s696471.2.2) (fun x813554 => (bif (decide (x813554 < 0)) then bd (ix r576383 s696471.2.2) (fun x828563 => bd (ix r576383 s696471.2.2) (fun x846563 => bd (PF.spec_l17Literal a0.vars x846563) (fun r852557 => bd (PF.spec_l17Add s696471.1 3 (PF.spec_l2Var x828563) 0 0 r852557) (fun r855557 => bd (ix r855557 s696471.2.1) (fun x888578 => bd (ix r855557 (wr ((len r855557) - 1))) (fun x909578 => bd (PF.spec_l16Add x888578.ineq x909578.ineq) (fun r918572 => bd (PF.spec_l17Add r855557 4 s696471.2.1 (wr ((len r855557) - 1)) 0 r918572) (fun r921572 => some (Lp.nx (r921572, (wr ((len r921572) - 1)), (wr (s696471.2.2 + 1)))))))))))) else bd (ix r576383 s696471.2.2) (fun x945592 => bd (ix r576383 s696471.2.2) (fun x963592 => bd (PF.spec_l17Literal a0.vars x963592) (fun r969586 => bd (PF.spec_l17Add s696471.1 2 (PF.spec_l2Var x945592) 0 0 r969586) (fun r972586 => bd (ix r972586 s696471.2.1) (fun x1005607 => bd (ix r972586 (wr ((len r972586) - 1))) (fun x1026607 => bd (PF.spec_l16Add x1005607.ineq x1026607.ineq) (fun r1035601 => bd (PF.spec_l17Add r972586 4 s696471.2.1 (wr ((len r972586) - 1)) 0 r1035601) (fun r1038601 => some (Lp.nx (r1038601, (wr ((len r1038601) - 1)), (wr (s696471.2.2 + 1)))))))))))))) else some (Lp.bk (s696471.1, s696471.2.1, s696471.2.2)))) (r504367, (wr ((len r504367) - 1)), 0)) (fun s696471 => some (s696471.1, s696471.2.1)) (fun x696471 => nomatch x696471) : Option ((List PlaneStep) × Int)) (fun s696466 => bd (ix s696466.1 s696466.2) (fun x600405 => bd (PF.spec_l16Divide x600405.ineq 2) (fun r600409 => bd (PF.spec_l17Add s696466.1 6 s696466.2 0 2 r600409.1) (fun r600431 => bd (app s39.1 [(wr ((len r600431) - 1))]) (fun xs600447 => some (Lp.nx (xs600447, r600431, (wr (s39.2.2 + 1))))))))))))))))))))))) else some (Lp.bk (s39.1, s39.2.1, s39.2.2)))) ([], [], 0)) (fun s39 => some (s39.2.1, s39.1)) (fun x39 => nomatch x39)

noncomputable def spec_ProofToPlanes (a0 : Cnf) (a1 : List ResStep) : Option ((List PlaneStep) × Bool) :=
  bd (PF.spec_l8Takes a0 a1) (fun r29 => (bif (!r29) then some ([], false) else bd (PF.spec_l17Planes a0 a1) (fun r40 => (bif (decide (400 < (len r40.1))) then some ([], false) else bd (ix r40.2 (wr ((len r40.2) - 1))) (fun x66 => bd (cut r40.1 0 (wr (x66 + 1))) (fun xs68 => some (xs68, true)))))))

def impl_within (a0 : Int) (a1 : Int) (a2 : Int) : Bool :=
  (bif (decide (a1 ≤ a0)) then (decide (a0 ≤ a2)) else false)

def impl_isLiteral (a0 : Int) (a1 : Int) : Bool :=
  (bif (!(a1 == 0)) then (PF.impl_within a1 (wr (-a0)) a0) else false)

def impl_abs (a0 : Int) : Int :=
  (mx a0 (wr (-a0)))

def impl_varsOk (a0 : Int) : Bool :=
  (PF.impl_within a0 0 12)

def impl_IsClause (a0 : Int) (a1 : List Int) : Option Bool :=
  bdR (forL (S := Unit) (X := Bool) a1 (fun i22 y21 s22 => bd (bif (!(PF.impl_isLiteral a0 y21)) then some true else bd (bif (decide (0 < ((i22 : Nat) : Int))) then bd (ix a1 (wr (((i22 : Nat) : Int) - 1))) (fun x192 => some (decide ((PF.impl_abs y21) ≤ (PF.impl_abs x192)))) else some false) (fun t179 => some t179)) (fun t164 => (bif t164 then some (Lp.rt false) else some (Lp.nx ())))) ()) (fun s22 => some (PF.impl_varsOk a0)) (fun x22 => some x22)

def impl_IsCnf (a0 : Cnf) : Option Bool :=
  bdR (forL (S := Unit) (X := Bool) a0.clauses (fun i30 y29 s30 => bd (PF.impl_IsClause a0.vars y29) (fun r71 => (bif (!r71) then some (Lp.rt false) else some (Lp.nx ())))) ()) (fun s30 => some (bif (PF.impl_varsOk a0.vars) then (decide ((len a0.clauses) ≤ 60)) else false)) (fun x30 => some x30)

def slices_Equal_int_int (a0 : List Int) (a1 : List Int) : Option Bool :=
  (bif (!((len a0) == (len a1))) then some false else bdR (forL (S := Unit) (X := Bool) a0 (fun i23 y22 s23 => bd (ix a1 ((i23 : Nat) : Int)) (fun x74 => (bif (!(y22 == x74)) then some (Lp.rt false) else some (Lp.nx ())))) ()) (fun s23 => some true) (fun x23 => some x23))

def impl_earlier (a0 : Cnf) (a1 : List ResStep) (a2 : Int) (a3 : Int) : Option ((List Int) × Bool) :=
  bd (bif (!(PF.impl_within a3 0 (wr (a2 - 1)))) then some true else bd (ix a1 a3) (fun x55 => bd (PF.impl_IsClause a0.vars x55.clause) (fun r59 => some (!r59)))) (fun t42 => (bif t42 then some ([], false) else bd (ix a1 a3) (fun x74 => some (x74.clause, true))))

def slices_IndexFunc_int_int (a0 : List Int) (a1 : Int → Option Bool) : Option Int :=
  bdR (forL (S := Unit) (X := Int) a0 (fun i22 y21 s22 => bd (a1 y21) (fun r64 => (bif r64 then some (Lp.rt ((i22 : Nat) : Int)) else some (Lp.nx ())))) ()) (fun s22 => some (-1)) (fun x22 => some x22)

def slices_ContainsFunc_int_int (a0 : List Int) (a1 : Int → Option Bool) : Option Bool :=
  bd (PF.slices_IndexFunc_int_int a0 a1) (fun r21 => some (decide (0 ≤ r21)))

def slices_Index_int_int (a0 : List Int) (a1 : Int) : Option Int :=
  bdR (forL (S := Unit) (X := Int) a0 (fun i22 y21 s22 => (bif (a1 == y21) then some (Lp.rt ((i22 : Nat) : Int)) else some (Lp.nx ()))) ()) (fun s22 => some (-1)) (fun x22 => some x22)

def slices_Contains_int_int (a0 : List Int) (a1 : Int) : Option Bool :=
  bd (PF.slices_Index_int_int a0 a1) (fun r21 => some (decide (0 ≤ r21)))

def impl_part_1 (a0 : Int) (b0 : List Int) : Option Bool :=
  bd (PF.slices_Contains_int_int b0 a0) (fun r21 => some (!r21))

def impl_part (a0 : List Int) (a1 : List Int) : Option Bool :=
  bd (PF.slices_ContainsFunc_int_int a0 (fun x0 => PF.impl_part_1 x0 a1)) (fun r29 => some (!r29))

def impl_isVar (a0 : Int) (a1 : Int) : Bool :=
  (PF.impl_within a1 1 a0)

def slices_Clone_int_int (a0 : List Int) : Option (List Int) :=
  bd (app [] a0) (fun xs30 => some xs30)

noncomputable def slices_DeleteFunc_int_int (a0 : List Int) (a1 : Int → Option Bool) : Option (List Int) :=
  bd (PF.slices_IndexFunc_int_int a0 a1) (fun r26 => (bif (r26 == (-1)) then some a0 else bdR (iter (S := ((List Int) × Int × Int)) (X := Empty) (fun s32 => (bif (decide (s32.2.2 < (len s32.1))) then bd (ix s32.1 s32.2.2) (fun x141 => bd (a1 x141) (fun r143 => (bif (!r143) then bd (ix s32.1 s32.2.1) (fun x160 => bd (put s32.1 s32.2.1 x141) (fun xs165 => some (Lp.nx (xs165, (wr (s32.2.1 + 1)), (wr (s32.2.2 + 1)))))) else some (Lp.nx (s32.1, s32.2.1, (wr (s32.2.2 + 1))))))) else some (Lp.bk (s32.1, s32.2.1, s32.2.2)))) (a0, r26, (wr (r26 + 1)))) (fun s32 => bd (cut s32.1 s32.2.1 (len s32.1)) (fun xs178 => bd (cut (clearL 0 s32.1 s32.2.1) 0 s32.2.1) (fun xs188 => some xs188))) (fun x32 => nomatch x32)))

def impl_withoutVar_1 (a0 : Int) (b0 : Int) : Bool :=
  ((PF.impl_abs a0) == b0)

noncomputable def impl_withoutVar (a0 : List Int) (a1 : Int) : Option (List Int) :=
  bd (PF.slices_Clone_int_int a0) (fun r29 => bd (PF.slices_DeleteFunc_int_int r29 (fun x0 => some (PF.impl_withoutVar_1 x0 a1))) (fun r39 => some r39))

def slices_Grow_int_int (a1 : Int) : Option (List Int) := if 0 ≤ a1 ∧ a1 ≤ lim then some [] else none

def slices_Concat_int_int (a0 : List (List Int)) : Option (List Int) :=
  bdR (forL (S := Int) (X := Empty) a0 (fun i22 y21 s22 => (bif (decide ((wr (s22 + (len y21))) < 0)) then none else some (Lp.nx (wr (s22 + (len y21)))))) 0) (fun s22 => bd (PF.slices_Grow_int_int s22) (fun r69 => bdR (forL (S := (List Int)) (X := Empty) a0 (fun i80 y79 s80 => bd (app s80 y79) (fun xs129 => some (Lp.nx xs129))) r69) (fun s80 => some s80) (fun x80 => nomatch x80))) (fun x22 => nomatch x22)

noncomputable def slices_SortFunc_int_int (a0 : List Int) (a1 : Int → Int → Option Int) : Option (List Int) := sortF a1 a0

def cmp_isNaN_int (a0 : Int) : Bool :=
  (!(a0 == a0))

def cmp_Compare_int (a0 : Int) (a1 : Int) : Int :=
  (bif (PF.cmp_isNaN_int a0) then (bif (PF.cmp_isNaN_int a1) then 0 else (-1)) else (bif (PF.cmp_isNaN_int a1) then 1 else (bif (decide (a0 < a1)) then (-1) else (bif (decide (a1 < a0)) then 1 else 0))))

def cmp_Or_int (a0 : List Int) : Option Int :=
  bdR (forL (S := Unit) (X := Int) a0 (fun i22 y21 s22 => (bif (!(y21 == 0)) then some (Lp.rt y21) else some (Lp.nx ()))) ()) (fun s22 => some 0) (fun x22 => some x22)

def impl_compareLiterals (a0 : Int) (a1 : Int) : Option Int :=
  bd (PF.cmp_Or_int [(PF.cmp_Compare_int (PF.impl_abs a0) (PF.impl_abs a1)), (PF.cmp_Compare_int a1 a0)]) (fun r43 => some r43)

def slices_Compact_int_int (a0 : List Int) : Option (List Int) := some (compactL a0)

noncomputable def impl_clause (a0 : List Int) : Option ((List Int) × Bool) :=
  bd (PF.slices_Clone_int_int a0) (fun r21 => bd (PF.slices_SortFunc_int_int r21 (fun x0 x1 => PF.impl_compareLiterals x0 x1)) (fun r31 => bd (PF.slices_Compact_int_int r31) (fun r39 => bdR (iter (S := Int) (X := ((List Int) × Bool)) (fun s49 => (bif (decide (s49 < (len r39))) then bd (ix r39 s49) (fun x94 => bd (ix r39 (wr (s49 - 1))) (fun x102 => (bif (x94 == (wr (-x102))) then some (Lp.rt ([], false)) else some (Lp.nx (wr (s49 + 1)))))) else some (Lp.bk s49))) 1) (fun s49 => some (r39, true)) (fun x49 => some x49))))

noncomputable def impl_resolve (a0 : List Int) (a1 : List Int) (a2 : Int) : Option ((List Int) × Bool) :=
  bd (PF.slices_Contains_int_int a0 a2) (fun r21 => bd (bif (!r21) then some true else bd (PF.slices_Contains_int_int a1 (wr (-a2))) (fun r38 => some (!r38))) (fun t31 => (bif t31 then some ([], false) else bd (PF.impl_withoutVar a0 a2) (fun r48 => bd (PF.impl_withoutVar a1 a2) (fun r58 => bd (PF.slices_Concat_int_int [r48, r58]) (fun r88 => bd (PF.impl_clause r88) (fun r105 => some (r105.1, r105.2))))))))

noncomputable def impl_correct (a0 : Cnf) (a1 : List ResStep) (a2 : Int) : Option Bool :=
  bd (ix a1 a2) (fun x35 => bd (PF.impl_IsClause a0.vars x35.clause) (fun r50 => (bif (!r50) then some false else (bif (x35.left == (-1)) then bd (bif (bif (x35.pivot == 0) then (PF.impl_within x35.right 0 (wr ((len a0.clauses) - 1))) else false) then bd (ix a0.clauses x35.right) (fun x93 => bd (PF.slices_Equal_int_int x93 x35.clause) (fun r97 => some r97)) else some false) (fun t80 => some t80) else bd (PF.impl_earlier a0 a1 a2 x35.left) (fun r103 => (bif (!r103.2) then some false else (bif (x35.right == (-1)) then bd (bif (x35.pivot == 0) then bd (PF.impl_part r103.1 x35.clause) (fun r125 => some r125) else some false) (fun t118 => some t118) else bd (PF.impl_earlier a0 a1 a2 x35.right) (fun r131 => (bif (bif (!r131.2) then true else (!(PF.impl_isVar a0.vars x35.pivot))) then some false else bd (PF.impl_resolve r103.1 r131.1 x35.pivot) (fun r157 => bd (bif r157.2 then bd (PF.slices_Equal_int_int r157.1 x35.clause) (fun r189 => some r189) else some false) (fun t177 => some t177)))))))))))

noncomputable def impl_firstWrong (a0 : Cnf) (a1 : List ResStep) : Option Int :=
  bdR (forL (S := Unit) (X := Int) a1 (fun i30 y29 s30 => bd (PF.impl_correct a0 a1 ((i30 : Nat) : Int)) (fun r55 => (bif (!r55) then some (Lp.rt ((i30 : Nat) : Int)) else some (Lp.nx ())))) ()) (fun s30 => some (-1)) (fun x30 => some x30)

noncomputable def impl_IsDerivation (a0 : Cnf) (a1 : List ResStep) : Option Bool :=
  bd (PF.impl_IsCnf a0) (fun r29 => bd (bif (bif r29 then (decide ((len a1) ≤ 200)) else false) then bd (PF.impl_firstWrong a0 a1) (fun r56 => some (decide (r56 < 0))) else some false) (fun t49 => some t49))

noncomputable def impl_isProof (a0 : Cnf) (a1 : List ResStep) : Option Bool :=
  bd (PF.impl_IsDerivation a0 a1) (fun r29 => some (bif r29 then (decide (0 < (len a1))) else false))

def impl_ResStep_isAxiom (a0 : ResStep) : Bool :=
  (decide (a0.left < 0))

def impl_planeOf (a0 : Int) (a1 : List Int) : Option Inequality :=
  bd (mk2 (0 : Int) a0 a0) (fun xs27 => bdR (forL (S := ((List Int) × Int)) (X := Empty) a1 (fun i47 y46 s47 => (bif (decide (0 < y46)) then bd (ix s47.1 (wr (y46 - 1))) (fun x179 => bd (put s47.1 (wr (y46 - 1)) 1) (fun xs184 => some (Lp.nx (xs184, s47.2)))) else bd (ix s47.1 (wr ((wr (-y46)) - 1))) (fun x195 => bd (put s47.1 (wr ((wr (-y46)) - 1)) (-1)) (fun xs200 => some (Lp.nx (xs200, (wr (s47.2 - 1)))))))) (xs27, 1)) (fun s47 => some (Inequality.mk s47.1 s47.2)) (fun x47 => nomatch x47))

def impl_ResStep_isWeakening (a0 : ResStep) : Bool :=
  (bif (decide (0 ≤ a0.left)) then (decide (a0.right < 0)) else false)

def impl_further_1 (a0 : Int) (b0 : List Int) : Option Bool :=
  bd (PF.slices_Contains_int_int b0 a0) (fun r21 => some r21)

noncomputable def impl_further (a0 : List Int) (a1 : List Int) : Option (List Int) :=
  bd (PF.slices_Clone_int_int a0) (fun r29 => bd (PF.slices_DeleteFunc_int_int r29 (fun x0 => PF.impl_further_1 x0 a1)) (fun r39 => some r39))

def impl_varPlane (a0 : Int) (a1 : Int) (a2 : Int) (a3 : Int) : Option Inequality :=
  bd (mk2 (0 : Int) a0 a0) (fun xs27 => bd (ix xs27 (wr (a1 - 1))) (fun x52 => bd (put xs27 (wr (a1 - 1)) a2) (fun xs57 => some (Inequality.mk xs57 a3))))

def impl_planeOfLiteral (a0 : Int) (a1 : Int) : Option Inequality :=
  (bif (decide (0 < a1)) then bd (PF.impl_varPlane a0 a1 1 0) (fun r28 => some r28) else bd (PF.impl_varPlane a0 (wr (-a1)) (-1) (-1)) (fun r40 => some r40))

def impl_combined (a0 : Inequality) (a1 : Inequality) (a2 : Int → Int → Option Int) : Option Inequality :=
  bd (a2 a0.bound a1.bound) (fun r43 => bdR (forL (S := ((List Int) × Int)) (X := Empty) a0.coeffs (fun i65 y64 s65 => bd (ix a1.coeffs ((i65 : Nat) : Int)) (fun x120162 => bd (a2 y64 x120162) (fun r126156 => bd (app s65.1 [r126156]) (fun xs132156 => some (Lp.nx (xs132156, s65.2)))))) ([], r43)) (fun s65 => some (Inequality.mk s65.1 s65.2)) (fun x65 => nomatch x65))

def impl_addPlanes_1 (a0 : Int) (a1 : Int) : Int :=
  (wr (a0 + a1))

def impl_addPlanes (a0 : Inequality) (a1 : Inequality) : Option Inequality :=
  bd (PF.impl_combined a0 a1 (fun x0 x1 => some (PF.impl_addPlanes_1 x0 x1))) (fun r43 => some r43)

def impl_planer_add (a0 : planer) (a1 : Int) (a2 : Int) : Option (Int × planer) :=
  bd (ix a0.steps a1) (fun x21027 => bd (ix a0.steps a2) (fun x45027 => bd (PF.impl_addPlanes x21027.ineq x45027.ineq) (fun r54021 => bd (β := _) (bd (app a0.steps [(PlaneStep.mk r54021 4 a1 a2 0)]) (fun xs129054 => some (xs129054, a0.vars, (wr ((len xs129054) - 1)))) : Option ((List PlaneStep) × Int × Int)) (fun s105040 => some (s105040.2.2, (planer.mk s105040.2.1 s105040.1))))))

def impl_planer_literals (a0 : planer) (a1 : Int) (a2 : List Int) : Option (Int × planer) :=
  bdR (forL (S := ((List PlaneStep) × Int × Int)) (X := Empty) a2 (fun i22 y21 s22 => (bif (decide (y21 < 0)) then bd (PF.impl_planeOfLiteral s22.2.1 y21) (fun r117259 => bd (β := _) (bd (app s22.1 [(PlaneStep.mk r117259 3 (PF.impl_abs y21) 0 0)]) (fun xs180304 => some (xs180304, s22.2.1, (wr ((len xs180304) - 1)))) : Option ((List PlaneStep) × Int × Int)) (fun s156290 => bd (PF.impl_planer_add (planer.mk s156290.2.1 s156290.1) s22.2.2 s156290.2.2) (fun r195321 => some (Lp.nx (r195321.2.steps, r195321.2.vars, r195321.1))))) else bd (PF.impl_planeOfLiteral s22.2.1 y21) (fun r195334 => bd (β := _) (bd (app s22.1 [(PlaneStep.mk r195334 2 (PF.impl_abs y21) 0 0)]) (fun xs258379 => some (xs258379, s22.2.1, (wr ((len xs258379) - 1)))) : Option ((List PlaneStep) × Int × Int)) (fun s234365 => bd (PF.impl_planer_add (planer.mk s234365.2.1 s234365.1) s22.2.2 s234365.2.2) (fun r273396 => some (Lp.nx (r273396.2.steps, r273396.2.vars, r273396.1))))))) (a0.steps, a0.vars, a1)) (fun s22 => some (s22.2.2, (planer.mk s22.2.1 s22.1))) (fun x22 => nomatch x22)

def impl_inOne_1 (a0 : Int) (b0 : List Int) (b1 : List Int) : Option Bool :=
  bd (PF.slices_Contains_int_int b0 a0) (fun r22 => bd (PF.slices_Contains_int_int b1 a0) (fun r24 => some (r22 == r24)))

noncomputable def impl_inOne (a0 : List Int) (a1 : List Int) (a2 : List Int) : Option (List Int) :=
  bd (PF.slices_Clone_int_int a0) (fun r37 => bd (PF.slices_DeleteFunc_int_int r37 (fun x0 => PF.impl_inOne_1 x0 a1 a2)) (fun r47 => some r47))

def impl_dividePlane_1 (a0 : Int) (b0 : Int) : Option Bool :=
  bd (nz b0) (fun u22 => some (!((a0.tmod b0) == 0)))

def impl_divideUp (a0 : Int) (a1 : Int) : Option Int :=
  bd (nz a1) (fun u22 => bd (nz a1) (fun u24 => (bif (decide (0 < (a0.tmod a1))) then some (wr ((wr (a0.tdiv a1)) + 1)) else some (wr (a0.tdiv a1)))))

def impl_dividePlane_2 (a0 : Int) (a1 : Int) (b0 : Int) : Option Int :=
  bd (PF.impl_divideUp a0 b0) (fun r21 => some r21)

def impl_dividePlane (a0 : Inequality) (a1 : Int) : Option (Inequality × Bool) :=
  bd (PF.slices_ContainsFunc_int_int a0.coeffs (fun x0 => PF.impl_dividePlane_1 x0 a1)) (fun r43 => (bif r43 then some ((Inequality.mk [] 0), false) else bd (PF.impl_combined a0 a0 (fun x0 x1 => PF.impl_dividePlane_2 x0 x1 a1)) (fun r59 => some (r59, true))))

def impl_planer_divide (a0 : planer) (a1 : Int) (a2 : Int) : Option (Int × planer) :=
  bd (ix a0.steps a1) (fun x27 => bd (PF.impl_dividePlane x27.ineq a2) (fun r31 => bd (β := _) (bd (app a0.steps [(PlaneStep.mk r31.1 6 a1 0 a2)]) (fun xs63086 => some (xs63086, a0.vars, (wr ((len xs63086) - 1)))) : Option ((List PlaneStep) × Int × Int)) (fun s39072 => some (s39072.2.2, (planer.mk s39072.2.1 s39072.1)))))

def impl_last_int (a0 : List Int) : Option Int :=
  bd (ix a0 (wr ((len a0) - 1))) (fun x27 => some x27)

noncomputable def impl_ProofToPlanes (a0 : Cnf) (a1 : List ResStep) : Option ((List PlaneStep) × Bool) :=
  bd (PF.impl_isProof a0 a1) (fun r29 => (bif (!r29) then some ([], false) else bd (mk2 (0 : Int) (len a1) (len a1)) (fun xs41 => bdR (forL (S := ((List Int) × (List PlaneStep) × Int)) (X := ((List PlaneStep) × Bool)) a1 (fun i52 y51 s52 => bdR (S := ((List Int) × (List PlaneStep) × Int)) (X := Empty) ((bif (PF.impl_ResStep_isAxiom y51) then bd (β := _) (bd (ix a0.clauses y51.right) (fun x798608 => bd (PF.impl_planeOf s52.2.2 x798608) (fun r804602 => bd (β := _) (bd (app s52.2.1 [(PlaneStep.mk r804602 1 y51.right 0 0)]) (fun xs876635 => some (xs876635, s52.2.2, (wr ((len xs876635) - 1)))) : Option ((List PlaneStep) × Int × Int)) (fun s852621 => some (s852621.1, s852621.2.1, s852621.2.2)))) : Option ((List PlaneStep) × Int × Int)) (fun s771588 => bd (ix s52.1 ((i52 : Nat) : Int)) (fun x822625 => bd (put s52.1 ((i52 : Nat) : Int) s771588.2.2) (fun xs822630 => some (Rs.go (xs822630, s771588.1, s771588.2.1))))) else (bif (PF.impl_ResStep_isWeakening y51) then bd (ix s52.1 y51.left) (fun x843645 => bd (ix a1 y51.left) (fun x864645 => bd (PF.impl_further y51.clause x864645.clause) (fun r873639 => bd (PF.impl_planer_literals (planer.mk s52.2.2 s52.2.1) x843645 r873639) (fun r876644 => bd (ix s52.1 ((i52 : Nat) : Int)) (fun x879645 => bd (put s52.1 ((i52 : Nat) : Int) r876644.1) (fun xs882642 => some (Rs.go (xs882642, r876644.2.steps, r876644.2.vars)))))))) else bd (ix s52.1 y51.left) (fun x903667 => bd (ix s52.1 y51.right) (fun x918667 => bd (PF.impl_planer_add (planer.mk s52.2.2 s52.2.1) x903667 x918667) (fun r924661 => bd (ix a1 y51.left) (fun x966688 => bd (ix a1 y51.right) (fun x984688 => bd (PF.impl_inOne y51.clause x966688.clause x984688.clause) (fun r993682 => bd (PF.impl_planer_literals r924661.2 r924661.1 r993682) (fun r996687 => bd (PF.impl_planer_divide r996687.2 r996687.1 2) (fun r999682 => bd (ix s52.1 ((i52 : Nat) : Int)) (fun x1002688 => bd (put s52.1 ((i52 : Nat) : Int) r999682.1) (fun xs1005685 => some (Rs.go (xs1005685, r999682.2.steps, r999682.2.vars))))))))))))))) (fun s720553 => (bif (decide (400 < (len s720553.2.1))) then some (Lp.rt ([], false)) else some (Lp.nx (s720553.1, s720553.2.1, s720553.2.2)))) (fun x720555 => nomatch x720555)) (xs41, [], a0.vars)) (fun s52 => bd (PF.impl_last_int s52.1) (fun r1029731 => bd (cut s52.2.1 0 (wr (r1029731 + 1))) (fun xs1035726 => some (xs1035726, true)))) (fun x52 => some x52))))

def laws_eqIntS (a0 : List Int) (a1 : List Int) : Option Bool :=
  (bif (!((len a0) == (len a1))) then some false else bdR (forL (S := Unit) (X := Bool) a0 (fun i23 y22 s23 => bd (ix a1 ((i23 : Nat) : Int)) (fun x72 => (bif (!(y22 == x72)) then some (Lp.rt false) else some (Lp.nx ())))) ()) (fun s23 => some true) (fun x23 => some x23))

def laws_eqInequality (a0 : Inequality) (a1 : Inequality) : Option Bool :=
  bd (PF.laws_eqIntS a0.coeffs a1.coeffs) (fun r37 => (bif (!r37) then some false else (bif (!(a0.bound == a1.bound)) then some false else some true)))

def laws_eqPlaneStep (a0 : PlaneStep) (a1 : PlaneStep) : Option Bool :=
  bd (PF.laws_eqInequality a0.ineq a1.ineq) (fun r37 => (bif (!r37) then some false else (bif (!(a0.kind == a1.kind)) then some false else (bif (!(a0.a == a1.a)) then some false else (bif (!(a0.b == a1.b)) then some false else (bif (!(a0.k == a1.k)) then some false else some true))))))

def laws_eqPlaneStepS (a0 : List PlaneStep) (a1 : List PlaneStep) : Option Bool :=
  (bif (!((len a0) == (len a1))) then some false else bdR (forL (S := Unit) (X := Bool) a0 (fun i23 y22 s23 => bd (ix a1 ((i23 : Nat) : Int)) (fun x80 => bd (PF.laws_eqPlaneStep y22 x80) (fun r84 => (bif (!r84) then some (Lp.rt false) else some (Lp.nx ()))))) ()) (fun s23 => some true) (fun x23 => some x23))

def laws_eqIntSS (a0 : List (List Int)) (a1 : List (List Int)) : Option Bool :=
  (bif (!((len a0) == (len a1))) then some false else bdR (forL (S := Unit) (X := Bool) a0 (fun i23 y22 s23 => bd (ix a1 ((i23 : Nat) : Int)) (fun x80 => bd (PF.laws_eqIntS y22 x80) (fun r84 => (bif (!r84) then some (Lp.rt false) else some (Lp.nx ()))))) ()) (fun s23 => some true) (fun x23 => some x23))

def laws_eqCnf (a0 : Cnf) (a1 : Cnf) : Option Bool :=
  (bif (!(a0.vars == a1.vars)) then some false else bd (PF.laws_eqIntSS a0.clauses a1.clauses) (fun r38 => (bif (!r38) then some false else some true)))

def laws_eqResStep (a0 : ResStep) (a1 : ResStep) : Option Bool :=
  bd (PF.laws_eqIntS a0.clause a1.clause) (fun r37 => (bif (!r37) then some false else (bif (!(a0.left == a1.left)) then some false else (bif (!(a0.right == a1.right)) then some false else (bif (!(a0.pivot == a1.pivot)) then some false else some true)))))

def laws_eqResStepS (a0 : List ResStep) (a1 : List ResStep) : Option Bool :=
  (bif (!((len a0) == (len a1))) then some false else bdR (forL (S := Unit) (X := Bool) a0 (fun i23 y22 s23 => bd (ix a1 ((i23 : Nat) : Int)) (fun x80 => bd (PF.laws_eqResStep y22 x80) (fun r84 => (bif (!r84) then some (Lp.rt false) else some (Lp.nx ()))))) ()) (fun s23 => some true) (fun x23 => some x23))

def laws_markIntS (a0 : List Int) (a1 : Int) : List Int × Int :=
  markFrom (fun y m => (m, (wr (m + 1)))) a0 a1

def laws_markIntSS (a0 : List (List Int)) (a1 : Int) : List (List Int) × Int :=
  markFrom (fun y m => ((PF.laws_markIntS y m).1, (PF.laws_markIntS y m).2)) a0 a1

def laws_markCnf (a0 : Cnf) (a1 : Int) : Cnf × Int :=
  let r := PF.laws_markIntSS a0.clauses a1
  ((Cnf.mk a0.vars r.1), r.2)

def laws_markResStepS (a0 : List ResStep) (a1 : Int) : List ResStep × Int :=
  markFrom (fun y m => ((ResStep.mk ((PF.laws_markIntS y.clause m).1) ((PF.laws_markIntS y.clause m).2) (wr ((PF.laws_markIntS y.clause m).2 + 1)) (wr ((wr ((PF.laws_markIntS y.clause m).2 + 1)) + 1))), (wr ((wr ((wr ((PF.laws_markIntS y.clause m).2 + 1)) + 1)) + 1)))) a0 a1

def laws_markPlaneStepS (a0 : List PlaneStep) (a1 : Int) : List PlaneStep × Int :=
  markFrom (fun y m => ((PlaneStep.mk (Inequality.mk ((PF.laws_markIntS y.ineq.coeffs m).1) ((PF.laws_markIntS y.ineq.coeffs m).2)) (wr ((PF.laws_markIntS y.ineq.coeffs m).2 + 1)) (wr ((wr ((PF.laws_markIntS y.ineq.coeffs m).2 + 1)) + 1)) (wr ((wr ((wr ((PF.laws_markIntS y.ineq.coeffs m).2 + 1)) + 1)) + 1)) (wr ((wr ((wr ((wr ((PF.laws_markIntS y.ineq.coeffs m).2 + 1)) + 1)) + 1)) + 1))), (wr ((wr ((wr ((wr ((wr ((PF.laws_markIntS y.ineq.coeffs m).2 + 1)) + 1)) + 1)) + 1)) + 1)))) a0 a1

def laws_heldIntS (a0 : List Int) (a1 : Int) : Option Int :=
  bdR (forL (S := Int) (X := Int) a0 (fun i22 y21 s22 => (bif (!(y21 == s22)) then some (Lp.rt (-1)) else some (Lp.nx (wr (s22 + 1))))) a1) (fun s22 => some s22) (fun x22 => some x22)

def laws_heldPlaneStepS (a0 : List PlaneStep) (a1 : Int) : Option Int :=
  bdR (forL (S := Int) (X := Int) a0 (fun i22 y21 s22 => bd (PF.laws_heldIntS y21.ineq.coeffs s22) (fun r106 => (bif (decide (r106 < 0)) then some (Lp.rt (-1)) else (bif (!(y21.ineq.bound == r106)) then some (Lp.rt (-1)) else (bif (!(y21.kind == (wr (r106 + 1)))) then some (Lp.rt (-1)) else (bif (!(y21.a == (wr ((wr (r106 + 1)) + 1)))) then some (Lp.rt (-1)) else (bif (!(y21.b == (wr ((wr ((wr (r106 + 1)) + 1)) + 1)))) then some (Lp.rt (-1)) else (bif (!(y21.k == (wr ((wr ((wr ((wr (r106 + 1)) + 1)) + 1)) + 1)))) then some (Lp.rt (-1)) else some (Lp.nx (wr ((wr ((wr ((wr ((wr (r106 + 1)) + 1)) + 1)) + 1)) + 1))))))))))) a1) (fun s22 => some s22) (fun x22 => some x22)

noncomputable def laws_FnExactProofToPlanes (a0 : Cnf) (a1 : List ResStep) : Option Bool :=
  bd (PF.laws_szCnf a0 1048576) (fun r29 => (bif (decide (r29 < 0)) then some true else bd (PF.laws_szResStepS a1 r29) (fun r36 => (bif (decide (r36 < 0)) then some true else bd (PF.laws_toCnf a0) (fun r43 => bd (PF.laws_toResStepS a1) (fun r55 => bd (PF.spec_ProofToPlanes r43 r55) (fun r74 => bd (PF.laws_toCnf a0) (fun r90 => bd (PF.laws_toResStepS a1) (fun r114 => bd (PF.impl_ProofToPlanes r90 r114) (fun r133 => bd (PF.laws_eqPlaneStepS r133.1 r74.1) (fun r152 => (bif (bif (!r152) then true else (!(r133.2 == r74.2))) then some false else bd (PF.laws_toCnf a0) (fun r9175 => bd (PF.laws_eqCnf r90 r9175) (fun r12175 => (bif (!r12175) then some false else bd (PF.laws_toResStepS a1) (fun r21191 => bd (PF.laws_eqResStepS r114 r21191) (fun r21210 => (bif (!r21210) then some false else bd (bif (decide ((PF.laws_markResStepS r114 ((PF.laws_markCnf r90 1).2)).2 < 0)) then some true else bd (PF.laws_eqPlaneStepS r133.1 r74.1) (fun r21262 => some (!r21262))) (fun t21255 => (bif (bif t21255 then true else (!(r133.2 == r74.2))) then some false else bd (PF.laws_heldPlaneStepS ((PF.laws_markPlaneStepS r133.1 1).1) 1) (fun r21300 => (bif (decide (r21300 < 0)) then some false else (bif (!(r21300 == (PF.laws_markPlaneStepS r133.1 1).2)) then some false else bd (PF.laws_toCnf a0) (fun r21308 => bd (PF.laws_toResStepS a1) (fun r21320 => bd (PF.impl_ProofToPlanes r21308 r21320) (fun r21339 => bd (PF.laws_eqPlaneStepS r21339.1 r74.1) (fun r21358 => (bif (bif (!r21358) then true else (!(r21339.2 == r74.2))) then some false else bd (PF.laws_heldPlaneStepS ((PF.laws_markPlaneStepS r133.1 1).1) 1) (fun r21375 => (bif (decide (r21375 < 0)) then some false else (bif (!(r21375 == (PF.laws_markPlaneStepS r133.1 1).2)) then some false else some true)))))))))))))))))))))))))))))))

end Go.PF
