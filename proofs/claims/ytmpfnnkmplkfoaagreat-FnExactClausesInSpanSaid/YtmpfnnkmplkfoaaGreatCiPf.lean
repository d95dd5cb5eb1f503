/- Part of the walks and plain laws behind the claim: it proves helpers, under no condition beyond their own. -/
import Derived.Test.YtmpfnnkmplkfoaaGreatPl1
import Derived.Test.YtmpfnnkmplkfoaaGreatCiPu3
set_option linter.unusedVariables false
namespace Go.PF
open Go.Pu

structure Cnf where
  vars : Int
  clauses : List (List Int)
def okCnf (s : Cnf) : Prop := okI s.vars ∧ (okL (okL okI)) s.clauses

structure ResStep where
  clause : List Int
  left : Int
  right : Int
  pivot : Int
def okResStep (s : ResStep) : Prop := (okL okI) s.clause ∧ okI s.left ∧ okI s.right ∧ okI s.pivot

structure Bench where
  stage : Int
  formula : Cnf
  steps : List ResStep
  wide : Int
  count : Int
def okBench (s : Bench) : Prop := okI s.stage ∧ okCnf s.formula ∧ (okL okResStep) s.steps ∧ okI s.wide ∧ okI s.count

structure l15Work where
  now : List (List Int)
  most : Int
  all : List (List Int)
  ok : Bool
def okl15Work (s : l15Work) : Prop := (okL (okL okI)) s.now ∧ okI s.most ∧ (okL (okL okI)) s.all ∧ okT s.ok

structure SpaceStep where
  kind : Int
  a : Int
  b : Int
  pivot : Int
def okSpaceStep (s : SpaceStep) : Prop := okI s.kind ∧ okI s.a ∧ okI s.b ∧ okI s.pivot

structure TreeNode where
  var : Int
  low : Int
  high : Int
  clause : Int
def okTreeNode (s : TreeNode) : Prop := okI s.var ∧ okI s.low ∧ okI s.high ∧ okI s.clause

structure weaver where
  steps : List ResStep
  became : List Int
def okweaver (s : weaver) : Prop := (okL okResStep) s.steps ∧ (okL okI) s.became

structure grower where
  f : Cnf
  nodes : List TreeNode
  ask : (List Int) → Option Int
def okgrower (s : grower) : Prop := okCnf s.f ∧ (okL okTreeNode) s.nodes ∧ okT s.ask

structure ring where
  p : Int
  vars : Int
def okring (s : ring) : Prop := okI s.p ∧ okI s.vars

structure algebra where
  ring : ring
  f : Cnf
  q : List (List Int)
def okalgebra (s : algebra) : Prop := okring s.ring ∧ okCnf s.f ∧ (okL (okL okI)) s.q

structure Term where
  mono : Int
  coeff : Int
def okTerm (s : Term) : Prop := okI s.mono ∧ okI s.coeff

structure echelon where
  ring : ring
  rows : List (List Int)
  made : List (List Int)
  many : Int
def okechelon (s : echelon) : Prop := okring s.ring ∧ (okL (okL okI)) s.rows ∧ (okL (okL okI)) s.made ∧ okI s.many

def laws_szIntS (a0 : List Int) (a1 : Int) : Int :=
  (bif (decide ((wr (a1 - (len a0))) < 0)) then (-1) else (wr (a1 - (len a0))))

def laws_szIntSS (a0 : List (List Int)) (a1 : Int) : Option Int :=
  (bif (decide ((wr (a1 - (len a0))) < 0)) then some (-1) else bdR (forL (S := Int) (X := Int) a0 (fun i23 y22 s23 => (bif (decide ((PF.laws_szIntS y22 s23) < 0)) then some (Lp.rt (-1)) else some (Lp.nx (PF.laws_szIntS y22 s23)))) (wr (a1 - (len a0)))) (fun s23 => some s23) (fun x23 => some x23))

def laws_szCnf (a0 : Cnf) (a1 : Int) : Option Int :=
  bd (PF.laws_szIntSS a0.clauses a1) (fun r29 => (bif (decide (r29 < 0)) then some (-1) else some r29))

def laws_toIntS (a0 : List Int) : Option (List Int) :=
  bd (mk2 (0 : Int) (len a0) (len a0)) (fun xs21 => bdR (forL (S := (List Int)) (X := Empty) a0 (fun i32 y31 s32 => bd (ix s32 ((i32 : Nat) : Int)) (fun x117 => bd (put s32 ((i32 : Nat) : Int) y31) (fun xs122 => some (Lp.nx xs122)))) xs21) (fun s32 => some s32) (fun x32 => nomatch x32))

def laws_toIntSS (a0 : List (List Int)) : Option (List (List Int)) :=
  bd (mk2 ([] : List Int) (len a0) (len a0)) (fun xs21 => bdR (forL (S := (List (List Int))) (X := Empty) a0 (fun i33 y32 s33 => bd (PF.laws_toIntS y32) (fun r155 => bd (ix s33 ((i33 : Nat) : Int)) (fun x171 => bd (put s33 ((i33 : Nat) : Int) r155) (fun xs183 => some (Lp.nx xs183))))) xs21) (fun s33 => some s33) (fun x33 => nomatch x33))

def laws_toCnf (a0 : Cnf) : Option Cnf :=
  bd (PF.laws_toIntSS a0.clauses) (fun r40 => some (Cnf.mk a0.vars r40))

def spec_l1In (a0 : Int) (a1 : Int) (a2 : Int) : Bool :=
  (bif (decide (a1 ≤ a0)) then (decide (a0 ≤ a2)) else false)

def spec_l18Prime (a0 : Int) (a1 : Int) : Bool :=
  (bif (bif (bif (a0 == 2) then true else (a0 == 3)) then true else (a0 == 5)) then (PF.spec_l1In a1 0 6) else false)

def spec_l2Vars (a0 : Int) : Bool :=
  (PF.spec_l1In a0 0 12)

def spec_l2Lit (a0 : Int) (a1 : Int) : Bool :=
  (bif (PF.spec_l1In a1 (wr (-a0)) a0) then (!(a1 == 0)) else false)

def spec_l2Var (a0 : Int) : Int :=
  (bif (decide (a0 < 0)) then (wr (-a0)) else a0)

def spec_l2Clause (a0 : Int) (a1 : List Int) : Option Bool :=
  (bif (!(PF.spec_l2Vars a0)) then some false else bdR (forL (S := Unit) (X := Bool) a1 (fun i26 y25 s26 => bd (bif (!(PF.spec_l2Lit a0 y25)) then some true else bd (bif (decide (0 < ((i26 : Nat) : Int))) then bd (ix a1 (wr (((i26 : Nat) : Int) - 1))) (fun x226 => some (decide ((PF.spec_l2Var y25) ≤ (PF.spec_l2Var x226)))) else some false) (fun t213 => some t213)) (fun t192 => (bif t192 then some (Lp.rt false) else some (Lp.nx ())))) ()) (fun s26 => some true) (fun x26 => some x26))

noncomputable def spec_l2Good (a0 : Cnf) : Option Bool :=
  (bif (bif (!(PF.spec_l2Vars a0.vars)) then true else (decide (60 < (len a0.clauses)))) then some false else bdR (iter (S := Int) (X := Bool) (fun s42 => (bif (decide (s42 < (len a0.clauses))) then bd (ix a0.clauses s42) (fun x83 => bd (PF.spec_l2Clause a0.vars x83) (fun r87 => (bif (!r87) then some (Lp.rt false) else some (Lp.nx (wr (s42 + 1)))))) else some (Lp.bk s42))) 0) (fun s42 => some true) (fun x42 => some x42))

noncomputable def spec_l20Asked (a0 : Int) (a1 : Cnf) : Option Bool :=
  bd (bif (PF.spec_l18Prime a0 a1.vars) then bd (PF.spec_l2Good a1) (fun r44 => some r44) else some false) (fun t37 => some t37)

def spec_l20Degree (a0 : Int) : Bool :=
  (PF.spec_l1In a0 0 6)

def spec_l18Sparse (a0 : Int) (a1 : List Int) : Option (List Term) :=
  bdR (forL (S := (List Term)) (X := Empty) a1 (fun i27 y26 s27 => bd (nz a0) (fun u82 => (bif (!((y26.tmod a0) == 0)) then bd (app s27 [(Term.mk ((i27 : Nat) : Int) (y26.tmod a0))]) (fun xs89 => some (Lp.nx xs89)) else some (Lp.nx s27)))) []) (fun s27 => some s27) (fun x27 => nomatch x27)

def spec_l18Mul (a0 : Int) (a1 : Int) (a2 : List Term) (a3 : List Term) : Option (List Term) :=
  bd (nn a1) (fun u22 => bd (mk2 (0 : Int) (shlK true 64 1 a1) (shlK true 64 1 a1)) (fun xs23 => bdR (forL (S := (List Int)) (X := Empty) a2 (fun i34 y33 s34 => bdR (forL (S := (List Int)) (X := Empty) a3 (fun i288292 y288291 s288292 => bd (ix s288292 (orK true 64 y33.mono y288291.mono)) (fun x447414 => bd (nz a0) (fun u492409 => bd (ix s288292 (orK true 64 y33.mono y288291.mono)) (fun x495414 => bd (put s288292 (orK true 64 y33.mono y288291.mono) ((wr (x447414 + (wr (y33.coeff * y288291.coeff)))).tmod a0)) (fun xs498411 => some (Lp.nx xs498411)))))) s34) (fun s288292 => some (Lp.nx s288292)) (fun x288292 => nomatch x288292)) xs23) (fun s34 => bd (PF.spec_l18Sparse a0 s34) (fun r504459 => some r504459)) (fun x34 => nomatch x34)))

def spec_l18Clause (a0 : Int) (a1 : Int) (a2 : List Int) : Option (List Term) :=
  bdR (forL (S := (List Term)) (X := Empty) a2 (fun i27 y26 s27 => bd (nn (wr ((PF.spec_l2Var y26) - 1))) (fun u242 => (bif (decide (y26 < 0)) then bd (PF.spec_l18Mul a0 a1 s27 [(Term.mk (shlK true 64 1 (wr ((PF.spec_l2Var y26) - 1))) 1)]) (fun r276 => some (Lp.nx r276)) else bd (PF.spec_l18Mul a0 a1 s27 [(Term.mk 0 1), (Term.mk (shlK true 64 1 (wr ((PF.spec_l2Var y26) - 1))) (wr (a0 - 1)))]) (fun r303 => some (Lp.nx r303))))) [(Term.mk 0 1)]) (fun s27 => some s27) (fun x27 => nomatch x27)

noncomputable def spec_l14Count (a0 : Int) : Option Int :=
  bdR (iter (S := (Int × Int)) (X := Empty) (fun s21 => (bif (decide (0 < s21.1)) then some (Lp.nx ((wr (s21.1.tdiv 2)), (wr (s21.2 + (s21.1.tmod 2))))) else some (Lp.bk (s21.1, s21.2)))) (a0, 0)) (fun s21 => some s21.2) (fun x21 => nomatch x21)

noncomputable def spec_l20Before (a0 : Int) (a1 : Int) : Option Bool :=
  bd (PF.spec_l14Count a0) (fun r21 => bd (PF.spec_l14Count a1) (fun r26 => (bif (!(r21 == r26)) then bd (PF.spec_l14Count a0) (fun r32 => bd (PF.spec_l14Count a1) (fun r37 => some (decide (r32 < r37)))) else some (decide (a0 < a1)))))

noncomputable def spec_l20Lead (a0 : List Term) : Option Int :=
  bd (ix a0 0) (fun x27 => bdR (forR (S := Int) (X := Empty) 1 a0.length (fun i29 s29 => bd (ix a0 ((i29 : Nat) : Int)) (fun x74 => bd (PF.spec_l20Before s29 x74.mono) (fun r76 => (bif r76 then bd (ix a0 ((i29 : Nat) : Int)) (fun x88 => some (Lp.nx x88.mono)) else some (Lp.nx s29))))) x27.mono) (fun s29 => some s29) (fun x29 => nomatch x29))

def spec_l20Coeff (a0 : List Term) (a1 : Int) : Option Int :=
  bdR (forL (S := Unit) (X := Int) a0 (fun i22 y21 s22 => (bif (y21.mono == a1) then some (Lp.rt y21.coeff) else some (Lp.nx ()))) ()) (fun s22 => some 0) (fun x22 => some x22)

def spec_l18Dense (a0 : Int) (a1 : List Term) : Option (List Int) :=
  bd (nn a0) (fun u22 => bd (mk2 (0 : Int) (shlK true 64 1 a0) (shlK true 64 1 a0)) (fun xs23 => bdR (forL (S := (List Int)) (X := Empty) a1 (fun i34 y33 s34 => bd (ix s34 y33.mono) (fun x126093 => bd (put s34 y33.mono y33.coeff) (fun xs129090 => some (Lp.nx xs129090)))) xs23) (fun s34 => some s34) (fun x34 => nomatch x34)))

noncomputable def spec_l18Add (a0 : Int) (a1 : Int) (a2 : List Term) (a3 : List Term) (a4 : Int) : Option (List Term) :=
  bd (PF.spec_l18Dense a1 a2) (fun r21 => bd (PF.spec_l18Dense a1 a3) (fun r31 => bdR (iter (S := ((List Int) × Int)) (X := Empty) (fun s41 => (bif (decide (s41.2 < (len s41.1))) then bd (ix s41.1 s41.2) (fun x117113 => bd (ix r31 s41.2) (fun x132113 => bd (ix s41.1 s41.2) (fun x144113 => bd (put s41.1 s41.2 (wr (x117113 + (wr (a4 * x132113))))) (fun xs147110 => some (Lp.nx (xs147110, (wr (s41.2 + 1)))))))) else some (Lp.bk (s41.1, s41.2)))) (r21, 0)) (fun s41 => bd (PF.spec_l18Sparse a0 s41.1) (fun r153135 => some r153135)) (fun x41 => nomatch x41)))

noncomputable def spec_l20Rest (a0 : Int) (a1 : Int) (a2 : List (List Term)) (a3 : List Term) : Option (List Term) :=
  bdR (iter (S := ((List Term) × Int)) (X := Empty) (fun s21 => (bif (decide (0 ≤ s21.2)) then bd (ix a2 s21.2) (fun x98 => bd (PF.spec_l20Lead x98) (fun r102 => bd (PF.spec_l20Coeff s21.1 r102) (fun r107 => (bif (!(r107 == 0)) then bd (ix a2 s21.2) (fun x119 => bd (PF.spec_l18Add a0 a1 s21.1 x119 (wr (a0 - r107))) (fun r123 => some (Lp.nx (r123, (wr (s21.2 - 1)))))) else some (Lp.nx (s21.1, (wr (s21.2 - 1)))))))) else some (Lp.bk (s21.1, s21.2)))) (a3, (wr ((len a2) - 1)))) (fun s21 => some s21.1) (fun x21 => nomatch x21)

noncomputable def spec_l20Inverse (a0 : Int) (a1 : Int) : Option Int :=
  bdR (iter (S := Int) (X := Empty) (fun s21 => bd (nz a0) (fun u42 => (bif (!(((wr (a1 * s21)).tmod a0) == 1)) then some (Lp.nx (wr (s21 + 1))) else some (Lp.bk s21)))) 1) (fun s21 => some s21) (fun x21 => nomatch x21)

noncomputable def spec_l20Put (a0 : Int) (a1 : Int) (a2 : List (List Term)) (a3 : List Term) : Option ((List (List Term)) × Bool) :=
  bd (PF.spec_l20Rest a0 a1 a2 a3) (fun r21 => (bif ((len r21) == 0) then some (a2, false) else bd (PF.spec_l20Lead r21) (fun r30 => bd (PF.spec_l20Coeff r21 r30) (fun r40 => bd (PF.spec_l20Inverse a0 r40) (fun r45 => bd (PF.spec_l18Add a0 a1 [] r21 r45) (fun r55 => bdR (forL (S := ((List (List Term)) × Bool)) (X := Empty) a2 (fun i78 y72 s78 => bd (bif (!s78.2) then bd (PF.spec_l20Lead y72) (fun r294 => bd (PF.spec_l20Before r30 r294) (fun r299 => some r299)) else some false) (fun t279 => (bif t279 then bd (app s78.1 [r55]) (fun xs320 => bd (PF.spec_l20Coeff y72 r30) (fun r339 => (bif (!(r339 == 0)) then bd (PF.spec_l18Add a0 a1 y72 r55 (wr (a0 - r339))) (fun r345 => bd (app xs320 [r345]) (fun xs366 => some (Lp.nx (xs366, true)))) else bd (app xs320 [y72]) (fun xs382 => some (Lp.nx (xs382, true)))))) else bd (PF.spec_l20Coeff y72 r30) (fun r401 => (bif (!(r401 == 0)) then bd (PF.spec_l18Add a0 a1 y72 r55 (wr (a0 - r401))) (fun r407 => bd (app s78.1 [r407]) (fun xs428 => some (Lp.nx (xs428, s78.2)))) else bd (app s78.1 [y72]) (fun xs444 => some (Lp.nx (xs444, s78.2)))))))) ([], false)) (fun s78 => (bif (!s78.2) then bd (app s78.1 [r55]) (fun xs471 => some (xs471, true)) else some (s78.1, true))) (fun x78 => nomatch x78)))))))

def spec_l1Most (a0 : Int) (a1 : Int) : Int :=
  (bif (decide (a1 < a0)) then a0 else a1)

noncomputable def spec_l18Degree (a0 : List Term) : Option Int :=
  bdR (forL (S := Int) (X := Empty) a0 (fun i22 y21 s22 => bd (PF.spec_l14Count y21.mono) (fun r59 => some (Lp.nx (PF.spec_l1Most s22 r59)))) (-1)) (fun s22 => some s22) (fun x22 => nomatch x22)

def spec_l20Times (a0 : Int) (a1 : Int) (a2 : List Term) (a3 : Int) : Option (List Term) :=
  bd (nn (wr (a3 - 1))) (fun u22 => bd (PF.spec_l18Mul a0 a1 a2 [(Term.mk (shlK true 64 1 (wr (a3 - 1))) 1)]) (fun r33 => some r33))

noncomputable def spec_l20Basis (a0 : Int) (a1 : Cnf) (a2 : Int) : Option (List (List Term)) :=
  bdR (iter (S := ((List (List Term)) × Int)) (X := Empty) (fun s40 => (bif (decide (s40.2 < (len a1.clauses))) then bd (ix a1.clauses s40.2) (fun x60094 => (bif (decide ((len x60094) ≤ a2)) then bd (ix a1.clauses s40.2) (fun x93105 => bd (PF.spec_l18Clause a0 a1.vars x93105) (fun r99099 => bd (PF.spec_l20Put a0 a1.vars s40.1 r99099) (fun r102104 => some (Lp.nx (r102104.1, (wr (s40.2 + 1))))))) else some (Lp.nx (s40.1, (wr (s40.2 + 1)))))) else some (Lp.bk (s40.1, s40.2)))) ([], 0)) (fun s40 => bdR (iter (S := ((List (List Term)) × Bool)) (X := Empty) (fun s120122 => (bif s120122.2 then bd (app [] s120122.1) (fun xs183324 => bdR (iter (S := ((List (List Term)) × Bool × Int)) (X := Empty) (fun s183334 => (bif (decide (s183334.2.2 < (len xs183324))) then bdR (iter (S := ((List (List Term)) × Bool × Int)) (X := Empty) (fun s246482 => bd (bif (decide (s246482.2.2 ≤ a1.vars)) then bd (ix xs183324 s183334.2.2) (fun x309617 => bd (PF.spec_l18Degree x309617) (fun r309621 => some (decide (r309621 < a2)))) else some false) (fun t309604 => (bif t309604 then bd (ix xs183324 s183334.2.2) (fun x339642 => bd (PF.spec_l20Times a0 a1.vars x339642 s246482.2.2) (fun r348636 => bd (PF.spec_l20Put a0 a1.vars s246482.1 r348636) (fun r351641 => some (Lp.nx (r351641.1, (bif s246482.2.1 then true else r351641.2), (wr (s246482.2.2 + 1))))))) else some (Lp.bk (s246482.1, s246482.2.1, s246482.2.2))))) (s183334.1, s183334.2.1, 1)) (fun s246482 => some (Lp.nx (s246482.1, s246482.2.1, (wr (s183334.2.2 + 1))))) (fun x246482 => nomatch x246482) else some (Lp.bk (s183334.1, s183334.2.1, s183334.2.2)))) (s120122.1, false, 0)) (fun s183334 => some (Lp.nx (s183334.1, s183334.2.1))) (fun x183334 => nomatch x183334)) else some (Lp.bk (s120122.1, s120122.2)))) (s40.1, true)) (fun s120122 => some s120122.1) (fun x120122 => nomatch x120122)) (fun x40 => nomatch x40)

noncomputable def spec_l21Power (a0 : Int) : Option Int :=
  bdR (iter (S := (Int × Int)) (X := Empty) (fun s21 => (bif (decide (0 < s21.1)) then some (Lp.nx ((wr (s21.1 - 1)), (wr (s21.2 * 3)))) else some (Lp.bk (s21.1, s21.2)))) (a0, 1)) (fun s21 => some s21.2) (fun x21 => nomatch x21)

def spec_l2Key (a0 : Int) : Int :=
  (bif (decide (a0 < 0)) then (wr ((wr ((-2) * a0)) + 1)) else (wr (2 * a0)))

def spec_l2Before (a0 : List Int) (a1 : List Int) : Option Bool :=
  (bif (!((len a0) == (len a1))) then some (decide ((len a0) < (len a1))) else bdR (forL (S := Unit) (X := Bool) a0 (fun i23 y22 s23 => bd (ix a1 ((i23 : Nat) : Int)) (fun x90 => (bif (!(y22 == x90)) then bd (ix a1 ((i23 : Nat) : Int)) (fun x109 => some (Lp.rt (decide ((PF.spec_l2Key y22) < (PF.spec_l2Key x109))))) else some (Lp.nx ())))) ()) (fun s23 => some false) (fun x23 => some x23))

noncomputable def spec_l2Place (a0 : List (List Int)) (a1 : List Int) : Option Int :=
  bdR (iter (S := (Int × Int)) (X := Empty) (fun s21 => (bif (decide (s21.1 < s21.2)) then bd (ix a0 (wr ((wr (s21.1 + s21.2)).tdiv 2))) (fun x64 => bd (PF.spec_l2Before x64 a1) (fun r68 => (bif r68 then some (Lp.nx ((wr ((wr ((wr (s21.1 + s21.2)).tdiv 2)) + 1)), s21.2)) else some (Lp.nx (s21.1, (wr ((wr (s21.1 + s21.2)).tdiv 2))))))) else some (Lp.bk (s21.1, s21.2)))) (0, (len a0))) (fun s21 => some s21.1) (fun x21 => nomatch x21)

def spec_l1Same (a0 : List Int) (a1 : List Int) : Option Bool :=
  (bif (!((len a0) == (len a1))) then some false else bdR (forL (S := Unit) (X := Bool) a0 (fun i23 y22 s23 => bd (ix a1 ((i23 : Nat) : Int)) (fun x72 => (bif (!(y22 == x72)) then some (Lp.rt false) else some (Lp.nx ())))) ()) (fun s23 => some true) (fun x23 => some x23))

noncomputable def spec_l2Insert (a0 : List (List Int)) (a1 : List Int) : Option (List (List Int)) :=
  bd (PF.spec_l2Place a0 a1) (fun r21 => bd (bif (decide (r21 < (len a0))) then bd (ix a0 r21) (fun x54 => bd (PF.spec_l1Same x54 a1) (fun r58 => some r58)) else some false) (fun t41 => (bif t41 then some a0 else bd (cut a0 0 r21) (fun xs12068 => bd (app [] xs12068) (fun xs15068 => bd (app xs15068 [a1]) (fun xs24068 => bd (cut a0 r21 (len a0)) (fun xs33068 => bd (app xs24068 xs33068) (fun xs36068 => some xs36068))))))))

noncomputable def spec_ClausesInSpan (a0 : Int) (a1 : Cnf) (a2 : Int) : Option ((List (List Int)) × Bool) :=
  bd (PF.spec_l20Asked a0 a1) (fun r34 => (bif (bif (bif (!r34) then true else (!(PF.spec_l20Degree a2))) then true else (decide (5 < a1.vars))) then some ([], false) else bd (PF.spec_l20Basis a0 a1 a2) (fun r76 => bdR (iter (S := ((List (List Int)) × Int)) (X := Empty) (fun s90 => bd (PF.spec_l21Power a1.vars) (fun r60216 => (bif (decide (s90.2 < r60216)) then bdR (iter (S := ((List Int) × Int × Int)) (X := Empty) (fun s60227 => (bif (decide (s60227.2.2 ≤ a1.vars)) then (bif (decide (0 < (s60227.2.1.tmod 3))) then bd (app s60227.1 [(wr (s60227.2.2 * (wr (3 - (wr (2 * (s60227.2.1.tmod 3)))))))]) (fun xs60285 => some (Lp.nx (xs60285, (wr (s60227.2.1.tdiv 3)), (wr (s60227.2.2 + 1))))) else some (Lp.nx (s60227.1, (wr (s60227.2.1.tdiv 3)), (wr (s60227.2.2 + 1))))) else some (Lp.bk (s60227.1, s60227.2.1, s60227.2.2)))) ([], s90.2, 1)) (fun s60227 => bd (bif (decide ((len s60227.1) ≤ a2)) then bd (PF.spec_l18Clause a0 a1.vars s60227.1) (fun r102314 => bd (PF.spec_l20Rest a0 a1.vars r76 r102314) (fun r105314 => some ((len r105314) == 0))) else some false) (fun t60308_17 => (bif t60308_17 then bd (PF.spec_l2Insert s90.1 s60227.1) (fun r120329 => some (Lp.nx (r120329, (wr (s90.2 + 1))))) else some (Lp.nx (s90.1, (wr (s90.2 + 1))))))) (fun x60227 => nomatch x60227) else some (Lp.bk (s90.1, s90.2))))) ([], 0)) (fun s90 => some (s90.1, true)) (fun x90 => nomatch x90))))

def impl_within (a0 : Int) (a1 : Int) (a2 : Int) : Bool :=
  (bif (decide (a1 ≤ a0)) then (decide (a0 ≤ a2)) else false)

def impl_ringOf (a0 : Int) (a1 : Int) : (ring × Bool) :=
  ((ring.mk a0 a1), (bif (bif (bif (a0 == 2) then true else (a0 == 3)) then true else (a0 == 5)) then (PF.impl_within a1 0 6) else false))

def impl_isLiteral (a0 : Int) (a1 : Int) : Bool :=
  (bif (!(a1 == 0)) then (PF.impl_within a1 (wr (-a0)) a0) else false)

def impl_abs (a0 : Int) : Int :=
  (mx a0 (wr (-a0)))

def impl_varsOk (a0 : Int) : Bool :=
  (PF.impl_within a0 0 12)

def impl_IsClause (a0 : Int) (a1 : List Int) : Option Bool :=
  bdR (forL (S := Unit) (X := Bool) a1 (fun i22 y21 s22 => bd (bif (!(PF.impl_isLiteral a0 y21)) then some true else bd (bif (decide (0 < ((i22 : Nat) : Int))) then bd (ix a1 (wr (((i22 : Nat) : Int) - 1))) (fun x192 => some (decide ((PF.impl_abs y21) ≤ (PF.impl_abs x192)))) else some false) (fun t179 => some t179)) (fun t164 => (bif t164 then some (Lp.rt false) else some (Lp.nx ())))) ()) (fun s22 => some (PF.impl_varsOk a0)) (fun x22 => some x22)

def impl_IsCnf (a0 : Cnf) : Option Bool :=
  bdR (forL (S := Unit) (X := Bool) a0.clauses (fun i30 y29 s30 => bd (PF.impl_IsClause a0.vars y29) (fun r71 => (bif (!r71) then some (Lp.rt false) else some (Lp.nx ())))) ()) (fun s30 => some (bif (PF.impl_varsOk a0.vars) then (decide ((len a0.clauses) ≤ 60)) else false)) (fun x30 => some x30)

def impl_ring_zero (a0 : ring) : Option (List Int) :=
  bd (nn a0.vars) (fun u30 => bd (mk2 (0 : Int) (shlK true 64 1 a0.vars) (shlK true 64 1 a0.vars)) (fun xs31 => some xs31))

def impl_ring_mono (a0 : ring) (a1 : Int) : Option (List Int) :=
  bd (PF.impl_ring_zero a0) (fun r29 => bd (ix r29 a1) (fun x45 => bd (put r29 a1 1) (fun xs50 => some xs50)))

def slices_Clone_impl_dense_int (a0 : List Int) : Option (List Int) :=
  bd (app [] a0) (fun xs30 => some xs30)

def impl_ring_plus (a0 : ring) (a1 : List Int) (a2 : List Int) (a3 : Int) : Option (List Int) :=
  bd (PF.slices_Clone_impl_dense_int a1) (fun r29 => bdR (forL (S := (List Int)) (X := Empty) a2 (fun i40 y39 s40 => bd (ix s40 ((i40 : Nat) : Int)) (fun x117132 => bd (nz a0.p) (fun u141127 => bd (ix s40 ((i40 : Nat) : Int)) (fun x144132 => bd (put s40 ((i40 : Nat) : Int) ((wr (x117132 + (wr (a3 * y39)))).tmod a0.p)) (fun xs147129 => some (Lp.nx xs147129)))))) r29) (fun s40 => some s40) (fun x40 => nomatch x40))

def impl_ring_literal (a0 : ring) (a1 : Int) : Option (List Int) :=
  (bif (decide (0 < a1)) then bd (nn (wr (a1 - 1))) (fun u12031 => bd (PF.impl_ring_mono a0 (shlK true 64 1 (wr (a1 - 1)))) (fun r15030 => some r15030)) else bd (PF.impl_ring_mono a0 0) (fun r33041 => bd (nn (wr ((wr (-a1)) - 1))) (fun u48042 => bd (PF.impl_ring_mono a0 (shlK true 64 1 (wr ((wr (-a1)) - 1)))) (fun r51041 => bd (PF.impl_ring_plus a0 r33041 r51041 (wr (a0.p - 1))) (fun r63051 => some r63051)))))

def impl_ring_times (a0 : ring) (a1 : List Int) (a2 : List Int) : Option (List Int) :=
  bd (PF.impl_ring_zero a0) (fun r29 => bdR (forL (S := (List Int)) (X := Empty) a1 (fun i40 y39 s40 => bdR (forL (S := (List Int)) (X := Empty) a2 (fun i252331 y252330 s252331 => bd (ix s252331 (orK true 64 ((i40 : Nat) : Int) ((i252331 : Nat) : Int))) (fun x405448 => bd (nz a0.p) (fun u429443 => bd (ix s252331 (orK true 64 ((i40 : Nat) : Int) ((i252331 : Nat) : Int))) (fun x432448 => bd (put s252331 (orK true 64 ((i40 : Nat) : Int) ((i252331 : Nat) : Int)) ((wr (x405448 + (wr (y39 * y252330)))).tmod a0.p)) (fun xs435445 => some (Lp.nx xs435445)))))) s40) (fun s252331 => some (Lp.nx s252331)) (fun x252331 => nomatch x252331)) r29) (fun s40 => some s40) (fun x40 => nomatch x40))

def impl_ring_clause (a0 : ring) (a1 : List Int) : Option (List Int) :=
  bd (PF.impl_ring_mono a0 0) (fun r29 => bdR (forL (S := (List Int)) (X := Empty) a1 (fun i40 y39 s40 => bd (PF.impl_ring_literal a0 (wr (-y39))) (fun r78125 => bd (PF.impl_ring_times a0 s40 r78125) (fun r81135 => some (Lp.nx r81135)))) r29) (fun s40 => some s40) (fun x40 => nomatch x40))

def impl_algebraOf (a0 : Int) (a1 : Cnf) : Option ((Option algebra) × Bool) :=
  bd (bif (!((PF.impl_ringOf a0 a1.vars).2)) then some true else bd (PF.impl_IsCnf a1) (fun r55 => some (!r55))) (fun t48 => (bif t48 then some (none, false) else bdR (forL (S := ((List (List Int)) × Int × Int × Int × (List (List Int)))) (X := Empty) a1.clauses (fun i71 y70 s71 => bd (PF.impl_ring_clause ((PF.impl_ringOf a0 a1.vars).1) y70) (fun r114167 => bd (app s71.1 [r114167]) (fun xs120167 => some (Lp.nx (xs120167, s71.2.1, s71.2.2.1, s71.2.2.2.1, s71.2.2.2.2))))) ([], ((PF.impl_ringOf a0 a1.vars).1).p, ((PF.impl_ringOf a0 a1.vars).1).vars, a1.vars, a1.clauses)) (fun s71 => some ((some (algebra.mk (ring.mk s71.2.1 s71.2.2.1) (Cnf.mk s71.2.2.2.1 s71.2.2.2.2) s71.1)), true)) (fun x71 => nomatch x71)))

def impl_degreeOk (a0 : Int) : Bool :=
  (PF.impl_within a0 0 6)

def math_bits_OnesCount64 (a0 : Int) : Int :=
  (andK true 64 (wrk true 64 (wrk false 64 ((wrk false 64 ((wrk false 64 ((andK false 64 (wrk false 64 ((shrK 64 (wrk false 64 ((andK false 64 (shrK 64 (wrk false 64 ((andK false 64 (shrK 64 a0 1) 6148914691236517205) + (andK false 64 a0 6148914691236517205))) 2) 3689348814741910323) + (andK false 64 (wrk false 64 ((andK false 64 (shrK 64 a0 1) 6148914691236517205) + (andK false 64 a0 6148914691236517205))) 3689348814741910323))) 4) + (wrk false 64 ((andK false 64 (shrK 64 (wrk false 64 ((andK false 64 (shrK 64 a0 1) 6148914691236517205) + (andK false 64 a0 6148914691236517205))) 2) 3689348814741910323) + (andK false 64 (wrk false 64 ((andK false 64 (shrK 64 a0 1) 6148914691236517205) + (andK false 64 a0 6148914691236517205))) 3689348814741910323))))) 1085102592571150095) + (shrK 64 (andK false 64 (wrk false 64 ((shrK 64 (wrk false 64 ((andK false 64 (shrK 64 (wrk false 64 ((andK false 64 (shrK 64 a0 1) 6148914691236517205) + (andK false 64 a0 6148914691236517205))) 2) 3689348814741910323) + (andK false 64 (wrk false 64 ((andK false 64 (shrK 64 a0 1) 6148914691236517205) + (andK false 64 a0 6148914691236517205))) 3689348814741910323))) 4) + (wrk false 64 ((andK false 64 (shrK 64 (wrk false 64 ((andK false 64 (shrK 64 a0 1) 6148914691236517205) + (andK false 64 a0 6148914691236517205))) 2) 3689348814741910323) + (andK false 64 (wrk false 64 ((andK false 64 (shrK 64 a0 1) 6148914691236517205) + (andK false 64 a0 6148914691236517205))) 3689348814741910323))))) 1085102592571150095) 8))) + (shrK 64 (wrk false 64 ((andK false 64 (wrk false 64 ((shrK 64 (wrk false 64 ((andK false 64 (shrK 64 (wrk false 64 ((andK false 64 (shrK 64 a0 1) 6148914691236517205) + (andK false 64 a0 6148914691236517205))) 2) 3689348814741910323) + (andK false 64 (wrk false 64 ((andK false 64 (shrK 64 a0 1) 6148914691236517205) + (andK false 64 a0 6148914691236517205))) 3689348814741910323))) 4) + (wrk false 64 ((andK false 64 (shrK 64 (wrk false 64 ((andK false 64 (shrK 64 a0 1) 6148914691236517205) + (andK false 64 a0 6148914691236517205))) 2) 3689348814741910323) + (andK false 64 (wrk false 64 ((andK false 64 (shrK 64 a0 1) 6148914691236517205) + (andK false 64 a0 6148914691236517205))) 3689348814741910323))))) 1085102592571150095) + (shrK 64 (andK false 64 (wrk false 64 ((shrK 64 (wrk false 64 ((andK false 64 (shrK 64 (wrk false 64 ((andK false 64 (shrK 64 a0 1) 6148914691236517205) + (andK false 64 a0 6148914691236517205))) 2) 3689348814741910323) + (andK false 64 (wrk false 64 ((andK false 64 (shrK 64 a0 1) 6148914691236517205) + (andK false 64 a0 6148914691236517205))) 3689348814741910323))) 4) + (wrk false 64 ((andK false 64 (shrK 64 (wrk false 64 ((andK false 64 (shrK 64 a0 1) 6148914691236517205) + (andK false 64 a0 6148914691236517205))) 2) 3689348814741910323) + (andK false 64 (wrk false 64 ((andK false 64 (shrK 64 a0 1) 6148914691236517205) + (andK false 64 a0 6148914691236517205))) 3689348814741910323))))) 1085102592571150095) 8))) 16))) + (shrK 64 (wrk false 64 ((wrk false 64 ((andK false 64 (wrk false 64 ((shrK 64 (wrk false 64 ((andK false 64 (shrK 64 (wrk false 64 ((andK false 64 (shrK 64 a0 1) 6148914691236517205) + (andK false 64 a0 6148914691236517205))) 2) 3689348814741910323) + (andK false 64 (wrk false 64 ((andK false 64 (shrK 64 a0 1) 6148914691236517205) + (andK false 64 a0 6148914691236517205))) 3689348814741910323))) 4) + (wrk false 64 ((andK false 64 (shrK 64 (wrk false 64 ((andK false 64 (shrK 64 a0 1) 6148914691236517205) + (andK false 64 a0 6148914691236517205))) 2) 3689348814741910323) + (andK false 64 (wrk false 64 ((andK false 64 (shrK 64 a0 1) 6148914691236517205) + (andK false 64 a0 6148914691236517205))) 3689348814741910323))))) 1085102592571150095) + (shrK 64 (andK false 64 (wrk false 64 ((shrK 64 (wrk false 64 ((andK false 64 (shrK 64 (wrk false 64 ((andK false 64 (shrK 64 a0 1) 6148914691236517205) + (andK false 64 a0 6148914691236517205))) 2) 3689348814741910323) + (andK false 64 (wrk false 64 ((andK false 64 (shrK 64 a0 1) 6148914691236517205) + (andK false 64 a0 6148914691236517205))) 3689348814741910323))) 4) + (wrk false 64 ((andK false 64 (shrK 64 (wrk false 64 ((andK false 64 (shrK 64 a0 1) 6148914691236517205) + (andK false 64 a0 6148914691236517205))) 2) 3689348814741910323) + (andK false 64 (wrk false 64 ((andK false 64 (shrK 64 a0 1) 6148914691236517205) + (andK false 64 a0 6148914691236517205))) 3689348814741910323))))) 1085102592571150095) 8))) + (shrK 64 (wrk false 64 ((andK false 64 (wrk false 64 ((shrK 64 (wrk false 64 ((andK false 64 (shrK 64 (wrk false 64 ((andK false 64 (shrK 64 a0 1) 6148914691236517205) + (andK false 64 a0 6148914691236517205))) 2) 3689348814741910323) + (andK false 64 (wrk false 64 ((andK false 64 (shrK 64 a0 1) 6148914691236517205) + (andK false 64 a0 6148914691236517205))) 3689348814741910323))) 4) + (wrk false 64 ((andK false 64 (shrK 64 (wrk false 64 ((andK false 64 (shrK 64 a0 1) 6148914691236517205) + (andK false 64 a0 6148914691236517205))) 2) 3689348814741910323) + (andK false 64 (wrk false 64 ((andK false 64 (shrK 64 a0 1) 6148914691236517205) + (andK false 64 a0 6148914691236517205))) 3689348814741910323))))) 1085102592571150095) + (shrK 64 (andK false 64 (wrk false 64 ((shrK 64 (wrk false 64 ((andK false 64 (shrK 64 (wrk false 64 ((andK false 64 (shrK 64 a0 1) 6148914691236517205) + (andK false 64 a0 6148914691236517205))) 2) 3689348814741910323) + (andK false 64 (wrk false 64 ((andK false 64 (shrK 64 a0 1) 6148914691236517205) + (andK false 64 a0 6148914691236517205))) 3689348814741910323))) 4) + (wrk false 64 ((andK false 64 (shrK 64 (wrk false 64 ((andK false 64 (shrK 64 a0 1) 6148914691236517205) + (andK false 64 a0 6148914691236517205))) 2) 3689348814741910323) + (andK false 64 (wrk false 64 ((andK false 64 (shrK 64 a0 1) 6148914691236517205) + (andK false 64 a0 6148914691236517205))) 3689348814741910323))))) 1085102592571150095) 8))) 16))) 32)))) 127)

def math_bits_OnesCount (a0 : Int) : Int :=
  (PF.math_bits_OnesCount64 a0)

def impl_degreeOf (a0 : Int) : Int :=
  (PF.math_bits_OnesCount (wrk false 64 a0))

def cmp_isNaN_int (a0 : Int) : Bool :=
  (!(a0 == a0))

def cmp_Compare_int (a0 : Int) (a1 : Int) : Int :=
  (bif (PF.cmp_isNaN_int a0) then (bif (PF.cmp_isNaN_int a1) then 0 else (-1)) else (bif (PF.cmp_isNaN_int a1) then 1 else (bif (decide (a0 < a1)) then (-1) else (bif (decide (a1 < a0)) then 1 else 0))))

def cmp_Or_int (a0 : List Int) : Option Int :=
  bdR (forL (S := Unit) (X := Int) a0 (fun i22 y21 s22 => (bif (!(y21 == 0)) then some (Lp.rt y21) else some (Lp.nx ()))) ()) (fun s22 => some 0) (fun x22 => some x22)

def impl_compareMonos (a0 : Int) (a1 : Int) : Option Int :=
  bd (PF.cmp_Or_int [(PF.cmp_Compare_int (PF.impl_degreeOf a0) (PF.impl_degreeOf a1)), (PF.cmp_Compare_int a0 a1)]) (fun r43 => some r43)

def impl_leading (a0 : List Int) : Option Int :=
  bdR (forL (S := Int) (X := Empty) a0 (fun i22 y21 s22 => bd (bif (!(y21 == 0)) then bd (bif (decide (s22 < 0)) then some true else bd (PF.impl_compareMonos ((i22 : Nat) : Int) s22) (fun r158 => some (decide (0 < r158)))) (fun t151 => some t151) else some false) (fun t139 => (bif t139 then some (Lp.nx ((i22 : Nat) : Int)) else some (Lp.nx s22)))) (-1)) (fun s22 => some s22) (fun x22 => nomatch x22)

def impl_echelon_reduce (a0 : echelon) (a1 : List Int) : Option ((List Int) × (List Int) × echelon) :=
  bd (mk2 (0 : Int) a0.many a0.many) (fun xs21 => bd (chk (len a0.rows)) (fun m31 => bdR (forR (S := ((List Int) × (List Int))) (X := Empty) 0 m31 (fun i32 s32 => bd (ix a0.rows ((i32 : Nat) : Int)) (fun x342416 => bd (PF.impl_leading x342416) (fun r342420 => bd (ix s32.2 r342420) (fun x342431 => (bif (!(x342431 == 0)) then bd (PF.impl_ring_plus a0.ring s32.2 x342416 (wr (a0.ring.p - x342431))) (fun r384434 => bd (ix a0.made ((i32 : Nat) : Int)) (fun x393458 => bdR (forL (S := (List Int)) (X := Empty) x393458 (fun i393463 y393462 s393463 => bd (ix s393463 ((i393463 : Nat) : Int)) (fun x528575 => bd (nz a0.ring.p) (fun u561570 => bd (ix s393463 ((i393463 : Nat) : Int)) (fun x564575 => bd (put s393463 ((i393463 : Nat) : Int) ((wr (x528575 + (wr (x342431 * y393462)))).tmod a0.ring.p)) (fun xs567572 => some (Lp.nx xs567572)))))) s32.1) (fun s393463 => some (Lp.nx (s393463, r384434))) (fun x393463 => nomatch x393463))) else some (Lp.nx (s32.1, s32.2))))))) (xs21, a1)) (fun s32 => some (s32.2, s32.1, a0)) (fun x32 => nomatch x32)))

noncomputable def impl_ring_inverse (a0 : ring) (a1 : Int) : Option Int :=
  bdR (iter (S := Int) (X := Int) (fun s29 => bd (nz a0.p) (fun u50 => (bif (((wr (a1 * s29)).tmod a0.p) == 1) then some (Lp.rt s29) else some (Lp.nx (wr (s29 + 1)))))) 1) (fun s29 => some 0) (fun x29 => some x29)

noncomputable def impl_echelon_add (a0 : echelon) (a1 : List Int) : Option (Bool × echelon) :=
  bd (PF.impl_echelon_reduce a0 a1) (fun r21 => bd (PF.impl_leading r21.1) (fun r36 => (bif (decide (r36 < 0)) then some (false, (echelon.mk r21.2.2.ring a0.rows a0.made r21.2.2.many)) else bd (ix r21.1 r36) (fun x49 => bd (PF.impl_ring_inverse r21.2.2.ring x49) (fun r51 => bd (PF.impl_ring_zero r21.2.2.ring) (fun r27056 => bd (PF.impl_ring_plus r21.2.2.ring r27056 r21.1 r51) (fun r36061 => bd (mk2 (0 : Int) (wr (r21.2.2.many + 1)) (wr (r21.2.2.many + 1))) (fun xs45071 => bd (chk (len r21.2.1)) (fun m45081 => bdR (forR (S := (List Int)) (X := Empty) 0 m45081 (fun i45082 s45082 => bd (ix r21.2.1 ((i45082 : Nat) : Int)) (fun x171182 => bd (nz r21.2.2.ring.p) (fun u222185 => bd (ix s45082 ((i45082 : Nat) : Int)) (fun x225190 => bd (put s45082 ((i45082 : Nat) : Int) ((wr ((wr (r21.2.2.ring.p - x171182)) * r51)).tmod r21.2.2.ring.p)) (fun xs228187 => some (Lp.nx xs228187)))))) xs45071) (fun s45082 => bd (ix s45082 r21.2.2.many) (fun x234219 => bd (put s45082 r21.2.2.many r51) (fun xs234224 => bd (chk (len a0.rows)) (fun m234232 => bdR (forR (S := ((List (List Int)) × (List (List Int)) × Int × Int × Int)) (X := Empty) 0 m234232 (fun i234233 s234233 => bd (ix s234233.1 ((i234233 : Nat) : Int)) (fun x1014667 => bd (ix s234233.2.1 ((i234233 : Nat) : Int)) (fun x1047677 => bd (PF.slices_Clone_impl_dense_int x1047677) (fun r1053671 => bd (ix s234233.2.1 ((i234233 : Nat) : Int)) (fun x1083677 => bd (appZ r1053671 (wr (s234233.2.2.2.2 - (len x1083677)))) (fun xs1095671 => bd (ix s234233.2.1 ((i234233 : Nat) : Int)) (fun x1098677 => bd (ix x1014667 r36) (fun x1107698 => (bif (!(x1107698 == 0)) then bd (PF.impl_ring_plus (ring.mk s234233.2.2.1 s234233.2.2.2.1) x1014667 r36061 (wr (s234233.2.2.1 - x1107698))) (fun r1164706 => bd (ix s234233.1 ((i234233 : Nat) : Int)) (fun x1167707 => bd (put s234233.1 ((i234233 : Nat) : Int) r1164706) (fun xs1170709 => bd (chk (len xs234224)) (fun m1176719 => bdR (forR (S := (List Int)) (X := Empty) 0 m1176719 (fun i1176720 s1176720 => bd (ix xs234224 ((i1176720 : Nat) : Int)) (fun x1404834 => bd (ix s1176720 ((i1176720 : Nat) : Int)) (fun x1455842 => bd (nz s234233.2.2.1) (fun u1506837 => bd (ix s1176720 ((i1176720 : Nat) : Int)) (fun x1509842 => bd (put s1176720 ((i1176720 : Nat) : Int) ((wr (x1455842 + (wr ((wr (s234233.2.2.1 - x1107698)) * x1404834)))).tmod s234233.2.2.1)) (fun xs1512839 => some (Lp.nx xs1512839))))))) xs1095671) (fun s1176720 => bd (put s234233.2.1 ((i234233 : Nat) : Int) s1176720) (fun xs1518874 => some (Lp.nx (xs1170709, xs1518874, s234233.2.2.1, s234233.2.2.2.1, s234233.2.2.2.2)))) (fun x1176720 => nomatch x1176720))))) else bd (put s234233.2.1 ((i234233 : Nat) : Int) xs1095671) (fun xs1518899 => some (Lp.nx (s234233.1, xs1518899, s234233.2.2.1, s234233.2.2.2.1, s234233.2.2.2.2)))))))))))) (a0.rows, a0.made, r21.2.2.ring.p, r21.2.2.ring.vars, (wr (r21.2.2.many + 1)))) (fun s234233 => bd (app s234233.1 [r36061]) (fun xs1518922 => bd (app s234233.2.1 [xs234224]) (fun xs1518948 => some (true, (echelon.mk (ring.mk s234233.2.2.1 s234233.2.2.2.1) xs1518922 xs1518948 s234233.2.2.2.2))))) (fun x234233 => nomatch x234233))))) (fun x45082 => nomatch x45082))))))))))

def impl_dense_degree (a0 : List Int) : Option Int :=
  bdR (forL (S := Int) (X := Empty) a0 (fun i22 y21 s22 => (bif (!(y21 == 0)) then some (Lp.nx (mx s22 (PF.impl_degreeOf ((i22 : Nat) : Int)))) else some (Lp.nx s22))) (-1)) (fun s22 => some s22) (fun x22 => nomatch x22)

noncomputable def slices_SortFunc_impl_dense_impl_dense (a0 : List (List Int)) (a1 : (List Int) → (List Int) → Option Int) : Option (List (List Int)) := sortF a1 a0

def impl_algebra_span_2 (a0 : List Int) (a1 : List Int) : Option Int :=
  bd (PF.impl_leading a0) (fun r21 => bd (PF.impl_leading a1) (fun r26 => bd (PF.impl_compareMonos r21 r26) (fun r31 => some r31)))

noncomputable def impl_algebra_span (a0 : algebra) (a1 : Int) : Option (Option echelon) :=
  bdR (forL (S := ((List (List Int)) × (List (List Int)) × Int × Int × Int)) (X := Empty) a0.f.clauses (fun i41 y40 s41 => (bif (decide ((len y40) ≤ a1)) then bd (ix a0.q ((i41 : Nat) : Int)) (fun x87157 => bd (PF.impl_echelon_add (echelon.mk (ring.mk s41.2.2.1 s41.2.2.2.1) s41.2.1 s41.1 s41.2.2.2.2) x87157) (fun r93151 => some (Lp.nx (r93151.2.made, r93151.2.rows, r93151.2.ring.p, r93151.2.ring.vars, r93151.2.many)))) else some (Lp.nx (s41.1, s41.2.1, s41.2.2.1, s41.2.2.2.1, s41.2.2.2.2)))) ([], [], a0.ring.p, a0.ring.vars, 0)) (fun s41 => bdR (iter (S := ((List (List Int)) × (List (List Int)) × Int × Int × Int × Bool)) (X := Empty) (fun s99188 => (bif s99188.2.2.2.2.2 then bd (β := _) (bd (app [] s99188.2.1) (fun xs508158 => some xs508158) : Option (List (List Int))) (fun s508144 => bd (β := _) (bd (chk (len s508144)) (fun m712576 => bdR (forR (S := ((List (List Int)) × (List (List Int)) × Int × Int × Int × Bool)) (X := ((List (List Int)) × (List (List Int)) × Int × Int × Int × Bool × Bool)) 0 m712576 (fun i712577 s712577 => bd (ix s508144 ((i712577 : Nat) : Int)) (fun x916970 => bdR (iter (S := ((List (List Int)) × (List (List Int)) × Int × Int × Int × Bool × Int)) (X := (Lp ((List (List Int)) × (List (List Int)) × Int × Int × Int × Bool) ((List (List Int)) × (List (List Int)) × Int × Int × Int × Bool × Bool))) (fun s916974 => bd (bif (decide (s916974.2.2.2.2.2.2 ≤ a0.ring.vars)) then bd (PF.impl_dense_degree x916970) (fun r1019137 => some (decide (r1019137 < a1))) else some false) (fun t1019130 => (bif t1019130 then bd (PF.impl_ring_literal a0.ring s916974.2.2.2.2.2.2) (fun r1055152 => bd (PF.impl_ring_times a0.ring x916970 r1055152) (fun r1058157 => bd (β := _) (bd (PF.impl_echelon_add (echelon.mk (ring.mk s916974.2.2.1 s916974.2.2.2.1) s916974.2.1 s916974.1 s916974.2.2.2.2.1) r1058157) (fun r1061232 => some (r1061232.2.made, r1061232.2.rows, r1061232.2.ring.p, r1061232.2.ring.vars, r1061232.2.many, (bif r1061232.1 then true else s916974.2.2.2.2.2.1), true)) : Option ((List (List Int)) × (List (List Int)) × Int × Int × Int × Bool × Bool)) (fun s1061222 => (bif (!s1061222.2.2.2.2.2.2) then some (Lp.rt (Lp.rt (s1061222.1, s1061222.2.1, s1061222.2.2.1, s1061222.2.2.2.1, s1061222.2.2.2.2.1, s1061222.2.2.2.2.2.1, false))) else some (Lp.nx (s1061222.1, s1061222.2.1, s1061222.2.2.1, s1061222.2.2.2.1, s1061222.2.2.2.2.1, s1061222.2.2.2.2.2.1, (wr (s916974.2.2.2.2.2.2 + 1)))))))) else some (Lp.bk (s916974.1, s916974.2.1, s916974.2.2.1, s916974.2.2.2.1, s916974.2.2.2.2.1, s916974.2.2.2.2.2.1, s916974.2.2.2.2.2.2))))) (s712577.1, s712577.2.1, s712577.2.2.1, s712577.2.2.2.1, s712577.2.2.2.2.1, s712577.2.2.2.2.2, 1)) (fun s916974 => some (Lp.nx (s916974.1, s916974.2.1, s916974.2.2.1, s916974.2.2.2.1, s916974.2.2.2.2.1, s916974.2.2.2.2.2.1))) (fun x916974 => some x916974))) (s99188.1, s99188.2.1, s99188.2.2.1, s99188.2.2.2.1, s99188.2.2.2.2.1, false)) (fun s712577 => some (s712577.1, s712577.2.1, s712577.2.2.1, s712577.2.2.2.1, s712577.2.2.2.2.1, s712577.2.2.2.2.2, true)) (fun x712577 => some x712577)) : Option ((List (List Int)) × (List (List Int)) × Int × Int × Int × Bool × Bool)) (fun s712566 => some (Lp.nx (s712566.1, s712566.2.1, s712566.2.2.1, s712566.2.2.2.1, s712566.2.2.2.2.1, s712566.2.2.2.2.2.1)))) else some (Lp.bk (s99188.1, s99188.2.1, s99188.2.2.1, s99188.2.2.2.1, s99188.2.2.2.2.1, s99188.2.2.2.2.2)))) (s41.1, s41.2.1, s41.2.2.1, s41.2.2.2.1, s41.2.2.2.2, true)) (fun s99188 => bd (PF.slices_SortFunc_impl_dense_impl_dense s99188.2.1 (fun x0 x1 => PF.impl_algebra_span_2 x0 x1)) (fun r1070225 => bd (mk2 ([] : List Int) (len r1070225) (len r1070225)) (fun xs1091239 => some (some (echelon.mk (ring.mk s99188.2.2.1 s99188.2.2.2.1) r1070225 xs1091239 s99188.2.2.2.2.1))))) (fun x99188 => nomatch x99188)) (fun x41 => nomatch x41)

noncomputable def impl_spanOf (a0 : Int) (a1 : Cnf) (a2 : Int) : Option ((Option algebra) × (Option echelon) × Bool) :=
  bd (PF.impl_algebraOf a0 a1) (fun r29 => (bif (bif (!r29.2) then true else (!(PF.impl_degreeOk a2))) then some (none, none, false) else bd r29.1 (fun y54 => bd (PF.impl_algebra_span y54 a2) (fun r65 => bd r65 (fun y73 => some ((some y54), (some y73), true))))))

def impl_dense_isZero (a0 : List Int) : Option Bool :=
  bd (PF.impl_dense_degree a0) (fun r21 => some (decide (r21 < 0)))

def slices_Clone_int_int (a0 : List Int) : Option (List Int) :=
  bd (app [] a0) (fun xs30 => some xs30)

noncomputable def slices_SortFunc_LLint_Lint (a0 : List (List Int)) (a1 : (List Int) → (List Int) → Option Int) : Option (List (List Int)) := sortF a1 a0

def slices_CompareFunc_int_int_int_int (a0 : List Int) (a1 : List Int) (a2 : Int → Int → Option Int) : Option Int :=
  bdR (forL (S := Unit) (X := Int) a0 (fun i22 y21 s22 => (bif (decide ((len a1) ≤ ((i22 : Nat) : Int))) then some (Lp.rt 1) else bd (ix a1 ((i22 : Nat) : Int)) (fun x84 => bd (a2 y21 x84) (fun r86 => (bif (!(r86 == 0)) then some (Lp.rt r86) else some (Lp.nx ())))))) ()) (fun s22 => (bif (decide ((len a0) < (len a1))) then some (-1) else some 0)) (fun x22 => some x22)

def impl_compareLiterals (a0 : Int) (a1 : Int) : Option Int :=
  bd (PF.cmp_Or_int [(PF.cmp_Compare_int (PF.impl_abs a0) (PF.impl_abs a1)), (PF.cmp_Compare_int a1 a0)]) (fun r43 => some r43)

def impl_compareClauses (a0 : List Int) (a1 : List Int) : Option Int :=
  bd (PF.slices_CompareFunc_int_int_int_int a0 a1 (fun x0 x1 => PF.impl_compareLiterals x0 x1)) (fun r24 => bd (PF.cmp_Or_int [(PF.cmp_Compare_int (len a0) (len a1)), r24]) (fun r39 => some r39))

noncomputable def impl_ClausesInSpan_1 (x0 : Option algebra) (e0 : Option echelon) (a2 : Int) (c0 : List Int) (s0 : List (List Int)) : Option (List (List Int)) :=
  (bif (decide (a2 < (len c0))) then some s0 else bd e0 (fun y207331 => bd x0 (fun y207342 => bd (PF.impl_ring_clause y207342.ring c0) (fun r228353 => bd (β := _) (bd (mk2 (0 : Int) y207331.many y207331.many) (fun xs916156 => bdR (forL (S := ((List Int) × (List Int))) (X := Empty) y207331.rows (fun i916167 y916166 s916167 => bd (PF.impl_leading y916166) (fun r1258550 => bd (ix s916167.2 r1258550) (fun x1258561 => (bif (!(x1258561 == 0)) then bd (PF.impl_ring_plus y207331.ring s916167.2 y916166 (wr (y207331.ring.p - x1258561))) (fun r1300564 => bd (ix y207331.made ((i916167 : Nat) : Int)) (fun x1309588 => bdR (forL (S := (List Int)) (X := Empty) x1309588 (fun i1309593 y1309592 s1309593 => bd (ix s1309593 ((i1309593 : Nat) : Int)) (fun x1444705 => bd (nz y207331.ring.p) (fun u1477700 => bd (ix s1309593 ((i1309593 : Nat) : Int)) (fun x1480705 => bd (put s1309593 ((i1309593 : Nat) : Int) ((wr (x1444705 + (wr (x1258561 * y1309592)))).tmod y207331.ring.p)) (fun xs1483702 => some (Lp.nx xs1483702)))))) s916167.1) (fun s1309593 => some (Lp.nx (s1309593, r1300564))) (fun x1309593 => nomatch x1309593))) else some (Lp.nx (s916167.1, s916167.2)))))) (xs916156, r228353)) (fun s916167 => some (s916167.1, s916167.2)) (fun x916167 => nomatch x916167)) : Option ((List Int) × (List Int))) (fun s916149 => bd (PF.impl_dense_isZero s916149.2) (fun r252364 => (bif r252364 then bd (PF.slices_Clone_int_int c0) (fun r261370 => bd (app s0 [r261370]) (fun xs267370 => some xs267370)) else some s0)))))))

noncomputable def impl_ClausesInSpan (a0 : Int) (a1 : Cnf) (a2 : Int) : Option ((List (List Int)) × Bool) :=
  bd (PF.impl_spanOf a0 a1 a2) (fun r37 => (bif (bif (!r37.2.2) then true else (decide (5 < a1.vars))) then some ([], false) else (bif (decide (a1.vars < 0)) then none else bd (foldO (PF.impl_ClausesInSpan_1 r37.1 r37.2.1 a2) ([] :: visL a1.vars.toNat 1 []) []) (fun s89 => bd (PF.slices_SortFunc_LLint_Lint s89 (fun x0 x1 => PF.impl_compareClauses x0 x1)) (fun r276 => some (r276, true))))))

def laws_eqIntS (a0 : List Int) (a1 : List Int) : Option Bool :=
  (bif (!((len a0) == (len a1))) then some false else bdR (forL (S := Unit) (X := Bool) a0 (fun i23 y22 s23 => bd (ix a1 ((i23 : Nat) : Int)) (fun x72 => (bif (!(y22 == x72)) then some (Lp.rt false) else some (Lp.nx ())))) ()) (fun s23 => some true) (fun x23 => some x23))

def laws_eqIntSS (a0 : List (List Int)) (a1 : List (List Int)) : Option Bool :=
  (bif (!((len a0) == (len a1))) then some false else bdR (forL (S := Unit) (X := Bool) a0 (fun i23 y22 s23 => bd (ix a1 ((i23 : Nat) : Int)) (fun x80 => bd (PF.laws_eqIntS y22 x80) (fun r84 => (bif (!r84) then some (Lp.rt false) else some (Lp.nx ()))))) ()) (fun s23 => some true) (fun x23 => some x23))

def laws_eqCnf (a0 : Cnf) (a1 : Cnf) : Option Bool :=
  (bif (!(a0.vars == a1.vars)) then some false else bd (PF.laws_eqIntSS a0.clauses a1.clauses) (fun r38 => (bif (!r38) then some false else some true)))

def laws_markIntS (a0 : List Int) (a1 : Int) : List Int × Int :=
  markFrom (fun y m => (m, (wr (m + 1)))) a0 a1

def laws_markIntSS (a0 : List (List Int)) (a1 : Int) : List (List Int) × Int :=
  markFrom (fun y m => ((PF.laws_markIntS y m).1, (PF.laws_markIntS y m).2)) a0 a1

def laws_markCnf (a0 : Cnf) (a1 : Int) : Cnf × Int :=
  let r := PF.laws_markIntSS a0.clauses a1
  ((Cnf.mk a0.vars r.1), r.2)

def laws_heldIntS (a0 : List Int) (a1 : Int) : Option Int :=
  bdR (forL (S := Int) (X := Int) a0 (fun i22 y21 s22 => (bif (!(y21 == s22)) then some (Lp.rt (-1)) else some (Lp.nx (wr (s22 + 1))))) a1) (fun s22 => some s22) (fun x22 => some x22)

def laws_heldIntSS (a0 : List (List Int)) (a1 : Int) : Option Int :=
  bdR (forL (S := Int) (X := Int) a0 (fun i22 y21 s22 => bd (PF.laws_heldIntS y21 s22) (fun r61 => (bif (decide (r61 < 0)) then some (Lp.rt (-1)) else some (Lp.nx r61)))) a1) (fun s22 => some s22) (fun x22 => some x22)

noncomputable def laws_FnExactClausesInSpan (a0 : Int) (a1 : Cnf) (a2 : Int) : Option Bool :=
  bd (PF.laws_szCnf a1 1048576) (fun r29 => (bif (decide (r29 < 0)) then some true else bd (PF.laws_toCnf a1) (fun r36 => bd (PF.spec_ClausesInSpan a0 r36 a2) (fun r49 => bd (PF.laws_toCnf a1) (fun r58 => bd (PF.impl_ClausesInSpan a0 r58 a2) (fun r83 => bd (PF.laws_eqIntSS r83.1 r49.1) (fun r102 => (bif (bif (!r102) then true else (!(r83.2 == r49.2))) then some false else bd (PF.laws_toCnf a1) (fun r9125 => bd (PF.laws_eqCnf r58 r9125) (fun r12125 => (bif (!r12125) then some false else bd (bif (decide ((PF.laws_markCnf r58 1).2 < 0)) then some true else bd (PF.laws_eqIntSS r83.1 r49.1) (fun r21168 => some (!r21168))) (fun t21161 => (bif (bif t21161 then true else (!(r83.2 == r49.2))) then some false else bd (PF.laws_heldIntSS ((PF.laws_markIntSS r83.1 1).1) 1) (fun r21208 => (bif (decide (r21208 < 0)) then some false else (bif (!(r21208 == (PF.laws_markIntSS r83.1 1).2)) then some false else bd (PF.laws_toCnf a1) (fun r21216 => bd (PF.impl_ClausesInSpan a0 r21216 a2) (fun r21229 => bd (PF.laws_eqIntSS r21229.1 r49.1) (fun r21248 => (bif (bif (!r21248) then true else (!(r21229.2 == r49.2))) then some false else bd (PF.laws_heldIntSS ((PF.laws_markIntSS r83.1 1).1) 1) (fun r21265 => (bif (decide (r21265 < 0)) then some false else (bif (!(r21265 == (PF.laws_markIntSS r83.1 1).2)) then some false else some true)))))))))))))))))))))))

end Go.PF
