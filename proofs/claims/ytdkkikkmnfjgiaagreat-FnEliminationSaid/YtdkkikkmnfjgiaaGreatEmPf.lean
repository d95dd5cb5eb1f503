/- Part of the walks and plain laws behind the claim: it proves helpers, under no condition beyond their own. -/
import Derived.Test.YtdkkikkmnfjgiaaGreatPl1
import Derived.Test.YtdkkikkmnfjgiaaGreatEmPu2
import Derived.Test.YtdkkikkmnfjgiaaGreatEmPu4
import Derived.Test.YtdkkikkmnfjgiaaGreatEmPu6
set_option linter.unusedVariables false
namespace Go.PF
open Go.Pu

structure Cnf where
  vars : Int
  clauses : List (List Int)
def okCnf (s : Cnf) : Prop := okI s.vars ∧ (okL (okL okI)) s.clauses

structure Inequality where
  coeffs : List Int
  bound : Int
def okInequality (s : Inequality) : Prop := (okL okI) s.coeffs ∧ okI s.bound

structure PlaneStep where
  ineq : Inequality
  kind : Int
  a : Int
  b : Int
  k : Int
def okPlaneStep (s : PlaneStep) : Prop := okInequality s.ineq ∧ okI s.kind ∧ okI s.a ∧ okI s.b ∧ okI s.k

structure Term where
  mono : Int
  coeff : Int
def okTerm (s : Term) : Prop := okI s.mono ∧ okI s.coeff

structure PcStep where
  kind : Int
  poly : List Term
  a : Int
  b : Int
  x : Int
  y : Int
def okPcStep (s : PcStep) : Prop := okI s.kind ∧ (okL okTerm) s.poly ∧ okI s.a ∧ okI s.b ∧ okI s.x ∧ okI s.y

structure l1Cur where
  code : List Int
  at_ : Int
  seed : Int
def okl1Cur (s : l1Cur) : Prop := (okL okT) s.code ∧ okI s.at_ ∧ okT s.seed

structure ResStep where
  clause : List Int
  left : Int
  right : Int
  pivot : Int
def okResStep (s : ResStep) : Prop := (okL okI) s.clause ∧ okI s.left ∧ okI s.right ∧ okI s.pivot

structure ring where
  p : Int
  vars : Int
def okring (s : ring) : Prop := okI s.p ∧ okI s.vars

structure algebra where
  ring : ring
  f : Cnf
  q : List (List Int)
def okalgebra (s : algebra) : Prop := okring s.ring ∧ okCnf s.f ∧ (okL (okL okI)) s.q

def laws_rBig (a0 : List Int) : Bool :=
  (decide (65536 < (len a0)))

def spec_l1Cur_next (a0 : l1Cur) : Option (Int × l1Cur) :=
  bdR (S := Int) (X := Empty) ((bif (decide (a0.at_ < (len a0.code))) then bd (ix a0.code a0.at_) (fun x49 => some (Rs.go (wrk true 64 x49))) else some (Rs.go 0))) (fun s38 => (bif (decide ((wr (a0.at_ + 1)) ≤ (len a0.code))) then some (s38, (l1Cur.mk a0.code (wr (a0.at_ + 1)) (wrk false 64 ((wrk false 64 ((wrk false 64 (a0.seed * 6364136223846793005)) + (wrk false 64 s38))) + 337411)))) else some ((wrk true 64 (andK false 64 (shrK 64 (wrk false 64 ((wrk false 64 ((wrk false 64 (a0.seed * 6364136223846793005)) + (wrk false 64 s38))) + 337411)) 40) 255)), (l1Cur.mk a0.code (wr (a0.at_ + 1)) (wrk false 64 ((wrk false 64 ((wrk false 64 (a0.seed * 6364136223846793005)) + (wrk false 64 s38))) + 337411)))))) (fun x40 => nomatch x40)

def spec_l1Cur_pick (a0 : l1Cur) (a1 : Int) : Option (Int × l1Cur) :=
  (bif (decide (a1 ≤ 1)) then some (0, a0) else bd (PF.spec_l1Cur_next a0) (fun r22 => (bif (decide (200 < a1)) then bd (PF.spec_l1Cur_next r22.2) (fun r31 => bd (nz a1) (fun u40 => some (((wr ((wr (r22.1 * 256)) + r31.1)).tmod a1), r31.2))) else bd (nz a1) (fun u42 => some ((r22.1.tmod a1), r22.2)))))

def spec_l1Cur_one (a0 : l1Cur) (a1 : Int) : Option (Bool × l1Cur) :=
  bd (PF.spec_l1Cur_pick a0 a1) (fun r21 => some ((r21.1 == 0), r21.2))

def spec_l2Hard  : (List ByteArray) :=
  [(ByteArray.mk #[49, 59, 32, 49, 59, 32, 45, 49]), (ByteArray.mk #[50, 59, 32, 49, 32, 50, 59, 32, 49, 32, 45, 50, 59, 32, 45, 49, 32, 50, 59, 32, 45, 49, 32, 45, 50]), (ByteArray.mk #[48, 59, 32, 110, 111, 110, 101]), (ByteArray.mk #[50, 59, 32, 49, 59, 32, 45, 49, 32, 50, 59, 32, 45, 50]), (ByteArray.mk #[51, 59, 32, 49, 59, 32, 45, 49, 32, 50, 59, 32, 45, 50, 32, 51, 59, 32, 45, 51]), (ByteArray.mk #[51, 59, 32, 49, 32, 50, 59, 32, 45, 49, 32, 51, 59, 32, 45, 50, 32, 51, 59, 32, 45, 51]), (ByteArray.mk #[51, 59, 32, 49, 32, 50, 59, 32, 45, 49, 32, 50, 59, 32, 45, 50, 32, 51, 59, 32, 45, 50, 32, 45, 51]), (ByteArray.mk #[51, 59, 32, 49, 32, 50, 32, 51, 59, 32, 49, 32, 50, 32, 45, 51, 59, 32, 49, 32, 45, 50, 59, 32, 45, 49, 32, 51, 59, 32, 45, 49, 32, 45, 51]), (ByteArray.mk #[50, 59, 32, 49, 32, 50, 59, 32, 45, 49, 59, 32, 45, 50, 59, 32, 49, 32, 45, 50]), (ByteArray.mk #[52, 59, 32, 49, 32, 50, 59, 32, 51, 32, 52, 59, 32, 45, 49, 32, 45, 51, 59, 32, 45, 50, 32, 45, 52, 59, 32, 45, 49, 32, 45, 52, 59, 32, 45, 50, 32, 45, 51]), (ByteArray.mk #[51, 59, 32, 49, 32, 50, 59, 32, 50, 32, 51, 59, 32, 49, 32, 51, 59, 32, 45, 49, 32, 45, 50, 59, 32, 45, 50, 32, 45, 51, 59, 32, 45, 49, 32, 45, 51]), (ByteArray.mk #[52, 59, 32, 49, 59, 32, 50, 59, 32, 45, 49, 32, 45, 50, 32, 51, 59, 32, 45, 51, 32, 52, 59, 32, 45, 52]), (ByteArray.mk #[51, 59, 32, 49, 32, 45, 50, 59, 32, 50, 32, 45, 51, 59, 32, 51, 32, 45, 49, 59, 32, 49, 32, 50, 32, 51, 59, 32, 45, 49, 32, 45, 50, 32, 45, 51]), (ByteArray.mk #[52, 59, 32, 49, 32, 50, 59, 32, 45, 49, 32, 45, 50, 59, 32, 50, 32, 51, 59, 32, 45, 50, 32, 45, 51, 59, 32, 51, 32, 52, 59, 32, 45, 51, 32, 45, 52, 59, 32, 49, 32, 52, 32, 45, 51, 59, 32, 45, 49, 32, 45, 52, 59, 32, 49, 32, 45, 52, 59, 32, 45, 49, 32, 52]), (ByteArray.mk #[50, 59, 32, 49, 59, 32, 45, 49, 59, 32, 50])]

def spec_l1Cur_of (a0 : l1Cur) (a1 : List ByteArray) : Option (ByteArray × l1Cur) :=
  bd (PF.spec_l1Cur_pick a0 (len a1)) (fun r21 => bd (ix a1 r21.1) (fun x35 => some (x35, r21.2)))

def spec_l1Split (a0 : ByteArray) (a1 : Int) : Option (List ByteArray) :=
  bd (chk (a0.size : Int)) (fun m26 => bdR (forR (S := ((List ByteArray) × Int)) (X := Empty) 0 m26 (fun i27 s27 => bd (ixS a0 ((i27 : Nat) : Int)) (fun z73 => (bif (z73 == a1) then bd (cutS a0 s27.2 ((i27 : Nat) : Int)) (fun z76 => bd (app s27.1 [z76]) (fun xs83 => some (Lp.nx (xs83, (wr (((i27 : Nat) : Int) + 1)))))) else some (Lp.nx (s27.1, s27.2))))) ([], 0)) (fun s27 => bd (cutS a0 s27.2 (a0.size : Int)) (fun z103 => bd (app s27.1 [z103]) (fun xs110 => some xs110))) (fun x27 => nomatch x27))

def spec_l1In (a0 : Int) (a1 : Int) (a2 : Int) : Bool :=
  (bif (decide (a1 ≤ a0)) then (decide (a0 ≤ a2)) else false)

def spec_l1Num (a0 : Int) : Option ByteArray := numT a0

def spec_l1Read (a0 : ByteArray) : Option (Int × Bool) :=
  bd (bif (decide (1 < (a0.size : Int))) then bd (ixS a0 0) (fun z30 => some (z30 == 45)) else some false) (fun t23 => bdR (S := ByteArray) (X := Empty) ((bif t23 then bd (cutS a0 1 (a0.size : Int)) (fun z42 => some (Rs.go z42)) else some (Rs.go a0))) (fun s38 => (bif (!(PF.spec_l1In (s38.size : Int) 1 6)) then some (0, false) else bd (chk (s38.size : Int)) (fun m55 => bdR (forR (S := Int) (X := (Int × Bool)) 0 m55 (fun i56 s56 => bd (ixS s38 ((i56 : Nat) : Int)) (fun z96 => bd (bif (decide (z96 < 48)) then some true else bd (ixS s38 ((i56 : Nat) : Int)) (fun z107 => some (decide (57 < z107)))) (fun t100 => (bif t100 then some (Lp.rt (0, false)) else bd (ixS s38 ((i56 : Nat) : Int)) (fun z115 => some (Lp.nx (wr ((wr (10 * s56)) + (wrk true 64 (wrk false 8 (z115 - 48))))))))))) 0) (fun s56 => bdR (S := Int) (X := Empty) ((bif (decide ((s38.size : Int) < (a0.size : Int))) then some (Rs.go (wr (-s56))) else some (Rs.go s56))) (fun s127 => bd (PF.spec_l1Num s127) (fun r138 => (bif (!(r138.toList == a0.toList)) then some (0, false) else some (s127, true)))) (fun x129 => nomatch x129)) (fun x56 => some x56)))) (fun x40 => nomatch x40))

def spec_l2Vars (a0 : Int) : Bool :=
  (PF.spec_l1In a0 0 12)

def spec_l2Lit (a0 : Int) (a1 : Int) : Bool :=
  (bif (PF.spec_l1In a1 (wr (-a0)) a0) then (!(a1 == 0)) else false)

def spec_l2Var (a0 : Int) : Int :=
  (bif (decide (a0 < 0)) then (wr (-a0)) else a0)

def spec_l2Clause (a0 : Int) (a1 : List Int) : Option Bool :=
  (bif (!(PF.spec_l2Vars a0)) then some false else bdR (forL (S := Unit) (X := Bool) a1 (fun i26 y25 s26 => bd (bif (!(PF.spec_l2Lit a0 y25)) then some true else bd (bif (decide (0 < ((i26 : Nat) : Int))) then bd (ix a1 (wr (((i26 : Nat) : Int) - 1))) (fun x226 => some (decide ((PF.spec_l2Var y25) ≤ (PF.spec_l2Var x226)))) else some false) (fun t213 => some t213)) (fun t192 => (bif t192 then some (Lp.rt false) else some (Lp.nx ())))) ()) (fun s26 => some true) (fun x26 => some x26))

def spec_l2Text (a0 : List Int) : Option ByteArray :=
  (bif ((len a0) == 0) then some (ByteArray.mk #[110, 111, 110, 101]) else bd (ix a0 0) (fun x28 => bd (PF.spec_l1Num x28) (fun r30 => bdR (forR (S := ByteArray) (X := Empty) 1 a0.length (fun i35 s35 => bd (catS s35 (ByteArray.mk #[32])) (fun z69 => bd (ix a0 ((i35 : Nat) : Int)) (fun x77 => bd (PF.spec_l1Num x77) (fun r79 => bd (catS z69 r79) (fun z84 => some (Lp.nx z84)))))) r30) (fun s35 => some s35) (fun x35 => nomatch x35))))

noncomputable def spec_l2Parse (a0 : Int) (a1 : ByteArray) : Option ((List Int) × Bool) :=
  (bif (a1.toList == (ByteArray.mk #[110, 111, 110, 101]).toList) then some ([], (PF.spec_l2Vars a0)) else bd (PF.spec_l1Split a1 32) (fun r30 => bdR (iter (S := ((List Int) × Int)) (X := ((List Int) × Bool)) (fun s40 => (bif (bif (decide (s40.2 < (len r30))) then (decide (s40.2 ≤ 12)) else false) then bd (ix r30 s40.2) (fun x134 => bd (PF.spec_l1Read x134) (fun r136 => (bif (!r136.2) then some (Lp.rt ([], false)) else bd (app s40.1 [r136.1]) (fun xs152 => some (Lp.nx (xs152, (wr (s40.2 + 1)))))))) else some (Lp.bk (s40.1, s40.2)))) ([], 0)) (fun s40 => bd (bif (decide (12 < (len r30))) then some true else bd (PF.spec_l2Clause a0 s40.1) (fun r195 => some (!r195))) (fun t183 => bd (bif t183 then some true else bd (PF.spec_l2Text s40.1) (fun r225 => some (!(r225.toList == a1.toList)))) (fun t213 => (bif t213 then some ([], false) else some (s40.1, true))))) (fun x40 => some x40)))

noncomputable def spec_l2TextOf (a0 : Cnf) : Option ByteArray :=
  bd (PF.spec_l1Num a0.vars) (fun r29 => bdR (iter (S := (ByteArray × Int)) (X := Empty) (fun s34 => (bif (decide (s34.2 < (len a0.clauses))) then bd (catS s34.1 (ByteArray.mk #[59, 32])) (fun z72 => bd (ix a0.clauses s34.2) (fun x80 => bd (PF.spec_l2Text x80) (fun r84 => bd (catS z72 r84) (fun z89 => some (Lp.nx (z89, (wr (s34.2 + 1)))))))) else some (Lp.bk (s34.1, s34.2)))) (r29, 0)) (fun s34 => some s34.1) (fun x34 => nomatch x34))

noncomputable def spec_ParseCnf (a0 : ByteArray) : Option (Cnf × Bool) :=
  bd (PF.spec_l1Split a0 59) (fun r25 => bd (ix r25 0) (fun x41 => bd (PF.spec_l1Read x41) (fun r43 => (bif (bif (bif (!r43.2) then true else (!(PF.spec_l2Vars r43.1))) then true else (decide (61 < (len r25)))) then some ((Cnf.mk 0 []), false) else bdR (iter (S := ((List (List Int)) × Int × Int)) (X := (Cnf × Bool)) (fun s94 => (bif (decide (s94.2.2 < (len r25))) then bd (ix r25 s94.2.2) (fun x334 => bd (bif (decide ((x334.size : Int) < 2)) then some true else bd (ix r25 s94.2.2) (fun x359 => bd (ixS x359 0) (fun z361 => some (!(z361 == 32))))) (fun t346 => (bif t346 then some (Lp.rt ((Cnf.mk 0 []), false)) else bd (ix r25 s94.2.2) (fun x380 => bd (cutS x380 1 (x380.size : Int)) (fun z382 => bd (PF.spec_l2Parse r43.1 z382) (fun r384 => (bif (!r384.2) then some (Lp.rt ((Cnf.mk 0 []), false)) else bd (app s94.1 [r384.1]) (fun xs409 => some (Lp.nx (xs409, s94.2.1, (wr (s94.2.2 + 1)))))))))))) else some (Lp.bk (s94.1, s94.2.1, s94.2.2)))) ([], r43.1, 1)) (fun s94 => bd (PF.spec_l2TextOf (Cnf.mk s94.2.1 s94.1)) (fun r439 => (bif (!(r439.toList == a0.toList)) then some ((Cnf.mk 0 []), false) else some ((Cnf.mk s94.2.1 s94.1), true)))) (fun x94 => some x94)))))

noncomputable def spec_l2Known (a0 : ByteArray) : Option Cnf :=
  bd (PF.spec_ParseCnf a0) (fun r25 => some r25.1)

noncomputable def spec_l2Good (a0 : Cnf) : Option Bool :=
  (bif (bif (!(PF.spec_l2Vars a0.vars)) then true else (decide (60 < (len a0.clauses)))) then some false else bdR (iter (S := Int) (X := Bool) (fun s42 => (bif (decide (s42 < (len a0.clauses))) then bd (ix a0.clauses s42) (fun x83 => bd (PF.spec_l2Clause a0.vars x83) (fun r87 => (bif (!r87) then some (Lp.rt false) else some (Lp.nx (wr (s42 + 1)))))) else some (Lp.bk s42))) 0) (fun s42 => some true) (fun x42 => some x42))

def spec_l1Has (a0 : List Int) (a1 : Int) : Option Bool :=
  bdR (forL (S := Unit) (X := Bool) a0 (fun i22 y21 s22 => (bif (y21 == a1) then some (Lp.rt true) else some (Lp.nx ()))) ()) (fun s22 => some false) (fun x22 => some x22)

def spec_l2Has (a0 : List Int) (a1 : Int) : Option Bool :=
  bd (PF.spec_l1Has a0 a1) (fun r21 => some r21)

def spec_l1Own (a0 : List Int) : Option (List Int) :=
  bd (app [] a0) (fun xs26 => some xs26)

noncomputable def spec_l2Put (a0 : List Int) (a1 : Int) : Option (List Int) :=
  bdR (iter (S := Int) (X := Empty) (fun s21 => bd (bif (decide (s21 < (len a0))) then bd (ix a0 s21) (fun x105 => some (decide ((PF.spec_l2Var x105) < (PF.spec_l2Var a1)))) else some false) (fun t92 => (bif t92 then some (Lp.nx (wr (s21 + 1))) else some (Lp.bk s21)))) 0) (fun s21 => bd (cut a0 0 s21) (fun xs9127 => bd (PF.spec_l1Own xs9127) (fun r12127 => bd (app r12127 [a1]) (fun xs21127 => bd (cut a0 s21 (len a0)) (fun xs30127 => bd (app xs21127 xs30127) (fun xs33127 => some xs33127)))))) (fun x21 => nomatch x21)

noncomputable def spec_RenameCnf (a0 : Cnf) (a1 : List Int) : Option (Cnf × Bool) :=
  bd (PF.spec_l2Good a0) (fun r33 => (bif (bif (!r33) then true else (!((len a1) == a0.vars))) then some ((Cnf.mk 0 []), false) else bdR (forL (S := Unit) (X := (Cnf × Bool)) a1 (fun i54 y53 s54 => bd (bif (!(PF.spec_l2Lit a0.vars y53)) then some true else bd (cut a1 0 ((i54 : Nat) : Int)) (fun xs190 => bd (PF.spec_l2Has xs190 y53) (fun r201 => some r201))) (fun t183 => bd (bif t183 then some true else bd (cut a1 0 ((i54 : Nat) : Int)) (fun xs228 => bd (PF.spec_l2Has xs228 (wr (-y53))) (fun r239 => some r239))) (fun t221 => (bif t221 then some (Lp.rt ((Cnf.mk 0 []), false)) else some (Lp.nx ()))))) ()) (fun s54 => bdR (iter (S := ((List (List Int)) × Int × Int)) (X := Empty) (fun s274 => (bif (decide (s274.2.2 < (len a0.clauses))) then bdR (iter (S := ((List Int) × Int)) (X := Empty) (fun s792 => bd (ix a0.clauses s274.2.2) (fun x993 => (bif (decide (s792.2 < (len x993))) then bd (ix a0.clauses s274.2.2) (fun x1004 => bd (ix x1004 s792.2) (fun x1014 => bd (ix a1 (wr ((PF.spec_l2Var x1014) - 1))) (fun x1025 => (bif (decide (x1014 < 0)) then bd (PF.spec_l2Put s792.1 (wr (-x1025))) (fun r1033 => some (Lp.nx (r1033, (wr (s792.2 + 1))))) else bd (PF.spec_l2Put s792.1 x1025) (fun r1050 => some (Lp.nx (r1050, (wr (s792.2 + 1))))))))) else some (Lp.bk (s792.1, s792.2))))) ([], 0)) (fun s792 => bd (app s274.1 [s792.1]) (fun xs1085 => some (Lp.nx (xs1085, s274.2.1, (wr (s274.2.2 + 1)))))) (fun x792 => nomatch x792) else some (Lp.bk (s274.1, s274.2.1, s274.2.2)))) ([], a0.vars, 0)) (fun s274 => some ((Cnf.mk s274.2.1 s274.1), true)) (fun x274 => nomatch x274)) (fun x54 => some x54)))

def spec_l1Cur_among (a0 : l1Cur) (a1 : List Int) : Option (Int × l1Cur) :=
  bd (PF.spec_l1Cur_pick a0 (len a1)) (fun r21 => bd (ix a1 r21.1) (fun x35 => some (x35, r21.2)))

def spec_l2Without (a0 : List Int) (a1 : Int) : Option (List Int) :=
  bdR (forL (S := (List Int)) (X := Empty) a0 (fun i27 y26 s27 => (bif (!((PF.spec_l2Var y26) == a1)) then bd (app s27 [y26]) (fun xs103 => some (Lp.nx xs103)) else some (Lp.nx s27))) []) (fun s27 => some s27) (fun x27 => nomatch x27)

noncomputable def spec_l1Cur_clause (a0 : l1Cur) (a1 : Int) : Option ((List Int) × l1Cur) :=
  bd (PF.spec_l1Cur_among a0 [1, 2, 2, 3, 3, 4, 0, 2]) (fun r36 => bdR (iter (S := ((List Int) × Int × Int × (List Int) × Int)) (X := Empty) (fun s45 => (bif (bif (decide (0 < s45.2.2.2.2)) then (decide (0 < a1)) else false) then bd (PF.spec_l1Cur_pick (l1Cur.mk s45.1 s45.2.1 s45.2.2.1) a1) (fun r260 => bd (PF.spec_l2Without s45.2.2.2.1 (wr (1 + r260.1))) (fun r273 => bd (PF.spec_l1Cur_one r260.2 2) (fun r285 => (bif r285.1 then bd (PF.spec_l2Put r273 (wr (-(wr (1 + r260.1))))) (fun r300 => some (Lp.nx (r285.2.code, r285.2.at_, r285.2.seed, r300, (wr (s45.2.2.2.2 - 1))))) else bd (PF.spec_l2Put r273 (wr (1 + r260.1))) (fun r317 => some (Lp.nx (r285.2.code, r285.2.at_, r285.2.seed, r317, (wr (s45.2.2.2.2 - 1))))))))) else some (Lp.bk (s45.1, s45.2.1, s45.2.2.1, s45.2.2.2.1, s45.2.2.2.2)))) (r36.2.code, r36.2.at_, r36.2.seed, [], r36.1)) (fun s45 => some (s45.2.2.2.1, (l1Cur.mk s45.1 s45.2.1 s45.2.2.1))) (fun x45 => nomatch x45))

noncomputable def spec_l1Cur_hard (a0 : l1Cur) : Option (Cnf × l1Cur) :=
  bd (PF.spec_l1Cur_of a0 PF.spec_l2Hard) (fun r38 => bd (PF.spec_l2Known r38.1) (fun r47 => bdR (iter (S := ((List Int) × (List Int) × Int × Int × Int)) (X := Empty) (fun s71 => (bif (decide (s71.2.2.2.2 ≤ r47.vars)) then bd (PF.spec_l1Cur_one (l1Cur.mk s71.2.1 s71.2.2.1 s71.2.2.2.1) 4) (fun r199 => (bif r199.1 then bd (app s71.1 [(wr (-s71.2.2.2.2))]) (fun xs214 => some (Lp.nx (xs214, r199.2.code, r199.2.at_, r199.2.seed, (wr (s71.2.2.2.2 + 1))))) else bd (app s71.1 [s71.2.2.2.2]) (fun xs230 => some (Lp.nx (xs230, r199.2.code, r199.2.at_, r199.2.seed, (wr (s71.2.2.2.2 + 1))))))) else some (Lp.bk (s71.1, s71.2.1, s71.2.2.1, s71.2.2.2.1, s71.2.2.2.2)))) ([], r38.2.code, r38.2.at_, r38.2.seed, 1)) (fun s71 => bd (PF.spec_RenameCnf r47 s71.1) (fun r256 => bd (PF.spec_l1Cur_pick (l1Cur.mk s71.2.1 s71.2.2.1 s71.2.2.2.1) 3) (fun r273 => bdR (iter (S := ((List (List Int)) × (List Int) × Int × Int × Int × Int)) (X := Empty) (fun s282 => (bif (bif (decide (0 < s282.2.2.2.2.2)) then (decide (0 < s282.2.2.2.2.1)) else false) then bd (PF.spec_l1Cur_clause (l1Cur.mk s282.2.1 s282.2.2.1 s282.2.2.2.1) s282.2.2.2.2.1) (fun r90388 => bd (app s282.1 [r90388.1]) (fun xs96388 => some (Lp.nx (xs96388, r90388.2.code, r90388.2.at_, r90388.2.seed, s282.2.2.2.2.1, (wr (s282.2.2.2.2.2 - 1)))))) else some (Lp.bk (s282.1, s282.2.1, s282.2.2.1, s282.2.2.2.1, s282.2.2.2.2.1, s282.2.2.2.2.2)))) (r256.1.clauses, r273.2.code, r273.2.at_, r273.2.seed, r256.1.vars, r273.1)) (fun s282 => some ((Cnf.mk s282.2.2.2.2.1 s282.1), (l1Cur.mk s282.2.1 s282.2.2.1 s282.2.2.2.1))) (fun x282 => nomatch x282)))) (fun x71 => nomatch x71)))

def spec_l1Cur_lit (a0 : l1Cur) (a1 : Int) : Option (Int × l1Cur) :=
  bd (bif (decide (a1 < 1)) then some (a0.code, a0.at_, a0.seed, true) else bd (PF.spec_l1Cur_one a0 40) (fun r33 => some (r33.2.code, r33.2.at_, r33.2.seed, r33.1))) (fun t29 => (bif t29.2.2.2 then bd (PF.spec_l1Cur_among (l1Cur.mk t29.1 t29.2.1 t29.2.2.1) [0, (wr (a1 + 1)), (wr ((wr (-a1)) - 1))]) (fun r60 => some (r60.1, r60.2)) else bd (PF.spec_l1Cur_pick (l1Cur.mk t29.1 t29.2.1 t29.2.2.1) a1) (fun r68 => bd (PF.spec_l1Cur_one r68.2 2) (fun r76 => (bif r76.1 then some ((wr (-(wr (1 + r68.1)))), r76.2) else some ((wr (1 + r68.1)), r76.2))))))

noncomputable def spec_l1Cur_anyClause (a0 : l1Cur) (a1 : Int) : Option ((List Int) × l1Cur) :=
  bd (PF.spec_l1Cur_clause a0 a1) (fun r21 => bd (PF.spec_l1Cur_pick r21.2 32) (fun r33 => (bif (r33.1 == 0) then bd (PF.spec_l1Cur_lit r33.2 a1) (fun r43 => bd (app r21.1 [r43.1]) (fun xs56 => some (xs56, r43.2))) else (bif (r33.1 == 1) then (bif (decide (0 < (len r21.1))) then bd (PF.spec_l1Cur_among r33.2 [0, (wr (a1 + 1)), (wr ((wr (-a1)) - 1)), (-9223372036854775808)]) (fun r79 => bd (ix r21.1 0) (fun x93 => bd (put r21.1 0 r79.1) (fun xs98 => some (xs98, r79.2)))) else some (r21.1, r33.2)) else (bif (r33.1 == 2) then (bif (decide (1 < (len r21.1))) then bd (ix r21.1 0) (fun x111 => bd (ix r21.1 1) (fun x119 => bd (ix r21.1 0) (fun x127 => bd (put r21.1 0 x119) (fun xs132 => bd (ix xs132 1) (fun x143 => bd (put xs132 1 x111) (fun xs148 => some (xs148, r33.2))))))) else some (r21.1, r33.2)) else some (r21.1, r33.2))))))

noncomputable def spec_l1Cur_cnf (a0 : l1Cur) : Option (Cnf × l1Cur) :=
  bd (PF.spec_l1Cur_one a0 4) (fun r25 => (bif r25.1 then bd (PF.spec_l1Cur_hard r25.2) (fun r35 => some (r35.1, r35.2)) else bd (PF.spec_l1Cur_among r25.2 [2, 3, 3, 4, 5]) (fun r58 => bd (PF.spec_l1Cur_pick r58.2 10) (fun r78 => bdR (iter (S := ((List (List Int)) × (List Int) × Int × Int × Int × Int)) (X := Empty) (fun s87 => (bif (decide (0 < s87.2.2.2.2.2)) then bd (PF.spec_l1Cur_clause (l1Cur.mk s87.2.1 s87.2.2.1 s87.2.2.2.1) s87.2.2.2.2.1) (fun r90157 => bd (app s87.1 [r90157.1]) (fun xs96157 => some (Lp.nx (xs96157, r90157.2.code, r90157.2.at_, r90157.2.seed, s87.2.2.2.2.1, (wr (s87.2.2.2.2.2 - 1)))))) else some (Lp.bk (s87.1, s87.2.1, s87.2.2.1, s87.2.2.2.1, s87.2.2.2.2.1, s87.2.2.2.2.2)))) ([], r78.2.code, r78.2.at_, r78.2.seed, r58.1, r78.1)) (fun s87 => bd (PF.spec_l1Cur_pick (l1Cur.mk s87.2.1 s87.2.2.1 s87.2.2.2.1) 40) (fun r108183 => (bif (r108183.1 == 0) then bd (PF.spec_l1Cur_among r108183.2 [(-1), 13, 12, 0, 1]) (fun r108202 => some ((Cnf.mk r108202.1 s87.1), r108202.2)) else (bif (r108183.1 == 1) then bd (PF.spec_l1Cur_anyClause r108183.2 s87.2.2.2.2.1) (fun r126223 => bd (app s87.1 [r126223.1]) (fun xs132223 => some ((Cnf.mk s87.2.2.2.2.1 xs132223), r126223.2))) else (bif (r108183.1 == 2) then bdR (iter (S := ((List (List Int)) × (List Int) × Int × Int × Int)) (X := Empty) (fun s144248 => bd (PF.spec_l1Cur_pick (l1Cur.mk s144248.2.1 s144248.2.2.1 s144248.2.2.2.1) 2) (fun r213366 => (bif (decide ((len s144248.1) < (wr (60 + r213366.1)))) then bd (app s144248.1 [[1]]) (fun xs225395 => some (Lp.nx (xs225395, r213366.2.code, r213366.2.at_, r213366.2.seed, s144248.2.2.2.2))) else some (Lp.bk (s144248.1, r213366.2.code, r213366.2.at_, r213366.2.seed, s144248.2.2.2.2))))) (s87.1, r108183.2.code, r108183.2.at_, r108183.2.seed, s87.2.2.2.2.1)) (fun s144248 => some ((Cnf.mk s144248.2.2.2.2 s144248.1), (l1Cur.mk s144248.2.1 s144248.2.2.1 s144248.2.2.2.1))) (fun x144248 => nomatch x144248) else (bif (r108183.1 == 3) then bd (PF.spec_l1Cur_clause r108183.2 s87.2.2.2.2.1) (fun r243428 => bd (app s87.1 [r243428.1, []]) (fun xs252428 => some ((Cnf.mk s87.2.2.2.2.1 xs252428), r243428.2))) else some ((Cnf.mk s87.2.2.2.2.1 s87.1), r108183.2))))))) (fun x87 => nomatch x87)))))

def spec_l1Least (a0 : Int) (a1 : Int) : Int :=
  (bif (decide (a0 < a1)) then a0 else a1)

noncomputable def spec_DrawEliminateVar (a0 : List Int) : Option (Cnf × Int) :=
  bd (PF.spec_l1Cur_cnf (l1Cur.mk a0 0 0)) (fun r29 => bd (bif (decide (r29.1.vars < 1)) then some (r29.2.code, r29.2.at_, r29.2.seed, true) else bd (PF.spec_l1Cur_one r29.2 16) (fun r62 => some (r62.2.code, r62.2.at_, r62.2.seed, r62.1))) (fun t58 => (bif t58.2.2.2 then bd (PF.spec_l1Cur_among (l1Cur.mk t58.1 t58.2.1 t58.2.2.1) [(-1), 0, (wr (r29.1.vars + 1))]) (fun r21085 => some (r29.1, r21085.1)) else bd (PF.spec_l1Cur_pick (l1Cur.mk t58.1 t58.2.1 t58.2.2.1) (PF.spec_l1Least r29.1.vars 12)) (fun r51090 => some (r29.1, (wr (1 + r51090.1)))))))

def impl_within (a0 : Int) (a1 : Int) (a2 : Int) : Bool :=
  (bif (decide (a1 ≤ a0)) then (decide (a0 ≤ a2)) else false)

def impl_isLiteral (a0 : Int) (a1 : Int) : Bool :=
  (bif (!(a1 == 0)) then (PF.impl_within a1 (wr (-a0)) a0) else false)

def impl_abs (a0 : Int) : Int :=
  (mx a0 (wr (-a0)))

def impl_varsOk (a0 : Int) : Bool :=
  (PF.impl_within a0 0 12)

def impl_IsClause (a0 : Int) (a1 : List Int) : Option Bool :=
  bdR (forL (S := Unit) (X := Bool) a1 (fun i22 y21 s22 => bd (bif (!(PF.impl_isLiteral a0 y21)) then some true else bd (bif (decide (0 < ((i22 : Nat) : Int))) then bd (ix a1 (wr (((i22 : Nat) : Int) - 1))) (fun x192 => some (decide ((PF.impl_abs y21) ≤ (PF.impl_abs x192)))) else some false) (fun t179 => some t179)) (fun t164 => (bif t164 then some (Lp.rt false) else some (Lp.nx ())))) ()) (fun s22 => some (PF.impl_varsOk a0)) (fun x22 => some x22)

def impl_IsCnf (a0 : Cnf) : Option Bool :=
  bdR (forL (S := Unit) (X := Bool) a0.clauses (fun i30 y29 s30 => bd (PF.impl_IsClause a0.vars y29) (fun r71 => (bif (!r71) then some (Lp.rt false) else some (Lp.nx ())))) ()) (fun s30 => some (bif (PF.impl_varsOk a0.vars) then (decide ((len a0.clauses) ≤ 60)) else false)) (fun x30 => some x30)

def impl_isVar (a0 : Int) (a1 : Int) : Bool :=
  (PF.impl_within a1 1 a0)

def slices_Index_int_int (a0 : List Int) (a1 : Int) : Option Int :=
  bdR (forL (S := Unit) (X := Int) a0 (fun i22 y21 s22 => (bif (a1 == y21) then some (Lp.rt ((i22 : Nat) : Int)) else some (Lp.nx ()))) ()) (fun s22 => some (-1)) (fun x22 => some x22)

def slices_Contains_int_int (a0 : List Int) (a1 : Int) : Option Bool :=
  bd (PF.slices_Index_int_int a0 a1) (fun r21 => some (decide (0 ≤ r21)))

def slices_Clone_int_int (a0 : List Int) : Option (List Int) :=
  bd (app [] a0) (fun xs30 => some xs30)

def slices_IndexFunc_int_int (a0 : List Int) (a1 : Int → Option Bool) : Option Int :=
  bdR (forL (S := Unit) (X := Int) a0 (fun i22 y21 s22 => bd (a1 y21) (fun r64 => (bif r64 then some (Lp.rt ((i22 : Nat) : Int)) else some (Lp.nx ())))) ()) (fun s22 => some (-1)) (fun x22 => some x22)

noncomputable def slices_DeleteFunc_int_int (a0 : List Int) (a1 : Int → Option Bool) : Option (List Int) :=
  bd (PF.slices_IndexFunc_int_int a0 a1) (fun r26 => (bif (r26 == (-1)) then some a0 else bdR (iter (S := ((List Int) × Int × Int)) (X := Empty) (fun s32 => (bif (decide (s32.2.2 < (len s32.1))) then bd (ix s32.1 s32.2.2) (fun x141 => bd (a1 x141) (fun r143 => (bif (!r143) then bd (ix s32.1 s32.2.1) (fun x160 => bd (put s32.1 s32.2.1 x141) (fun xs165 => some (Lp.nx (xs165, (wr (s32.2.1 + 1)), (wr (s32.2.2 + 1)))))) else some (Lp.nx (s32.1, s32.2.1, (wr (s32.2.2 + 1))))))) else some (Lp.bk (s32.1, s32.2.1, s32.2.2)))) (a0, r26, (wr (r26 + 1)))) (fun s32 => bd (cut s32.1 s32.2.1 (len s32.1)) (fun xs178 => bd (cut (clearL 0 s32.1 s32.2.1) 0 s32.2.1) (fun xs188 => some xs188))) (fun x32 => nomatch x32)))

def impl_withoutVar_1 (a0 : Int) (b0 : Int) : Bool :=
  ((PF.impl_abs a0) == b0)

noncomputable def impl_withoutVar (a0 : List Int) (a1 : Int) : Option (List Int) :=
  bd (PF.slices_Clone_int_int a0) (fun r29 => bd (PF.slices_DeleteFunc_int_int r29 (fun x0 => some (PF.impl_withoutVar_1 x0 a1))) (fun r39 => some r39))

def slices_Grow_int_int (a1 : Int) : Option (List Int) := if 0 ≤ a1 ∧ a1 ≤ lim then some [] else none

def slices_Concat_int_int (a0 : List (List Int)) : Option (List Int) :=
  bdR (forL (S := Int) (X := Empty) a0 (fun i22 y21 s22 => (bif (decide ((wr (s22 + (len y21))) < 0)) then none else some (Lp.nx (wr (s22 + (len y21)))))) 0) (fun s22 => bd (PF.slices_Grow_int_int s22) (fun r69 => bdR (forL (S := (List Int)) (X := Empty) a0 (fun i80 y79 s80 => bd (app s80 y79) (fun xs129 => some (Lp.nx xs129))) r69) (fun s80 => some s80) (fun x80 => nomatch x80))) (fun x22 => nomatch x22)

noncomputable def slices_SortFunc_int_int (a0 : List Int) (a1 : Int → Int → Option Int) : Option (List Int) := sortF a1 a0

def cmp_isNaN_int (a0 : Int) : Bool :=
  (!(a0 == a0))

def cmp_Compare_int (a0 : Int) (a1 : Int) : Int :=
  (bif (PF.cmp_isNaN_int a0) then (bif (PF.cmp_isNaN_int a1) then 0 else (-1)) else (bif (PF.cmp_isNaN_int a1) then 1 else (bif (decide (a0 < a1)) then (-1) else (bif (decide (a1 < a0)) then 1 else 0))))

def cmp_Or_int (a0 : List Int) : Option Int :=
  bdR (forL (S := Unit) (X := Int) a0 (fun i22 y21 s22 => (bif (!(y21 == 0)) then some (Lp.rt y21) else some (Lp.nx ()))) ()) (fun s22 => some 0) (fun x22 => some x22)

def impl_compareLiterals (a0 : Int) (a1 : Int) : Option Int :=
  bd (PF.cmp_Or_int [(PF.cmp_Compare_int (PF.impl_abs a0) (PF.impl_abs a1)), (PF.cmp_Compare_int a1 a0)]) (fun r43 => some r43)

def slices_Compact_int_int (a0 : List Int) : Option (List Int) := some (compactL a0)

noncomputable def impl_clause (a0 : List Int) : Option ((List Int) × Bool) :=
  bd (PF.slices_Clone_int_int a0) (fun r21 => bd (PF.slices_SortFunc_int_int r21 (fun x0 x1 => PF.impl_compareLiterals x0 x1)) (fun r31 => bd (PF.slices_Compact_int_int r31) (fun r39 => bdR (iter (S := Int) (X := ((List Int) × Bool)) (fun s49 => (bif (decide (s49 < (len r39))) then bd (ix r39 s49) (fun x94 => bd (ix r39 (wr (s49 - 1))) (fun x102 => (bif (x94 == (wr (-x102))) then some (Lp.rt ([], false)) else some (Lp.nx (wr (s49 + 1)))))) else some (Lp.bk s49))) 1) (fun s49 => some (r39, true)) (fun x49 => some x49))))

noncomputable def impl_resolve (a0 : List Int) (a1 : List Int) (a2 : Int) : Option ((List Int) × Bool) :=
  bd (PF.slices_Contains_int_int a0 a2) (fun r21 => bd (bif (!r21) then some true else bd (PF.slices_Contains_int_int a1 (wr (-a2))) (fun r38 => some (!r38))) (fun t31 => (bif t31 then some ([], false) else bd (PF.impl_withoutVar a0 a2) (fun r48 => bd (PF.impl_withoutVar a1 a2) (fun r58 => bd (PF.slices_Concat_int_int [r48, r58]) (fun r88 => bd (PF.impl_clause r88) (fun r105 => some (r105.1, r105.2))))))))

noncomputable def slices_SortFunc_LLint_Lint (a0 : List (List Int)) (a1 : (List Int) → (List Int) → Option Int) : Option (List (List Int)) := sortF a1 a0

def slices_CompareFunc_int_int_int_int (a0 : List Int) (a1 : List Int) (a2 : Int → Int → Option Int) : Option Int :=
  bdR (forL (S := Unit) (X := Int) a0 (fun i22 y21 s22 => (bif (decide ((len a1) ≤ ((i22 : Nat) : Int))) then some (Lp.rt 1) else bd (ix a1 ((i22 : Nat) : Int)) (fun x84 => bd (a2 y21 x84) (fun r86 => (bif (!(r86 == 0)) then some (Lp.rt r86) else some (Lp.nx ())))))) ()) (fun s22 => (bif (decide ((len a0) < (len a1))) then some (-1) else some 0)) (fun x22 => some x22)

def impl_compareClauses (a0 : List Int) (a1 : List Int) : Option Int :=
  bd (PF.slices_CompareFunc_int_int_int_int a0 a1 (fun x0 x1 => PF.impl_compareLiterals x0 x1)) (fun r24 => bd (PF.cmp_Or_int [(PF.cmp_Compare_int (len a0) (len a1)), r24]) (fun r39 => some r39))

def slices_CompactFunc_LLint_Lint (a0 : List (List Int)) (a1 : (List Int) → (List Int) → Option Bool) : Option (List (List Int)) := compF a1 a0

def slices_Equal_int_int (a0 : List Int) (a1 : List Int) : Option Bool :=
  (bif (!((len a0) == (len a1))) then some false else bdR (forL (S := Unit) (X := Bool) a0 (fun i23 y22 s23 => bd (ix a1 ((i23 : Nat) : Int)) (fun x74 => (bif (!(y22 == x74)) then some (Lp.rt false) else some (Lp.nx ())))) ()) (fun s23 => some true) (fun x23 => some x23))

noncomputable def impl_EliminateVar (a0 : Cnf) (a1 : Int) : Option (Cnf × Bool) :=
  bd (PF.impl_IsCnf a0) (fun r35 => (bif (bif (!r35) then true else (!(PF.impl_isVar a0.vars a1))) then some ((Cnf.mk 0 []), false) else bdR (forL (S := ((List (List Int)) × Int)) (X := Empty) a0.clauses (fun i81 y80 s81 => bd (PF.slices_Contains_int_int y80 a1) (fun r60739 => bd (bif (!r60739) then bd (PF.slices_Contains_int_int y80 (wr (-a1))) (fun r60756 => some (!r60756)) else some false) (fun t60749 => (bif t60749 then bd (PF.slices_Clone_int_int y80) (fun r72771 => bd (app s81.1 [r72771]) (fun xs78771 => bdR (forL (S := ((List (List Int)) × Int)) (X := Empty) a0.clauses (fun i90791 y90790 s90791 => bd (PF.impl_resolve y80 y90790 a1) (fun r90943 => (bif r90943.2 then bd (app s90791.1 [r90943.1]) (fun xs90965 => some (Lp.nx (xs90965, s90791.2))) else some (Lp.nx (s90791.1, s90791.2))))) (xs78771, s81.2)) (fun s90791 => some (Lp.nx (s90791.1, s90791.2))) (fun x90791 => nomatch x90791))) else bdR (forL (S := ((List (List Int)) × Int)) (X := Empty) a0.clauses (fun i91010 y91009 s91010 => bd (PF.impl_resolve y80 y91009 a1) (fun r91162 => (bif r91162.2 then bd (app s91010.1 [r91162.1]) (fun xs91184 => some (Lp.nx (xs91184, s91010.2))) else some (Lp.nx (s91010.1, s91010.2))))) (s81.1, s81.2)) (fun s91010 => some (Lp.nx (s91010.1, s91010.2))) (fun x91010 => nomatch x91010))))) ([], a0.vars)) (fun s81 => bd (PF.slices_SortFunc_LLint_Lint s81.1 (fun x0 x1 => PF.impl_compareClauses x0 x1)) (fun r91236 => bd (PF.slices_CompactFunc_LLint_Lint r91236 (fun x0 x1 => PF.slices_Equal_int_int x0 x1)) (fun r91245 => (bif (decide (60 < (len r91245))) then some ((Cnf.mk 0 []), false) else some ((Cnf.mk s81.2 r91245), true))))) (fun x81 => nomatch x81)))

def spec_l2Key (a0 : Int) : Int :=
  (bif (decide (a0 < 0)) then (wr ((wr ((-2) * a0)) + 1)) else (wr (2 * a0)))

def spec_l2Before (a0 : List Int) (a1 : List Int) : Option Bool :=
  (bif (!((len a0) == (len a1))) then some (decide ((len a0) < (len a1))) else bdR (forL (S := Unit) (X := Bool) a0 (fun i23 y22 s23 => bd (ix a1 ((i23 : Nat) : Int)) (fun x90 => (bif (!(y22 == x90)) then bd (ix a1 ((i23 : Nat) : Int)) (fun x109 => some (Lp.rt (decide ((PF.spec_l2Key y22) < (PF.spec_l2Key x109))))) else some (Lp.nx ())))) ()) (fun s23 => some false) (fun x23 => some x23))

noncomputable def spec_l2Place (a0 : List (List Int)) (a1 : List Int) : Option Int :=
  bdR (iter (S := (Int × Int)) (X := Empty) (fun s21 => (bif (decide (s21.1 < s21.2)) then bd (ix a0 (wr ((wr (s21.1 + s21.2)).tdiv 2))) (fun x64 => bd (PF.spec_l2Before x64 a1) (fun r68 => (bif r68 then some (Lp.nx ((wr ((wr ((wr (s21.1 + s21.2)).tdiv 2)) + 1)), s21.2)) else some (Lp.nx (s21.1, (wr ((wr (s21.1 + s21.2)).tdiv 2))))))) else some (Lp.bk (s21.1, s21.2)))) (0, (len a0))) (fun s21 => some s21.1) (fun x21 => nomatch x21)

def spec_l1Same (a0 : List Int) (a1 : List Int) : Option Bool :=
  (bif (!((len a0) == (len a1))) then some false else bdR (forL (S := Unit) (X := Bool) a0 (fun i23 y22 s23 => bd (ix a1 ((i23 : Nat) : Int)) (fun x72 => (bif (!(y22 == x72)) then some (Lp.rt false) else some (Lp.nx ())))) ()) (fun s23 => some true) (fun x23 => some x23))

noncomputable def spec_l2Insert (a0 : List (List Int)) (a1 : List Int) : Option (List (List Int)) :=
  bd (PF.spec_l2Place a0 a1) (fun r21 => bd (bif (decide (r21 < (len a0))) then bd (ix a0 r21) (fun x54 => bd (PF.spec_l1Same x54 a1) (fun r58 => some r58)) else some false) (fun t41 => (bif t41 then some a0 else bd (cut a0 0 r21) (fun xs12068 => bd (app [] xs12068) (fun xs15068 => bd (app xs15068 [a1]) (fun xs24068 => bd (cut a0 r21 (len a0)) (fun xs33068 => bd (app xs24068 xs33068) (fun xs36068 => some xs36068))))))))

noncomputable def spec_l2Join (a0 : List Int) (a1 : List Int) : Option ((List Int) × Bool) :=
  bd (PF.spec_l1Own a0) (fun r21 => bdR (forL (S := (List Int)) (X := ((List Int) × Bool)) a1 (fun i32 y31 s32 => bd (PF.spec_l2Has s32 (wr (-y31))) (fun r200 => (bif r200 then some (Lp.rt ([], false)) else bd (PF.spec_l2Has s32 y31) (fun r222 => (bif (!r222) then bd (PF.spec_l2Put s32 y31) (fun r239 => some (Lp.nx r239)) else some (Lp.nx s32)))))) r21) (fun s32 => some (s32, true)) (fun x32 => some x32))

noncomputable def spec_l2Resolve (a0 : List Int) (a1 : List Int) (a2 : Int) : Option ((List Int) × Bool) :=
  bd (PF.spec_l2Has a0 a2) (fun r21 => bd (bif (!r21) then some true else bd (PF.spec_l2Has a1 (wr (-a2))) (fun r38 => some (!r38))) (fun t31 => (bif t31 then some ([], false) else bd (PF.spec_l2Without a0 a2) (fun r53 => bd (PF.spec_l2Without a1 a2) (fun r63 => bd (PF.spec_l2Join r53 r63) (fun r83 => some (r83.1, r83.2)))))))

noncomputable def spec_EliminateVar (a0 : Cnf) (a1 : Int) : Option (Cnf × Bool) :=
  bd (PF.spec_l2Good a0) (fun r35 => (bif (bif (!r35) then true else (!(PF.spec_l1In a1 1 a0.vars))) then some ((Cnf.mk 0 []), false) else bdR (iter (S := ((List (List Int)) × Int)) (X := Empty) (fun s80 => (bif (decide (s80.2 < (len a0.clauses))) then bd (ix a0.clauses s80.2) (fun x298 => bd (PF.spec_l2Has x298 a1) (fun r302 => bd (bif (!r302) then bd (PF.spec_l2Has x298 (wr (-a1))) (fun r319 => some (!r319)) else some false) (fun t312 => (bif t312 then bd (app [] x298) (fun xs337 => bd (PF.spec_l2Insert s80.1 xs337) (fun r352 => bdR (iter (S := ((List (List Int)) × Int)) (X := Empty) (fun s360 => bd (bif (decide (s360.2 < (len a0.clauses))) then bd (PF.spec_l2Has x298 a1) (fun r465 => some r465) else some false) (fun t458 => (bif t458 then bd (ix a0.clauses s360.2) (fun x485 => bd (PF.spec_l2Has x485 (wr (-a1))) (fun r489 => (bif r489 then bd (PF.spec_l2Resolve x298 x485 a1) (fun r495 => (bif r495.2 then bd (PF.spec_l2Insert s360.1 r495.1) (fun r511 => some (Lp.nx (r511, (wr (s360.2 + 1))))) else some (Lp.nx (s360.1, (wr (s360.2 + 1)))))) else some (Lp.nx (s360.1, (wr (s360.2 + 1))))))) else some (Lp.bk (s360.1, s360.2))))) (r352, 0)) (fun s360 => some (Lp.nx (s360.1, (wr (s80.2 + 1))))) (fun x360 => nomatch x360))) else bdR (iter (S := ((List (List Int)) × Int)) (X := Empty) (fun s530 => bd (bif (decide (s530.2 < (len a0.clauses))) then bd (PF.spec_l2Has x298 a1) (fun r635 => some r635) else some false) (fun t628 => (bif t628 then bd (ix a0.clauses s530.2) (fun x655 => bd (PF.spec_l2Has x655 (wr (-a1))) (fun r659 => (bif r659 then bd (PF.spec_l2Resolve x298 x655 a1) (fun r665 => (bif r665.2 then bd (PF.spec_l2Insert s530.1 r665.1) (fun r681 => some (Lp.nx (r681, (wr (s530.2 + 1))))) else some (Lp.nx (s530.1, (wr (s530.2 + 1)))))) else some (Lp.nx (s530.1, (wr (s530.2 + 1))))))) else some (Lp.bk (s530.1, s530.2))))) (s80.1, 0)) (fun s530 => some (Lp.nx (s530.1, (wr (s80.2 + 1))))) (fun x530 => nomatch x530))))) else some (Lp.bk (s80.1, s80.2)))) ([], 0)) (fun s80 => (bif (decide (60 < (len s80.1))) then some ((Cnf.mk 0 []), false) else some ((Cnf.mk a0.vars s80.1), true))) (fun x80 => nomatch x80)))

def laws_rInts (a0 : List Int) (a1 : List Int) : Option Bool :=
  (bif (!((len a0) == (len a1))) then some false else bdR (forL (S := Unit) (X := Bool) a0 (fun i23 y22 s23 => bd (ix a1 ((i23 : Nat) : Int)) (fun x72 => (bif (!(y22 == x72)) then some (Lp.rt false) else some (Lp.nx ())))) ()) (fun s23 => some true) (fun x23 => some x23))

def laws_rTable (a0 : List (List Int)) (a1 : List (List Int)) : Option Bool :=
  (bif (!((len a0) == (len a1))) then some false else bdR (forL (S := Unit) (X := Bool) a0 (fun i23 y22 s23 => bd (ix a1 ((i23 : Nat) : Int)) (fun x80 => bd (PF.laws_rInts y22 x80) (fun r84 => (bif (!r84) then some (Lp.rt false) else some (Lp.nx ()))))) ()) (fun s23 => some true) (fun x23 => some x23))

def laws_rCnf (a0 : Cnf) (a1 : Cnf) : Option Bool :=
  bd (bif (a0.vars == a1.vars) then bd (PF.laws_rTable a0.clauses a1.clauses) (fun r49 => some r49) else some false) (fun t42 => some t42)

def slices_IndexFunc_LLint_Lint (a0 : List (List Int)) (a1 : (List Int) → Option Bool) : Option Int :=
  bdR (forL (S := Unit) (X := Int) a0 (fun i22 y21 s22 => bd (a1 y21) (fun r68 => (bif r68 then some (Lp.rt ((i22 : Nat) : Int)) else some (Lp.nx ())))) ()) (fun s22 => some (-1)) (fun x22 => some x22)

def slices_ContainsFunc_LLint_Lint (a0 : List (List Int)) (a1 : (List Int) → Option Bool) : Option Bool :=
  bd (PF.slices_IndexFunc_LLint_Lint a0 a1) (fun r21 => some (decide (0 ≤ r21)))

def slices_ContainsFunc_int_int (a0 : List Int) (a1 : Int → Option Bool) : Option Bool :=
  bd (PF.slices_IndexFunc_int_int a0 a1) (fun r21 => some (decide (0 ≤ r21)))

def impl_holds_1 (a0 : Int) (b0 : Int) : Option Bool :=
  bd (nn (wr ((PF.impl_abs a0) - 1))) (fun u23 => some (((andK true 64 (shrK 64 b0 (wr ((PF.impl_abs a0) - 1))) 1) == 1) == (decide (0 < a0))))

def impl_holds (a0 : List Int) (a1 : Int) : Option Bool :=
  bd (PF.slices_ContainsFunc_int_int a0 (fun x0 => PF.impl_holds_1 x0 a1)) (fun r29 => some r29)

def impl_isModel_1 (a0 : List Int) (b0 : Int) : Option Bool :=
  bd (PF.impl_holds a0 b0) (fun r21 => some (!r21))

def impl_isModel (a0 : List (List Int)) (a1 : Int) : Option Bool :=
  bd (PF.slices_ContainsFunc_LLint_Lint a0 (fun x0 => PF.impl_isModel_1 x0 a1)) (fun r29 => some (!r29))

def impl_IsModel (a0 : Cnf) (a1 : Int) : Option (Bool × Bool) :=
  bd (PF.impl_IsCnf a0) (fun r29 => bd (bif (!r29) then some true else bd (nn a0.vars) (fun u47 => some (!(PF.impl_within a1 0 (wr ((shlK true 64 1 a0.vars) - 1)))))) (fun t39 => (bif t39 then some (false, false) else bd (PF.impl_isModel a0.clauses a1) (fun r55 => some (r55, true)))))

noncomputable def laws_FnElimination (a0 : List Int) : Option Bool :=
  (bif (PF.laws_rBig a0) then some true else bd (PF.spec_DrawEliminateVar a0) (fun r25 => bd (PF.impl_EliminateVar r25.1 r25.2) (fun r45 => bd (PF.spec_EliminateVar r25.1 r25.2) (fun r70 => bd (bif (!(r45.2 == r70.2)) then some true else bd (PF.laws_rCnf r45.1 r70.1) (fun r103 => some (!r103))) (fun t96 => (bif t96 then some false else (bif (!r45.2) then some true else bdR (iter (S := Int) (X := Bool) (fun s115 => bd (nn r25.1.vars) (fun u240 => (bif (bif (decide (s115 < (shlK true 64 1 r25.1.vars))) then (decide (s115 < 256)) else false) then bd (PF.impl_IsModel r25.1 s115) (fun r254 => bd (nn (wr (r25.2 - 1))) (fun u261 => bd (PF.impl_IsModel r25.1 (xorK true 64 s115 (shlK true 64 1 (wr (r25.2 - 1))))) (fun r262 => bd (PF.impl_IsModel r45.1 s115) (fun r267 => (bif (bif (bif (bif (!r254.2) then true else (!r262.2)) then true else (!r267.2)) then true else (!(r267.1 == (bif r254.1 then true else r262.1)))) then some (Lp.rt false) else some (Lp.nx (wr (s115 + 1)))))))) else some (Lp.bk s115)))) 0) (fun s115 => some true) (fun x115 => some x115))))))))

end Go.PF
