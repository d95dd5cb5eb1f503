/- Part of the walks and plain laws behind the claim: it proves helpers, under no condition beyond their own. -/
import Derived.Test.YtdkkikkmnfjgiaaGreatPl1
import Derived.Test.YtdkkikkmnfjgiaaGreatPrPu4
import Derived.Test.YtdkkikkmnfjgiaaGreatPrPu6
set_option linter.unusedVariables false
namespace Go.PF
open Go.Pu

structure Cnf where
  vars : Int
  clauses : List (List Int)
def okCnf (s : Cnf) : Prop := okI s.vars ∧ (okL (okL okI)) s.clauses

structure Inequality where
  coeffs : List Int
  bound : Int
def okInequality (s : Inequality) : Prop := (okL okI) s.coeffs ∧ okI s.bound

structure PlaneStep where
  ineq : Inequality
  kind : Int
  a : Int
  b : Int
  k : Int
def okPlaneStep (s : PlaneStep) : Prop := okInequality s.ineq ∧ okI s.kind ∧ okI s.a ∧ okI s.b ∧ okI s.k

structure Term where
  mono : Int
  coeff : Int
def okTerm (s : Term) : Prop := okI s.mono ∧ okI s.coeff

structure PcStep where
  kind : Int
  poly : List Term
  a : Int
  b : Int
  x : Int
  y : Int
def okPcStep (s : PcStep) : Prop := okI s.kind ∧ (okL okTerm) s.poly ∧ okI s.a ∧ okI s.b ∧ okI s.x ∧ okI s.y

structure l1Cur where
  code : List Int
  at_ : Int
  seed : Int
def okl1Cur (s : l1Cur) : Prop := (okL okT) s.code ∧ okI s.at_ ∧ okT s.seed

structure ResStep where
  clause : List Int
  left : Int
  right : Int
  pivot : Int
def okResStep (s : ResStep) : Prop := (okL okI) s.clause ∧ okI s.left ∧ okI s.right ∧ okI s.pivot

structure ring where
  p : Int
  vars : Int
def okring (s : ring) : Prop := okI s.p ∧ okI s.vars

structure algebra where
  ring : ring
  f : Cnf
  q : List (List Int)
def okalgebra (s : algebra) : Prop := okring s.ring ∧ okCnf s.f ∧ (okL (okL okI)) s.q

def laws_vBig (a0 : List Int) : Bool :=
  (decide (65536 < (len a0)))

def spec_l1Cur_next (a0 : l1Cur) : Option (Int × l1Cur) :=
  bdR (S := Int) (X := Empty) ((bif (decide (a0.at_ < (len a0.code))) then bd (ix a0.code a0.at_) (fun x49 => some (Rs.go (wrk true 64 x49))) else some (Rs.go 0))) (fun s38 => (bif (decide ((wr (a0.at_ + 1)) ≤ (len a0.code))) then some (s38, (l1Cur.mk a0.code (wr (a0.at_ + 1)) (wrk false 64 ((wrk false 64 ((wrk false 64 (a0.seed * 6364136223846793005)) + (wrk false 64 s38))) + 337411)))) else some ((wrk true 64 (andK false 64 (shrK 64 (wrk false 64 ((wrk false 64 ((wrk false 64 (a0.seed * 6364136223846793005)) + (wrk false 64 s38))) + 337411)) 40) 255)), (l1Cur.mk a0.code (wr (a0.at_ + 1)) (wrk false 64 ((wrk false 64 ((wrk false 64 (a0.seed * 6364136223846793005)) + (wrk false 64 s38))) + 337411)))))) (fun x40 => nomatch x40)

def spec_l1Cur_pick (a0 : l1Cur) (a1 : Int) : Option (Int × l1Cur) :=
  (bif (decide (a1 ≤ 1)) then some (0, a0) else bd (PF.spec_l1Cur_next a0) (fun r22 => (bif (decide (200 < a1)) then bd (PF.spec_l1Cur_next r22.2) (fun r31 => bd (nz a1) (fun u40 => some (((wr ((wr (r22.1 * 256)) + r31.1)).tmod a1), r31.2))) else bd (nz a1) (fun u42 => some ((r22.1.tmod a1), r22.2)))))

def spec_l1Cur_one (a0 : l1Cur) (a1 : Int) : Option (Bool × l1Cur) :=
  bd (PF.spec_l1Cur_pick a0 a1) (fun r21 => some ((r21.1 == 0), r21.2))

def spec_l2Hard  : (List ByteArray) :=
  [(ByteArray.mk #[49, 59, 32, 49, 59, 32, 45, 49]), (ByteArray.mk #[50, 59, 32, 49, 32, 50, 59, 32, 49, 32, 45, 50, 59, 32, 45, 49, 32, 50, 59, 32, 45, 49, 32, 45, 50]), (ByteArray.mk #[48, 59, 32, 110, 111, 110, 101]), (ByteArray.mk #[50, 59, 32, 49, 59, 32, 45, 49, 32, 50, 59, 32, 45, 50]), (ByteArray.mk #[51, 59, 32, 49, 59, 32, 45, 49, 32, 50, 59, 32, 45, 50, 32, 51, 59, 32, 45, 51]), (ByteArray.mk #[51, 59, 32, 49, 32, 50, 59, 32, 45, 49, 32, 51, 59, 32, 45, 50, 32, 51, 59, 32, 45, 51]), (ByteArray.mk #[51, 59, 32, 49, 32, 50, 59, 32, 45, 49, 32, 50, 59, 32, 45, 50, 32, 51, 59, 32, 45, 50, 32, 45, 51]), (ByteArray.mk #[51, 59, 32, 49, 32, 50, 32, 51, 59, 32, 49, 32, 50, 32, 45, 51, 59, 32, 49, 32, 45, 50, 59, 32, 45, 49, 32, 51, 59, 32, 45, 49, 32, 45, 51]), (ByteArray.mk #[50, 59, 32, 49, 32, 50, 59, 32, 45, 49, 59, 32, 45, 50, 59, 32, 49, 32, 45, 50]), (ByteArray.mk #[52, 59, 32, 49, 32, 50, 59, 32, 51, 32, 52, 59, 32, 45, 49, 32, 45, 51, 59, 32, 45, 50, 32, 45, 52, 59, 32, 45, 49, 32, 45, 52, 59, 32, 45, 50, 32, 45, 51]), (ByteArray.mk #[51, 59, 32, 49, 32, 50, 59, 32, 50, 32, 51, 59, 32, 49, 32, 51, 59, 32, 45, 49, 32, 45, 50, 59, 32, 45, 50, 32, 45, 51, 59, 32, 45, 49, 32, 45, 51]), (ByteArray.mk #[52, 59, 32, 49, 59, 32, 50, 59, 32, 45, 49, 32, 45, 50, 32, 51, 59, 32, 45, 51, 32, 52, 59, 32, 45, 52]), (ByteArray.mk #[51, 59, 32, 49, 32, 45, 50, 59, 32, 50, 32, 45, 51, 59, 32, 51, 32, 45, 49, 59, 32, 49, 32, 50, 32, 51, 59, 32, 45, 49, 32, 45, 50, 32, 45, 51]), (ByteArray.mk #[52, 59, 32, 49, 32, 50, 59, 32, 45, 49, 32, 45, 50, 59, 32, 50, 32, 51, 59, 32, 45, 50, 32, 45, 51, 59, 32, 51, 32, 52, 59, 32, 45, 51, 32, 45, 52, 59, 32, 49, 32, 52, 32, 45, 51, 59, 32, 45, 49, 32, 45, 52, 59, 32, 49, 32, 45, 52, 59, 32, 45, 49, 32, 52]), (ByteArray.mk #[50, 59, 32, 49, 59, 32, 45, 49, 59, 32, 50])]

def spec_l1Cur_of (a0 : l1Cur) (a1 : List ByteArray) : Option (ByteArray × l1Cur) :=
  bd (PF.spec_l1Cur_pick a0 (len a1)) (fun r21 => bd (ix a1 r21.1) (fun x35 => some (x35, r21.2)))

def spec_l1Split (a0 : ByteArray) (a1 : Int) : Option (List ByteArray) :=
  bd (chk (a0.size : Int)) (fun m26 => bdR (forR (S := ((List ByteArray) × Int)) (X := Empty) 0 m26 (fun i27 s27 => bd (ixS a0 ((i27 : Nat) : Int)) (fun z73 => (bif (z73 == a1) then bd (cutS a0 s27.2 ((i27 : Nat) : Int)) (fun z76 => bd (app s27.1 [z76]) (fun xs83 => some (Lp.nx (xs83, (wr (((i27 : Nat) : Int) + 1)))))) else some (Lp.nx (s27.1, s27.2))))) ([], 0)) (fun s27 => bd (cutS a0 s27.2 (a0.size : Int)) (fun z103 => bd (app s27.1 [z103]) (fun xs110 => some xs110))) (fun x27 => nomatch x27))

def spec_l1In (a0 : Int) (a1 : Int) (a2 : Int) : Bool :=
  (bif (decide (a1 ≤ a0)) then (decide (a0 ≤ a2)) else false)

def spec_l1Num (a0 : Int) : Option ByteArray := numT a0

def spec_l1Read (a0 : ByteArray) : Option (Int × Bool) :=
  bd (bif (decide (1 < (a0.size : Int))) then bd (ixS a0 0) (fun z30 => some (z30 == 45)) else some false) (fun t23 => bdR (S := ByteArray) (X := Empty) ((bif t23 then bd (cutS a0 1 (a0.size : Int)) (fun z42 => some (Rs.go z42)) else some (Rs.go a0))) (fun s38 => (bif (!(PF.spec_l1In (s38.size : Int) 1 6)) then some (0, false) else bd (chk (s38.size : Int)) (fun m55 => bdR (forR (S := Int) (X := (Int × Bool)) 0 m55 (fun i56 s56 => bd (ixS s38 ((i56 : Nat) : Int)) (fun z96 => bd (bif (decide (z96 < 48)) then some true else bd (ixS s38 ((i56 : Nat) : Int)) (fun z107 => some (decide (57 < z107)))) (fun t100 => (bif t100 then some (Lp.rt (0, false)) else bd (ixS s38 ((i56 : Nat) : Int)) (fun z115 => some (Lp.nx (wr ((wr (10 * s56)) + (wrk true 64 (wrk false 8 (z115 - 48))))))))))) 0) (fun s56 => bdR (S := Int) (X := Empty) ((bif (decide ((s38.size : Int) < (a0.size : Int))) then some (Rs.go (wr (-s56))) else some (Rs.go s56))) (fun s127 => bd (PF.spec_l1Num s127) (fun r138 => (bif (!(r138.toList == a0.toList)) then some (0, false) else some (s127, true)))) (fun x129 => nomatch x129)) (fun x56 => some x56)))) (fun x40 => nomatch x40))

def spec_l2Vars (a0 : Int) : Bool :=
  (PF.spec_l1In a0 0 12)

def spec_l2Lit (a0 : Int) (a1 : Int) : Bool :=
  (bif (PF.spec_l1In a1 (wr (-a0)) a0) then (!(a1 == 0)) else false)

def spec_l2Var (a0 : Int) : Int :=
  (bif (decide (a0 < 0)) then (wr (-a0)) else a0)

def spec_l2Clause (a0 : Int) (a1 : List Int) : Option Bool :=
  (bif (!(PF.spec_l2Vars a0)) then some false else bdR (forL (S := Unit) (X := Bool) a1 (fun i26 y25 s26 => bd (bif (!(PF.spec_l2Lit a0 y25)) then some true else bd (bif (decide (0 < ((i26 : Nat) : Int))) then bd (ix a1 (wr (((i26 : Nat) : Int) - 1))) (fun x226 => some (decide ((PF.spec_l2Var y25) ≤ (PF.spec_l2Var x226)))) else some false) (fun t213 => some t213)) (fun t192 => (bif t192 then some (Lp.rt false) else some (Lp.nx ())))) ()) (fun s26 => some true) (fun x26 => some x26))

def spec_l2Text (a0 : List Int) : Option ByteArray :=
  (bif ((len a0) == 0) then some (ByteArray.mk #[110, 111, 110, 101]) else bd (ix a0 0) (fun x28 => bd (PF.spec_l1Num x28) (fun r30 => bdR (forR (S := ByteArray) (X := Empty) 1 a0.length (fun i35 s35 => bd (catS s35 (ByteArray.mk #[32])) (fun z69 => bd (ix a0 ((i35 : Nat) : Int)) (fun x77 => bd (PF.spec_l1Num x77) (fun r79 => bd (catS z69 r79) (fun z84 => some (Lp.nx z84)))))) r30) (fun s35 => some s35) (fun x35 => nomatch x35))))

noncomputable def spec_l2Parse (a0 : Int) (a1 : ByteArray) : Option ((List Int) × Bool) :=
  (bif (a1.toList == (ByteArray.mk #[110, 111, 110, 101]).toList) then some ([], (PF.spec_l2Vars a0)) else bd (PF.spec_l1Split a1 32) (fun r30 => bdR (iter (S := ((List Int) × Int)) (X := ((List Int) × Bool)) (fun s40 => (bif (bif (decide (s40.2 < (len r30))) then (decide (s40.2 ≤ 12)) else false) then bd (ix r30 s40.2) (fun x134 => bd (PF.spec_l1Read x134) (fun r136 => (bif (!r136.2) then some (Lp.rt ([], false)) else bd (app s40.1 [r136.1]) (fun xs152 => some (Lp.nx (xs152, (wr (s40.2 + 1)))))))) else some (Lp.bk (s40.1, s40.2)))) ([], 0)) (fun s40 => bd (bif (decide (12 < (len r30))) then some true else bd (PF.spec_l2Clause a0 s40.1) (fun r195 => some (!r195))) (fun t183 => bd (bif t183 then some true else bd (PF.spec_l2Text s40.1) (fun r225 => some (!(r225.toList == a1.toList)))) (fun t213 => (bif t213 then some ([], false) else some (s40.1, true))))) (fun x40 => some x40)))

noncomputable def spec_l2TextOf (a0 : Cnf) : Option ByteArray :=
  bd (PF.spec_l1Num a0.vars) (fun r29 => bdR (iter (S := (ByteArray × Int)) (X := Empty) (fun s34 => (bif (decide (s34.2 < (len a0.clauses))) then bd (catS s34.1 (ByteArray.mk #[59, 32])) (fun z72 => bd (ix a0.clauses s34.2) (fun x80 => bd (PF.spec_l2Text x80) (fun r84 => bd (catS z72 r84) (fun z89 => some (Lp.nx (z89, (wr (s34.2 + 1)))))))) else some (Lp.bk (s34.1, s34.2)))) (r29, 0)) (fun s34 => some s34.1) (fun x34 => nomatch x34))

noncomputable def spec_ParseCnf (a0 : ByteArray) : Option (Cnf × Bool) :=
  bd (PF.spec_l1Split a0 59) (fun r25 => bd (ix r25 0) (fun x41 => bd (PF.spec_l1Read x41) (fun r43 => (bif (bif (bif (!r43.2) then true else (!(PF.spec_l2Vars r43.1))) then true else (decide (61 < (len r25)))) then some ((Cnf.mk 0 []), false) else bdR (iter (S := ((List (List Int)) × Int × Int)) (X := (Cnf × Bool)) (fun s94 => (bif (decide (s94.2.2 < (len r25))) then bd (ix r25 s94.2.2) (fun x334 => bd (bif (decide ((x334.size : Int) < 2)) then some true else bd (ix r25 s94.2.2) (fun x359 => bd (ixS x359 0) (fun z361 => some (!(z361 == 32))))) (fun t346 => (bif t346 then some (Lp.rt ((Cnf.mk 0 []), false)) else bd (ix r25 s94.2.2) (fun x380 => bd (cutS x380 1 (x380.size : Int)) (fun z382 => bd (PF.spec_l2Parse r43.1 z382) (fun r384 => (bif (!r384.2) then some (Lp.rt ((Cnf.mk 0 []), false)) else bd (app s94.1 [r384.1]) (fun xs409 => some (Lp.nx (xs409, s94.2.1, (wr (s94.2.2 + 1)))))))))))) else some (Lp.bk (s94.1, s94.2.1, s94.2.2)))) ([], r43.1, 1)) (fun s94 => bd (PF.spec_l2TextOf (Cnf.mk s94.2.1 s94.1)) (fun r439 => (bif (!(r439.toList == a0.toList)) then some ((Cnf.mk 0 []), false) else some ((Cnf.mk s94.2.1 s94.1), true)))) (fun x94 => some x94)))))

noncomputable def spec_l2Known (a0 : ByteArray) : Option Cnf :=
  bd (PF.spec_ParseCnf a0) (fun r25 => some r25.1)

noncomputable def spec_l2Good (a0 : Cnf) : Option Bool :=
  (bif (bif (!(PF.spec_l2Vars a0.vars)) then true else (decide (60 < (len a0.clauses)))) then some false else bdR (iter (S := Int) (X := Bool) (fun s42 => (bif (decide (s42 < (len a0.clauses))) then bd (ix a0.clauses s42) (fun x83 => bd (PF.spec_l2Clause a0.vars x83) (fun r87 => (bif (!r87) then some (Lp.rt false) else some (Lp.nx (wr (s42 + 1)))))) else some (Lp.bk s42))) 0) (fun s42 => some true) (fun x42 => some x42))

def spec_l1Has (a0 : List Int) (a1 : Int) : Option Bool :=
  bdR (forL (S := Unit) (X := Bool) a0 (fun i22 y21 s22 => (bif (y21 == a1) then some (Lp.rt true) else some (Lp.nx ()))) ()) (fun s22 => some false) (fun x22 => some x22)

def spec_l2Has (a0 : List Int) (a1 : Int) : Option Bool :=
  bd (PF.spec_l1Has a0 a1) (fun r21 => some r21)

def spec_l1Own (a0 : List Int) : Option (List Int) :=
  bd (app [] a0) (fun xs26 => some xs26)

noncomputable def spec_l2Put (a0 : List Int) (a1 : Int) : Option (List Int) :=
  bdR (iter (S := Int) (X := Empty) (fun s21 => bd (bif (decide (s21 < (len a0))) then bd (ix a0 s21) (fun x105 => some (decide ((PF.spec_l2Var x105) < (PF.spec_l2Var a1)))) else some false) (fun t92 => (bif t92 then some (Lp.nx (wr (s21 + 1))) else some (Lp.bk s21)))) 0) (fun s21 => bd (cut a0 0 s21) (fun xs9127 => bd (PF.spec_l1Own xs9127) (fun r12127 => bd (app r12127 [a1]) (fun xs21127 => bd (cut a0 s21 (len a0)) (fun xs30127 => bd (app xs21127 xs30127) (fun xs33127 => some xs33127)))))) (fun x21 => nomatch x21)

noncomputable def spec_RenameCnf (a0 : Cnf) (a1 : List Int) : Option (Cnf × Bool) :=
  bd (PF.spec_l2Good a0) (fun r33 => (bif (bif (!r33) then true else (!((len a1) == a0.vars))) then some ((Cnf.mk 0 []), false) else bdR (forL (S := Unit) (X := (Cnf × Bool)) a1 (fun i54 y53 s54 => bd (bif (!(PF.spec_l2Lit a0.vars y53)) then some true else bd (cut a1 0 ((i54 : Nat) : Int)) (fun xs190 => bd (PF.spec_l2Has xs190 y53) (fun r201 => some r201))) (fun t183 => bd (bif t183 then some true else bd (cut a1 0 ((i54 : Nat) : Int)) (fun xs228 => bd (PF.spec_l2Has xs228 (wr (-y53))) (fun r239 => some r239))) (fun t221 => (bif t221 then some (Lp.rt ((Cnf.mk 0 []), false)) else some (Lp.nx ()))))) ()) (fun s54 => bdR (iter (S := ((List (List Int)) × Int × Int)) (X := Empty) (fun s274 => (bif (decide (s274.2.2 < (len a0.clauses))) then bdR (iter (S := ((List Int) × Int)) (X := Empty) (fun s792 => bd (ix a0.clauses s274.2.2) (fun x993 => (bif (decide (s792.2 < (len x993))) then bd (ix a0.clauses s274.2.2) (fun x1004 => bd (ix x1004 s792.2) (fun x1014 => bd (ix a1 (wr ((PF.spec_l2Var x1014) - 1))) (fun x1025 => (bif (decide (x1014 < 0)) then bd (PF.spec_l2Put s792.1 (wr (-x1025))) (fun r1033 => some (Lp.nx (r1033, (wr (s792.2 + 1))))) else bd (PF.spec_l2Put s792.1 x1025) (fun r1050 => some (Lp.nx (r1050, (wr (s792.2 + 1))))))))) else some (Lp.bk (s792.1, s792.2))))) ([], 0)) (fun s792 => bd (app s274.1 [s792.1]) (fun xs1085 => some (Lp.nx (xs1085, s274.2.1, (wr (s274.2.2 + 1)))))) (fun x792 => nomatch x792) else some (Lp.bk (s274.1, s274.2.1, s274.2.2)))) ([], a0.vars, 0)) (fun s274 => some ((Cnf.mk s274.2.1 s274.1), true)) (fun x274 => nomatch x274)) (fun x54 => some x54)))

def spec_l1Cur_among (a0 : l1Cur) (a1 : List Int) : Option (Int × l1Cur) :=
  bd (PF.spec_l1Cur_pick a0 (len a1)) (fun r21 => bd (ix a1 r21.1) (fun x35 => some (x35, r21.2)))

def spec_l2Without (a0 : List Int) (a1 : Int) : Option (List Int) :=
  bdR (forL (S := (List Int)) (X := Empty) a0 (fun i27 y26 s27 => (bif (!((PF.spec_l2Var y26) == a1)) then bd (app s27 [y26]) (fun xs103 => some (Lp.nx xs103)) else some (Lp.nx s27))) []) (fun s27 => some s27) (fun x27 => nomatch x27)

noncomputable def spec_l1Cur_clause (a0 : l1Cur) (a1 : Int) : Option ((List Int) × l1Cur) :=
  bd (PF.spec_l1Cur_among a0 [1, 2, 2, 3, 3, 4, 0, 2]) (fun r36 => bdR (iter (S := ((List Int) × Int × Int × (List Int) × Int)) (X := Empty) (fun s45 => (bif (bif (decide (0 < s45.2.2.2.2)) then (decide (0 < a1)) else false) then bd (PF.spec_l1Cur_pick (l1Cur.mk s45.1 s45.2.1 s45.2.2.1) a1) (fun r260 => bd (PF.spec_l2Without s45.2.2.2.1 (wr (1 + r260.1))) (fun r273 => bd (PF.spec_l1Cur_one r260.2 2) (fun r285 => (bif r285.1 then bd (PF.spec_l2Put r273 (wr (-(wr (1 + r260.1))))) (fun r300 => some (Lp.nx (r285.2.code, r285.2.at_, r285.2.seed, r300, (wr (s45.2.2.2.2 - 1))))) else bd (PF.spec_l2Put r273 (wr (1 + r260.1))) (fun r317 => some (Lp.nx (r285.2.code, r285.2.at_, r285.2.seed, r317, (wr (s45.2.2.2.2 - 1))))))))) else some (Lp.bk (s45.1, s45.2.1, s45.2.2.1, s45.2.2.2.1, s45.2.2.2.2)))) (r36.2.code, r36.2.at_, r36.2.seed, [], r36.1)) (fun s45 => some (s45.2.2.2.1, (l1Cur.mk s45.1 s45.2.1 s45.2.2.1))) (fun x45 => nomatch x45))

noncomputable def spec_l1Cur_hard (a0 : l1Cur) : Option (Cnf × l1Cur) :=
  bd (PF.spec_l1Cur_of a0 PF.spec_l2Hard) (fun r38 => bd (PF.spec_l2Known r38.1) (fun r47 => bdR (iter (S := ((List Int) × (List Int) × Int × Int × Int)) (X := Empty) (fun s71 => (bif (decide (s71.2.2.2.2 ≤ r47.vars)) then bd (PF.spec_l1Cur_one (l1Cur.mk s71.2.1 s71.2.2.1 s71.2.2.2.1) 4) (fun r199 => (bif r199.1 then bd (app s71.1 [(wr (-s71.2.2.2.2))]) (fun xs214 => some (Lp.nx (xs214, r199.2.code, r199.2.at_, r199.2.seed, (wr (s71.2.2.2.2 + 1))))) else bd (app s71.1 [s71.2.2.2.2]) (fun xs230 => some (Lp.nx (xs230, r199.2.code, r199.2.at_, r199.2.seed, (wr (s71.2.2.2.2 + 1))))))) else some (Lp.bk (s71.1, s71.2.1, s71.2.2.1, s71.2.2.2.1, s71.2.2.2.2)))) ([], r38.2.code, r38.2.at_, r38.2.seed, 1)) (fun s71 => bd (PF.spec_RenameCnf r47 s71.1) (fun r256 => bd (PF.spec_l1Cur_pick (l1Cur.mk s71.2.1 s71.2.2.1 s71.2.2.2.1) 3) (fun r273 => bdR (iter (S := ((List (List Int)) × (List Int) × Int × Int × Int × Int)) (X := Empty) (fun s282 => (bif (bif (decide (0 < s282.2.2.2.2.2)) then (decide (0 < s282.2.2.2.2.1)) else false) then bd (PF.spec_l1Cur_clause (l1Cur.mk s282.2.1 s282.2.2.1 s282.2.2.2.1) s282.2.2.2.2.1) (fun r90388 => bd (app s282.1 [r90388.1]) (fun xs96388 => some (Lp.nx (xs96388, r90388.2.code, r90388.2.at_, r90388.2.seed, s282.2.2.2.2.1, (wr (s282.2.2.2.2.2 - 1)))))) else some (Lp.bk (s282.1, s282.2.1, s282.2.2.1, s282.2.2.2.1, s282.2.2.2.2.1, s282.2.2.2.2.2)))) (r256.1.clauses, r273.2.code, r273.2.at_, r273.2.seed, r256.1.vars, r273.1)) (fun s282 => some ((Cnf.mk s282.2.2.2.2.1 s282.1), (l1Cur.mk s282.2.1 s282.2.2.1 s282.2.2.2.1))) (fun x282 => nomatch x282)))) (fun x71 => nomatch x71)))

def spec_l1Cur_lit (a0 : l1Cur) (a1 : Int) : Option (Int × l1Cur) :=
  bd (bif (decide (a1 < 1)) then some (a0.code, a0.at_, a0.seed, true) else bd (PF.spec_l1Cur_one a0 40) (fun r33 => some (r33.2.code, r33.2.at_, r33.2.seed, r33.1))) (fun t29 => (bif t29.2.2.2 then bd (PF.spec_l1Cur_among (l1Cur.mk t29.1 t29.2.1 t29.2.2.1) [0, (wr (a1 + 1)), (wr ((wr (-a1)) - 1))]) (fun r60 => some (r60.1, r60.2)) else bd (PF.spec_l1Cur_pick (l1Cur.mk t29.1 t29.2.1 t29.2.2.1) a1) (fun r68 => bd (PF.spec_l1Cur_one r68.2 2) (fun r76 => (bif r76.1 then some ((wr (-(wr (1 + r68.1)))), r76.2) else some ((wr (1 + r68.1)), r76.2))))))

noncomputable def spec_l1Cur_anyClause (a0 : l1Cur) (a1 : Int) : Option ((List Int) × l1Cur) :=
  bd (PF.spec_l1Cur_clause a0 a1) (fun r21 => bd (PF.spec_l1Cur_pick r21.2 32) (fun r33 => (bif (r33.1 == 0) then bd (PF.spec_l1Cur_lit r33.2 a1) (fun r43 => bd (app r21.1 [r43.1]) (fun xs56 => some (xs56, r43.2))) else (bif (r33.1 == 1) then (bif (decide (0 < (len r21.1))) then bd (PF.spec_l1Cur_among r33.2 [0, (wr (a1 + 1)), (wr ((wr (-a1)) - 1)), (-9223372036854775808)]) (fun r79 => bd (ix r21.1 0) (fun x93 => bd (put r21.1 0 r79.1) (fun xs98 => some (xs98, r79.2)))) else some (r21.1, r33.2)) else (bif (r33.1 == 2) then (bif (decide (1 < (len r21.1))) then bd (ix r21.1 0) (fun x111 => bd (ix r21.1 1) (fun x119 => bd (ix r21.1 0) (fun x127 => bd (put r21.1 0 x119) (fun xs132 => bd (ix xs132 1) (fun x143 => bd (put xs132 1 x111) (fun xs148 => some (xs148, r33.2))))))) else some (r21.1, r33.2)) else some (r21.1, r33.2))))))

noncomputable def spec_l1Cur_cnf (a0 : l1Cur) : Option (Cnf × l1Cur) :=
  bd (PF.spec_l1Cur_one a0 4) (fun r25 => (bif r25.1 then bd (PF.spec_l1Cur_hard r25.2) (fun r35 => some (r35.1, r35.2)) else bd (PF.spec_l1Cur_among r25.2 [2, 3, 3, 4, 5]) (fun r58 => bd (PF.spec_l1Cur_pick r58.2 10) (fun r78 => bdR (iter (S := ((List (List Int)) × (List Int) × Int × Int × Int × Int)) (X := Empty) (fun s87 => (bif (decide (0 < s87.2.2.2.2.2)) then bd (PF.spec_l1Cur_clause (l1Cur.mk s87.2.1 s87.2.2.1 s87.2.2.2.1) s87.2.2.2.2.1) (fun r90157 => bd (app s87.1 [r90157.1]) (fun xs96157 => some (Lp.nx (xs96157, r90157.2.code, r90157.2.at_, r90157.2.seed, s87.2.2.2.2.1, (wr (s87.2.2.2.2.2 - 1)))))) else some (Lp.bk (s87.1, s87.2.1, s87.2.2.1, s87.2.2.2.1, s87.2.2.2.2.1, s87.2.2.2.2.2)))) ([], r78.2.code, r78.2.at_, r78.2.seed, r58.1, r78.1)) (fun s87 => bd (PF.spec_l1Cur_pick (l1Cur.mk s87.2.1 s87.2.2.1 s87.2.2.2.1) 40) (fun r108183 => (bif (r108183.1 == 0) then bd (PF.spec_l1Cur_among r108183.2 [(-1), 13, 12, 0, 1]) (fun r108202 => some ((Cnf.mk r108202.1 s87.1), r108202.2)) else (bif (r108183.1 == 1) then bd (PF.spec_l1Cur_anyClause r108183.2 s87.2.2.2.2.1) (fun r126223 => bd (app s87.1 [r126223.1]) (fun xs132223 => some ((Cnf.mk s87.2.2.2.2.1 xs132223), r126223.2))) else (bif (r108183.1 == 2) then bdR (iter (S := ((List (List Int)) × (List Int) × Int × Int × Int)) (X := Empty) (fun s144248 => bd (PF.spec_l1Cur_pick (l1Cur.mk s144248.2.1 s144248.2.2.1 s144248.2.2.2.1) 2) (fun r213366 => (bif (decide ((len s144248.1) < (wr (60 + r213366.1)))) then bd (app s144248.1 [[1]]) (fun xs225395 => some (Lp.nx (xs225395, r213366.2.code, r213366.2.at_, r213366.2.seed, s144248.2.2.2.2))) else some (Lp.bk (s144248.1, r213366.2.code, r213366.2.at_, r213366.2.seed, s144248.2.2.2.2))))) (s87.1, r108183.2.code, r108183.2.at_, r108183.2.seed, s87.2.2.2.2.1)) (fun s144248 => some ((Cnf.mk s144248.2.2.2.2 s144248.1), (l1Cur.mk s144248.2.1 s144248.2.2.1 s144248.2.2.2.1))) (fun x144248 => nomatch x144248) else (bif (r108183.1 == 3) then bd (PF.spec_l1Cur_clause r108183.2 s87.2.2.2.2.1) (fun r243428 => bd (app s87.1 [r243428.1, []]) (fun xs252428 => some ((Cnf.mk s87.2.2.2.2.1 xs252428), r243428.2))) else some ((Cnf.mk s87.2.2.2.2.1 s87.1), r108183.2))))))) (fun x87 => nomatch x87)))))

def spec_l1Least (a0 : Int) (a1 : Int) : Int :=
  (bif (decide (a0 < a1)) then a0 else a1)

noncomputable def spec_l1Cur_assignment (a0 : l1Cur) (a1 : Int) : Option ((List Int) × l1Cur) :=
  bdR (iter (S := ((List Int) × (List Int) × Int × Int × Int)) (X := Empty) (fun s26 => (bif (decide (s26.2.2.2.2 ≤ (PF.spec_l1Least a1 12))) then bd (PF.spec_l1Cur_pick (l1Cur.mk s26.2.1 s26.2.2.1 s26.2.2.2.1) 4) (fun r162 => (bif (r162.1 == 0) then bd (app s26.1 [s26.2.2.2.2]) (fun xs177 => some (Lp.nx (xs177, r162.2.code, r162.2.at_, r162.2.seed, (wr (s26.2.2.2.2 + 1))))) else (bif (r162.1 == 1) then bd (app s26.1 [(wr (-s26.2.2.2.2))]) (fun xs194 => some (Lp.nx (xs194, r162.2.code, r162.2.at_, r162.2.seed, (wr (s26.2.2.2.2 + 1))))) else some (Lp.nx (s26.1, r162.2.code, r162.2.at_, r162.2.seed, (wr (s26.2.2.2.2 + 1))))))) else some (Lp.bk (s26.1, s26.2.1, s26.2.2.1, s26.2.2.2.1, s26.2.2.2.2)))) ([], a0.code, a0.at_, a0.seed, 1)) (fun s26 => some (s26.1, (l1Cur.mk s26.2.1 s26.2.2.1 s26.2.2.2.1))) (fun x26 => nomatch x26)

noncomputable def spec_l1Cur_anyAssignment (a0 : l1Cur) (a1 : Int) : Option ((List Int) × l1Cur) :=
  bd (PF.spec_l1Cur_assignment a0 a1) (fun r21 => bd (PF.spec_l1Cur_pick r21.2 32) (fun r33 => (bif (r33.1 == 0) then bd (PF.spec_l1Cur_lit r33.2 a1) (fun r43 => bd (app r21.1 [r43.1]) (fun xs56 => some (xs56, r43.2))) else (bif (r33.1 == 1) then (bif (decide (0 < (len r21.1))) then bd (PF.spec_l1Cur_among r33.2 [0, (wr (a1 + 1)), (-9223372036854775808)]) (fun r79 => bd (ix r21.1 0) (fun x93 => bd (put r21.1 0 r79.1) (fun xs98 => some (xs98, r79.2)))) else some (r21.1, r33.2)) else some (r21.1, r33.2)))))

noncomputable def spec_DrawPropagate (a0 : List Int) : Option (Cnf × (List Int)) :=
  bd (PF.spec_l1Cur_cnf (l1Cur.mk a0 0 0)) (fun r29 => bd (PF.spec_l1Cur_anyAssignment r29.2 r29.1.vars) (fun r50 => bd (PF.spec_l1Cur_one r50.2 2) (fun r62 => (bif (bif r62.1 then (decide (1 < (len r50.1))) else false) then bd (cut r50.1 0 1) (fun xs83 => some (r29.1, xs83)) else some (r29.1, r50.1)))))

def impl_within (a0 : Int) (a1 : Int) (a2 : Int) : Bool :=
  (bif (decide (a1 ≤ a0)) then (decide (a0 ≤ a2)) else false)

def impl_isLiteral (a0 : Int) (a1 : Int) : Bool :=
  (bif (!(a1 == 0)) then (PF.impl_within a1 (wr (-a0)) a0) else false)

def impl_abs (a0 : Int) : Int :=
  (mx a0 (wr (-a0)))

def impl_varsOk (a0 : Int) : Bool :=
  (PF.impl_within a0 0 12)

def impl_IsClause (a0 : Int) (a1 : List Int) : Option Bool :=
  bdR (forL (S := Unit) (X := Bool) a1 (fun i22 y21 s22 => bd (bif (!(PF.impl_isLiteral a0 y21)) then some true else bd (bif (decide (0 < ((i22 : Nat) : Int))) then bd (ix a1 (wr (((i22 : Nat) : Int) - 1))) (fun x192 => some (decide ((PF.impl_abs y21) ≤ (PF.impl_abs x192)))) else some false) (fun t179 => some t179)) (fun t164 => (bif t164 then some (Lp.rt false) else some (Lp.nx ())))) ()) (fun s22 => some (PF.impl_varsOk a0)) (fun x22 => some x22)

def impl_IsCnf (a0 : Cnf) : Option Bool :=
  bdR (forL (S := Unit) (X := Bool) a0.clauses (fun i30 y29 s30 => bd (PF.impl_IsClause a0.vars y29) (fun r71 => (bif (!r71) then some (Lp.rt false) else some (Lp.nx ())))) ()) (fun s30 => some (bif (PF.impl_varsOk a0.vars) then (decide ((len a0.clauses) ≤ 60)) else false)) (fun x30 => some x30)

def impl_IsAssignment (a0 : Int) (a1 : List Int) : Option Bool :=
  bd (PF.impl_IsClause a0 a1) (fun r21 => some r21)

def slices_Clone_int_int (a0 : List Int) : Option (List Int) :=
  bd (app [] a0) (fun xs30 => some xs30)

def slices_Index_int_int (a0 : List Int) (a1 : Int) : Option Int :=
  bdR (forL (S := Unit) (X := Int) a0 (fun i22 y21 s22 => (bif (a1 == y21) then some (Lp.rt ((i22 : Nat) : Int)) else some (Lp.nx ()))) ()) (fun s22 => some (-1)) (fun x22 => some x22)

def slices_Contains_int_int (a0 : List Int) (a1 : Int) : Option Bool :=
  bd (PF.slices_Index_int_int a0 a1) (fun r21 => some (decide (0 ≤ r21)))

def impl_clauseValue (a0 : List Int) (a1 : List Int) : Option Int :=
  bdR (forL (S := Int) (X := Int) a0 (fun i22 y21 s22 => bd (PF.slices_Contains_int_int a1 y21) (fun r67 => (bif r67 then some (Lp.rt 1) else bd (PF.slices_Contains_int_int a1 (wr (-y21))) (fun r73 => (bif (!r73) then some (Lp.nx 0) else some (Lp.nx s22)))))) (-1)) (fun s22 => some s22) (fun x22 => some x22)

def impl_falseClauses (a0 : List (List Int)) (a1 : List Int) : Option (List Int) :=
  bdR (forL (S := (List Int)) (X := Empty) a0 (fun i22 y21 s22 => bd (PF.impl_clauseValue y21 a1) (fun r85 => (bif (decide (r85 < 0)) then bd (app s22 [((i22 : Nat) : Int)]) (fun xs96 => some (Lp.nx xs96)) else some (Lp.nx s22)))) []) (fun s22 => some s22) (fun x22 => nomatch x22)

def slices_IndexFunc_int_int (a0 : List Int) (a1 : Int → Option Bool) : Option Int :=
  bdR (forL (S := Unit) (X := Int) a0 (fun i22 y21 s22 => bd (a1 y21) (fun r64 => (bif r64 then some (Lp.rt ((i22 : Nat) : Int)) else some (Lp.nx ())))) ()) (fun s22 => some (-1)) (fun x22 => some x22)

noncomputable def slices_DeleteFunc_int_int (a0 : List Int) (a1 : Int → Option Bool) : Option (List Int) :=
  bd (PF.slices_IndexFunc_int_int a0 a1) (fun r26 => (bif (r26 == (-1)) then some a0 else bdR (iter (S := ((List Int) × Int × Int)) (X := Empty) (fun s32 => (bif (decide (s32.2.2 < (len s32.1))) then bd (ix s32.1 s32.2.2) (fun x141 => bd (a1 x141) (fun r143 => (bif (!r143) then bd (ix s32.1 s32.2.1) (fun x160 => bd (put s32.1 s32.2.1 x141) (fun xs165 => some (Lp.nx (xs165, (wr (s32.2.1 + 1)), (wr (s32.2.2 + 1)))))) else some (Lp.nx (s32.1, s32.2.1, (wr (s32.2.2 + 1))))))) else some (Lp.bk (s32.1, s32.2.1, s32.2.2)))) (a0, r26, (wr (r26 + 1)))) (fun s32 => bd (cut s32.1 s32.2.1 (len s32.1)) (fun xs178 => bd (cut (clearL 0 s32.1 s32.2.1) 0 s32.2.1) (fun xs188 => some xs188))) (fun x32 => nomatch x32)))

def impl_openPart_1 (a0 : Int) (b0 : List Int) : Option Bool :=
  bd (PF.slices_Contains_int_int b0 (wr (-a0))) (fun r21 => some r21)

noncomputable def impl_openPart (a0 : List Int) (a1 : List Int) : Option (List Int) :=
  bd (PF.slices_Clone_int_int a0) (fun r29 => bd (PF.slices_DeleteFunc_int_int r29 (fun x0 => PF.impl_openPart_1 x0 a1)) (fun r39 => some r39))

noncomputable def impl_unit (a0 : List Int) (a1 : List Int) : Option Int :=
  bd (PF.impl_clauseValue a0 a1) (fun r21 => (bif (!(r21 == 0)) then some 0 else bd (PF.impl_openPart a0 a1) (fun r27 => (bif ((len r27) == 1) then bd (ix r27 0) (fun x44 => some x44) else some 0))))

def impl_withoutVar_1 (a0 : Int) (b0 : Int) : Bool :=
  ((PF.impl_abs a0) == b0)

noncomputable def impl_withoutVar (a0 : List Int) (a1 : Int) : Option (List Int) :=
  bd (PF.slices_Clone_int_int a0) (fun r29 => bd (PF.slices_DeleteFunc_int_int r29 (fun x0 => some (PF.impl_withoutVar_1 x0 a1))) (fun r39 => some r39))

noncomputable def slices_SortFunc_int_int (a0 : List Int) (a1 : Int → Int → Option Int) : Option (List Int) := sortF a1 a0

def cmp_isNaN_int (a0 : Int) : Bool :=
  (!(a0 == a0))

def cmp_Compare_int (a0 : Int) (a1 : Int) : Int :=
  (bif (PF.cmp_isNaN_int a0) then (bif (PF.cmp_isNaN_int a1) then 0 else (-1)) else (bif (PF.cmp_isNaN_int a1) then 1 else (bif (decide (a0 < a1)) then (-1) else (bif (decide (a1 < a0)) then 1 else 0))))

def cmp_Or_int (a0 : List Int) : Option Int :=
  bdR (forL (S := Unit) (X := Int) a0 (fun i22 y21 s22 => (bif (!(y21 == 0)) then some (Lp.rt y21) else some (Lp.nx ()))) ()) (fun s22 => some 0) (fun x22 => some x22)

def impl_compareLiterals (a0 : Int) (a1 : Int) : Option Int :=
  bd (PF.cmp_Or_int [(PF.cmp_Compare_int (PF.impl_abs a0) (PF.impl_abs a1)), (PF.cmp_Compare_int a1 a0)]) (fun r43 => some r43)

def slices_Compact_int_int (a0 : List Int) : Option (List Int) := some (compactL a0)

noncomputable def impl_clause (a0 : List Int) : Option ((List Int) × Bool) :=
  bd (PF.slices_Clone_int_int a0) (fun r21 => bd (PF.slices_SortFunc_int_int r21 (fun x0 x1 => PF.impl_compareLiterals x0 x1)) (fun r31 => bd (PF.slices_Compact_int_int r31) (fun r39 => bdR (iter (S := Int) (X := ((List Int) × Bool)) (fun s49 => (bif (decide (s49 < (len r39))) then bd (ix r39 s49) (fun x94 => bd (ix r39 (wr (s49 - 1))) (fun x102 => (bif (x94 == (wr (-x102))) then some (Lp.rt ([], false)) else some (Lp.nx (wr (s49 + 1)))))) else some (Lp.bk s49))) 1) (fun s49 => some (r39, true)) (fun x49 => some x49))))

noncomputable def impl_mustClause (a0 : List Int) : Option (List Int) :=
  bd (PF.impl_clause a0) (fun r21 => some r21.1)

noncomputable def impl_set (a0 : List Int) (a1 : Int) : Option (List Int) :=
  bd (PF.impl_withoutVar a0 (PF.impl_abs a1)) (fun r24 => bd (app r24 [a1]) (fun xs39 => bd (PF.impl_mustClause xs39) (fun r55 => some r55)))

noncomputable def impl_propagate (a0 : List (List Int)) (a1 : List Int) : Option ((List Int) × (List (Int × Int)) × Bool) :=
  bd (PF.slices_Clone_int_int a1) (fun r25 => bdR (iter (S := ((List Int) × (List (Int × Int)))) (X := ((List Int) × (List (Int × Int)) × Bool)) (fun s43 => bd (PF.impl_falseClauses a0 s43.1) (fun r304 => (bif (decide (0 < (len r304))) then some (Lp.rt (s43.1, s43.2, true)) else bd (β := _) (bdR (forL (S := Unit) (X := Int) a0 (fun i362 y361 s362 => bd (β := _) (bd (PF.impl_unit y361 s43.1) (fun r415 => some (!(r415 == 0))) : Option Bool) (fun s414 => (bif s414 then some (Lp.rt ((i362 : Nat) : Int)) else some (Lp.nx ())))) ()) (fun s362 => some (-1)) (fun x362 => some x362) : Option Int) (fun s360 => (bif (decide (s360 < 0)) then some (Lp.rt (s43.1, s43.2, false)) else bd (ix a0 s360) (fun x454 => bd (PF.impl_unit x454 s43.1) (fun r458 => bd (PF.impl_set s43.1 r458) (fun r463 => bd (app s43.2 [(r458, s360)]) (fun xs481 => some (Lp.nx (r463, xs481))))))))))) (r25, [])) (fun s43 => some ([], [], false)) (fun x43 => some x43))

noncomputable def impl_Propagate (a0 : Cnf) (a1 : List Int) : Option ((List Int) × Bool × Bool) :=
  bd (PF.impl_IsCnf a0) (fun r29 => bd (bif (!r29) then some true else bd (PF.impl_IsAssignment a0.vars a1) (fun r46 => some (!r46))) (fun t39 => (bif t39 then some ([], false, false) else bd (PF.impl_propagate a0.clauses a1) (fun r55 => some (r55.1, r55.2.2, true)))))

def spec_l3Good (a0 : Int) (a1 : List Int) : Option Bool :=
  bd (PF.spec_l2Clause a0 a1) (fun r21 => some r21)

noncomputable def spec_l3Asked (a0 : Cnf) (a1 : List Int) : Option Bool :=
  bd (PF.spec_l2Good a0) (fun r29 => bd (bif r29 then bd (PF.spec_l3Good a0.vars a1) (fun r46 => some r46) else some false) (fun t39 => some t39))

def spec_l3Value (a0 : List Int) (a1 : List Int) : Option Int :=
  bdR (forL (S := Int) (X := Int) a0 (fun i22 y21 s22 => bd (PF.spec_l2Has a1 y21) (fun r71 => (bif r71 then some (Lp.rt 1) else bd (PF.spec_l2Has a1 (wr (-y21))) (fun r83 => (bif (!r83) then some (Lp.nx 0) else some (Lp.nx s22)))))) (-1)) (fun s22 => some s22) (fun x22 => some x22)

noncomputable def spec_l3CnfValue (a0 : Cnf) (a1 : List Int) : Option Int :=
  bdR (iter (S := (Int × Int)) (X := Empty) (fun s29 => (bif (decide (s29.2 < (len a0.clauses))) then bd (ix a0.clauses s29.2) (fun x74 => bd (PF.spec_l3Value x74 a1) (fun r78 => some (Lp.nx ((PF.spec_l1Least s29.1 r78), (wr (s29.2 + 1)))))) else some (Lp.bk (s29.1, s29.2)))) (1, 0)) (fun s29 => some s29.1) (fun x29 => nomatch x29)

def spec_l3Left (a0 : List Int) (a1 : List Int) : Option (List Int) :=
  bdR (forL (S := (List Int)) (X := Empty) a0 (fun i27 y26 s27 => bd (PF.spec_l2Has a1 (wr (-y26))) (fun r90 => (bif (!r90) then bd (app s27 [y26]) (fun xs107 => some (Lp.nx xs107)) else some (Lp.nx s27)))) []) (fun s27 => some s27) (fun x27 => nomatch x27)

def spec_l3Unit (a0 : List Int) (a1 : List Int) : Option Int :=
  bd (PF.spec_l3Left a0 a1) (fun r21 => bd (PF.spec_l3Value a0 a1) (fun r31 => (bif (bif (!(r31 == 0)) then true else (!((len r21) == 1))) then some 0 else bd (ix r21 0) (fun x52 => some x52))))

noncomputable def spec_l3Set (a0 : List Int) (a1 : Int) : Option (List Int) :=
  bd (PF.spec_l2Without a0 (PF.spec_l2Var a1)) (fun r24 => bd (PF.spec_l2Put r24 a1) (fun r39 => some r39))

noncomputable def spec_l3Steps (a0 : Cnf) (a1 : List Int) : Option ((List (Int × Int)) × (List Int) × Bool) :=
  bd (PF.spec_l1Own a1) (fun r34 => bdR (iter (S := ((List (Int × Int)) × (List Int))) (X := ((List (Int × Int)) × (List Int) × Bool)) (fun s44 => bd (PF.spec_l3CnfValue a0 s44.2) (fun r324 => (bif (decide (0 ≤ r324)) then bdR (iter (S := (Int × Int)) (X := Empty) (fun s330 => (bif (decide (0 ≤ s330.2)) then bd (ix a0.clauses s330.2) (fun x380 => bd (PF.spec_l3Unit x380 s44.2) (fun r389 => (bif (!(r389 == 0)) then some (Lp.nx (s330.2, (wr (s330.2 - 1)))) else some (Lp.nx (s330.1, (wr (s330.2 - 1))))))) else some (Lp.bk (s330.1, s330.2)))) ((-1), (wr ((len a0.clauses) - 1)))) (fun s330 => (bif (decide (s330.1 < 0)) then some (Lp.rt (s44.1, s44.2, false)) else bd (ix a0.clauses s330.1) (fun x412 => bd (PF.spec_l3Unit x412 s44.2) (fun r421 => bd (app s44.1 [(r421, s330.1)]) (fun xs431 => bd (PF.spec_l3Set s44.2 r421) (fun r447 => some (Lp.nx (xs431, r447)))))))) (fun x330 => nomatch x330) else some (Lp.bk (s44.1, s44.2))))) ([], r34)) (fun s44 => some (s44.1, s44.2, true)) (fun x44 => some x44))

noncomputable def spec_Propagate (a0 : Cnf) (a1 : List Int) : Option ((List Int) × Bool × Bool) :=
  bd (PF.spec_l3Asked a0 a1) (fun r29 => (bif (!r29) then some ([], false, false) else bd (PF.spec_l3Steps a0 a1) (fun r40 => some (r40.2.1, r40.2.2, true))))

def laws_vInts (a0 : List Int) (a1 : List Int) : Option Bool :=
  (bif (!((len a0) == (len a1))) then some false else bdR (forL (S := Unit) (X := Bool) a0 (fun i23 y22 s23 => bd (ix a1 ((i23 : Nat) : Int)) (fun x72 => (bif (!(y22 == x72)) then some (Lp.rt false) else some (Lp.nx ())))) ()) (fun s23 => some true) (fun x23 => some x23))

def slices_IndexFunc_LLint_Lint (a0 : List (List Int)) (a1 : (List Int) → Option Bool) : Option Int :=
  bdR (forL (S := Unit) (X := Int) a0 (fun i22 y21 s22 => bd (a1 y21) (fun r68 => (bif r68 then some (Lp.rt ((i22 : Nat) : Int)) else some (Lp.nx ())))) ()) (fun s22 => some (-1)) (fun x22 => some x22)

def slices_ContainsFunc_LLint_Lint (a0 : List (List Int)) (a1 : (List Int) → Option Bool) : Option Bool :=
  bd (PF.slices_IndexFunc_LLint_Lint a0 a1) (fun r21 => some (decide (0 ≤ r21)))

def slices_ContainsFunc_int_int (a0 : List Int) (a1 : Int → Option Bool) : Option Bool :=
  bd (PF.slices_IndexFunc_int_int a0 a1) (fun r21 => some (decide (0 ≤ r21)))

def impl_holds_1 (a0 : Int) (b0 : Int) : Option Bool :=
  bd (nn (wr ((PF.impl_abs a0) - 1))) (fun u23 => some (((andK true 64 (shrK 64 b0 (wr ((PF.impl_abs a0) - 1))) 1) == 1) == (decide (0 < a0))))

def impl_holds (a0 : List Int) (a1 : Int) : Option Bool :=
  bd (PF.slices_ContainsFunc_int_int a0 (fun x0 => PF.impl_holds_1 x0 a1)) (fun r29 => some r29)

def impl_isModel_1 (a0 : List Int) (b0 : Int) : Option Bool :=
  bd (PF.impl_holds a0 b0) (fun r21 => some (!r21))

def impl_isModel (a0 : List (List Int)) (a1 : Int) : Option Bool :=
  bd (PF.slices_ContainsFunc_LLint_Lint a0 (fun x0 => PF.impl_isModel_1 x0 a1)) (fun r29 => some (!r29))

def impl_AllModels (a0 : Cnf) : Option ((List Int) × Bool) :=
  bd (PF.impl_IsCnf a0) (fun r29 => (bif (!r29) then some ([], false) else bd (β := _) (bd (nn a0.vars) (fun u263 => bd (chk (shlK true 64 1 a0.vars)) (fun m264 => bdR (forR (S := (List Int)) (X := (List Int)) 0 m264 (fun i265 s265 => bd (PF.impl_isModel a0.clauses ((i265 : Nat) : Int)) (fun r457 => bd (bif r457 then bd (β := _) (bd (app s265 [((i265 : Nat) : Int)]) (fun xs545 => some (xs545, (decide ((len xs545) ≤ 300)))) : Option ((List Int) × Bool)) (fun s535 => some (s535.1, (!s535.2))) else some (s265, false)) (fun t510 => (bif t510.2 then some (Lp.rt t510.1) else some (Lp.nx t510.1))))) []) (fun s265 => some s265) (fun x265 => some x265))) : Option (List Int)) (fun s249 => (bif (decide (300 < (len s249))) then some ([], false) else some (s249, true)))))

noncomputable def impl_total (a0 : Int) (a1 : Int) : Option (List Int) :=
  bdR (iter (S := ((List Int) × Int)) (X := Empty) (fun s22 => (bif (decide (s22.2 ≤ a0)) then bd (nn (wr (s22.2 - 1))) (fun u83 => (bif ((andK true 64 (shrK 64 a1 (wr (s22.2 - 1))) 1) == 1) then bd (app s22.1 [s22.2]) (fun xs90 => some (Lp.nx (xs90, (wr (s22.2 + 1))))) else bd (app s22.1 [(wr (-s22.2))]) (fun xs106 => some (Lp.nx (xs106, (wr (s22.2 + 1))))))) else some (Lp.bk (s22.1, s22.2)))) ([], 1)) (fun s22 => some s22.1) (fun x22 => nomatch x22)

noncomputable def impl_TotalOf (a0 : Int) (a1 : Int) : Option ((List Int) × Bool) :=
  bd (bif (!(PF.impl_varsOk a0)) then some true else bd (nn a0) (fun u37 => some (!(PF.impl_within a1 0 (wr ((shlK true 64 1 a0) - 1)))))) (fun t29 => (bif t29 then some ([], false) else bd (PF.impl_total a0 a1) (fun r45 => some (r45, true))))

def impl_part_1 (a0 : Int) (b0 : List Int) : Option Bool :=
  bd (PF.slices_Contains_int_int b0 a0) (fun r21 => some (!r21))

def impl_part (a0 : List Int) (a1 : List Int) : Option Bool :=
  bd (PF.slices_ContainsFunc_int_int a0 (fun x0 => PF.impl_part_1 x0 a1)) (fun r29 => some (!r29))

def impl_DoesExtend (a0 : Int) (a1 : List Int) (a2 : List Int) : Option (Bool × Bool) :=
  bd (PF.impl_IsAssignment a0 a1) (fun r21 => bd (bif (!r21) then some true else bd (PF.impl_IsAssignment a0 a2) (fun r38 => some (!r38))) (fun t31 => (bif t31 then some (false, false) else bd (PF.impl_part a1 a2) (fun r47 => some (r47, true)))))

noncomputable def impl_PropagationSteps (a0 : Cnf) (a1 : List Int) : Option ((List (Int × Int)) × Bool) :=
  bd (PF.impl_IsCnf a0) (fun r29 => bd (bif (!r29) then some true else bd (PF.impl_IsAssignment a0.vars a1) (fun r46 => some (!r46))) (fun t39 => (bif t39 then some ([], false) else bd (PF.impl_propagate a0.clauses a1) (fun r55 => some (r55.2.1, true)))))

noncomputable def spec_PropagationSteps (a0 : Cnf) (a1 : List Int) : Option ((List (Int × Int)) × Bool) :=
  bd (PF.spec_l3Asked a0 a1) (fun r29 => (bif (!r29) then some ([], false) else bd (PF.spec_l3Steps a0 a1) (fun r40 => some (r40.1, true))))

noncomputable def spec_DrawValueOfCnf (a0 : List Int) : Option (Cnf × (List Int)) :=
  bd (PF.spec_l1Cur_cnf (l1Cur.mk a0 0 0)) (fun r29 => bd (PF.spec_l1Cur_anyAssignment r29.2 r29.1.vars) (fun r15050 => some (r29.1, r15050.1)))

noncomputable def spec_DrawIsAutarky (a0 : List Int) : Option (Cnf × (List Int)) :=
  bd (PF.spec_DrawValueOfCnf a0) (fun r25 => some (r25.1, r25.2))

def impl_touches_1 (a0 : Int) (b0 : List Int) : Option Bool :=
  bd (PF.slices_Contains_int_int b0 a0) (fun r21 => bd (bif r21 then some true else bd (PF.slices_Contains_int_int b0 (wr (-a0))) (fun r38 => some r38)) (fun t31 => some t31))

def impl_touches (a0 : List Int) (a1 : List Int) : Option Bool :=
  bd (PF.slices_ContainsFunc_int_int a0 (fun x0 => PF.impl_touches_1 x0 a1)) (fun r29 => some r29)

def impl_IsAutarky_1 (a0 : List Int) (b0 : List Int) : Option Bool :=
  bd (PF.impl_touches a0 b0) (fun r21 => bd (bif r21 then bd (PF.impl_clauseValue a0 b0) (fun r38 => some (decide (r38 < 1))) else some false) (fun t31 => some t31))

def impl_IsAutarky (a0 : Cnf) (a1 : List Int) : Option (Bool × Bool) :=
  bd (PF.impl_IsCnf a0) (fun r37 => bd (bif (!r37) then some true else bd (PF.impl_IsAssignment a0.vars a1) (fun r54 => some (!r54))) (fun t47 => (bif t47 then some (false, false) else bd (PF.slices_ContainsFunc_LLint_Lint a0.clauses (fun x0 => PF.impl_IsAutarky_1 x0 a1)) (fun r63 => some ((!r63), true)))))

def spec_l2Meet (a0 : List Int) (a1 : List Int) : Option Bool :=
  bdR (forL (S := Unit) (X := Bool) a0 (fun i22 y21 s22 => bd (PF.spec_l2Has a1 y21) (fun r90 => bd (bif r90 then some true else bd (PF.spec_l2Has a1 (wr (-y21))) (fun r119 => some r119)) (fun t106 => (bif t106 then some (Lp.rt true) else some (Lp.nx ()))))) ()) (fun s22 => some false) (fun x22 => some x22)

noncomputable def spec_IsAutarky (a0 : Cnf) (a1 : List Int) : Option (Bool × Bool) :=
  bd (PF.spec_l3Asked a0 a1) (fun r29 => (bif (!r29) then some (false, false) else bdR (iter (S := Int) (X := (Bool × Bool)) (fun s35 => (bif (decide (s35 < (len a0.clauses))) then bd (ix a0.clauses s35) (fun x117 => bd (PF.spec_l2Meet x117 a1) (fun r121 => bd (bif r121 then bd (ix a0.clauses s35) (fun x154 => bd (PF.spec_l3Value x154 a1) (fun r158 => some (decide (r158 < 1)))) else some false) (fun t141 => (bif t141 then some (Lp.rt (false, true)) else some (Lp.nx (wr (s35 + 1))))))) else some (Lp.bk s35))) 0) (fun s35 => some (true, true)) (fun x35 => some x35)))

noncomputable def impl_restrict (a0 : List (List Int)) (a1 : List Int) : Option (List (List Int)) :=
  bdR (forL (S := (List (List Int))) (X := Empty) a0 (fun i22 y21 s22 => bd (PF.impl_clauseValue y21 a1) (fun r103 => (bif (decide (r103 < 1)) then bd (PF.impl_openPart y21 a1) (fun r109 => bd (app s22 [r109]) (fun xs130 => some (Lp.nx xs130))) else some (Lp.nx s22)))) []) (fun s22 => some s22) (fun x22 => nomatch x22)

noncomputable def impl_RestrictCnf (a0 : Cnf) (a1 : List Int) : Option (Cnf × Bool) :=
  bd (PF.impl_IsCnf a0) (fun r33 => bd (bif (!r33) then some true else bd (PF.impl_IsAssignment a0.vars a1) (fun r50 => some (!r50))) (fun t43 => (bif t43 then some ((Cnf.mk 0 []), false) else bd (PF.impl_restrict a0.clauses a1) (fun r18063 => some ((Cnf.mk a0.vars r18063), true)))))

def impl_satisfiable (a0 : Int) (a1 : List (List Int)) : Option Bool :=
  bd (β := _) (bd (nn a0) (fun u154 => bd (chk (shlK true 64 1 a0)) (fun m155 => bdR (forR (S := Bool) (X := Bool) 0 m155 (fun i156 s156 => bd (PF.impl_isModel a1 ((i156 : Nat) : Int)) (fun r256 => bd (bif r256 then bd (β := _) (some (true, false) : Option (Bool × Bool)) (fun s278 => some (s278.1, (!s278.2))) else some (s156, false)) (fun t273 => (bif t273.2 then some (Lp.rt t273.1) else some (Lp.nx t273.1))))) false) (fun s156 => some s156) (fun x156 => some x156))) : Option Bool) (fun s144 => some s144)

def impl_IsSatisfiable (a0 : Cnf) : Option (Bool × Bool) :=
  bd (PF.impl_IsCnf a0) (fun r29 => (bif (!r29) then some (false, false) else bd (PF.impl_satisfiable a0.vars a0.clauses) (fun r35 => some (r35, true))))

noncomputable def laws_FnPropagation (a0 : List Int) : Option Bool :=
  (bif (PF.laws_vBig a0) then some true else bd (PF.spec_DrawPropagate a0) (fun r25 => bd (PF.impl_Propagate r25.1 r25.2) (fun r54 => bd (PF.spec_Propagate r25.1 r25.2) (fun r70 => bd (bif (bif (!(r54.2.2 == r70.2.2)) then true else (!(r54.2.1 == r70.2.1))) then some true else bd (PF.laws_vInts r54.1 r70.1) (fun r119 => some (!r119))) (fun t107 => (bif t107 then some false else bdR (S := Unit) (X := Bool) ((bif r54.2.2 then bd (PF.impl_AllModels r25.1) (fun r42403 => bdR (iter (S := Int) (X := (Rs Unit Bool)) (fun s42413 => (bif (bif (decide (s42413 < (len r42403.1))) then r42403.2 else false) then bd (ix r42403.1 s42413) (fun x99684 => bd (PF.impl_TotalOf r25.1.vars x99684) (fun r105678 => bd (PF.impl_DoesExtend r25.1.vars r25.2 r105678.1) (fun r126708 => bd (PF.impl_DoesExtend r25.1.vars r54.1 r105678.1) (fun r126718 => (bif (bif (bif (bif (!r105678.2) then true else (!r126708.2)) then true else (!r126718.2)) then true else (bif r126708.1 then (bif r54.2.1 then true else (!r126718.1)) else false)) then some (Lp.rt (Rs.rt false)) else some (Lp.nx (wr (s42413 + 1)))))))) else some (Lp.bk s42413))) 0) (fun s42413 => some (Rs.go ())) (fun x42413 => some x42413)) else some (Rs.go ()))) (fun s42399 => bd (PF.impl_PropagationSteps r25.1 r25.2) (fun r126905 => bd (PF.spec_PropagationSteps r25.1 r25.2) (fun r126922 => (bif (bif (!(r126905.2 == r126922.2)) then true else (!((len r126905.1) == (len r126922.1)))) then some false else bdR (iter (S := Int) (X := Bool) (fun s126946 => (bif (decide (s126946 < (len r126905.1))) then bd (ix r126905.1 s126946) (fun x126995 => bd (ix r126922.1 s126946) (fun x127003 => (bif (!((x126995.1 == x127003.1) && (x126995.2 == x127003.2))) then some (Lp.rt false) else some (Lp.nx (wr (s126946 + 1)))))) else some (Lp.bk s126946))) 0) (fun s126946 => bd (PF.spec_DrawIsAutarky a0) (fun r127016 => bd (PF.impl_IsAutarky r127016.1 r127016.2) (fun r127045 => bd (PF.spec_IsAutarky r127016.1 r127016.2) (fun r127055 => (bif (bif (!(r127045.1 == r127055.1)) then true else (!(r127045.2 == r127055.2))) then some false else (bif (bif r127045.2 then r127045.1 else false) then bd (PF.impl_RestrictCnf r127016.1 r127016.2) (fun r127089 => bd (PF.impl_IsSatisfiable r127016.1) (fun r127114 => bd (PF.impl_IsSatisfiable r127089.1) (fun r127119 => (bif (bif (!r127089.2) then true else (bif (bif r127114.2 then r127119.2 else false) then (!(r127114.1 == r127119.1)) else false)) then some false else some true)))) else some true)))))) (fun x126946 => some x126946))))) (fun x42401 => some x42401)))))))

end Go.PF
