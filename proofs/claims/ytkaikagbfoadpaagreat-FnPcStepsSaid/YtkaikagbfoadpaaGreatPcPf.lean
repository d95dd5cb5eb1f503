/- Part of the walks and plain laws behind the claim: it proves helpers, under no condition beyond their own. -/
import Derived.Test.YtkaikagbfoadpaaGreatPcLB
import Derived.Test.YtkaikagbfoadpaaGreatPcLC
set_option linter.unusedVariables false
namespace Go.PF
open Go.Pu

structure Cnf where
  vars : Int
  clauses : List (List Int)
def okCnf (s : Cnf) : Prop := okI s.vars ∧ (okL (okL okI)) s.clauses

structure Term where
  mono : Int
  coeff : Int
def okTerm (s : Term) : Prop := okI s.mono ∧ okI s.coeff

structure PcStep where
  kind : Int
  poly : List Term
  a : Int
  b : Int
  x : Int
  y : Int
structure Inequality where
  coeffs : List Int
  bound : Int
structure PlaneStep where
  ineq : Inequality
  kind : Int
  a : Int
  b : Int
  k : Int
structure ring where
  p : Int
  vars : Int
structure algebra where
  ring : ring
  f : Cnf
  q : List (List Int)
structure l1Cur where
  code : List Int
  at_ : Int
  seed : Int
structure ResStep where
  clause : List Int
  left : Int
  right : Int
  pivot : Int
def laws_vBig (a0 : List Int) : Bool :=
  (decide (65536 < (len a0)))

def spec_l1Cur_next (a0 : l1Cur) : Option (Int × l1Cur) :=
  bdR (S := Int) (X := Empty) ((bif (decide (a0.at_ < (len a0.code))) then bd (ix a0.code a0.at_) (fun x49 => some (Rs.go (wrk true 64 x49))) else some (Rs.go 0))) (fun s38 => (bif (decide ((wr (a0.at_ + 1)) ≤ (len a0.code))) then some (s38, (l1Cur.mk a0.code (wr (a0.at_ + 1)) (wrk false 64 ((wrk false 64 ((wrk false 64 (a0.seed * 6364136223846793005)) + (wrk false 64 s38))) + 337411)))) else some ((wrk true 64 (andK false 64 (shrK 64 (wrk false 64 ((wrk false 64 ((wrk false 64 (a0.seed * 6364136223846793005)) + (wrk false 64 s38))) + 337411)) 40) 255)), (l1Cur.mk a0.code (wr (a0.at_ + 1)) (wrk false 64 ((wrk false 64 ((wrk false 64 (a0.seed * 6364136223846793005)) + (wrk false 64 s38))) + 337411)))))) (fun x40 => nomatch x40)

def spec_l1Cur_pick (a0 : l1Cur) (a1 : Int) : Option (Int × l1Cur) :=
  (bif (decide (a1 ≤ 1)) then some (0, a0) else bd (PF.spec_l1Cur_next a0) (fun r22 => (bif (decide (200 < a1)) then bd (PF.spec_l1Cur_next r22.2) (fun r31 => bd (nz a1) (fun u40 => some (((wr ((wr (r22.1 * 256)) + r31.1)).tmod a1), r31.2))) else bd (nz a1) (fun u42 => some ((r22.1.tmod a1), r22.2)))))

def spec_l1Cur_among (a0 : l1Cur) (a1 : List Int) : Option (Int × l1Cur) :=
  bd (PF.spec_l1Cur_pick a0 (len a1)) (fun r21 => bd (ix a1 r21.1) (fun x35 => some (x35, r21.2)))

def spec_l1Cur_one (a0 : l1Cur) (a1 : Int) : Option (Bool × l1Cur) :=
  bd (PF.spec_l1Cur_pick a0 a1) (fun r21 => some ((r21.1 == 0), r21.2))

def spec_l2Hard  : (List ByteArray) :=
  [(ByteArray.mk #[49, 59, 32, 49, 59, 32, 45, 49]), (ByteArray.mk #[50, 59, 32, 49, 32, 50, 59, 32, 49, 32, 45, 50, 59, 32, 45, 49, 32, 50, 59, 32, 45, 49, 32, 45, 50]), (ByteArray.mk #[48, 59, 32, 110, 111, 110, 101]), (ByteArray.mk #[50, 59, 32, 49, 59, 32, 45, 49, 32, 50, 59, 32, 45, 50]), (ByteArray.mk #[51, 59, 32, 49, 59, 32, 45, 49, 32, 50, 59, 32, 45, 50, 32, 51, 59, 32, 45, 51]), (ByteArray.mk #[51, 59, 32, 49, 32, 50, 59, 32, 45, 49, 32, 51, 59, 32, 45, 50, 32, 51, 59, 32, 45, 51]), (ByteArray.mk #[51, 59, 32, 49, 32, 50, 59, 32, 45, 49, 32, 50, 59, 32, 45, 50, 32, 51, 59, 32, 45, 50, 32, 45, 51]), (ByteArray.mk #[51, 59, 32, 49, 32, 50, 32, 51, 59, 32, 49, 32, 50, 32, 45, 51, 59, 32, 49, 32, 45, 50, 59, 32, 45, 49, 32, 51, 59, 32, 45, 49, 32, 45, 51]), (ByteArray.mk #[50, 59, 32, 49, 32, 50, 59, 32, 45, 49, 59, 32, 45, 50, 59, 32, 49, 32, 45, 50]), (ByteArray.mk #[52, 59, 32, 49, 32, 50, 59, 32, 51, 32, 52, 59, 32, 45, 49, 32, 45, 51, 59, 32, 45, 50, 32, 45, 52, 59, 32, 45, 49, 32, 45, 52, 59, 32, 45, 50, 32, 45, 51]), (ByteArray.mk #[51, 59, 32, 49, 32, 50, 59, 32, 50, 32, 51, 59, 32, 49, 32, 51, 59, 32, 45, 49, 32, 45, 50, 59, 32, 45, 50, 32, 45, 51, 59, 32, 45, 49, 32, 45, 51]), (ByteArray.mk #[52, 59, 32, 49, 59, 32, 50, 59, 32, 45, 49, 32, 45, 50, 32, 51, 59, 32, 45, 51, 32, 52, 59, 32, 45, 52]), (ByteArray.mk #[51, 59, 32, 49, 32, 45, 50, 59, 32, 50, 32, 45, 51, 59, 32, 51, 32, 45, 49, 59, 32, 49, 32, 50, 32, 51, 59, 32, 45, 49, 32, 45, 50, 32, 45, 51]), (ByteArray.mk #[52, 59, 32, 49, 32, 50, 59, 32, 45, 49, 32, 45, 50, 59, 32, 50, 32, 51, 59, 32, 45, 50, 32, 45, 51, 59, 32, 51, 32, 52, 59, 32, 45, 51, 32, 45, 52, 59, 32, 49, 32, 52, 32, 45, 51, 59, 32, 45, 49, 32, 45, 52, 59, 32, 49, 32, 45, 52, 59, 32, 45, 49, 32, 52]), (ByteArray.mk #[50, 59, 32, 49, 59, 32, 45, 49, 59, 32, 50])]

def spec_l1Cur_of (a0 : l1Cur) (a1 : List ByteArray) : Option (ByteArray × l1Cur) :=
  bd (PF.spec_l1Cur_pick a0 (len a1)) (fun r21 => bd (ix a1 r21.1) (fun x35 => some (x35, r21.2)))

def spec_l1Split (a0 : ByteArray) (a1 : Int) : Option (List ByteArray) :=
  bd (chk (a0.size : Int)) (fun m26 => bdR (forR (S := ((List ByteArray) × Int)) (X := Empty) 0 m26 (fun i27 s27 => bd (ixS a0 ((i27 : Nat) : Int)) (fun z73 => (bif (z73 == a1) then bd (cutS a0 s27.2 ((i27 : Nat) : Int)) (fun z76 => bd (app s27.1 [z76]) (fun xs83 => some (Lp.nx (xs83, (wr (((i27 : Nat) : Int) + 1)))))) else some (Lp.nx (s27.1, s27.2))))) ([], 0)) (fun s27 => bd (cutS a0 s27.2 (a0.size : Int)) (fun z103 => bd (app s27.1 [z103]) (fun xs110 => some xs110))) (fun x27 => nomatch x27))

def spec_l1In (a0 : Int) (a1 : Int) (a2 : Int) : Bool :=
  (bif (decide (a1 ≤ a0)) then (decide (a0 ≤ a2)) else false)

def spec_l1Num (a0 : Int) : Option ByteArray := numT a0

def spec_l1Read (a0 : ByteArray) : Option (Int × Bool) :=
  bd (bif (decide (1 < (a0.size : Int))) then bd (ixS a0 0) (fun z30 => some (z30 == 45)) else some false) (fun t23 => bdR (S := ByteArray) (X := Empty) ((bif t23 then bd (cutS a0 1 (a0.size : Int)) (fun z42 => some (Rs.go z42)) else some (Rs.go a0))) (fun s38 => (bif (!(PF.spec_l1In (s38.size : Int) 1 6)) then some (0, false) else bd (chk (s38.size : Int)) (fun m55 => bdR (forR (S := Int) (X := (Int × Bool)) 0 m55 (fun i56 s56 => bd (ixS s38 ((i56 : Nat) : Int)) (fun z96 => bd (bif (decide (z96 < 48)) then some true else bd (ixS s38 ((i56 : Nat) : Int)) (fun z107 => some (decide (57 < z107)))) (fun t100 => (bif t100 then some (Lp.rt (0, false)) else bd (ixS s38 ((i56 : Nat) : Int)) (fun z115 => some (Lp.nx (wr ((wr (10 * s56)) + (wrk true 64 (wrk false 8 (z115 - 48))))))))))) 0) (fun s56 => bdR (S := Int) (X := Empty) ((bif (decide ((s38.size : Int) < (a0.size : Int))) then some (Rs.go (wr (-s56))) else some (Rs.go s56))) (fun s127 => bd (PF.spec_l1Num s127) (fun r138 => (bif (!(r138.toList == a0.toList)) then some (0, false) else some (s127, true)))) (fun x129 => nomatch x129)) (fun x56 => some x56)))) (fun x40 => nomatch x40))

def spec_l2Vars (a0 : Int) : Bool :=
  (PF.spec_l1In a0 0 12)

def spec_l2Lit (a0 : Int) (a1 : Int) : Bool :=
  (bif (PF.spec_l1In a1 (wr (-a0)) a0) then (!(a1 == 0)) else false)

def spec_l2Var (a0 : Int) : Int :=
  (bif (decide (a0 < 0)) then (wr (-a0)) else a0)

def spec_l2Clause (a0 : Int) (a1 : List Int) : Option Bool :=
  (bif (!(PF.spec_l2Vars a0)) then some false else bdR (forL (S := Unit) (X := Bool) a1 (fun i26 y25 s26 => bd (bif (!(PF.spec_l2Lit a0 y25)) then some true else bd (bif (decide (0 < ((i26 : Nat) : Int))) then bd (ix a1 (wr (((i26 : Nat) : Int) - 1))) (fun x226 => some (decide ((PF.spec_l2Var y25) ≤ (PF.spec_l2Var x226)))) else some false) (fun t213 => some t213)) (fun t192 => (bif t192 then some (Lp.rt false) else some (Lp.nx ())))) ()) (fun s26 => some true) (fun x26 => some x26))

def spec_l2Text (a0 : List Int) : Option ByteArray :=
  (bif ((len a0) == 0) then some (ByteArray.mk #[110, 111, 110, 101]) else bd (ix a0 0) (fun x28 => bd (PF.spec_l1Num x28) (fun r30 => bdR (forR (S := ByteArray) (X := Empty) 1 a0.length (fun i35 s35 => bd (catS s35 (ByteArray.mk #[32])) (fun z69 => bd (ix a0 ((i35 : Nat) : Int)) (fun x77 => bd (PF.spec_l1Num x77) (fun r79 => bd (catS z69 r79) (fun z84 => some (Lp.nx z84)))))) r30) (fun s35 => some s35) (fun x35 => nomatch x35))))

noncomputable def spec_l2Parse (a0 : Int) (a1 : ByteArray) : Option ((List Int) × Bool) :=
  (bif (a1.toList == (ByteArray.mk #[110, 111, 110, 101]).toList) then some ([], (PF.spec_l2Vars a0)) else bd (PF.spec_l1Split a1 32) (fun r30 => bdR (iter (S := ((List Int) × Int)) (X := ((List Int) × Bool)) (fun s40 => (bif (bif (decide (s40.2 < (len r30))) then (decide (s40.2 ≤ 12)) else false) then bd (ix r30 s40.2) (fun x134 => bd (PF.spec_l1Read x134) (fun r136 => (bif (!r136.2) then some (Lp.rt ([], false)) else bd (app s40.1 [r136.1]) (fun xs152 => some (Lp.nx (xs152, (wr (s40.2 + 1)))))))) else some (Lp.bk (s40.1, s40.2)))) ([], 0)) (fun s40 => bd (bif (decide (12 < (len r30))) then some true else bd (PF.spec_l2Clause a0 s40.1) (fun r195 => some (!r195))) (fun t183 => bd (bif t183 then some true else bd (PF.spec_l2Text s40.1) (fun r225 => some (!(r225.toList == a1.toList)))) (fun t213 => (bif t213 then some ([], false) else some (s40.1, true))))) (fun x40 => some x40)))

noncomputable def spec_l2TextOf (a0 : Cnf) : Option ByteArray :=
  bd (PF.spec_l1Num a0.vars) (fun r29 => bdR (iter (S := (ByteArray × Int)) (X := Empty) (fun s34 => (bif (decide (s34.2 < (len a0.clauses))) then bd (catS s34.1 (ByteArray.mk #[59, 32])) (fun z72 => bd (ix a0.clauses s34.2) (fun x80 => bd (PF.spec_l2Text x80) (fun r84 => bd (catS z72 r84) (fun z89 => some (Lp.nx (z89, (wr (s34.2 + 1)))))))) else some (Lp.bk (s34.1, s34.2)))) (r29, 0)) (fun s34 => some s34.1) (fun x34 => nomatch x34))

noncomputable def spec_ParseCnf (a0 : ByteArray) : Option (Cnf × Bool) :=
  bd (PF.spec_l1Split a0 59) (fun r25 => bd (ix r25 0) (fun x41 => bd (PF.spec_l1Read x41) (fun r43 => (bif (bif (bif (!r43.2) then true else (!(PF.spec_l2Vars r43.1))) then true else (decide (61 < (len r25)))) then some ((Cnf.mk 0 []), false) else bdR (iter (S := ((List (List Int)) × Int × Int)) (X := (Cnf × Bool)) (fun s94 => (bif (decide (s94.2.2 < (len r25))) then bd (ix r25 s94.2.2) (fun x334 => bd (bif (decide ((x334.size : Int) < 2)) then some true else bd (ix r25 s94.2.2) (fun x359 => bd (ixS x359 0) (fun z361 => some (!(z361 == 32))))) (fun t346 => (bif t346 then some (Lp.rt ((Cnf.mk 0 []), false)) else bd (ix r25 s94.2.2) (fun x380 => bd (cutS x380 1 (x380.size : Int)) (fun z382 => bd (PF.spec_l2Parse r43.1 z382) (fun r384 => (bif (!r384.2) then some (Lp.rt ((Cnf.mk 0 []), false)) else bd (app s94.1 [r384.1]) (fun xs409 => some (Lp.nx (xs409, s94.2.1, (wr (s94.2.2 + 1)))))))))))) else some (Lp.bk (s94.1, s94.2.1, s94.2.2)))) ([], r43.1, 1)) (fun s94 => bd (PF.spec_l2TextOf (Cnf.mk s94.2.1 s94.1)) (fun r439 => (bif (!(r439.toList == a0.toList)) then some ((Cnf.mk 0 []), false) else some ((Cnf.mk s94.2.1 s94.1), true)))) (fun x94 => some x94)))))

noncomputable def spec_l2Known (a0 : ByteArray) : Option Cnf :=
  bd (PF.spec_ParseCnf a0) (fun r25 => some r25.1)

noncomputable def spec_l2Good (a0 : Cnf) : Option Bool :=
  (bif (bif (!(PF.spec_l2Vars a0.vars)) then true else (decide (60 < (len a0.clauses)))) then some false else bdR (iter (S := Int) (X := Bool) (fun s42 => (bif (decide (s42 < (len a0.clauses))) then bd (ix a0.clauses s42) (fun x83 => bd (PF.spec_l2Clause a0.vars x83) (fun r87 => (bif (!r87) then some (Lp.rt false) else some (Lp.nx (wr (s42 + 1)))))) else some (Lp.bk s42))) 0) (fun s42 => some true) (fun x42 => some x42))

def spec_l1Has (a0 : List Int) (a1 : Int) : Option Bool :=
  bdR (forL (S := Unit) (X := Bool) a0 (fun i22 y21 s22 => (bif (y21 == a1) then some (Lp.rt true) else some (Lp.nx ()))) ()) (fun s22 => some false) (fun x22 => some x22)

def spec_l2Has (a0 : List Int) (a1 : Int) : Option Bool :=
  bd (PF.spec_l1Has a0 a1) (fun r21 => some r21)

def spec_l1Own (a0 : List Int) : Option (List Int) :=
  bd (app [] a0) (fun xs26 => some xs26)

noncomputable def spec_l2Put (a0 : List Int) (a1 : Int) : Option (List Int) :=
  bdR (iter (S := Int) (X := Empty) (fun s21 => bd (bif (decide (s21 < (len a0))) then bd (ix a0 s21) (fun x105 => some (decide ((PF.spec_l2Var x105) < (PF.spec_l2Var a1)))) else some false) (fun t92 => (bif t92 then some (Lp.nx (wr (s21 + 1))) else some (Lp.bk s21)))) 0) (fun s21 => bd (cut a0 0 s21) (fun xs9127 => bd (PF.spec_l1Own xs9127) (fun r12127 => bd (app r12127 [a1]) (fun xs21127 => bd (cut a0 s21 (len a0)) (fun xs30127 => bd (app xs21127 xs30127) (fun xs33127 => some xs33127)))))) (fun x21 => nomatch x21)

noncomputable def spec_RenameCnf (a0 : Cnf) (a1 : List Int) : Option (Cnf × Bool) :=
  bd (PF.spec_l2Good a0) (fun r33 => (bif (bif (!r33) then true else (!((len a1) == a0.vars))) then some ((Cnf.mk 0 []), false) else bdR (forL (S := Unit) (X := (Cnf × Bool)) a1 (fun i54 y53 s54 => bd (bif (!(PF.spec_l2Lit a0.vars y53)) then some true else bd (cut a1 0 ((i54 : Nat) : Int)) (fun xs190 => bd (PF.spec_l2Has xs190 y53) (fun r201 => some r201))) (fun t183 => bd (bif t183 then some true else bd (cut a1 0 ((i54 : Nat) : Int)) (fun xs228 => bd (PF.spec_l2Has xs228 (wr (-y53))) (fun r239 => some r239))) (fun t221 => (bif t221 then some (Lp.rt ((Cnf.mk 0 []), false)) else some (Lp.nx ()))))) ()) (fun s54 => bdR (iter (S := ((List (List Int)) × Int × Int)) (X := Empty) (fun s274 => (bif (decide (s274.2.2 < (len a0.clauses))) then bdR (iter (S := ((List Int) × Int)) (X := Empty) (fun s792 => bd (ix a0.clauses s274.2.2) (fun x993 => (bif (decide (s792.2 < (len x993))) then bd (ix a0.clauses s274.2.2) (fun x1004 => bd (ix x1004 s792.2) (fun x1014 => bd (ix a1 (wr ((PF.spec_l2Var x1014) - 1))) (fun x1025 => (bif (decide (x1014 < 0)) then bd (PF.spec_l2Put s792.1 (wr (-x1025))) (fun r1033 => some (Lp.nx (r1033, (wr (s792.2 + 1))))) else bd (PF.spec_l2Put s792.1 x1025) (fun r1050 => some (Lp.nx (r1050, (wr (s792.2 + 1))))))))) else some (Lp.bk (s792.1, s792.2))))) ([], 0)) (fun s792 => bd (app s274.1 [s792.1]) (fun xs1085 => some (Lp.nx (xs1085, s274.2.1, (wr (s274.2.2 + 1)))))) (fun x792 => nomatch x792) else some (Lp.bk (s274.1, s274.2.1, s274.2.2)))) ([], a0.vars, 0)) (fun s274 => some ((Cnf.mk s274.2.1 s274.1), true)) (fun x274 => nomatch x274)) (fun x54 => some x54)))

def spec_l2Without (a0 : List Int) (a1 : Int) : Option (List Int) :=
  bdR (forL (S := (List Int)) (X := Empty) a0 (fun i27 y26 s27 => (bif (!((PF.spec_l2Var y26) == a1)) then bd (app s27 [y26]) (fun xs103 => some (Lp.nx xs103)) else some (Lp.nx s27))) []) (fun s27 => some s27) (fun x27 => nomatch x27)

noncomputable def spec_l1Cur_clause (a0 : l1Cur) (a1 : Int) : Option ((List Int) × l1Cur) :=
  bd (PF.spec_l1Cur_among a0 [1, 2, 2, 3, 3, 4, 0, 2]) (fun r36 => bdR (iter (S := ((List Int) × Int × Int × (List Int) × Int)) (X := Empty) (fun s45 => (bif (bif (decide (0 < s45.2.2.2.2)) then (decide (0 < a1)) else false) then bd (PF.spec_l1Cur_pick (l1Cur.mk s45.1 s45.2.1 s45.2.2.1) a1) (fun r260 => bd (PF.spec_l2Without s45.2.2.2.1 (wr (1 + r260.1))) (fun r273 => bd (PF.spec_l1Cur_one r260.2 2) (fun r285 => (bif r285.1 then bd (PF.spec_l2Put r273 (wr (-(wr (1 + r260.1))))) (fun r300 => some (Lp.nx (r285.2.code, r285.2.at_, r285.2.seed, r300, (wr (s45.2.2.2.2 - 1))))) else bd (PF.spec_l2Put r273 (wr (1 + r260.1))) (fun r317 => some (Lp.nx (r285.2.code, r285.2.at_, r285.2.seed, r317, (wr (s45.2.2.2.2 - 1))))))))) else some (Lp.bk (s45.1, s45.2.1, s45.2.2.1, s45.2.2.2.1, s45.2.2.2.2)))) (r36.2.code, r36.2.at_, r36.2.seed, [], r36.1)) (fun s45 => some (s45.2.2.2.1, (l1Cur.mk s45.1 s45.2.1 s45.2.2.1))) (fun x45 => nomatch x45))

noncomputable def spec_l1Cur_hard (a0 : l1Cur) : Option (Cnf × l1Cur) :=
  bd (PF.spec_l1Cur_of a0 PF.spec_l2Hard) (fun r38 => bd (PF.spec_l2Known r38.1) (fun r47 => bdR (iter (S := ((List Int) × (List Int) × Int × Int × Int)) (X := Empty) (fun s71 => (bif (decide (s71.2.2.2.2 ≤ r47.vars)) then bd (PF.spec_l1Cur_one (l1Cur.mk s71.2.1 s71.2.2.1 s71.2.2.2.1) 4) (fun r199 => (bif r199.1 then bd (app s71.1 [(wr (-s71.2.2.2.2))]) (fun xs214 => some (Lp.nx (xs214, r199.2.code, r199.2.at_, r199.2.seed, (wr (s71.2.2.2.2 + 1))))) else bd (app s71.1 [s71.2.2.2.2]) (fun xs230 => some (Lp.nx (xs230, r199.2.code, r199.2.at_, r199.2.seed, (wr (s71.2.2.2.2 + 1))))))) else some (Lp.bk (s71.1, s71.2.1, s71.2.2.1, s71.2.2.2.1, s71.2.2.2.2)))) ([], r38.2.code, r38.2.at_, r38.2.seed, 1)) (fun s71 => bd (PF.spec_RenameCnf r47 s71.1) (fun r256 => bd (PF.spec_l1Cur_pick (l1Cur.mk s71.2.1 s71.2.2.1 s71.2.2.2.1) 3) (fun r273 => bdR (iter (S := ((List (List Int)) × (List Int) × Int × Int × Int × Int)) (X := Empty) (fun s282 => (bif (bif (decide (0 < s282.2.2.2.2.2)) then (decide (0 < s282.2.2.2.2.1)) else false) then bd (PF.spec_l1Cur_clause (l1Cur.mk s282.2.1 s282.2.2.1 s282.2.2.2.1) s282.2.2.2.2.1) (fun r90388 => bd (app s282.1 [r90388.1]) (fun xs96388 => some (Lp.nx (xs96388, r90388.2.code, r90388.2.at_, r90388.2.seed, s282.2.2.2.2.1, (wr (s282.2.2.2.2.2 - 1)))))) else some (Lp.bk (s282.1, s282.2.1, s282.2.2.1, s282.2.2.2.1, s282.2.2.2.2.1, s282.2.2.2.2.2)))) (r256.1.clauses, r273.2.code, r273.2.at_, r273.2.seed, r256.1.vars, r273.1)) (fun s282 => some ((Cnf.mk s282.2.2.2.2.1 s282.1), (l1Cur.mk s282.2.1 s282.2.2.1 s282.2.2.2.1))) (fun x282 => nomatch x282)))) (fun x71 => nomatch x71)))

def spec_l1Cur_lit (a0 : l1Cur) (a1 : Int) : Option (Int × l1Cur) :=
  bd (bif (decide (a1 < 1)) then some (a0.code, a0.at_, a0.seed, true) else bd (PF.spec_l1Cur_one a0 40) (fun r33 => some (r33.2.code, r33.2.at_, r33.2.seed, r33.1))) (fun t29 => (bif t29.2.2.2 then bd (PF.spec_l1Cur_among (l1Cur.mk t29.1 t29.2.1 t29.2.2.1) [0, (wr (a1 + 1)), (wr ((wr (-a1)) - 1))]) (fun r60 => some (r60.1, r60.2)) else bd (PF.spec_l1Cur_pick (l1Cur.mk t29.1 t29.2.1 t29.2.2.1) a1) (fun r68 => bd (PF.spec_l1Cur_one r68.2 2) (fun r76 => (bif r76.1 then some ((wr (-(wr (1 + r68.1)))), r76.2) else some ((wr (1 + r68.1)), r76.2))))))

noncomputable def spec_l1Cur_anyClause (a0 : l1Cur) (a1 : Int) : Option ((List Int) × l1Cur) :=
  bd (PF.spec_l1Cur_clause a0 a1) (fun r21 => bd (PF.spec_l1Cur_pick r21.2 32) (fun r33 => (bif (r33.1 == 0) then bd (PF.spec_l1Cur_lit r33.2 a1) (fun r43 => bd (app r21.1 [r43.1]) (fun xs56 => some (xs56, r43.2))) else (bif (r33.1 == 1) then (bif (decide (0 < (len r21.1))) then bd (PF.spec_l1Cur_among r33.2 [0, (wr (a1 + 1)), (wr ((wr (-a1)) - 1)), (-9223372036854775808)]) (fun r79 => bd (ix r21.1 0) (fun x93 => bd (put r21.1 0 r79.1) (fun xs98 => some (xs98, r79.2)))) else some (r21.1, r33.2)) else (bif (r33.1 == 2) then (bif (decide (1 < (len r21.1))) then bd (ix r21.1 0) (fun x111 => bd (ix r21.1 1) (fun x119 => bd (ix r21.1 0) (fun x127 => bd (put r21.1 0 x119) (fun xs132 => bd (ix xs132 1) (fun x143 => bd (put xs132 1 x111) (fun xs148 => some (xs148, r33.2))))))) else some (r21.1, r33.2)) else some (r21.1, r33.2))))))

noncomputable def spec_l1Cur_cnf (a0 : l1Cur) : Option (Cnf × l1Cur) :=
  bd (PF.spec_l1Cur_one a0 4) (fun r25 => (bif r25.1 then bd (PF.spec_l1Cur_hard r25.2) (fun r35 => some (r35.1, r35.2)) else bd (PF.spec_l1Cur_among r25.2 [2, 3, 3, 4, 5]) (fun r58 => bd (PF.spec_l1Cur_pick r58.2 10) (fun r78 => bdR (iter (S := ((List (List Int)) × (List Int) × Int × Int × Int × Int)) (X := Empty) (fun s87 => (bif (decide (0 < s87.2.2.2.2.2)) then bd (PF.spec_l1Cur_clause (l1Cur.mk s87.2.1 s87.2.2.1 s87.2.2.2.1) s87.2.2.2.2.1) (fun r90157 => bd (app s87.1 [r90157.1]) (fun xs96157 => some (Lp.nx (xs96157, r90157.2.code, r90157.2.at_, r90157.2.seed, s87.2.2.2.2.1, (wr (s87.2.2.2.2.2 - 1)))))) else some (Lp.bk (s87.1, s87.2.1, s87.2.2.1, s87.2.2.2.1, s87.2.2.2.2.1, s87.2.2.2.2.2)))) ([], r78.2.code, r78.2.at_, r78.2.seed, r58.1, r78.1)) (fun s87 => bd (PF.spec_l1Cur_pick (l1Cur.mk s87.2.1 s87.2.2.1 s87.2.2.2.1) 40) (fun r108183 => (bif (r108183.1 == 0) then bd (PF.spec_l1Cur_among r108183.2 [(-1), 13, 12, 0, 1]) (fun r108202 => some ((Cnf.mk r108202.1 s87.1), r108202.2)) else (bif (r108183.1 == 1) then bd (PF.spec_l1Cur_anyClause r108183.2 s87.2.2.2.2.1) (fun r126223 => bd (app s87.1 [r126223.1]) (fun xs132223 => some ((Cnf.mk s87.2.2.2.2.1 xs132223), r126223.2))) else (bif (r108183.1 == 2) then bdR (iter (S := ((List (List Int)) × (List Int) × Int × Int × Int)) (X := Empty) (fun s144248 => bd (PF.spec_l1Cur_pick (l1Cur.mk s144248.2.1 s144248.2.2.1 s144248.2.2.2.1) 2) (fun r213366 => (bif (decide ((len s144248.1) < (wr (60 + r213366.1)))) then bd (app s144248.1 [[1]]) (fun xs225395 => some (Lp.nx (xs225395, r213366.2.code, r213366.2.at_, r213366.2.seed, s144248.2.2.2.2))) else some (Lp.bk (s144248.1, r213366.2.code, r213366.2.at_, r213366.2.seed, s144248.2.2.2.2))))) (s87.1, r108183.2.code, r108183.2.at_, r108183.2.seed, s87.2.2.2.2.1)) (fun s144248 => some ((Cnf.mk s144248.2.2.2.2 s144248.1), (l1Cur.mk s144248.2.1 s144248.2.2.1 s144248.2.2.2.1))) (fun x144248 => nomatch x144248) else (bif (r108183.1 == 3) then bd (PF.spec_l1Cur_clause r108183.2 s87.2.2.2.2.1) (fun r243428 => bd (app s87.1 [r243428.1, []]) (fun xs252428 => some ((Cnf.mk s87.2.2.2.2.1 xs252428), r243428.2))) else some ((Cnf.mk s87.2.2.2.2.1 s87.1), r108183.2))))))) (fun x87 => nomatch x87)))))

noncomputable def spec_l1Cur_cnf20 (a0 : l1Cur) : Option (Int × Cnf × l1Cur) :=
  bd (PF.spec_l1Cur_pick a0 24) (fun r30 => bd (cut [2, 3, 3, 5, 2, 4, 7] 0 (wr (5 + (wr (r30.1.tdiv 11))))) (fun xs44 => bd (PF.spec_l1Cur_among r30.2 xs44) (fun r49 => bd (PF.spec_l1Cur_cnf r49.2) (fun r57 => bd (PF.spec_l1Cur_one r57.2 2) (fun r74 => bdR (S := ((List Int) × Int × Int × Int × (List (List Int)))) (X := Empty) ((bif r74.1 then bd (PF.spec_l1Cur_hard r74.2) (fun r105 => some (Rs.go (r105.2.code, r105.2.at_, r105.2.seed, r105.1.vars, r105.1.clauses))) else some (Rs.go (r74.2.code, r74.2.at_, r74.2.seed, r57.1.vars, r57.1.clauses)))) (fun s97 => bd (PF.spec_l1Cur_one (l1Cur.mk s97.1 s97.2.1 s97.2.2.1) 24) (fun r127 => (bif r127.1 then bd (PF.spec_l1Cur_among r127.2 [6, 7]) (fun r146 => some (r49.1, (Cnf.mk r146.1 s97.2.2.2.2), r146.2)) else some (r49.1, (Cnf.mk s97.2.2.2.1 s97.2.2.2.2), r127.2)))) (fun x99 => nomatch x99))))))

def spec_l18Prime (a0 : Int) (a1 : Int) : Bool :=
  (bif (bif (bif (a0 == 2) then true else (a0 == 3)) then true else (a0 == 5)) then (PF.spec_l1In a1 0 6) else false)

noncomputable def spec_l20Asked (a0 : Int) (a1 : Cnf) : Option Bool :=
  bd (bif (PF.spec_l18Prime a0 a1.vars) then bd (PF.spec_l2Good a1) (fun r44 => some r44) else some false) (fun t37 => some t37)

def spec_l18Sparse (a0 : Int) (a1 : List Int) : Option (List Term) :=
  bdR (forL (S := (List Term)) (X := Empty) a1 (fun i27 y26 s27 => bd (nz a0) (fun u82 => (bif (!((y26.tmod a0) == 0)) then bd (app s27 [(Term.mk ((i27 : Nat) : Int) (y26.tmod a0))]) (fun xs89 => some (Lp.nx xs89)) else some (Lp.nx s27)))) []) (fun s27 => some s27) (fun x27 => nomatch x27)

def spec_l18Mul (a0 : Int) (a1 : Int) (a2 : List Term) (a3 : List Term) : Option (List Term) :=
  bd (nn a1) (fun u22 => bd (mk2 (0 : Int) (shlK true 64 1 a1) (shlK true 64 1 a1)) (fun xs23 => bdR (forL (S := (List Int)) (X := Empty) a2 (fun i34 y33 s34 => bdR (forL (S := (List Int)) (X := Empty) a3 (fun i288292 y288291 s288292 => bd (ix s288292 (orK true 64 y33.mono y288291.mono)) (fun x447414 => bd (nz a0) (fun u492409 => bd (ix s288292 (orK true 64 y33.mono y288291.mono)) (fun x495414 => bd (put s288292 (orK true 64 y33.mono y288291.mono) ((wr (x447414 + (wr (y33.coeff * y288291.coeff)))).tmod a0)) (fun xs498411 => some (Lp.nx xs498411)))))) s34) (fun s288292 => some (Lp.nx s288292)) (fun x288292 => nomatch x288292)) xs23) (fun s34 => bd (PF.spec_l18Sparse a0 s34) (fun r504459 => some r504459)) (fun x34 => nomatch x34)))

def spec_l18Clause (a0 : Int) (a1 : Int) (a2 : List Int) : Option (List Term) :=
  bdR (forL (S := (List Term)) (X := Empty) a2 (fun i27 y26 s27 => bd (nn (wr ((PF.spec_l2Var y26) - 1))) (fun u242 => (bif (decide (y26 < 0)) then bd (PF.spec_l18Mul a0 a1 s27 [(Term.mk (shlK true 64 1 (wr ((PF.spec_l2Var y26) - 1))) 1)]) (fun r276 => some (Lp.nx r276)) else bd (PF.spec_l18Mul a0 a1 s27 [(Term.mk 0 1), (Term.mk (shlK true 64 1 (wr ((PF.spec_l2Var y26) - 1))) (wr (a0 - 1)))]) (fun r303 => some (Lp.nx r303))))) [(Term.mk 0 1)]) (fun s27 => some s27) (fun x27 => nomatch x27)

def spec_l20Times (a0 : Int) (a1 : Int) (a2 : List Term) (a3 : Int) : Option (List Term) :=
  bd (nn (wr (a3 - 1))) (fun u22 => bd (PF.spec_l18Mul a0 a1 a2 [(Term.mk (shlK true 64 1 (wr (a3 - 1))) 1)]) (fun r33 => some r33))

def spec_l18Dense (a0 : Int) (a1 : List Term) : Option (List Int) :=
  bd (nn a0) (fun u22 => bd (mk2 (0 : Int) (shlK true 64 1 a0) (shlK true 64 1 a0)) (fun xs23 => bdR (forL (S := (List Int)) (X := Empty) a1 (fun i34 y33 s34 => bd (ix s34 y33.mono) (fun x126093 => bd (put s34 y33.mono y33.coeff) (fun xs129090 => some (Lp.nx xs129090)))) xs23) (fun s34 => some s34) (fun x34 => nomatch x34)))

noncomputable def spec_l18Add (a0 : Int) (a1 : Int) (a2 : List Term) (a3 : List Term) (a4 : Int) : Option (List Term) :=
  bd (PF.spec_l18Dense a1 a2) (fun r21 => bd (PF.spec_l18Dense a1 a3) (fun r31 => bdR (iter (S := ((List Int) × Int)) (X := Empty) (fun s41 => (bif (decide (s41.2 < (len s41.1))) then bd (ix s41.1 s41.2) (fun x117113 => bd (ix r31 s41.2) (fun x132113 => bd (ix s41.1 s41.2) (fun x144113 => bd (put s41.1 s41.2 (wr (x117113 + (wr (a4 * x132113))))) (fun xs147110 => some (Lp.nx (xs147110, (wr (s41.2 + 1)))))))) else some (Lp.bk (s41.1, s41.2)))) (r21, 0)) (fun s41 => bd (PF.spec_l18Sparse a0 s41.1) (fun r153135 => some r153135)) (fun x41 => nomatch x41)))

noncomputable def spec_l20Sum (a0 : Int) (a1 : Int) (a2 : List Term) (a3 : Int) (a4 : List Term) (a5 : Int) : Option (List Term) :=
  bd (PF.spec_l18Add a0 a1 [] a2 a3) (fun r31 => bd (PF.spec_l18Add a0 a1 r31 a4 a5) (fun r48 => some r48))

noncomputable def spec_l1Cur_poly (a0 : l1Cur) (a1 : Int) (a2 : Int) : Option ((List Term) × l1Cur) :=
  (bif (!(PF.spec_l18Prime a1 a2)) then bd (app [] [(Term.mk 0 1)]) (fun xs35 => some (xs35, a0)) else bd (nn a2) (fun u47 => bd (mk2 (0 : Int) (shlK true 64 1 a2) (shlK true 64 1 a2)) (fun xs48 => bd (PF.spec_l1Cur_among a0 [1, 2, 3, 4, 6, 0, 9]) (fun r68 => bdR (iter (S := ((List Int) × (List Int) × Int × Int × Int)) (X := Empty) (fun s77 => (bif (decide (0 < s77.2.2.2.2)) then bd (PF.spec_l1Cur_pick (l1Cur.mk s77.2.1 s77.2.2.1 s77.2.2.2.1) (len s77.1)) (fun r181 => bd (PF.spec_l1Cur_pick r181.2 a1) (fun r189 => bd (ix s77.1 r181.1) (fun x203 => bd (put s77.1 r181.1 r189.1) (fun xs208 => some (Lp.nx (xs208, r189.2.code, r189.2.at_, r189.2.seed, (wr (s77.2.2.2.2 - 1)))))))) else some (Lp.bk (s77.1, s77.2.1, s77.2.2.1, s77.2.2.2.1, s77.2.2.2.2)))) (xs48, r68.2.code, r68.2.at_, r68.2.seed, r68.1)) (fun s77 => bd (PF.spec_l18Sparse a1 s77.1) (fun r228 => bd (PF.spec_l1Cur_pick (l1Cur.mk s77.2.1 s77.2.2.1 s77.2.2.2.1) 32) (fun r240 => (bif (r240.1 == 0) then bd (nn a2) (fun u251 => bd (PF.spec_l1Cur_among r240.2 [0, (shlK true 64 1 a2), (-1)]) (fun r262 => bd (app r228 [(Term.mk r262.1 1)]) (fun xs275 => some (xs275, r262.2)))) else (bif (r240.1 == 1) then (bif (decide (0 < (len r228))) then bd (PF.spec_l1Cur_among r240.2 [0, a1, (-1)]) (fun r298 => bd (ix r228 0) (fun x312 => bd (put r228 0 (Term.mk x312.mono r298.1)) (fun xs317 => some (xs317, r298.2)))) else some (r228, r240.2)) else some (r228, r240.2)))))) (fun x77 => nomatch x77)))))

noncomputable def spec_l1Cur_pc (a0 : l1Cur) (a1 : Int) (a2 : Cnf) : Option ((List PcStep) × l1Cur) :=
  bd (PF.spec_l20Asked a1 a2) (fun r34 => (bif (bif (!r34) then true else ((len a2.clauses) == 0)) then some ([], a0) else bd (PF.spec_l1Cur_among a0 [3, 5, 8, 1, 12]) (fun r62 => bdR (iter (S := ((List PcStep) × (List Int) × Int × Int × Int)) (X := Empty) (fun s71 => (bif (decide (0 < s71.2.2.2.2)) then bd (bif ((len s71.1) == 0) then some (s71.2.1, s71.2.2.1, s71.2.2.2.1, true) else bd (PF.spec_l1Cur_one (l1Cur.mk s71.2.1 s71.2.2.1 s71.2.2.2.1) 3) (fun r450459 => some (r450459.2.code, r450459.2.at_, r450459.2.seed, r450459.1))) (fun t450455 => (bif t450455.2.2.2 then bd (PF.spec_l1Cur_pick (l1Cur.mk t450455.1 t450455.2.1 t450455.2.2.1) (len a2.clauses)) (fun r450480 => bd (ix a2.clauses r450480.1) (fun x474494 => bd (PF.spec_l18Clause a1 a2.vars x474494) (fun r480488 => bd (app s71.1 [(PcStep.mk 1 r480488 r450480.1 0 0 0)]) (fun xs492488 => some (Lp.nx (xs492488, r450480.2.code, r450480.2.at_, r450480.2.seed, (wr (s71.2.2.2.2 - 1)))))))) else bd (bif (decide (0 < a2.vars)) then bd (PF.spec_l1Cur_one (l1Cur.mk t450455.1 t450455.2.1 t450455.2.2.1) 2) (fun r501516 => some (r501516.2.code, r501516.2.at_, r501516.2.seed, r501516.1)) else some (t450455.1, t450455.2.1, t450455.2.2.1, false)) (fun t501512 => (bif t501512.2.2.2 then bd (PF.spec_l1Cur_pick (l1Cur.mk t501512.1 t501512.2.1 t501512.2.2.1) (len s71.1)) (fun r510537 => bd (PF.spec_l1Cur_pick r510537.2 a2.vars) (fun r522537 => bd (ix s71.1 r510537.1) (fun x558558 => bd (PF.spec_l20Times a1 a2.vars x558558.poly (wr (1 + r522537.1))) (fun r570552 => bd (app s71.1 [(PcStep.mk 3 r570552 r510537.1 0 (wr (1 + r522537.1)) 0)]) (fun xs585552 => some (Lp.nx (xs585552, r522537.2.code, r522537.2.at_, r522537.2.seed, (wr (s71.2.2.2.2 - 1))))))))) else bd (PF.spec_l1Cur_pick (l1Cur.mk t501512.1 t501512.2.1 t501512.2.2.1) (len s71.1)) (fun r594568 => bd (PF.spec_l1Cur_pick r594568.2 (len s71.1)) (fun r594576 => bd (PF.spec_l1Cur_pick r594576.2 a1) (fun r594584 => bd (PF.spec_l1Cur_pick r594584.2 a1) (fun r594592 => bd (ix s71.1 r594568.1) (fun x615606 => bd (ix s71.1 r594576.1) (fun x633606 => bd (PF.spec_l20Sum a1 a2.vars x615606.poly r594584.1 x633606.poly r594592.1) (fun r645600 => bd (app s71.1 [(PcStep.mk 2 r645600 r594568.1 r594576.1 r594584.1 r594592.1)]) (fun xs666600 => some (Lp.nx (xs666600, r594592.2.code, r594592.2.at_, r594592.2.seed, (wr (s71.2.2.2.2 - 1)))))))))))))))) else some (Lp.bk (s71.1, s71.2.1, s71.2.2.1, s71.2.2.2.1, s71.2.2.2.2)))) ([], r62.2.code, r62.2.at_, r62.2.seed, r62.1)) (fun s71 => bd (bif ((len a2.clauses) == 1) then bd (ix a2.clauses 0) (fun x675649 => some ((len x675649) == 0)) else some false) (fun t675636 => bdR (S := (List PcStep)) (X := Empty) ((bif t675636 then bd (cut s71.1 0 1) (fun xs675677 => some (Rs.go xs675677)) else some (Rs.go s71.1))) (fun s675668 => bd (PF.spec_l1Cur_one (l1Cur.mk s71.2.1 s71.2.2.1 s71.2.2.2.1) 6) (fun r675695 => bdR (S := ((List PcStep) × (List Int) × Int × Int)) (X := Empty) ((bif r675695.1 then bd (PF.spec_l1Cur_pick r675695.2 (len s675668)) (fun r675952 => bd (PF.spec_l1Cur_pick r675952.2 6) (fun r675960 => (bif (r675960.1 == 0) then bd (PF.spec_l1Cur_among r675960.2 [0, 1, 2, 3, 4]) (fun r675979 => bd (ix s675668 r675952.1) (fun x675993 => bd (put s675668 r675952.1 (PcStep.mk r675979.1 x675993.poly x675993.a x675993.b x675993.x x675993.y)) (fun xs676000 => some (Rs.go (xs676000, r675979.2.code, r675979.2.at_, r675979.2.seed))))) else (bif (r675960.1 == 1) then bd (PF.spec_l1Cur_among r675960.2 [(-1), 0, 1, (len s675668), 1099511627776]) (fun r676016 => bd (ix s675668 r675952.1) (fun x676030 => bd (put s675668 r675952.1 (PcStep.mk x676030.kind x676030.poly r676016.1 x676030.b x676030.x x676030.y)) (fun xs676037 => some (Rs.go (xs676037, r676016.2.code, r676016.2.at_, r676016.2.seed))))) else (bif (r675960.1 == 2) then bd (PF.spec_l1Cur_among r675960.2 [(-1), 0, 1, (len s675668)]) (fun r676053 => bd (ix s675668 r675952.1) (fun x676067 => bd (put s675668 r675952.1 (PcStep.mk x676067.kind x676067.poly x676067.a r676053.1 x676067.x x676067.y)) (fun xs676074 => some (Rs.go (xs676074, r676053.2.code, r676053.2.at_, r676053.2.seed))))) else (bif (r675960.1 == 3) then bd (PF.spec_l1Cur_among r675960.2 [(-1), 0, 1, 2, 7]) (fun r676090 => bd (ix s675668 r675952.1) (fun x676104 => bd (put s675668 r675952.1 (PcStep.mk x676104.kind x676104.poly x676104.a x676104.b r676090.1 x676104.y)) (fun xs676111 => some (Rs.go (xs676111, r676090.2.code, r676090.2.at_, r676090.2.seed))))) else (bif (r675960.1 == 4) then bd (PF.spec_l1Cur_among r675960.2 [(-1), 0, 1, 7]) (fun r676127 => bd (ix s675668 r675952.1) (fun x676141 => bd (put s675668 r675952.1 (PcStep.mk x676141.kind x676141.poly x676141.a x676141.b x676141.x r676127.1)) (fun xs676148 => some (Rs.go (xs676148, r676127.2.code, r676127.2.at_, r676127.2.seed))))) else (bif (r675960.1 == 5) then bd (PF.spec_l1Cur_poly r675960.2 a1 a2.vars) (fun r676154 => bd (ix s675668 r675952.1) (fun x676172 => bd (put s675668 r675952.1 (PcStep.mk x676172.kind r676154.1 x676172.a x676172.b x676172.x x676172.y)) (fun xs676184 => some (Rs.go (xs676184, r676154.2.code, r676154.2.at_, r676154.2.seed))))) else some (Rs.go (s675668, r675960.2.code, r675960.2.at_, r675960.2.seed)))))))))) else some (Rs.go (s675668, r675695.2.code, r675695.2.at_, r675695.2.seed)))) (fun s675942 => bd (PF.spec_l1Cur_one (l1Cur.mk s675942.2.1 s675942.2.2.1 s675942.2.2.2) 40) (fun r676197 => (bif r676197.1 then bdR (iter (S := ((List PcStep) × (List Int) × Int × Int)) (X := Empty) (fun s676206 => bd (PF.spec_l1Cur_pick (l1Cur.mk s676206.2.1 s676206.2.2.1 s676206.2.2.2) 2) (fun r676308 => (bif (decide ((len s676206.1) < (wr (300 + r676308.1)))) then bd (ix s676206.1 0) (fun x676323 => bd (app s676206.1 [x676323]) (fun xs676332 => some (Lp.nx (xs676332, r676308.2.code, r676308.2.at_, r676308.2.seed)))) else some (Lp.bk (s676206.1, r676308.2.code, r676308.2.at_, r676308.2.seed))))) (s675942.1, r676197.2.code, r676197.2.at_, r676197.2.seed)) (fun s676206 => some (s676206.1, (l1Cur.mk s676206.2.1 s676206.2.2.1 s676206.2.2.2))) (fun x676206 => nomatch x676206) else some (s675942.1, r676197.2)))) (fun x675944 => nomatch x675944))) (fun x675670 => nomatch x675670))) (fun x71 => nomatch x71))))

noncomputable def spec_DrawFirstWrongPcStep (a0 : List Int) : Option (Int × Cnf × (List PcStep)) :=
  bd (PF.spec_l1Cur_cnf20 (l1Cur.mk a0 0 0)) (fun r29 => bd (PF.spec_l1Cur_pc r29.2.2 r29.1 r29.2.1) (fun r18050 => some (r29.1, r29.2.1, r18050.1)))

noncomputable def spec_DrawTrimPc (a0 : List Int) : Option (Int × Cnf × (List PcStep)) :=
  bd (PF.spec_DrawFirstWrongPcStep a0) (fun r25 => some (r25.1, r25.2.1, r25.2.2))

def impl_within (a0 : Int) (a1 : Int) (a2 : Int) : Bool :=
  (bif (decide (a1 ≤ a0)) then (decide (a0 ≤ a2)) else false)

def impl_ringOf (a0 : Int) (a1 : Int) : (ring × Bool) :=
  ((ring.mk a0 a1), (bif (bif (bif (a0 == 2) then true else (a0 == 3)) then true else (a0 == 5)) then (PF.impl_within a1 0 6) else false))

def impl_isLiteral (a0 : Int) (a1 : Int) : Bool :=
  (bif (!(a1 == 0)) then (PF.impl_within a1 (wr (-a0)) a0) else false)

def impl_abs (a0 : Int) : Int :=
  (mx a0 (wr (-a0)))

def impl_varsOk (a0 : Int) : Bool :=
  (PF.impl_within a0 0 12)

def impl_IsClause (a0 : Int) (a1 : List Int) : Option Bool :=
  bdR (forL (S := Unit) (X := Bool) a1 (fun i22 y21 s22 => bd (bif (!(PF.impl_isLiteral a0 y21)) then some true else bd (bif (decide (0 < ((i22 : Nat) : Int))) then bd (ix a1 (wr (((i22 : Nat) : Int) - 1))) (fun x192 => some (decide ((PF.impl_abs y21) ≤ (PF.impl_abs x192)))) else some false) (fun t179 => some t179)) (fun t164 => (bif t164 then some (Lp.rt false) else some (Lp.nx ())))) ()) (fun s22 => some (PF.impl_varsOk a0)) (fun x22 => some x22)

def impl_IsCnf (a0 : Cnf) : Option Bool :=
  bdR (forL (S := Unit) (X := Bool) a0.clauses (fun i30 y29 s30 => bd (PF.impl_IsClause a0.vars y29) (fun r71 => (bif (!r71) then some (Lp.rt false) else some (Lp.nx ())))) ()) (fun s30 => some (bif (PF.impl_varsOk a0.vars) then (decide ((len a0.clauses) ≤ 60)) else false)) (fun x30 => some x30)

def impl_ring_zero (a0 : ring) : Option (List Int) :=
  bd (nn a0.vars) (fun u30 => bd (mk2 (0 : Int) (shlK true 64 1 a0.vars) (shlK true 64 1 a0.vars)) (fun xs31 => some xs31))

def impl_ring_mono (a0 : ring) (a1 : Int) : Option (List Int) :=
  bd (PF.impl_ring_zero a0) (fun r29 => bd (ix r29 a1) (fun x45 => bd (put r29 a1 1) (fun xs50 => some xs50)))

def slices_Clone_impl_dense_int (a0 : List Int) : Option (List Int) :=
  bd (app [] a0) (fun xs30 => some xs30)

def impl_ring_plus (a0 : ring) (a1 : List Int) (a2 : List Int) (a3 : Int) : Option (List Int) :=
  bd (PF.slices_Clone_impl_dense_int a1) (fun r29 => bdR (forL (S := (List Int)) (X := Empty) a2 (fun i40 y39 s40 => bd (ix s40 ((i40 : Nat) : Int)) (fun x117132 => bd (nz a0.p) (fun u141127 => bd (ix s40 ((i40 : Nat) : Int)) (fun x144132 => bd (put s40 ((i40 : Nat) : Int) ((wr (x117132 + (wr (a3 * y39)))).tmod a0.p)) (fun xs147129 => some (Lp.nx xs147129)))))) r29) (fun s40 => some s40) (fun x40 => nomatch x40))

def impl_ring_literal (a0 : ring) (a1 : Int) : Option (List Int) :=
  (bif (decide (0 < a1)) then bd (nn (wr (a1 - 1))) (fun u12031 => bd (PF.impl_ring_mono a0 (shlK true 64 1 (wr (a1 - 1)))) (fun r15030 => some r15030)) else bd (PF.impl_ring_mono a0 0) (fun r33041 => bd (nn (wr ((wr (-a1)) - 1))) (fun u48042 => bd (PF.impl_ring_mono a0 (shlK true 64 1 (wr ((wr (-a1)) - 1)))) (fun r51041 => bd (PF.impl_ring_plus a0 r33041 r51041 (wr (a0.p - 1))) (fun r63051 => some r63051)))))

def impl_ring_times (a0 : ring) (a1 : List Int) (a2 : List Int) : Option (List Int) :=
  bd (PF.impl_ring_zero a0) (fun r29 => bdR (forL (S := (List Int)) (X := Empty) a1 (fun i40 y39 s40 => bdR (forL (S := (List Int)) (X := Empty) a2 (fun i252331 y252330 s252331 => bd (ix s252331 (orK true 64 ((i40 : Nat) : Int) ((i252331 : Nat) : Int))) (fun x405448 => bd (nz a0.p) (fun u429443 => bd (ix s252331 (orK true 64 ((i40 : Nat) : Int) ((i252331 : Nat) : Int))) (fun x432448 => bd (put s252331 (orK true 64 ((i40 : Nat) : Int) ((i252331 : Nat) : Int)) ((wr (x405448 + (wr (y39 * y252330)))).tmod a0.p)) (fun xs435445 => some (Lp.nx xs435445)))))) s40) (fun s252331 => some (Lp.nx s252331)) (fun x252331 => nomatch x252331)) r29) (fun s40 => some s40) (fun x40 => nomatch x40))

def impl_ring_clause (a0 : ring) (a1 : List Int) : Option (List Int) :=
  bd (PF.impl_ring_mono a0 0) (fun r29 => bdR (forL (S := (List Int)) (X := Empty) a1 (fun i40 y39 s40 => bd (PF.impl_ring_literal a0 (wr (-y39))) (fun r78125 => bd (PF.impl_ring_times a0 s40 r78125) (fun r81135 => some (Lp.nx r81135)))) r29) (fun s40 => some s40) (fun x40 => nomatch x40))

def impl_algebraOf (a0 : Int) (a1 : Cnf) : Option ((Option algebra) × Bool) :=
  bd (bif (!((PF.impl_ringOf a0 a1.vars).2)) then some true else bd (PF.impl_IsCnf a1) (fun r55 => some (!r55))) (fun t48 => (bif t48 then some (none, false) else bdR (forL (S := ((List (List Int)) × Int × Int × Int × (List (List Int)))) (X := Empty) a1.clauses (fun i71 y70 s71 => bd (PF.impl_ring_clause ((PF.impl_ringOf a0 a1.vars).1) y70) (fun r114167 => bd (app s71.1 [r114167]) (fun xs120167 => some (Lp.nx (xs120167, s71.2.1, s71.2.2.1, s71.2.2.2.1, s71.2.2.2.2))))) ([], ((PF.impl_ringOf a0 a1.vars).1).p, ((PF.impl_ringOf a0 a1.vars).1).vars, a1.vars, a1.clauses)) (fun s71 => some ((some (algebra.mk (ring.mk s71.2.1 s71.2.2.1) (Cnf.mk s71.2.2.2.1 s71.2.2.2.2) s71.1)), true)) (fun x71 => nomatch x71)))

def impl_bitsOk (a0 : Int) (a1 : Int) : Option Bool :=
  bd (nn a0) (fun u22 => some (PF.impl_within a1 0 (wr ((shlK true 64 1 a0) - 1))))

def impl_ring_is (a0 : ring) (a1 : List Term) : Option Bool :=
  bdR (forL (S := Unit) (X := Bool) a1 (fun i30 y29 s30 => bd (PF.impl_bitsOk a0.vars y29.mono) (fun r181 => bd (bif (bif (!r181) then true else (!(PF.impl_within y29.coeff 1 (wr (a0.p - 1))))) then some true else bd (bif (decide (0 < ((i30 : Nat) : Int))) then bd (ix a1 (wr (((i30 : Nat) : Int) - 1))) (fun x256 => some (decide (y29.mono ≤ x256.mono))) else some false) (fun t243 => some t243)) (fun t228 => (bif t228 then some (Lp.rt false) else some (Lp.nx ()))))) ()) (fun s30 => some true) (fun x30 => some x30)

def impl_ring_dense (a0 : ring) (a1 : List Term) : Option (List Int) :=
  bd (PF.impl_ring_zero a0) (fun r29 => bdR (forL (S := (List Int)) (X := Empty) a1 (fun i40 y39 s40 => bd (ix s40 y39.mono) (fun x129160 => bd (nz a0.p) (fun u150155 => bd (ix s40 y39.mono) (fun x153160 => bd (put s40 y39.mono ((wr (x129160 + y39.coeff)).tmod a0.p)) (fun xs156157 => some (Lp.nx xs156157)))))) r29) (fun s40 => some s40) (fun x40 => nomatch x40))

def impl_algebra_polyBefore (a0 : algebra) (a1 : List PcStep) (a2 : Int) (a3 : Int) : Option ((List Int) × Bool) :=
  bd (bif (!(PF.impl_within a3 0 (wr (a2 - 1)))) then some true else bd (ix a1 a3) (fun x47 => bd (PF.impl_ring_is a0.ring x47.poly) (fun r51 => some (!r51)))) (fun t34 => (bif t34 then some ([], false) else bd (ix a1 a3) (fun x21067 => bd (PF.impl_ring_dense a0.ring x21067.poly) (fun r30061 => some (r30061, true)))))

def impl_isVar (a0 : Int) (a1 : Int) : Bool :=
  (PF.impl_within a1 1 a0)

def impl_algebra_pcDue (a0 : algebra) (a1 : List PcStep) (a2 : Int) : Option ((List Int) × Bool) :=
  bd (ix a1 a2) (fun x27 => bd (PF.impl_algebra_polyBefore a0 a1 a2 x27.a) (fun r42 => bd (PF.impl_algebra_polyBefore a0 a1 a2 x27.b) (fun r52 => (bif (bif (bif (bif (bif (x27.kind == 1) then (PF.impl_within x27.a 0 (wr ((len a0.q) - 1))) else false) then (x27.b == 0) else false) then (x27.x == 0) else false) then (x27.y == 0) else false) then bd (ix a0.q x27.a) (fun x130 => some (x130, true)) else (bif (bif (bif (bif (bif (x27.kind == 2) then r42.2 else false) then r52.2 else false) then (PF.impl_within x27.x 0 (wr (a0.ring.p - 1))) else false) then (PF.impl_within x27.y 0 (wr (a0.ring.p - 1))) else false) then bd (PF.impl_ring_zero a0.ring) (fun r39195 => bd (PF.impl_ring_plus a0.ring r39195 r42.1 x27.x) (fun r51205 => bd (PF.impl_ring_plus a0.ring r51205 r52.1 x27.y) (fun r63205 => some (r63205, true)))) else (bif (bif (bif (bif (bif (x27.kind == 3) then r42.2 else false) then (x27.b == 0) else false) then (PF.impl_isVar a0.ring.vars x27.x) else false) then (x27.y == 0) else false) then bd (PF.impl_ring_literal a0.ring x27.x) (fun r111261 => bd (PF.impl_ring_times a0.ring r42.1 r111261) (fun r114271 => some (r114271, true))) else some ([], false)))))))

def slices_Equal_impl_dense_int (a0 : List Int) (a1 : List Int) : Option Bool :=
  (bif (!((len a0) == (len a1))) then some false else bdR (forL (S := Unit) (X := Bool) a0 (fun i23 y22 s23 => bd (ix a1 ((i23 : Nat) : Int)) (fun x74 => (bif (!(y22 == x74)) then some (Lp.rt false) else some (Lp.nx ())))) ()) (fun s23 => some true) (fun x23 => some x23))

def impl_algebra_pcCorrect (a0 : algebra) (a1 : List PcStep) (a2 : Int) : Option Bool :=
  bd (PF.impl_algebra_pcDue a0 a1 a2) (fun r21 => bd (bif r21.2 then bd (ix a1 a2) (fun x27035 => bd (PF.impl_ring_is a0.ring x27035.poly) (fun r36029 => some r36029)) else some false) (fun t28_12 => bd (bif t28_12 then bd (ix a1 a2) (fun x66035 => bd (PF.impl_ring_dense a0.ring x66035.poly) (fun r75029 => bd (PF.slices_Equal_impl_dense_int r21.1 r75029) (fun r78034 => some r78034))) else some false) (fun t28_26 => some t28_26)))

def impl_algebra_firstWrongPc (a0 : algebra) (a1 : List PcStep) : Option Int :=
  bdR (forL (S := Unit) (X := Int) a1 (fun i22 y21 s22 => bd (PF.impl_algebra_pcCorrect a0 a1 ((i22 : Nat) : Int)) (fun r47 => (bif (!r47) then some (Lp.rt ((i22 : Nat) : Int)) else some (Lp.nx ())))) ()) (fun s22 => some (-1)) (fun x22 => some x22)

def impl_algebra_pcDerivation (a0 : algebra) (a1 : List PcStep) : Option Bool :=
  bd (bif (decide ((len a1) ≤ 300)) then bd (PF.impl_algebra_firstWrongPc a0 a1) (fun r33 => some (decide (r33 < 0))) else some false) (fun t26 => some t26)

def impl_PcStep_uses (a0 : PcStep) : (List Int) :=
  (bif (a0.kind == 2) then [a0.a, a0.b] else (bif (a0.kind == 3) then [a0.a] else []))

noncomputable def slices_Reverse_int_int (a0 : List Int) : Option (List Int) :=
  bdR (iter (S := ((List Int) × Int × Int)) (X := Empty) (fun s21 => (bif (decide (s21.2.1 < s21.2.2)) then bd (ix s21.1 s21.2.2) (fun x129077 => bd (ix s21.1 s21.2.1) (fun x141077 => bd (ix s21.1 s21.2.1) (fun x147077 => bd (put s21.1 s21.2.1 x129077) (fun xs150074 => bd (ix xs150074 s21.2.2) (fun x153077 => bd (put xs150074 s21.2.2 x141077) (fun xs156074 => some (Lp.nx (xs156074, (wr (s21.2.1 + 1)), (wr (s21.2.2 - 1)))))))))) else some (Lp.bk (s21.1, s21.2.1, s21.2.2)))) (a0, 0, (wr ((len a0) - 1)))) (fun s21 => some s21.1) (fun x21 => nomatch x21)

def slices_Clone_impl_Term_impl_Term (a0 : List Term) : Option (List Term) :=
  bd (app [] a0) (fun xs30 => some xs30)

def slices_Index_int_int (a0 : List Int) (a1 : Int) : Option Int :=
  bdR (forL (S := Unit) (X := Int) a0 (fun i22 y21 s22 => (bif (a1 == y21) then some (Lp.rt ((i22 : Nat) : Int)) else some (Lp.nx ()))) ()) (fun s22 => some (-1)) (fun x22 => some x22)

def spec_l18Good (a0 : Int) (a1 : Int) (a2 : List Term) : Option Bool :=
  (bif (!(PF.spec_l18Prime a0 a1)) then some false else bdR (forL (S := Unit) (X := Bool) a2 (fun i26 y25 s26 => bd (nn a1) (fun u184 => bd (bif (bif (!(PF.spec_l1In y25.mono 0 (wr ((shlK true 64 1 a1) - 1)))) then true else (!(PF.spec_l1In y25.coeff 1 (wr (a0 - 1))))) then some true else bd (bif (decide (0 < ((i26 : Nat) : Int))) then bd (ix a2 (wr (((i26 : Nat) : Int) - 1))) (fun x284 => some (decide (y25.mono ≤ x284.mono))) else some false) (fun t271 => some t271)) (fun t250 => (bif t250 then some (Lp.rt false) else some (Lp.nx ()))))) ()) (fun s26 => some true) (fun x26 => some x26))

def spec_l20Same (a0 : List Term) (a1 : List Term) : Option Bool :=
  (bif (!((len a0) == (len a1))) then some false else bdR (forL (S := Unit) (X := Bool) a0 (fun i23 y22 s23 => bd (ix a1 ((i23 : Nat) : Int)) (fun x72 => (bif (!((y22.mono == x72.mono) && (y22.coeff == x72.coeff))) then some (Lp.rt false) else some (Lp.nx ())))) ()) (fun s23 => some true) (fun x23 => some x23))

def spec_l20Earlier (a0 : Int) (a1 : Cnf) (a2 : List PcStep) (a3 : Int) (a4 : Int) : Option Bool :=
  bd (bif (PF.spec_l1In a4 0 (wr (a3 - 1))) then bd (ix a2 a4) (fun x55 => bd (PF.spec_l18Good a0 a1.vars x55.poly) (fun r59 => some r59)) else some false) (fun t42 => some t42)

noncomputable def spec_l20Correct (a0 : Int) (a1 : Cnf) (a2 : List PcStep) (a3 : Int) : Option Bool :=
  bd (ix a2 a3) (fun x35 => bd (PF.spec_l18Good a0 a1.vars x35.poly) (fun r50 => (bif (!r50) then some false else (bif (x35.kind == 1) then bd (bif (bif (bif (bif (x35.b == 0) then (x35.x == 0) else false) then (x35.y == 0) else false) then (PF.spec_l1In x35.a 0 (wr ((len a1.clauses) - 1))) else false) then bd (ix a1.clauses x35.a) (fun x99063 => bd (PF.spec_l18Clause a0 a1.vars x99063) (fun r105057 => bd (PF.spec_l20Same x35.poly r105057) (fun r108062 => some r108062))) else some false) (fun t56_36 => some t56_36) else bd (bif (bif (!(x35.kind == 2)) then (!(x35.kind == 3)) else false) then some true else bd (PF.spec_l20Earlier a0 a1 a2 a3 x35.a) (fun r120089 => some (!r120089))) (fun t120082 => (bif t120082 then some false else (bif (x35.kind == 3) then bd (bif (bif (bif (x35.b == 0) then (x35.y == 0) else false) then (PF.spec_l1In x35.x 1 a1.vars) else false) then bd (ix a2 x35.a) (fun x195108 => bd (PF.spec_l20Times a0 a1.vars x195108.poly x35.x) (fun r210102 => bd (PF.spec_l20Same x35.poly r210102) (fun r213107 => some r213107))) else some false) (fun t120101_31 => some t120101_31) else bd (PF.spec_l20Earlier a0 a1 a2 a3 x35.b) (fun r225109 => (bif (bif (bif (!r225109) then true else (!(PF.spec_l1In x35.x 0 (wr (a0 - 1))))) then true else (!(PF.spec_l1In x35.y 0 (wr (a0 - 1))))) then some false else bd (ix a2 x35.a) (fun x252157 => bd (ix a2 x35.b) (fun x276157 => bd (PF.spec_l20Sum a0 a1.vars x252157.poly x35.x x276157.poly x35.y) (fun r291151 => bd (PF.spec_l20Same x35.poly r291151) (fun r294156 => some r294156)))))))))))))

noncomputable def spec_l20Wrong (a0 : Int) (a1 : Cnf) (a2 : List PcStep) : Option Int :=
  bdR (forL (S := Unit) (X := Int) a2 (fun i30 y29 s30 => bd (PF.spec_l20Correct a0 a1 a2 ((i30 : Nat) : Int)) (fun r55 => (bif (!r55) then some (Lp.rt ((i30 : Nat) : Int)) else some (Lp.nx ())))) ()) (fun s30 => some (-1)) (fun x30 => some x30)

noncomputable def spec_l20Good (a0 : Int) (a1 : Cnf) (a2 : List PcStep) : Option Bool :=
  bd (PF.spec_l20Asked a0 a1) (fun r29 => bd (bif (bif r29 then (decide ((len a2) ≤ 300)) else false) then bd (PF.spec_l20Wrong a0 a1 a2) (fun r57 => some (decide (r57 < 0))) else some false) (fun t50 => some t50))

def spec_l20Uses (a0 : PcStep) : (List Int) :=
  (bif (a0.kind == 2) then [a0.a, a0.b] else (bif (a0.kind == 3) then [a0.a] else []))

def spec_l20Terms (a0 : List Term) : Option (List Term) :=
  bd (app [] a0) (fun xs26 => some xs26)

def spec_l20Moved (a0 : PcStep) (a1 : List Int) : Option PcStep :=
  bd (PF.spec_l20Terms a0.poly) (fun r15033 => bdR (S := (Int × (List Term) × Int × Int × Int × Int)) (X := Empty) ((bif (!(a0.kind == 1)) then bd (ix a1 a0.a) (fun x54071 => some (Rs.go (a0.kind, r15033, x54071, a0.b, a0.x, a0.y))) else some (Rs.go (a0.kind, r15033, a0.a, a0.b, a0.x, a0.y)))) (fun s54059 => (bif (a0.kind == 2) then bd (ix a1 a0.b) (fun x54092 => some (PcStep.mk s54059.1 s54059.2.1 s54059.2.2.1 x54092 s54059.2.2.2.2.1 s54059.2.2.2.2.2)) else some (PcStep.mk s54059.1 s54059.2.1 s54059.2.2.1 s54059.2.2.2.1 s54059.2.2.2.2.1 s54059.2.2.2.2.2))) (fun x54061 => nomatch x54061))

noncomputable def spec_TrimPc (a0 : Int) (a1 : Cnf) (a2 : List PcStep) : Option ((List PcStep) × Bool) :=
  bd (PF.spec_l20Good a0 a1 a2) (fun r34 => (bif (!r34) then some ([], false) else bd (mk2 (false : Bool) (len a2) (len a2)) (fun xs9040 => bd (mk2 (0 : Int) (len a2) (len a2)) (fun xs18040 => bdR (iter (S := ((List Bool) × Int)) (X := Empty) (fun s30058 => (bif (decide (0 ≤ s30058.2)) then (bif (s30058.2 == (wr ((len a2) - 1))) then bd (ix s30058.1 s30058.2) (fun x30697 => bd (put s30058.1 s30058.2 true) (fun xs30702 => bd (ix a2 s30058.2) (fun x30713 => bdR (iter (S := ((List Bool) × Int)) (X := Empty) (fun s30725 => bd (bif (decide (s30725.2 < (len (PF.spec_l20Uses x30713)))) then bd (ix s30725.1 s30058.2) (fun x30899 => some x30899) else some false) (fun t30886 => (bif t30886 then bd (ix (PF.spec_l20Uses x30713) s30725.2) (fun x30916 => bd (ix s30725.1 x30916) (fun x30924 => bd (put s30725.1 x30916 true) (fun xs30929 => some (Lp.nx (xs30929, (wr (s30725.2 + 1))))))) else some (Lp.bk (s30725.1, s30725.2))))) (xs30702, 0)) (fun s30725 => some (Lp.nx (s30725.1, (wr (s30058.2 - 1))))) (fun x30725 => nomatch x30725)))) else bd (ix a2 s30058.2) (fun x30951 => bdR (iter (S := ((List Bool) × Int)) (X := Empty) (fun s30963 => bd (bif (decide (s30963.2 < (len (PF.spec_l20Uses x30951)))) then bd (ix s30963.1 s30058.2) (fun x31137 => some x31137) else some false) (fun t31124 => (bif t31124 then bd (ix (PF.spec_l20Uses x30951) s30963.2) (fun x31154 => bd (ix s30963.1 x31154) (fun x31162 => bd (put s30963.1 x31154 true) (fun xs31167 => some (Lp.nx (xs31167, (wr (s30963.2 + 1))))))) else some (Lp.bk (s30963.1, s30963.2))))) (s30058.1, 0)) (fun s30963 => some (Lp.nx (s30963.1, (wr (s30058.2 - 1))))) (fun x30963 => nomatch x30963))) else some (Lp.bk (s30058.1, s30058.2)))) (xs9040, (wr ((len a2) - 1)))) (fun s30058 => bdR (forL (S := ((List PcStep) × (List Int))) (X := Empty) a2 (fun i31194 y31193 s31194 => bd (ix s30058.1 ((i31194 : Nat) : Int)) (fun x31379 => (bif x31379 then bd (ix s31194.2 ((i31194 : Nat) : Int)) (fun x31388 => bd (put s31194.2 ((i31194 : Nat) : Int) (len s31194.1)) (fun xs31393 => bd (PF.spec_l20Moved y31193 xs31393) (fun r31411 => bd (app s31194.1 [r31411]) (fun xs31428 => some (Lp.nx (xs31428, xs31393)))))) else some (Lp.nx (s31194.1, s31194.2))))) ([], xs18040)) (fun s31194 => some (s31194.1, true)) (fun x31194 => nomatch x31194)) (fun x30058 => nomatch x30058)))))

def laws_vPoly (a0 : List Term) (a1 : List Term) : Option Bool :=
  (bif (!((len a0) == (len a1))) then some false else bdR (forL (S := Unit) (X := Bool) a0 (fun i23 y22 s23 => bd (ix a1 ((i23 : Nat) : Int)) (fun x72 => (bif (!((y22.mono == x72.mono) && (y22.coeff == x72.coeff))) then some (Lp.rt false) else some (Lp.nx ())))) ()) (fun s23 => some true) (fun x23 => some x23))

def laws_vPc (a0 : List PcStep) (a1 : List PcStep) : Option Bool :=
  (bif (!((len a0) == (len a1))) then some false else bdR (forL (S := Unit) (X := Bool) a0 (fun i23 y22 s23 => bd (ix a1 ((i23 : Nat) : Int)) (fun x317 => bd (bif (!(y22.kind == x317.kind)) then some true else bd (ix a1 ((i23 : Nat) : Int)) (fun x360 => some (!(y22.a == x360.a)))) (fun t339 => bd (bif t339 then some true else bd (ix a1 ((i23 : Nat) : Int)) (fun x407 => some (!(y22.b == x407.b)))) (fun t386 => bd (bif t386 then some true else bd (ix a1 ((i23 : Nat) : Int)) (fun x454 => some (!(y22.x == x454.x)))) (fun t433 => bd (bif t433 then some true else bd (ix a1 ((i23 : Nat) : Int)) (fun x501 => some (!(y22.y == x501.y)))) (fun t480 => bd (bif t480 then some true else bd (ix a1 ((i23 : Nat) : Int)) (fun x550 => bd (PF.laws_vPoly y22.poly x550.poly) (fun r554 => some (!r554)))) (fun t529 => (bif t529 then some (Lp.rt false) else some (Lp.nx ()))))))))) ()) (fun s23 => some true) (fun x23 => some x23))

def impl_FirstWrongPcStep (a0 : Int) (a1 : Cnf) (a2 : List PcStep) : Option (Int × Bool) :=
  bd (PF.impl_algebraOf a0 a1) (fun r29 => (bif (bif (!r29.2) then true else (decide (300 < (len a2)))) then some (0, false) else bd r29.1 (fun y48 => bd (PF.impl_algebra_firstWrongPc y48 a2) (fun r59 => some (r59, true)))))

noncomputable def spec_FirstWrongPcStep (a0 : Int) (a1 : Cnf) (a2 : List PcStep) : Option (Int × Bool) :=
  bd (PF.spec_l20Asked a0 a1) (fun r29 => (bif (bif (!r29) then true else (decide (300 < (len a2)))) then some (0, false) else bd (PF.spec_l20Wrong a0 a1 a2) (fun r46 => some (r46, true))))

def oc0 (a0 : Int) : Int := (wrk false 64 ((andK false 64 (shrK 64 a0 1) 6148914691236517205) + (andK false 64 a0 6148914691236517205)))
def oc1 (a0 : Int) : Int := (wrk false 64 ((andK false 64 (shrK 64 (PF.oc0 a0) 2) 3689348814741910323) + (andK false 64 (PF.oc0 a0) 3689348814741910323)))
def oc2 (a0 : Int) : Int := (andK false 64 (wrk false 64 ((shrK 64 (PF.oc1 a0) 4) + (PF.oc1 a0))) 1085102592571150095)
def oc3 (a0 : Int) : Int := (wrk false 64 ((PF.oc2 a0) + (shrK 64 (PF.oc2 a0) 8)))
def oc4 (a0 : Int) : Int := (wrk false 64 ((PF.oc3 a0) + (shrK 64 (PF.oc3 a0) 16)))
def oc5 (a0 : Int) : Int := (wrk false 64 ((PF.oc4 a0) + (shrK 64 (PF.oc4 a0) 32)))
def math_bits_OnesCount64 (a0 : Int) : Int :=
  (andK true 64 (wrk true 64 (PF.oc5 a0)) 127)

def math_bits_OnesCount (a0 : Int) : Int :=
  (PF.math_bits_OnesCount64 a0)

def impl_degreeOf (a0 : Int) : Int :=
  (PF.math_bits_OnesCount (wrk false 64 a0))

def impl_dense_degree (a0 : List Int) : Option Int :=
  bdR (forL (S := Int) (X := Empty) a0 (fun i22 y21 s22 => (bif (!(y21 == 0)) then some (Lp.nx (mx s22 (PF.impl_degreeOf ((i22 : Nat) : Int)))) else some (Lp.nx s22))) (-1)) (fun s22 => some s22) (fun x22 => nomatch x22)

def impl_PcDegree (a0 : Int) (a1 : Cnf) (a2 : List PcStep) : Option (Int × Bool) :=
  bd (PF.impl_algebraOf a0 a1) (fun r29 => bd (bif (!r29.2) then some true else bd r29.1 (fun y60 => bd (PF.impl_algebra_pcDerivation y60 a2) (fun r71 => some (!r71)))) (fun t53 => (bif t53 then some (0, false) else bdR (forL (S := Int) (X := Empty) a2 (fun i81 y80 s81 => bd r29.1 (fun y39161 => bd (PF.impl_ring_dense y39161.ring y80.poly) (fun r63172 => bd (PF.impl_dense_degree r63172) (fun r66177 => some (Lp.nx (mx s81 r66177)))))) (-1)) (fun s81 => some (s81, true)) (fun x81 => nomatch x81))))

noncomputable def spec_l14Count (a0 : Int) : Option Int :=
  bdR (iter (S := (Int × Int)) (X := Empty) (fun s21 => (bif (decide (0 < s21.1)) then some (Lp.nx ((wr (s21.1.tdiv 2)), (wr (s21.2 + (s21.1.tmod 2))))) else some (Lp.bk (s21.1, s21.2)))) (a0, 0)) (fun s21 => some s21.2) (fun x21 => nomatch x21)

def spec_l1Most (a0 : Int) (a1 : Int) : Int :=
  (bif (decide (a1 < a0)) then a0 else a1)

noncomputable def spec_l18Degree (a0 : List Term) : Option Int :=
  bdR (forL (S := Int) (X := Empty) a0 (fun i22 y21 s22 => bd (PF.spec_l14Count y21.mono) (fun r59 => some (Lp.nx (PF.spec_l1Most s22 r59)))) (-1)) (fun s22 => some s22) (fun x22 => nomatch x22)

noncomputable def spec_PcDegree (a0 : Int) (a1 : Cnf) (a2 : List PcStep) : Option (Int × Bool) :=
  bd (PF.spec_l20Good a0 a1 a2) (fun r29 => (bif (!r29) then some (0, false) else bdR (forL (S := Int) (X := Empty) a2 (fun i36 y35 s36 => bd (PF.spec_l18Degree y35.poly) (fun r77 => some (Lp.nx (PF.spec_l1Most s36 r77)))) (-1)) (fun s36 => some (s36, true)) (fun x36 => nomatch x36)))

def impl_PcSize (a0 : Int) (a1 : Cnf) (a2 : List PcStep) : Option (Int × Bool) :=
  bd (PF.impl_algebraOf a0 a1) (fun r29 => bd (bif (!r29.2) then some true else bd r29.1 (fun y60 => bd (PF.impl_algebra_pcDerivation y60 a2) (fun r71 => some (!r71)))) (fun t53 => (bif t53 then some (0, false) else bdR (forL (S := Int) (X := Empty) a2 (fun i80 y79 s80 => some (Lp.nx (wr (s80 + (len y79.poly))))) 0) (fun s80 => some (s80, true)) (fun x80 => nomatch x80))))

noncomputable def spec_PcSize (a0 : Int) (a1 : Cnf) (a2 : List PcStep) : Option (Int × Bool) :=
  bd (PF.spec_l20Good a0 a1 a2) (fun r29 => (bif (!r29) then some (0, false) else bdR (forL (S := Int) (X := Empty) a2 (fun i36 y35 s36 => some (Lp.nx (wr (s36 + (len y35.poly))))) 0) (fun s36 => some (s36, true)) (fun x36 => nomatch x36)))

def impl_polys (a0 : Int) (a1 : Int) (a2 : List (List Term)) : Option (ring × (List (List Int)) × Bool) :=
  (bif (!((PF.impl_ringOf a0 a1).2)) then some (((PF.impl_ringOf a0 a1).1), [], false) else bdR (forL (S := (List (List Int))) (X := (ring × (List (List Int)) × Bool)) a2 (fun i44 y43 s44 => bd (PF.impl_ring_is ((PF.impl_ringOf a0 a1).1) y43) (fun r130 => (bif (!r130) then some (Lp.rt (((PF.impl_ringOf a0 a1).1), [], false)) else bd (PF.impl_ring_dense ((PF.impl_ringOf a0 a1).1) y43) (fun r139 => bd (app s44 [r139]) (fun xs160 => some (Lp.nx xs160)))))) []) (fun s44 => some (((PF.impl_ringOf a0 a1).1), s44, true)) (fun x44 => some x44))

def slices_IndexFunc_LLint_Lint (a0 : List (List Int)) (a1 : (List Int) → Option Bool) : Option Int :=
  bdR (forL (S := Unit) (X := Int) a0 (fun i22 y21 s22 => bd (a1 y21) (fun r68 => (bif r68 then some (Lp.rt ((i22 : Nat) : Int)) else some (Lp.nx ())))) ()) (fun s22 => some (-1)) (fun x22 => some x22)

def slices_ContainsFunc_LLint_Lint (a0 : List (List Int)) (a1 : (List Int) → Option Bool) : Option Bool :=
  bd (PF.slices_IndexFunc_LLint_Lint a0 a1) (fun r21 => some (decide (0 ≤ r21)))

def slices_IndexFunc_int_int (a0 : List Int) (a1 : Int → Option Bool) : Option Int :=
  bdR (forL (S := Unit) (X := Int) a0 (fun i22 y21 s22 => bd (a1 y21) (fun r64 => (bif r64 then some (Lp.rt ((i22 : Nat) : Int)) else some (Lp.nx ())))) ()) (fun s22 => some (-1)) (fun x22 => some x22)

def slices_ContainsFunc_int_int (a0 : List Int) (a1 : Int → Option Bool) : Option Bool :=
  bd (PF.slices_IndexFunc_int_int a0 a1) (fun r21 => some (decide (0 ≤ r21)))

def impl_holds_1 (a0 : Int) (b0 : Int) : Option Bool :=
  bd (nn (wr ((PF.impl_abs a0) - 1))) (fun u23 => some (((andK true 64 (shrK 64 b0 (wr ((PF.impl_abs a0) - 1))) 1) == 1) == (decide (0 < a0))))

def impl_holds (a0 : List Int) (a1 : Int) : Option Bool :=
  bd (PF.slices_ContainsFunc_int_int a0 (fun x0 => PF.impl_holds_1 x0 a1)) (fun r29 => some r29)

def impl_isModel_1 (a0 : List Int) (b0 : Int) : Option Bool :=
  bd (PF.impl_holds a0 b0) (fun r21 => some (!r21))

def impl_isModel (a0 : List (List Int)) (a1 : Int) : Option Bool :=
  bd (PF.slices_ContainsFunc_LLint_Lint a0 (fun x0 => PF.impl_isModel_1 x0 a1)) (fun r29 => some (!r29))

def impl_ring_value (a0 : ring) (a1 : List Int) (a2 : Int) : Option Int :=
  bdR (forL (S := Int) (X := Empty) a1 (fun i30 y29 s30 => (bif ((andK true 64 ((i30 : Nat) : Int) a2) == ((i30 : Nat) : Int)) then some (Lp.nx (wr (s30 + y29))) else some (Lp.nx s30))) 0) (fun s30 => bd (nz a0.p) (fun u76 => some (s30.tmod a0.p))) (fun x30 => nomatch x30)

def impl_AreSameOn (a0 : Int) (a1 : Cnf) (a2 : List Term) (a3 : List Term) : Option (Bool × Bool) :=
  bd (PF.impl_IsCnf a1) (fun r29 => (bif (!r29) then some (false, false) else bd (PF.impl_polys a0 a1.vars [a2, a3]) (fun r45 => (bif (!r45.2.2) then some (false, false) else bd (β := _) (bd (nn a1.vars) (fun u192233 => bd (chk (shlK true 64 1 a1.vars)) (fun m192234 => bdR (forR (S := Bool) (X := Bool) 0 m192234 (fun i192235 s192235 => bd (PF.impl_isModel a1.clauses ((i192235 : Nat) : Int)) (fun r384347 => bd (bif r384347 then bd (β := _) (bd (ix r45.2.1 0) (fun x537386 => bd (PF.impl_ring_value r45.1 x537386 ((i192235 : Nat) : Int)) (fun r546380 => bd (ix r45.2.1 1) (fun x555386 => bd (PF.impl_ring_value r45.1 x555386 ((i192235 : Nat) : Int)) (fun r564380 => some ((r546380 == r564380), (r546380 == r564380)))))) : Option (Bool × Bool)) (fun s528379 => some (s528379.1, (!s528379.2))) else some (s192235, false)) (fun t480371 => (bif t480371.2 then some (Lp.rt t480371.1) else some (Lp.nx t480371.1))))) true) (fun s192235 => some s192235) (fun x192235 => some x192235))) : Option Bool) (fun s192223 => some (s192223, true))))))

noncomputable def spec_DrawIsPcRefutation (a0 : List Int) : Option (Int × Cnf × (List PcStep)) :=
  bd (PF.spec_l1Cur_cnf20 (l1Cur.mk a0 0 0)) (fun r29 => bd (PF.spec_l1Cur_one r29.2.2 2) (fun r46 => (bif r46.1 then bd (PF.spec_l1Cur_of r46.2 [(ByteArray.mk #[48, 59, 32, 110, 111, 110, 101]), (ByteArray.mk #[49, 59, 32, 49, 59, 32, 45, 49]), (ByteArray.mk #[50, 59, 32, 110, 111, 110, 101, 59, 32, 49])]) (fun r66 => bd (PF.spec_l2Known r66.1) (fun r74 => bd (PF.spec_l20Asked r29.1 r74) (fun r93 => (bif (bif r93 then (r74.vars == 1) else false) then bd (ix r74.clauses 0) (fun x12117 => bd (PF.spec_l18Clause r29.1 1 x12117) (fun r18111 => bd (ix r74.clauses 1) (fun x33117 => bd (PF.spec_l18Clause r29.1 1 x33117) (fun r39111 => bd (ix [(PcStep.mk 1 r18111 0 0 0 0), (PcStep.mk 1 r39111 1 0 0 0)] 0) (fun x72131 => bd (ix [(PcStep.mk 1 r18111 0 0 0 0), (PcStep.mk 1 r39111 1 0 0 0)] 1) (fun x84131 => bd (PF.spec_l20Sum r29.1 1 x72131.poly 1 x84131.poly 1) (fun r93125 => bd (app [(PcStep.mk 1 r18111 0 0 0 0), (PcStep.mk 1 r39111 1 0 0 0)] [(PcStep.mk 2 r93125 0 1 1 1)]) (fun xs102125 => some (r29.1, r74, xs102125))))))))) else bd (PF.spec_l1Cur_pc r66.2 r29.1 r74) (fun r135142 => some (r29.1, r74, r135142.1)))))) else bd (PF.spec_l1Cur_pc r46.2 r29.1 r29.2.1) (fun r168159 => some (r29.1, r29.2.1, r168159.1)))))

def impl_last_impl_PcStep (a0 : List PcStep) : Option PcStep :=
  bd (ix a0 (wr ((len a0) - 1))) (fun x31 => some x31)

def impl_algebra_isOne (a0 : algebra) (a1 : List Int) : Option Bool :=
  bd (PF.impl_ring_mono a0.ring 0) (fun r21 => bd (PF.slices_Equal_impl_dense_int a1 r21) (fun r36 => some r36))

def impl_IsPcRefutation (a0 : Int) (a1 : Cnf) (a2 : List PcStep) : Option (Bool × Bool) :=
  bd (PF.impl_algebraOf a0 a1) (fun r29 => (bif (!r29.2) then some (false, false) else bd r29.1 (fun y38 => bd (bif (decide (0 < (len a2))) then bd (PF.impl_algebra_pcDerivation y38 a2) (fun r21049 => some r21049) else some false) (fun t48_7 => bd (bif t48_7 then bd (PF.impl_last_impl_PcStep a2) (fun r48049 => bd (PF.impl_ring_dense y38.ring r48049.poly) (fun r54049 => bd (PF.impl_algebra_isOne y38 r54049) (fun r57054 => some r57054))) else some false) (fun t48_19 => some (t48_19, true))))))

def spec_l20One  : (List Term) :=
  [(Term.mk 0 1)]

noncomputable def spec_l20Refutes (a0 : Int) (a1 : Cnf) (a2 : List PcStep) : Option Bool :=
  bd (PF.spec_l20Good a0 a1 a2) (fun r12029 => bd (bif (bif r12029 then (decide (0 < (len a2))) else false) then bd (ix a2 (wr ((len a2) - 1))) (fun x45035 => bd (PF.spec_l20Same x45035.poly PF.spec_l20One) (fun r57034 => some r57034)) else some false) (fun t28_19 => some t28_19))

noncomputable def spec_IsPcRefutation (a0 : Int) (a1 : Cnf) (a2 : List PcStep) : Option (Bool × Bool) :=
  bd (PF.spec_l20Asked a0 a1) (fun r29 => (bif (!r29) then some (false, false) else bd (PF.spec_l20Refutes a0 a1 a2) (fun r35 => some (r35, true))))

def impl_satisfiable (a0 : Int) (a1 : List (List Int)) : Option Bool :=
  bd (β := _) (bd (nn a0) (fun u154 => bd (chk (shlK true 64 1 a0)) (fun m155 => bdR (forR (S := Bool) (X := Bool) 0 m155 (fun i156 s156 => bd (PF.impl_isModel a1 ((i156 : Nat) : Int)) (fun r256 => bd (bif r256 then bd (β := _) (some (true, false) : Option (Bool × Bool)) (fun s278 => some (s278.1, (!s278.2))) else some (s156, false)) (fun t273 => (bif t273.2 then some (Lp.rt t273.1) else some (Lp.nx t273.1))))) false) (fun s156 => some s156) (fun x156 => some x156))) : Option Bool) (fun s144 => some s144)

def impl_IsSatisfiable (a0 : Cnf) : Option (Bool × Bool) :=
  bd (PF.impl_IsCnf a0) (fun r29 => (bif (!r29) then some (false, false) else bd (PF.impl_satisfiable a0.vars a0.clauses) (fun r35 => some (r35, true))))

noncomputable def spec_DrawIsPcStep (a0 : List Int) : Option (Int × Cnf × (List PcStep) × Int) :=
  bd (PF.spec_l1Cur_cnf20 (l1Cur.mk a0 0 0)) (fun r29 => bd (PF.spec_l1Cur_pc r29.2.2 r29.1 r29.2.1) (fun r50 => bd (PF.spec_l1Cur_pick r50.2 (wr ((len r50.1) + 1))) (fun r24062 => bd (PF.spec_l1Cur_pick r24062.2 24) (fun r30062 => some (r29.1, r29.2.1, r50.1, (wr (r24062.1 - (wr (r30062.1.tdiv 23)))))))))

def impl_IsPcStep (a0 : Int) (a1 : Cnf) (a2 : List PcStep) (a3 : Int) : Option (Bool × Bool) :=
  bd (PF.impl_algebraOf a0 a1) (fun r29 => (bif (bif (bif (!r29.2) then true else (decide (300 < (len a2)))) then true else (!(PF.impl_within a3 0 (wr ((len a2) - 1))))) then some (false, false) else bd r29.1 (fun y66 => bd (PF.impl_algebra_pcCorrect y66 a2 a3) (fun r77 => some (r77, true)))))

noncomputable def spec_IsPcStep (a0 : Int) (a1 : Cnf) (a2 : List PcStep) (a3 : Int) : Option (Bool × Bool) :=
  bd (PF.spec_l20Asked a0 a1) (fun r29 => (bif (bif (bif (!r29) then true else (decide (300 < (len a2)))) then true else (!(PF.spec_l1In a3 0 (wr ((len a2) - 1))))) then some (false, false) else bd (PF.spec_l20Correct a0 a1 a2 a3) (fun r65 => some (r65, true))))

noncomputable def laws_FnPcSteps (a0 : List Int) : Option Bool :=
  (bif (PF.laws_vBig a0) then some true else bd (PF.spec_DrawTrimPc a0) (fun r25 => bd (β := _) (bd (PF.impl_algebraOf r25.1 r25.2.1) (fun r750 => bd (bif (!r750.2) then some true else bd r750.1 (fun y786 => bd (PF.impl_algebra_pcDerivation y786 r25.2.2) (fun r802 => some (!r802)))) (fun t779 => (bif t779 then some (false, []) else bd (β := _) (bd (β := _) (bd (mk2 (false : Bool) (len r25.2.2) (len r25.2.2)) (fun xs1840 => bdR (iter (S := ((List Bool) × (List Int) × Int)) (X := Empty) (fun s1850 => (bif (decide (0 ≤ s1850.2.2)) then bd (ix s1850.1 s1850.2.2) (fun x2240 => (bif (bif (!x2240) then (decide (s1850.2.2 < (wr ((len r25.2.2) - 1)))) else false) then some (Lp.nx (s1850.1, s1850.2.1, (wr (s1850.2.2 - 1)))) else bd (app s1850.2.1 [s1850.2.2]) (fun xs2261 => bd (β := _) (bd (ix r25.2.2 s1850.2.2) (fun x2301 => some (PF.impl_PcStep_uses x2301)) : Option (List Int)) (fun s2290 => bd (chk (len s2290)) (fun m2318 => bdR (forR (S := (List Bool)) (X := Empty) 0 m2318 (fun i2319 s2319 => bd (ix s2290 ((i2319 : Nat) : Int)) (fun x2417 => bd (ix s2319 x2417) (fun x2425 => bd (put s2319 x2417 true) (fun xs2430 => some (Lp.nx xs2430))))) s1850.1) (fun s2319 => some (Lp.nx (s2319, xs2261, (wr (s1850.2.2 - 1))))) (fun x2319 => nomatch x2319)))))) else some (Lp.bk (s1850.1, s1850.2.1, s1850.2.2)))) (xs1840, [], (wr ((len r25.2.2) - 1)))) (fun s1850 => bd (PF.slices_Reverse_int_int s1850.2.1) (fun r2466 => some r2466)) (fun x1850 => nomatch x1850)) : Option (List Int)) (fun s1835 => bd (chk (len s1835)) (fun m2480 => bdR (forR (S := (List PcStep)) (X := Empty) 0 m2480 (fun i2481 s2481 => bd (ix s1835 ((i2481 : Nat) : Int)) (fun x2665 => bd (ix r25.2.2 x2665) (fun x2673 => bd (PF.slices_Clone_impl_Term_impl_Term x2673.poly) (fun r2684 => (bif (decide (0 < (len (PF.impl_PcStep_uses (PcStep.mk x2673.kind r2684 x2673.a x2673.b x2673.x x2673.y))))) then bd (PF.slices_Index_int_int s1835 x2673.a) (fun r2718 => (bif ((len (PF.impl_PcStep_uses (PcStep.mk x2673.kind r2684 x2673.a x2673.b x2673.x x2673.y))) == 2) then bd (PF.slices_Index_int_int s1835 x2673.b) (fun r2732 => bd (app s2481 [(PcStep.mk x2673.kind r2684 r2718 r2732 x2673.x x2673.y)]) (fun xs2751 => some (Lp.nx xs2751))) else bd (app s2481 [(PcStep.mk x2673.kind r2684 r2718 x2673.b x2673.x x2673.y)]) (fun xs2774 => some (Lp.nx xs2774)))) else bd (app s2481 [(PcStep.mk x2673.kind r2684 x2673.a x2673.b x2673.x x2673.y)]) (fun xs2797 => some (Lp.nx xs2797))))))) []) (fun s2481 => some s2481) (fun x2481 => nomatch x2481))) : Option (List PcStep)) (fun s1417 => some (true, s1417))))) : Option (Bool × (List PcStep))) (fun s736 => bd (PF.spec_TrimPc r25.1 r25.2.1 r25.2.2) (fun r2842 => bd (bif (!(s736.1 == r2842.2)) then some true else bd (PF.laws_vPc s736.2 r2842.1) (fun r2892 => some (!r2892))) (fun t2873 => (bif t2873 then some false else bd (PF.impl_FirstWrongPcStep r25.1 r25.2.1 r25.2.2) (fun r2910 => bd (PF.spec_FirstWrongPcStep r25.1 r25.2.1 r25.2.2) (fun r2920 => (bif (bif (bif (!(r2910.1 == r2920.1)) then true else (!(r2910.2 == r2920.2))) then true else (!(s736.1 == (bif r2910.2 then (decide (r2910.1 < 0)) else false)))) then some false else bd (PF.impl_PcDegree r25.1 r25.2.1 r25.2.2) (fun r2993 => bd (PF.spec_PcDegree r25.1 r25.2.1 r25.2.2) (fun r3003 => (bif (bif (bif (!(r2993.1 == r3003.1)) then true else (!(r2993.2 == r3003.2))) then true else (!(r2993.2 == s736.1))) then some false else bd (PF.impl_PcSize r25.1 r25.2.1 r25.2.2) (fun r3043 => bd (PF.spec_PcSize r25.1 r25.2.1 r25.2.2) (fun r3053 => (bif (bif (bif (!(r3043.1 == r3053.1)) then true else (!(r3043.2 == r3053.2))) then true else (!(r3043.2 == s736.1))) then some false else bdR (S := Unit) (X := Bool) ((bif (bif s736.1 then (decide (0 < (len r25.2.2))) else false) then bd (bif (bif ((len s736.2) == 0) then true else (decide ((len r25.2.2) < (len s736.2)))) then some true else bd (ix s736.2 (wr ((len s736.2) - 1))) (fun x57282 => bd (ix r25.2.2 (wr ((len r25.2.2) - 1))) (fun x57292 => bd (PF.laws_vPoly x57282.poly x57292.poly) (fun r57296 => some (!r57296))))) (fun t57269 => (bif t57269 then some (Rs.rt false) else bd (PF.impl_FirstWrongPcStep r25.1 r25.2.1 s736.2) (fun r57314 => bd (ix r25.2.2 (wr ((len r25.2.2) - 1))) (fun x78325 => bd (PF.impl_AreSameOn r25.1 r25.2.1 x78325.poly []) (fun r90324 => (bif (bif (bif (bif (!r57314.2) then true else (decide (0 ≤ r57314.1))) then true else (!r90324.2)) then true else (!r90324.1)) then some (Rs.rt false) else some (Rs.go ()))))))) else some (Rs.go ()))) (fun s57229 => bd (PF.spec_DrawIsPcRefutation a0) (fun r111367 => bd (PF.impl_IsPcRefutation r111367.1 r111367.2.1 r111367.2.2) (fun r111397 => bd (PF.spec_IsPcRefutation r111367.1 r111367.2.1 r111367.2.2) (fun r111407 => (bif (bif (!(r111397.1 == r111407.1)) then true else (!(r111397.2 == r111407.2))) then some false else bdR (S := Unit) (X := Bool) ((bif r111397.1 then bd (PF.impl_IsSatisfiable r111367.2.1) (fun r111444 => (bif (bif r111444.2 then r111444.1 else false) then some (Rs.rt false) else some (Rs.go ()))) else some (Rs.go ()))) (fun s111440 => bd (PF.spec_DrawIsPcStep a0) (fun r111465 => bd (PF.impl_IsPcStep r111465.1 r111465.2.1 r111465.2.2.1 r111465.2.2.2) (fun r111495 => bd (PF.spec_IsPcStep r111465.1 r111465.2.1 r111465.2.2.1 r111465.2.2.2) (fun r111505 => some (bif (r111495.1 == r111505.1) then (r111495.2 == r111505.2) else false))))) (fun x111442 => some x111442)))))) (fun x57231 => some x57231))))))))))))))))

end Go.PF
