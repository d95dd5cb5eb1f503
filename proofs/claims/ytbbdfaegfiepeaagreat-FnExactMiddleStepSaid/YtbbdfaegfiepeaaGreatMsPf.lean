/- Part of the walks and plain laws behind the claim: it proves helpers, under no condition beyond their own. -/
import Derived.Test.YtbbdfaegfiepeaaGreatPl1
set_option linter.unusedVariables false
namespace Go.PF
open Go.Pu

structure Cnf where
  vars : Int
  clauses : List (List Int)
def okCnf (s : Cnf) : Prop := okI s.vars ∧ (okL (okL okI)) s.clauses

structure ResStep where
  clause : List Int
  left : Int
  right : Int
  pivot : Int
def okResStep (s : ResStep) : Prop := (okL okI) s.clause ∧ okI s.left ∧ okI s.right ∧ okI s.pivot

structure Bench where
  stage : Int
  formula : Cnf
  steps : List ResStep
  wide : Int
  count : Int
def okBench (s : Bench) : Prop := okI s.stage ∧ okCnf s.formula ∧ (okL okResStep) s.steps ∧ okI s.wide ∧ okI s.count

structure l15Work where
  now : List (List Int)
  most : Int
  all : List (List Int)
  ok : Bool
def okl15Work (s : l15Work) : Prop := (okL (okL okI)) s.now ∧ okI s.most ∧ (okL (okL okI)) s.all ∧ okT s.ok

structure SpaceStep where
  kind : Int
  a : Int
  b : Int
  pivot : Int
def okSpaceStep (s : SpaceStep) : Prop := okI s.kind ∧ okI s.a ∧ okI s.b ∧ okI s.pivot

structure TreeNode where
  var : Int
  low : Int
  high : Int
  clause : Int
def okTreeNode (s : TreeNode) : Prop := okI s.var ∧ okI s.low ∧ okI s.high ∧ okI s.clause

structure weaver where
  steps : List ResStep
  became : List Int
def okweaver (s : weaver) : Prop := (okL okResStep) s.steps ∧ (okL okI) s.became

structure l11Use where
  reason : Int
  v : Int
  clause : List Int
def okl11Use (s : l11Use) : Prop := okI s.reason ∧ okI s.v ∧ (okL okI) s.clause

structure family where
  vars : Int
  clauses : List (List Int)
def okfamily (s : family) : Prop := okI s.vars ∧ (okL (okL okI)) s.clauses

def laws_szIntS (a0 : List Int) (a1 : Int) : Int :=
  (bif (decide ((wr (a1 - (len a0))) < 0)) then (-1) else (wr (a1 - (len a0))))

def laws_szResStep (a0 : ResStep) (a1 : Int) : Int :=
  (bif (decide ((PF.laws_szIntS a0.clause a1) < 0)) then (-1) else (PF.laws_szIntS a0.clause a1))

def laws_szResStepS (a0 : List ResStep) (a1 : Int) : Option Int :=
  (bif (decide ((wr (a1 - (len a0))) < 0)) then some (-1) else bdR (forL (S := Int) (X := Int) a0 (fun i23 y22 s23 => (bif (decide ((PF.laws_szResStep y22 s23) < 0)) then some (Lp.rt (-1)) else some (Lp.nx (PF.laws_szResStep y22 s23)))) (wr (a1 - (len a0)))) (fun s23 => some s23) (fun x23 => some x23))

def laws_toIntS (a0 : List Int) : Option (List Int) :=
  bd (mk2 (0 : Int) (len a0) (len a0)) (fun xs21 => bdR (forL (S := (List Int)) (X := Empty) a0 (fun i32 y31 s32 => bd (ix s32 ((i32 : Nat) : Int)) (fun x117 => bd (put s32 ((i32 : Nat) : Int) y31) (fun xs122 => some (Lp.nx xs122)))) xs21) (fun s32 => some s32) (fun x32 => nomatch x32))

def laws_toResStep (a0 : ResStep) : Option ResStep :=
  bd (PF.laws_toIntS a0.clause) (fun r37 => some (ResStep.mk r37 a0.left a0.right a0.pivot))

def laws_toResStepS (a0 : List ResStep) : Option (List ResStep) :=
  bd (mk2 ((ResStep.mk [] 0 0 0) : ResStep) (len a0) (len a0)) (fun xs21 => bdR (forL (S := (List ResStep)) (X := Empty) a0 (fun i33 y32 s33 => bd (PF.laws_toResStep y32) (fun r143 => bd (ix s33 ((i33 : Nat) : Int)) (fun x158 => bd (put s33 ((i33 : Nat) : Int) r143) (fun xs165 => some (Lp.nx xs165))))) xs21) (fun s33 => some s33) (fun x33 => nomatch x33))

def spec_l1In (a0 : Int) (a1 : Int) (a2 : Int) : Bool :=
  (bif (decide (a1 ≤ a0)) then (decide (a0 ≤ a2)) else false)

def spec_l17Holes (a0 : Int) : Bool :=
  (PF.spec_l1In a0 1 3)

def spec_l17Var (a0 : Int) (a1 : Int) (a2 : Int) : Int :=
  (wr ((wr ((wr (a1 - 1)) * a0)) + a2))

noncomputable def spec_l17Cnf (a0 : Int) : Option Cnf :=
  bdR (iter (S := ((List (List Int)) × Int × Int)) (X := Empty) (fun s37 => (bif (decide (s37.2.2 ≤ (wr (a0 + 1)))) then bdR (iter (S := ((List Int) × Int)) (X := Empty) (fun s257 => (bif (decide (s257.2 ≤ a0)) then bd (app s257.1 [(PF.spec_l17Var a0 s37.2.2 s257.2)]) (fun xs313 => some (Lp.nx (xs313, (wr (s257.2 + 1))))) else some (Lp.bk (s257.1, s257.2)))) ([], 1)) (fun s257 => bd (app s37.1 [s257.1]) (fun xs346 => some (Lp.nx (xs346, s37.2.1, (wr (s37.2.2 + 1)))))) (fun x257 => nomatch x257) else some (Lp.bk (s37.1, s37.2.1, s37.2.2)))) ([], (wr (a0 * (wr (a0 + 1)))), 1)) (fun s37 => bdR (iter (S := ((List (List Int)) × Int × Int)) (X := Empty) (fun s371 => (bif (decide (s371.2.2 ≤ a0)) then bdR (iter (S := ((List (List Int)) × Int × Int)) (X := Empty) (fun s456833 => (bif (decide (s456833.2.2 ≤ (wr (a0 + 1)))) then bdR (iter (S := ((List (List Int)) × Int × Int)) (X := Empty) (fun s685038 => (bif (decide (s685038.2.2 ≤ (wr (a0 + 1)))) then bd (app s685038.1 [[(wr (-(PF.spec_l17Var a0 s456833.2.2 s371.2.2))), (wr (-(PF.spec_l17Var a0 s685038.2.2 s371.2.2)))]]) (fun xs844112 => some (Lp.nx (xs844112, s685038.2.1, (wr (s685038.2.2 + 1))))) else some (Lp.bk (s685038.1, s685038.2.1, s685038.2.2)))) (s456833.1, s456833.2.1, (wr (s456833.2.2 + 1)))) (fun s685038 => some (Lp.nx (s685038.1, s685038.2.1, (wr (s456833.2.2 + 1))))) (fun x685038 => nomatch x685038) else some (Lp.bk (s456833.1, s456833.2.1, s456833.2.2)))) (s371.1, s371.2.1, 1)) (fun s456833 => some (Lp.nx (s456833.1, s456833.2.1, (wr (s371.2.2 + 1))))) (fun x456833 => nomatch x456833) else some (Lp.bk (s371.1, s371.2.1, s371.2.2)))) (s37.1, s37.2.1, 1)) (fun s371 => some (Cnf.mk s371.2.1 s371.1)) (fun x371 => nomatch x371)) (fun x37 => nomatch x37)

def spec_l2Vars (a0 : Int) : Bool :=
  (PF.spec_l1In a0 0 12)

def spec_l2Lit (a0 : Int) (a1 : Int) : Bool :=
  (bif (PF.spec_l1In a1 (wr (-a0)) a0) then (!(a1 == 0)) else false)

def spec_l2Var (a0 : Int) : Int :=
  (bif (decide (a0 < 0)) then (wr (-a0)) else a0)

def spec_l2Clause (a0 : Int) (a1 : List Int) : Option Bool :=
  (bif (!(PF.spec_l2Vars a0)) then some false else bdR (forL (S := Unit) (X := Bool) a1 (fun i26 y25 s26 => bd (bif (!(PF.spec_l2Lit a0 y25)) then some true else bd (bif (decide (0 < ((i26 : Nat) : Int))) then bd (ix a1 (wr (((i26 : Nat) : Int) - 1))) (fun x226 => some (decide ((PF.spec_l2Var y25) ≤ (PF.spec_l2Var x226)))) else some false) (fun t213 => some t213)) (fun t192 => (bif t192 then some (Lp.rt false) else some (Lp.nx ())))) ()) (fun s26 => some true) (fun x26 => some x26))

noncomputable def spec_l2Good (a0 : Cnf) : Option Bool :=
  (bif (bif (!(PF.spec_l2Vars a0.vars)) then true else (decide (60 < (len a0.clauses)))) then some false else bdR (iter (S := Int) (X := Bool) (fun s42 => (bif (decide (s42 < (len a0.clauses))) then bd (ix a0.clauses s42) (fun x83 => bd (PF.spec_l2Clause a0.vars x83) (fun r87 => (bif (!r87) then some (Lp.rt false) else some (Lp.nx (wr (s42 + 1)))))) else some (Lp.bk s42))) 0) (fun s42 => some true) (fun x42 => some x42))

noncomputable def spec_l7Asked (a0 : Cnf) (a1 : List ResStep) : Option Bool :=
  bd (bif (decide ((len a1) ≤ 200)) then bd (PF.spec_l2Good a0) (fun r41 => some r41) else some false) (fun t34 => some t34)

def spec_l1Same (a0 : List Int) (a1 : List Int) : Option Bool :=
  (bif (!((len a0) == (len a1))) then some false else bdR (forL (S := Unit) (X := Bool) a0 (fun i23 y22 s23 => bd (ix a1 ((i23 : Nat) : Int)) (fun x72 => (bif (!(y22 == x72)) then some (Lp.rt false) else some (Lp.nx ())))) ()) (fun s23 => some true) (fun x23 => some x23))

def spec_l7Clause (a0 : Cnf) (a1 : List ResStep) (a2 : Int) (a3 : Int) : Option Bool :=
  bd (bif (PF.spec_l1In a3 0 (wr (a2 - 1))) then bd (ix a1 a3) (fun x55 => bd (PF.spec_l2Clause a0.vars x55.clause) (fun r59 => some r59)) else some false) (fun t42 => some t42)

def spec_l1Has (a0 : List Int) (a1 : Int) : Option Bool :=
  bdR (forL (S := Unit) (X := Bool) a0 (fun i22 y21 s22 => (bif (y21 == a1) then some (Lp.rt true) else some (Lp.nx ()))) ()) (fun s22 => some false) (fun x22 => some x22)

def spec_l2Has (a0 : List Int) (a1 : Int) : Option Bool :=
  bd (PF.spec_l1Has a0 a1) (fun r21 => some r21)

def spec_l2Sub (a0 : List Int) (a1 : List Int) : Option Bool :=
  bdR (forL (S := Unit) (X := Bool) a0 (fun i22 y21 s22 => bd (PF.spec_l2Has a1 y21) (fun r57 => (bif (!r57) then some (Lp.rt false) else some (Lp.nx ())))) ()) (fun s22 => some true) (fun x22 => some x22)

def spec_l2Without (a0 : List Int) (a1 : Int) : Option (List Int) :=
  bdR (forL (S := (List Int)) (X := Empty) a0 (fun i27 y26 s27 => (bif (!((PF.spec_l2Var y26) == a1)) then bd (app s27 [y26]) (fun xs103 => some (Lp.nx xs103)) else some (Lp.nx s27))) []) (fun s27 => some s27) (fun x27 => nomatch x27)

def spec_l1Own (a0 : List Int) : Option (List Int) :=
  bd (app [] a0) (fun xs26 => some xs26)

noncomputable def spec_l2Put (a0 : List Int) (a1 : Int) : Option (List Int) :=
  bdR (iter (S := Int) (X := Empty) (fun s21 => bd (bif (decide (s21 < (len a0))) then bd (ix a0 s21) (fun x105 => some (decide ((PF.spec_l2Var x105) < (PF.spec_l2Var a1)))) else some false) (fun t92 => (bif t92 then some (Lp.nx (wr (s21 + 1))) else some (Lp.bk s21)))) 0) (fun s21 => bd (cut a0 0 s21) (fun xs9127 => bd (PF.spec_l1Own xs9127) (fun r12127 => bd (app r12127 [a1]) (fun xs21127 => bd (cut a0 s21 (len a0)) (fun xs30127 => bd (app xs21127 xs30127) (fun xs33127 => some xs33127)))))) (fun x21 => nomatch x21)

noncomputable def spec_l2Join (a0 : List Int) (a1 : List Int) : Option ((List Int) × Bool) :=
  bd (PF.spec_l1Own a0) (fun r21 => bdR (forL (S := (List Int)) (X := ((List Int) × Bool)) a1 (fun i32 y31 s32 => bd (PF.spec_l2Has s32 (wr (-y31))) (fun r200 => (bif r200 then some (Lp.rt ([], false)) else bd (PF.spec_l2Has s32 y31) (fun r222 => (bif (!r222) then bd (PF.spec_l2Put s32 y31) (fun r239 => some (Lp.nx r239)) else some (Lp.nx s32)))))) r21) (fun s32 => some (s32, true)) (fun x32 => some x32))

noncomputable def spec_l2Resolve (a0 : List Int) (a1 : List Int) (a2 : Int) : Option ((List Int) × Bool) :=
  bd (PF.spec_l2Has a0 a2) (fun r21 => bd (bif (!r21) then some true else bd (PF.spec_l2Has a1 (wr (-a2))) (fun r38 => some (!r38))) (fun t31 => (bif t31 then some ([], false) else bd (PF.spec_l2Without a0 a2) (fun r53 => bd (PF.spec_l2Without a1 a2) (fun r63 => bd (PF.spec_l2Join r53 r63) (fun r83 => some (r83.1, r83.2)))))))

noncomputable def spec_l7Correct (a0 : Cnf) (a1 : List ResStep) (a2 : Int) : Option Bool :=
  bd (ix a1 a2) (fun x35 => bd (PF.spec_l2Clause a0.vars x35.clause) (fun r50 => (bif (!r50) then some false else (bif (x35.left == (-1)) then bd (bif (bif (x35.pivot == 0) then (PF.spec_l1In x35.right 0 (wr ((len a0.clauses) - 1))) else false) then bd (ix a0.clauses x35.right) (fun x93 => bd (PF.spec_l1Same x93 x35.clause) (fun r97 => some r97)) else some false) (fun t80 => some t80) else bd (PF.spec_l7Clause a0 a1 a2 x35.left) (fun r103 => (bif (!r103) then some false else (bif (x35.right == (-1)) then bd (bif (x35.pivot == 0) then bd (ix a1 x35.left) (fun x136 => bd (PF.spec_l2Sub x136.clause x35.clause) (fun r140 => some r140)) else some false) (fun t123 => some t123) else bd (PF.spec_l7Clause a0 a1 a2 x35.right) (fun r146 => (bif (bif (!r146) then true else (!(PF.spec_l1In x35.pivot 1 a0.vars))) then some false else bd (ix a1 x35.left) (fun x12174 => bd (ix a1 x35.right) (fun x30174 => bd (PF.spec_l2Resolve x12174.clause x30174.clause x35.pivot) (fun r45168 => bd (bif r45168.2 then bd (PF.spec_l1Same r45168.1 x35.clause) (fun r66203 => some r66203) else some false) (fun t66191 => some t66191)))))))))))))

noncomputable def spec_l7Wrong (a0 : Cnf) (a1 : List ResStep) : Option Int :=
  bdR (forL (S := Unit) (X := Int) a1 (fun i30 y29 s30 => bd (PF.spec_l7Correct a0 a1 ((i30 : Nat) : Int)) (fun r53 => (bif (!r53) then some (Lp.rt ((i30 : Nat) : Int)) else some (Lp.nx ())))) ()) (fun s30 => some (-1)) (fun x30 => some x30)

noncomputable def spec_l7Good (a0 : Cnf) (a1 : List ResStep) : Option Bool :=
  bd (PF.spec_l7Asked a0 a1) (fun r29 => bd (bif r29 then bd (PF.spec_l7Wrong a0 a1) (fun r46 => some (decide (r46 < 0))) else some false) (fun t39 => some t39))

def spec_l7Last (a0 : List ResStep) : Option (List Int) :=
  bd (ix a0 (wr ((len a0) - 1))) (fun x27 => some x27.clause)

noncomputable def spec_l7Refutes (a0 : Cnf) (a1 : List ResStep) : Option Bool :=
  bd (PF.spec_l7Good a0 a1) (fun r29 => bd (bif (bif r29 then (decide (0 < (len a1))) else false) then bd (PF.spec_l7Last a1) (fun r58 => some ((len r58) == 0)) else some false) (fun t51 => some t51))

noncomputable def spec_l28Critical (a0 : Int) (a1 : Int) : Option Int :=
  bdR (iter (S := Int) (X := Int) (fun s22 => (bif (decide (s22 ≤ a0)) then bdR (iter (S := (Int × Int)) (X := Empty) (fun s83 => (bif (decide (s83.2 ≤ (wr (a0 + 1)))) then bd (nn (wr ((PF.spec_l17Var a0 s83.2 s22) - 1))) (fun u117 => some (Lp.nx ((wr (s83.1 + (andK true 64 (shrK 64 a1 (wr ((PF.spec_l17Var a0 s83.2 s22) - 1))) 1))), (wr (s83.2 + 1))))) else some (Lp.bk (s83.1, s83.2)))) (0, 1)) (fun s83 => (bif (!(s83.1 == 1)) then some (Lp.rt 0) else some (Lp.nx (wr (s22 + 1))))) (fun x83 => nomatch x83) else some (Lp.bk s22))) 1) (fun s22 => bdR (iter (S := (Int × Int)) (X := Int) (fun s139 => (bif (decide (s139.2 ≤ (wr (a0 + 1)))) then bdR (iter (S := (Int × Int)) (X := Empty) (fun s203 => (bif (decide (s203.2 ≤ a0)) then bd (nn (wr ((PF.spec_l17Var a0 s139.2 s203.2) - 1))) (fun u237 => some (Lp.nx ((wr (s203.1 + (andK true 64 (shrK 64 a1 (wr ((PF.spec_l17Var a0 s139.2 s203.2) - 1))) 1))), (wr (s203.2 + 1))))) else some (Lp.bk (s203.1, s203.2)))) (0, 1)) (fun s203 => (bif (decide (1 < s203.1)) then some (Lp.rt 0) else (bif (s203.1 == 0) then some (Lp.nx (s139.2, (wr (s139.2 + 1)))) else some (Lp.nx (s139.1, (wr (s139.2 + 1))))))) (fun x203 => nomatch x203) else some (Lp.bk (s139.1, s139.2)))) (0, 1)) (fun s139 => some s139.1) (fun x139 => some x139)) (fun x22 => some x22)

noncomputable def spec_l28All (a0 : Int) : Option (List Int) :=
  bdR (iter (S := ((List Int) × Int)) (X := Empty) (fun s26 => bd (nn (wr (a0 * (wr (a0 + 1))))) (fun u73 => (bif (decide (s26.2 < (shlK true 64 1 (wr (a0 * (wr (a0 + 1))))))) then bd (PF.spec_l28Critical a0 s26.2) (fun r75 => (bif (decide (0 < r75)) then bd (app s26.1 [s26.2]) (fun xs86 => some (Lp.nx (xs86, (wr (s26.2 + 1))))) else some (Lp.nx (s26.1, (wr (s26.2 + 1)))))) else some (Lp.bk (s26.1, s26.2))))) ([], 0)) (fun s26 => some s26.1) (fun x26 => nomatch x26)

def spec_l5True (a0 : List Int) (a1 : Int) : Option Bool :=
  bdR (forL (S := Unit) (X := Bool) a0 (fun i22 y21 s22 => bd (nn (wr ((PF.spec_l2Var y21) - 1))) (fun u66 => (bif (((andK true 64 (shrK 64 a1 (wr ((PF.spec_l2Var y21) - 1))) 1) == 1) == (decide (0 < y21))) then some (Lp.rt true) else some (Lp.nx ())))) ()) (fun s22 => some false) (fun x22 => some x22)

noncomputable def spec_l1Put (a0 : List Int) (a1 : Int) : Option (List Int) :=
  bdR (iter (S := Int) (X := Empty) (fun s21 => bd (bif (decide (s21 < (len a0))) then bd (ix a0 s21) (fun x87 => some (decide (x87 < a1))) else some false) (fun t74 => (bif t74 then some (Lp.nx (wr (s21 + 1))) else some (Lp.bk s21)))) 0) (fun s21 => bd (bif (decide (s21 < (len a0))) then bd (ix a0 s21) (fun x124 => some (x124 == a1)) else some false) (fun t111 => (bif t111 then some a0 else bd (cut a0 0 s21) (fun xs12131 => bd (app [] xs12131) (fun xs15131 => bd (app xs15131 [a1]) (fun xs24131 => bd (cut a0 s21 (len a0)) (fun xs33131 => bd (app xs24131 xs33131) (fun xs36131 => some xs36131)))))))) (fun x21 => nomatch x21)

noncomputable def spec_l28Weight (a0 : Int) (a1 : List Int) (a2 : List Int) : Option Int :=
  bdR (forL (S := (List Int)) (X := Empty) a2 (fun i32 y26 s32 => bd (PF.spec_l5True a1 y26) (fun r92 => (bif (!r92) then bd (PF.spec_l28Critical a0 y26) (fun r104 => bd (PF.spec_l1Put s32 r104) (fun r109 => some (Lp.nx r109))) else some (Lp.nx s32)))) []) (fun s32 => some (len s32)) (fun x32 => nomatch x32)

noncomputable def spec_MiddleStep (a0 : Int) (a1 : List ResStep) : Option (Int × Bool) :=
  bd (bif (!(PF.spec_l17Holes a0)) then some true else bd (PF.spec_l17Cnf a0) (fun r47 => bd (PF.spec_l7Refutes r47 a1) (fun r58 => some (!r58)))) (fun t40 => (bif t40 then some (0, false) else bd (PF.spec_l28All a0) (fun r67 => bdR (forL (S := Unit) (X := (Int × Bool)) a1 (fun i78 y77 s78 => bd (PF.spec_l28Weight a0 y77.clause r67) (fun r141 => (bif (bif (decide ((wr (a0 + 1)) ≤ (wr (3 * r141)))) then (decide ((wr (3 * r141)) ≤ (wr (2 * (wr (a0 + 1)))))) else false) then some (Lp.rt (((i78 : Nat) : Int), true)) else some (Lp.nx ())))) ()) (fun s78 => some (0, false)) (fun x78 => some x78))))

def impl_within (a0 : Int) (a1 : Int) (a2 : Int) : Bool :=
  (bif (decide (a1 ≤ a0)) then (decide (a0 ≤ a2)) else false)

def impl_holesOk (a0 : Int) : Bool :=
  (PF.impl_within a0 1 3)

def slices_Clone_int_int (a0 : List Int) : Option (List Int) :=
  bd (app [] a0) (fun xs30 => some xs30)

noncomputable def slices_SortFunc_int_int (a0 : List Int) (a1 : Int → Int → Option Int) : Option (List Int) := sortF a1 a0

def impl_abs (a0 : Int) : Int :=
  (mx a0 (wr (-a0)))

def cmp_isNaN_int (a0 : Int) : Bool :=
  (!(a0 == a0))

def cmp_Compare_int (a0 : Int) (a1 : Int) : Int :=
  (bif (PF.cmp_isNaN_int a0) then (bif (PF.cmp_isNaN_int a1) then 0 else (-1)) else (bif (PF.cmp_isNaN_int a1) then 1 else (bif (decide (a0 < a1)) then (-1) else (bif (decide (a1 < a0)) then 1 else 0))))

def cmp_Or_int (a0 : List Int) : Option Int :=
  bdR (forL (S := Unit) (X := Int) a0 (fun i22 y21 s22 => (bif (!(y21 == 0)) then some (Lp.rt y21) else some (Lp.nx ()))) ()) (fun s22 => some 0) (fun x22 => some x22)

def impl_compareLiterals (a0 : Int) (a1 : Int) : Option Int :=
  bd (PF.cmp_Or_int [(PF.cmp_Compare_int (PF.impl_abs a0) (PF.impl_abs a1)), (PF.cmp_Compare_int a1 a0)]) (fun r43 => some r43)

def slices_Compact_int_int (a0 : List Int) : Option (List Int) := some (compactL a0)

noncomputable def impl_clause (a0 : List Int) : Option ((List Int) × Bool) :=
  bd (PF.slices_Clone_int_int a0) (fun r21 => bd (PF.slices_SortFunc_int_int r21 (fun x0 x1 => PF.impl_compareLiterals x0 x1)) (fun r31 => bd (PF.slices_Compact_int_int r31) (fun r39 => bdR (iter (S := Int) (X := ((List Int) × Bool)) (fun s49 => (bif (decide (s49 < (len r39))) then bd (ix r39 s49) (fun x94 => bd (ix r39 (wr (s49 - 1))) (fun x102 => (bif (x94 == (wr (-x102))) then some (Lp.rt ([], false)) else some (Lp.nx (wr (s49 + 1)))))) else some (Lp.bk s49))) 1) (fun s49 => some (r39, true)) (fun x49 => some x49))))

noncomputable def impl_mustClause (a0 : List Int) : Option (List Int) :=
  bd (PF.impl_clause a0) (fun r21 => some r21.1)

def impl_isLiteral (a0 : Int) (a1 : Int) : Bool :=
  (bif (!(a1 == 0)) then (PF.impl_within a1 (wr (-a0)) a0) else false)

def impl_varsOk (a0 : Int) : Bool :=
  (PF.impl_within a0 0 12)

def impl_IsClause (a0 : Int) (a1 : List Int) : Option Bool :=
  bdR (forL (S := Unit) (X := Bool) a1 (fun i22 y21 s22 => bd (bif (!(PF.impl_isLiteral a0 y21)) then some true else bd (bif (decide (0 < ((i22 : Nat) : Int))) then bd (ix a1 (wr (((i22 : Nat) : Int) - 1))) (fun x192 => some (decide ((PF.impl_abs y21) ≤ (PF.impl_abs x192)))) else some false) (fun t179 => some t179)) (fun t164 => (bif t164 then some (Lp.rt false) else some (Lp.nx ())))) ()) (fun s22 => some (PF.impl_varsOk a0)) (fun x22 => some x22)

def impl_IsCnf (a0 : Cnf) : Option Bool :=
  bdR (forL (S := Unit) (X := Bool) a0.clauses (fun i30 y29 s30 => bd (PF.impl_IsClause a0.vars y29) (fun r71 => (bif (!r71) then some (Lp.rt false) else some (Lp.nx ())))) ()) (fun s30 => some (bif (PF.impl_varsOk a0.vars) then (decide ((len a0.clauses) ≤ 60)) else false)) (fun x30 => some x30)

def impl_family_cnf (a0 : family) : Option (Cnf × Bool × family) :=
  bd (PF.impl_IsCnf (Cnf.mk a0.vars a0.clauses)) (fun r39037 => (bif (!r39037) then some ((Cnf.mk 0 []), false, a0) else some ((Cnf.mk a0.vars a0.clauses), true, a0)))

noncomputable def impl_Pigeonhole (a0 : Int) (a1 : Int) : Option (Cnf × Bool) :=
  (bif (bif (!(PF.impl_within a0 0 12)) then true else (!(PF.impl_within a1 0 12))) then some ((Cnf.mk 0 []), false) else bd (chk a0) (fun m55 => bdR (forR (S := ((List (List Int)) × Int)) (X := Empty) 0 m55 (fun i56 s56 => bdR (iter (S := ((List Int) × Int)) (X := Empty) (fun s84264 => (bif (decide (s84264.2 ≤ a1)) then bd (app s84264.1 [(wr ((wr (((i56 : Nat) : Int) * a1)) + s84264.2))]) (fun xs84320 => some (Lp.nx (xs84320, (wr (s84264.2 + 1))))) else some (Lp.bk (s84264.1, s84264.2)))) ([], 1)) (fun s84264 => bd (β := _) (bd (PF.impl_mustClause s84264.1) (fun r147365 => bd (app s56.1 [r147365]) (fun xs153360 => some (xs153360, s56.2))) : Option ((List (List Int)) × Int)) (fun s126354 => some (Lp.nx (s126354.1, s126354.2)))) (fun x84264 => nomatch x84264)) ([], (wr (a0 * a1)))) (fun s56 => bdR (iter (S := ((List (List Int)) × Int × Int)) (X := Empty) (fun s168387 => (bif (decide (s168387.2.2 ≤ a1)) then bd (chk a0) (fun m504988 => bdR (forR (S := ((List (List Int)) × Int)) (X := Empty) 0 m504988 (fun i504989 s504989 => bdR (iter (S := ((List (List Int)) × Int × Int)) (X := Empty) (fun s673259 => (bif (decide (s673259.2.2 < a0)) then bd (β := _) (bd (PF.impl_mustClause [(wr (-(wr ((wr (((i504989 : Nat) : Int) * a1)) + s168387.2.2)))), (wr (-(wr ((wr (s673259.2.2 * a1)) + s168387.2.2))))]) (fun r820388 => bd (app s673259.1 [r820388]) (fun xs826383 => some (xs826383, s673259.2.1))) : Option ((List (List Int)) × Int)) (fun s799377 => some (Lp.nx (s799377.1, s799377.2, (wr (s673259.2.2 + 1))))) else some (Lp.bk (s673259.1, s673259.2.1, s673259.2.2)))) (s504989.1, s504989.2, (wr (((i504989 : Nat) : Int) + 1)))) (fun s673259 => some (Lp.nx (s673259.1, s673259.2.1))) (fun x673259 => nomatch x673259)) (s168387.1, s168387.2.1)) (fun s504989 => some (Lp.nx (s504989.1, s504989.2, (wr (s168387.2.2 + 1))))) (fun x504989 => nomatch x504989)) else some (Lp.bk (s168387.1, s168387.2.1, s168387.2.2)))) (s56.1, s56.2, 1)) (fun s168387 => bd (PF.impl_family_cnf (family.mk s168387.2.1 s168387.1)) (fun r841449 => some (r841449.1, r841449.2.1))) (fun x168387 => nomatch x168387)) (fun x56 => nomatch x56)))

noncomputable def impl_PigeonCnf (a0 : Int) : Option (Cnf × Bool) :=
  (bif (!(PF.impl_holesOk a0)) then some ((Cnf.mk 0 []), false) else bd (PF.impl_Pigeonhole (wr (a0 + 1)) a0) (fun r32 => some (r32.1, r32.2)))

def slices_Equal_int_int (a0 : List Int) (a1 : List Int) : Option Bool :=
  (bif (!((len a0) == (len a1))) then some false else bdR (forL (S := Unit) (X := Bool) a0 (fun i23 y22 s23 => bd (ix a1 ((i23 : Nat) : Int)) (fun x74 => (bif (!(y22 == x74)) then some (Lp.rt false) else some (Lp.nx ())))) ()) (fun s23 => some true) (fun x23 => some x23))

def impl_earlier (a0 : Cnf) (a1 : List ResStep) (a2 : Int) (a3 : Int) : Option ((List Int) × Bool) :=
  bd (bif (!(PF.impl_within a3 0 (wr (a2 - 1)))) then some true else bd (ix a1 a3) (fun x55 => bd (PF.impl_IsClause a0.vars x55.clause) (fun r59 => some (!r59)))) (fun t42 => (bif t42 then some ([], false) else bd (ix a1 a3) (fun x74 => some (x74.clause, true))))

def slices_IndexFunc_int_int (a0 : List Int) (a1 : Int → Option Bool) : Option Int :=
  bdR (forL (S := Unit) (X := Int) a0 (fun i22 y21 s22 => bd (a1 y21) (fun r64 => (bif r64 then some (Lp.rt ((i22 : Nat) : Int)) else some (Lp.nx ())))) ()) (fun s22 => some (-1)) (fun x22 => some x22)

def slices_ContainsFunc_int_int (a0 : List Int) (a1 : Int → Option Bool) : Option Bool :=
  bd (PF.slices_IndexFunc_int_int a0 a1) (fun r21 => some (decide (0 ≤ r21)))

def slices_Index_int_int (a0 : List Int) (a1 : Int) : Option Int :=
  bdR (forL (S := Unit) (X := Int) a0 (fun i22 y21 s22 => (bif (a1 == y21) then some (Lp.rt ((i22 : Nat) : Int)) else some (Lp.nx ()))) ()) (fun s22 => some (-1)) (fun x22 => some x22)

def slices_Contains_int_int (a0 : List Int) (a1 : Int) : Option Bool :=
  bd (PF.slices_Index_int_int a0 a1) (fun r21 => some (decide (0 ≤ r21)))

def impl_part_1 (a0 : Int) (b0 : List Int) : Option Bool :=
  bd (PF.slices_Contains_int_int b0 a0) (fun r21 => some (!r21))

def impl_part (a0 : List Int) (a1 : List Int) : Option Bool :=
  bd (PF.slices_ContainsFunc_int_int a0 (fun x0 => PF.impl_part_1 x0 a1)) (fun r29 => some (!r29))

def impl_isVar (a0 : Int) (a1 : Int) : Bool :=
  (PF.impl_within a1 1 a0)

noncomputable def slices_DeleteFunc_int_int (a0 : List Int) (a1 : Int → Option Bool) : Option (List Int) :=
  bd (PF.slices_IndexFunc_int_int a0 a1) (fun r26 => (bif (r26 == (-1)) then some a0 else bdR (iter (S := ((List Int) × Int × Int)) (X := Empty) (fun s32 => (bif (decide (s32.2.2 < (len s32.1))) then bd (ix s32.1 s32.2.2) (fun x141 => bd (a1 x141) (fun r143 => (bif (!r143) then bd (ix s32.1 s32.2.1) (fun x160 => bd (put s32.1 s32.2.1 x141) (fun xs165 => some (Lp.nx (xs165, (wr (s32.2.1 + 1)), (wr (s32.2.2 + 1)))))) else some (Lp.nx (s32.1, s32.2.1, (wr (s32.2.2 + 1))))))) else some (Lp.bk (s32.1, s32.2.1, s32.2.2)))) (a0, r26, (wr (r26 + 1)))) (fun s32 => bd (cut s32.1 s32.2.1 (len s32.1)) (fun xs178 => bd (cut (clearL 0 s32.1 s32.2.1) 0 s32.2.1) (fun xs188 => some xs188))) (fun x32 => nomatch x32)))

def impl_withoutVar_1 (a0 : Int) (b0 : Int) : Bool :=
  ((PF.impl_abs a0) == b0)

noncomputable def impl_withoutVar (a0 : List Int) (a1 : Int) : Option (List Int) :=
  bd (PF.slices_Clone_int_int a0) (fun r29 => bd (PF.slices_DeleteFunc_int_int r29 (fun x0 => some (PF.impl_withoutVar_1 x0 a1))) (fun r39 => some r39))

def slices_Grow_int_int (a1 : Int) : Option (List Int) := if 0 ≤ a1 ∧ a1 ≤ lim then some [] else none

def slices_Concat_int_int (a0 : List (List Int)) : Option (List Int) :=
  bdR (forL (S := Int) (X := Empty) a0 (fun i22 y21 s22 => (bif (decide ((wr (s22 + (len y21))) < 0)) then none else some (Lp.nx (wr (s22 + (len y21)))))) 0) (fun s22 => bd (PF.slices_Grow_int_int s22) (fun r69 => bdR (forL (S := (List Int)) (X := Empty) a0 (fun i80 y79 s80 => bd (app s80 y79) (fun xs129 => some (Lp.nx xs129))) r69) (fun s80 => some s80) (fun x80 => nomatch x80))) (fun x22 => nomatch x22)

noncomputable def impl_resolve (a0 : List Int) (a1 : List Int) (a2 : Int) : Option ((List Int) × Bool) :=
  bd (PF.slices_Contains_int_int a0 a2) (fun r21 => bd (bif (!r21) then some true else bd (PF.slices_Contains_int_int a1 (wr (-a2))) (fun r38 => some (!r38))) (fun t31 => (bif t31 then some ([], false) else bd (PF.impl_withoutVar a0 a2) (fun r48 => bd (PF.impl_withoutVar a1 a2) (fun r58 => bd (PF.slices_Concat_int_int [r48, r58]) (fun r88 => bd (PF.impl_clause r88) (fun r105 => some (r105.1, r105.2))))))))

noncomputable def impl_correct (a0 : Cnf) (a1 : List ResStep) (a2 : Int) : Option Bool :=
  bd (ix a1 a2) (fun x35 => bd (PF.impl_IsClause a0.vars x35.clause) (fun r50 => (bif (!r50) then some false else (bif (x35.left == (-1)) then bd (bif (bif (x35.pivot == 0) then (PF.impl_within x35.right 0 (wr ((len a0.clauses) - 1))) else false) then bd (ix a0.clauses x35.right) (fun x93 => bd (PF.slices_Equal_int_int x93 x35.clause) (fun r97 => some r97)) else some false) (fun t80 => some t80) else bd (PF.impl_earlier a0 a1 a2 x35.left) (fun r103 => (bif (!r103.2) then some false else (bif (x35.right == (-1)) then bd (bif (x35.pivot == 0) then bd (PF.impl_part r103.1 x35.clause) (fun r125 => some r125) else some false) (fun t118 => some t118) else bd (PF.impl_earlier a0 a1 a2 x35.right) (fun r131 => (bif (bif (!r131.2) then true else (!(PF.impl_isVar a0.vars x35.pivot))) then some false else bd (PF.impl_resolve r103.1 r131.1 x35.pivot) (fun r157 => bd (bif r157.2 then bd (PF.slices_Equal_int_int r157.1 x35.clause) (fun r189 => some r189) else some false) (fun t177 => some t177)))))))))))

noncomputable def impl_firstWrong (a0 : Cnf) (a1 : List ResStep) : Option Int :=
  bdR (forL (S := Unit) (X := Int) a1 (fun i30 y29 s30 => bd (PF.impl_correct a0 a1 ((i30 : Nat) : Int)) (fun r55 => (bif (!r55) then some (Lp.rt ((i30 : Nat) : Int)) else some (Lp.nx ())))) ()) (fun s30 => some (-1)) (fun x30 => some x30)

noncomputable def impl_IsDerivation (a0 : Cnf) (a1 : List ResStep) : Option Bool :=
  bd (PF.impl_IsCnf a0) (fun r29 => bd (bif (bif r29 then (decide ((len a1) ≤ 200)) else false) then bd (PF.impl_firstWrong a0 a1) (fun r56 => some (decide (r56 < 0))) else some false) (fun t49 => some t49))

def impl_last_impl_ResStep (a0 : List ResStep) : Option ResStep :=
  bd (ix a0 (wr ((len a0) - 1))) (fun x31 => some x31)

noncomputable def impl_IsRefutation (a0 : Cnf) (a1 : List ResStep) : Option Bool :=
  bd (PF.impl_IsDerivation a0 a1) (fun r29 => bd (bif (bif r29 then (decide (0 < (len a1))) else false) then bd (PF.impl_last_impl_ResStep a1) (fun r58 => some ((len r58.clause) == 0)) else some false) (fun t51 => some t51))

noncomputable def impl_upTo (a0 : Int) : Option (List Int) :=
  bdR (iter (S := ((List Int) × Int)) (X := Empty) (fun s22 => (bif (decide (s22.2 ≤ a0)) then bd (app s22.1 [s22.2]) (fun xs66 => some (Lp.nx (xs66, (wr (s22.2 + 1))))) else some (Lp.bk (s22.1, s22.2)))) ([], 1)) (fun s22 => some s22.1) (fun x22 => nomatch x22)

def impl_pigeonVar (a0 : Int) (a1 : Int) (a2 : Int) : Int :=
  (wr ((wr ((wr (a1 - 1)) * a0)) + a2))

def impl_holesOf_1 (a0 : Int) (b0 : Int) (b1 : Int) (b2 : Int) : Option Bool :=
  bd (nn (wr ((PF.impl_pigeonVar b1 b2 a0) - 1))) (fun u23 => some ((andK true 64 (shrK 64 b0 (wr ((PF.impl_pigeonVar b1 b2 a0) - 1))) 1) == 0))

noncomputable def impl_holesOf (a0 : Int) (a1 : Int) (a2 : Int) : Option (List Int) :=
  bd (PF.impl_upTo a0) (fun r45 => bd (PF.slices_DeleteFunc_int_int r45 (fun x0 => PF.impl_holesOf_1 x0 a1 a0 a2)) (fun r55 => some r55))

noncomputable def impl_leftOf (a0 : Int) (a1 : Int) : Option Int :=
  bdR (iter (S := (Int × (List Int) × Int)) (X := Int) (fun s21 => (bif (decide (s21.2.2 ≤ (wr (a0 + 1)))) then bd (PF.impl_holesOf a0 a1 s21.2.2) (fun r148 => (bif (bif ((len r148) == 0) then (s21.1 == 0) else false) then some (Lp.nx (s21.2.2, s21.2.1, (wr (s21.2.2 + 1)))) else bd (bif (!((len r148) == 1)) then some true else bd (ix r148 0) (fun x204 => bd (PF.slices_Contains_int_int s21.2.1 x204) (fun r211 => some r211))) (fun t191 => (bif t191 then some (Lp.rt 0) else bd (ix r148 0) (fun x230 => bd (app s21.2.1 [x230]) (fun xs237 => some (Lp.nx (s21.1, xs237, (wr (s21.2.2 + 1)))))))))) else some (Lp.bk (s21.1, s21.2.1, s21.2.2)))) (0, [], 1)) (fun s21 => some s21.1) (fun x21 => some x21)

noncomputable def impl_critical (a0 : Int) : Option (List Int) :=
  bd (nn (wr (a0 * (wr (a0 + 1))))) (fun u22 => bd (chk (shlK true 64 1 (wr (a0 * (wr (a0 + 1)))))) (fun m23 => bdR (forR (S := (List Int)) (X := Empty) 0 m23 (fun i24 s24 => bd (PF.impl_leftOf a0 ((i24 : Nat) : Int)) (fun r69 => (bif (decide (0 < r69)) then bd (app s24 [((i24 : Nat) : Int)]) (fun xs80 => some (Lp.nx xs80)) else some (Lp.nx s24)))) []) (fun s24 => some s24) (fun x24 => nomatch x24)))

def impl_holds_1 (a0 : Int) (b0 : Int) : Option Bool :=
  bd (nn (wr ((PF.impl_abs a0) - 1))) (fun u23 => some (((andK true 64 (shrK 64 b0 (wr ((PF.impl_abs a0) - 1))) 1) == 1) == (decide (0 < a0))))

def impl_holds (a0 : List Int) (a1 : Int) : Option Bool :=
  bd (PF.slices_ContainsFunc_int_int a0 (fun x0 => PF.impl_holds_1 x0 a1)) (fun r29 => some r29)

def impl_falseCritical_1 (a0 : Int) (b0 : List Int) : Option Bool :=
  bd (PF.impl_holds b0 a0) (fun r21 => some r21)

noncomputable def impl_falseCritical (a0 : Int) (a1 : List Int) : Option (List Int) :=
  bd (PF.impl_critical a0) (fun r29 => bd (PF.slices_DeleteFunc_int_int r29 (fun x0 => PF.impl_falseCritical_1 x0 a1)) (fun r39 => some r39))

noncomputable def impl_weight (a0 : Int) (a1 : List Int) : Option Int :=
  bd (PF.impl_falseCritical a0 a1) (fun r27 => bd (chk (len r27)) (fun m37 => bdR (forR (S := (List (Int × Bool))) (X := Empty) 0 m37 (fun i38 s38 => bd (ix r27 ((i38 : Nat) : Int)) (fun x113 => bd (PF.impl_leftOf a0 x113) (fun r115 => some (Lp.nx (mput s38 r115 true))))) []) (fun s38 => some (len s38)) (fun x38 => nomatch x38)))

noncomputable def impl_MiddleStep (a0 : Int) (a1 : List ResStep) : Option (Int × Bool) :=
  bd (PF.impl_PigeonCnf a0) (fun r21 => bd (bif (!r21.2) then some true else bd (PF.impl_IsRefutation r21.1 a1) (fun r52 => some (!r52))) (fun t45 => (bif t45 then some (0, false) else bdR (forL (S := Unit) (X := (Int × Bool)) a1 (fun i62 y61 s62 => bd (PF.impl_weight a0 y61.clause) (fun r138 => (bif (bif (decide ((wr (a0 + 1)) ≤ (wr (3 * r138)))) then (decide ((wr (3 * r138)) ≤ (wr (2 * (wr (a0 + 1)))))) else false) then some (Lp.rt (((i62 : Nat) : Int), true)) else some (Lp.nx ())))) ()) (fun s62 => some (0, false)) (fun x62 => some x62))))

def laws_eqIntS (a0 : List Int) (a1 : List Int) : Option Bool :=
  (bif (!((len a0) == (len a1))) then some false else bdR (forL (S := Unit) (X := Bool) a0 (fun i23 y22 s23 => bd (ix a1 ((i23 : Nat) : Int)) (fun x72 => (bif (!(y22 == x72)) then some (Lp.rt false) else some (Lp.nx ())))) ()) (fun s23 => some true) (fun x23 => some x23))

def laws_eqResStep (a0 : ResStep) (a1 : ResStep) : Option Bool :=
  bd (PF.laws_eqIntS a0.clause a1.clause) (fun r37 => (bif (!r37) then some false else (bif (!(a0.left == a1.left)) then some false else (bif (!(a0.right == a1.right)) then some false else (bif (!(a0.pivot == a1.pivot)) then some false else some true)))))

def laws_eqResStepS (a0 : List ResStep) (a1 : List ResStep) : Option Bool :=
  (bif (!((len a0) == (len a1))) then some false else bdR (forL (S := Unit) (X := Bool) a0 (fun i23 y22 s23 => bd (ix a1 ((i23 : Nat) : Int)) (fun x80 => bd (PF.laws_eqResStep y22 x80) (fun r84 => (bif (!r84) then some (Lp.rt false) else some (Lp.nx ()))))) ()) (fun s23 => some true) (fun x23 => some x23))

noncomputable def laws_FnExactMiddleStep (a0 : Int) (a1 : List ResStep) : Option Bool :=
  bd (PF.laws_szResStepS a1 1048576) (fun r21 => (bif (decide (r21 < 0)) then some true else bd (PF.laws_toResStepS a1) (fun r28 => bd (PF.spec_MiddleStep a0 r28) (fun r47 => bd (PF.laws_toResStepS a1) (fun r53 => bd (PF.impl_MiddleStep a0 r53) (fun r72 => (bif (bif (!(r72.1 == r47.1)) then true else (!(r72.2 == r47.2))) then some false else bd (PF.laws_toResStepS a1) (fun r89 => bd (PF.laws_eqResStepS r53 r89) (fun r108 => (bif (!r108) then some false else some true))))))))))

end Go.PF
