/- Part of the walks and plain laws behind the claim: it proves helpers, under no condition beyond their own. -/
import Derived.Test.YtjkhehplbjempaaGreatDoorPl1
import Derived.Test.YtjkhehplbjempaaGreatDoorDtPu4
import Derived.Test.YtjkhehplbjempaaGreatDoorDtPu5
set_option linter.unusedVariables false
namespace Go.PF
open Go.Pu

structure Cnf where
  vars : Int
  clauses : List (List Int)
def okCnf (s : Cnf) : Prop := okI s.vars ∧ (okL (okL okI)) s.clauses

structure ResStep where
  clause : List Int
  left : Int
  right : Int
  pivot : Int
def okResStep (s : ResStep) : Prop := (okL okI) s.clause ∧ okI s.left ∧ okI s.right ∧ okI s.pivot

structure Bench where
  stage : Int
  formula : Cnf
  steps : List ResStep
  wide : Int
  count : Int
def okBench (s : Bench) : Prop := okI s.stage ∧ okCnf s.formula ∧ (okL okResStep) s.steps ∧ okI s.wide ∧ okI s.count

def laws_szIntS (a0 : List Int) (a1 : Int) : Int :=
  (bif (decide ((wr (a1 - (len a0))) < 0)) then (-1) else (wr (a1 - (len a0))))

def laws_szIntSS (a0 : List (List Int)) (a1 : Int) : Option Int :=
  (bif (decide ((wr (a1 - (len a0))) < 0)) then some (-1) else bdR (forL (S := Int) (X := Int) a0 (fun i23 y22 s23 => (bif (decide ((PF.laws_szIntS y22 s23) < 0)) then some (Lp.rt (-1)) else some (Lp.nx (PF.laws_szIntS y22 s23)))) (wr (a1 - (len a0)))) (fun s23 => some s23) (fun x23 => some x23))

def laws_szCnf (a0 : Cnf) (a1 : Int) : Option Int :=
  bd (PF.laws_szIntSS a0.clauses a1) (fun r29 => (bif (decide (r29 < 0)) then some (-1) else some r29))

def laws_szResStep (a0 : ResStep) (a1 : Int) : Int :=
  (bif (decide ((PF.laws_szIntS a0.clause a1) < 0)) then (-1) else (PF.laws_szIntS a0.clause a1))

def laws_szResStepS (a0 : List ResStep) (a1 : Int) : Option Int :=
  (bif (decide ((wr (a1 - (len a0))) < 0)) then some (-1) else bdR (forL (S := Int) (X := Int) a0 (fun i23 y22 s23 => (bif (decide ((PF.laws_szResStep y22 s23) < 0)) then some (Lp.rt (-1)) else some (Lp.nx (PF.laws_szResStep y22 s23)))) (wr (a1 - (len a0)))) (fun s23 => some s23) (fun x23 => some x23))

def laws_toIntS (a0 : List Int) : Option (List Int) :=
  bd (mk2 (0 : Int) (len a0) (len a0)) (fun xs21 => bdR (forL (S := (List Int)) (X := Empty) a0 (fun i32 y31 s32 => bd (ix s32 ((i32 : Nat) : Int)) (fun x117 => bd (put s32 ((i32 : Nat) : Int) y31) (fun xs122 => some (Lp.nx xs122)))) xs21) (fun s32 => some s32) (fun x32 => nomatch x32))

def laws_toIntSS (a0 : List (List Int)) : Option (List (List Int)) :=
  bd (mk2 ([] : List Int) (len a0) (len a0)) (fun xs21 => bdR (forL (S := (List (List Int))) (X := Empty) a0 (fun i33 y32 s33 => bd (PF.laws_toIntS y32) (fun r155 => bd (ix s33 ((i33 : Nat) : Int)) (fun x171 => bd (put s33 ((i33 : Nat) : Int) r155) (fun xs183 => some (Lp.nx xs183))))) xs21) (fun s33 => some s33) (fun x33 => nomatch x33))

def laws_toCnf (a0 : Cnf) : Option Cnf :=
  bd (PF.laws_toIntSS a0.clauses) (fun r40 => some (Cnf.mk a0.vars r40))

def laws_toResStep (a0 : ResStep) : Option ResStep :=
  bd (PF.laws_toIntS a0.clause) (fun r37 => some (ResStep.mk r37 a0.left a0.right a0.pivot))

def laws_toResStepS (a0 : List ResStep) : Option (List ResStep) :=
  bd (mk2 ((ResStep.mk [] 0 0 0) : ResStep) (len a0) (len a0)) (fun xs21 => bdR (forL (S := (List ResStep)) (X := Empty) a0 (fun i33 y32 s33 => bd (PF.laws_toResStep y32) (fun r143 => bd (ix s33 ((i33 : Nat) : Int)) (fun x158 => bd (put s33 ((i33 : Nat) : Int) r143) (fun xs165 => some (Lp.nx xs165))))) xs21) (fun s33 => some s33) (fun x33 => nomatch x33))

def spec_l1In (a0 : Int) (a1 : Int) (a2 : Int) : Bool :=
  (bif (decide (a1 ≤ a0)) then (decide (a0 ≤ a2)) else false)

def spec_l2Vars (a0 : Int) : Bool :=
  (PF.spec_l1In a0 0 12)

def spec_l2Lit (a0 : Int) (a1 : Int) : Bool :=
  (bif (PF.spec_l1In a1 (wr (-a0)) a0) then (!(a1 == 0)) else false)

def spec_l2Var (a0 : Int) : Int :=
  (bif (decide (a0 < 0)) then (wr (-a0)) else a0)

def spec_l2Clause (a0 : Int) (a1 : List Int) : Option Bool :=
  (bif (!(PF.spec_l2Vars a0)) then some false else bdR (forL (S := Unit) (X := Bool) a1 (fun i26 y25 s26 => bd (bif (!(PF.spec_l2Lit a0 y25)) then some true else bd (bif (decide (0 < ((i26 : Nat) : Int))) then bd (ix a1 (wr (((i26 : Nat) : Int) - 1))) (fun x226 => some (decide ((PF.spec_l2Var y25) ≤ (PF.spec_l2Var x226)))) else some false) (fun t213 => some t213)) (fun t192 => (bif t192 then some (Lp.rt false) else some (Lp.nx ())))) ()) (fun s26 => some true) (fun x26 => some x26))

noncomputable def spec_l2Good (a0 : Cnf) : Option Bool :=
  (bif (bif (!(PF.spec_l2Vars a0.vars)) then true else (decide (60 < (len a0.clauses)))) then some false else bdR (iter (S := Int) (X := Bool) (fun s42 => (bif (decide (s42 < (len a0.clauses))) then bd (ix a0.clauses s42) (fun x83 => bd (PF.spec_l2Clause a0.vars x83) (fun r87 => (bif (!r87) then some (Lp.rt false) else some (Lp.nx (wr (s42 + 1)))))) else some (Lp.bk s42))) 0) (fun s42 => some true) (fun x42 => some x42))

noncomputable def spec_l7Asked (a0 : Cnf) (a1 : List ResStep) : Option Bool :=
  bd (bif (decide ((len a1) ≤ 200)) then bd (PF.spec_l2Good a0) (fun r41 => some r41) else some false) (fun t34 => some t34)

def spec_l1Same (a0 : List Int) (a1 : List Int) : Option Bool :=
  (bif (!((len a0) == (len a1))) then some false else bdR (forL (S := Unit) (X := Bool) a0 (fun i23 y22 s23 => bd (ix a1 ((i23 : Nat) : Int)) (fun x72 => (bif (!(y22 == x72)) then some (Lp.rt false) else some (Lp.nx ())))) ()) (fun s23 => some true) (fun x23 => some x23))

def spec_l7Clause (a0 : Cnf) (a1 : List ResStep) (a2 : Int) (a3 : Int) : Option Bool :=
  bd (bif (PF.spec_l1In a3 0 (wr (a2 - 1))) then bd (ix a1 a3) (fun x55 => bd (PF.spec_l2Clause a0.vars x55.clause) (fun r59 => some r59)) else some false) (fun t42 => some t42)

def spec_l1Has (a0 : List Int) (a1 : Int) : Option Bool :=
  bdR (forL (S := Unit) (X := Bool) a0 (fun i22 y21 s22 => (bif (y21 == a1) then some (Lp.rt true) else some (Lp.nx ()))) ()) (fun s22 => some false) (fun x22 => some x22)

def spec_l2Has (a0 : List Int) (a1 : Int) : Option Bool :=
  bd (PF.spec_l1Has a0 a1) (fun r21 => some r21)

def spec_l2Sub (a0 : List Int) (a1 : List Int) : Option Bool :=
  bdR (forL (S := Unit) (X := Bool) a0 (fun i22 y21 s22 => bd (PF.spec_l2Has a1 y21) (fun r57 => (bif (!r57) then some (Lp.rt false) else some (Lp.nx ())))) ()) (fun s22 => some true) (fun x22 => some x22)

def spec_l2Without (a0 : List Int) (a1 : Int) : Option (List Int) :=
  bdR (forL (S := (List Int)) (X := Empty) a0 (fun i27 y26 s27 => (bif (!((PF.spec_l2Var y26) == a1)) then bd (app s27 [y26]) (fun xs103 => some (Lp.nx xs103)) else some (Lp.nx s27))) []) (fun s27 => some s27) (fun x27 => nomatch x27)

def spec_l1Own (a0 : List Int) : Option (List Int) :=
  bd (app [] a0) (fun xs26 => some xs26)

noncomputable def spec_l2Put (a0 : List Int) (a1 : Int) : Option (List Int) :=
  bdR (iter (S := Int) (X := Empty) (fun s21 => bd (bif (decide (s21 < (len a0))) then bd (ix a0 s21) (fun x105 => some (decide ((PF.spec_l2Var x105) < (PF.spec_l2Var a1)))) else some false) (fun t92 => (bif t92 then some (Lp.nx (wr (s21 + 1))) else some (Lp.bk s21)))) 0) (fun s21 => bd (cut a0 0 s21) (fun xs9127 => bd (PF.spec_l1Own xs9127) (fun r12127 => bd (app r12127 [a1]) (fun xs21127 => bd (cut a0 s21 (len a0)) (fun xs30127 => bd (app xs21127 xs30127) (fun xs33127 => some xs33127)))))) (fun x21 => nomatch x21)

noncomputable def spec_l2Join (a0 : List Int) (a1 : List Int) : Option ((List Int) × Bool) :=
  bd (PF.spec_l1Own a0) (fun r21 => bdR (forL (S := (List Int)) (X := ((List Int) × Bool)) a1 (fun i32 y31 s32 => bd (PF.spec_l2Has s32 (wr (-y31))) (fun r200 => (bif r200 then some (Lp.rt ([], false)) else bd (PF.spec_l2Has s32 y31) (fun r222 => (bif (!r222) then bd (PF.spec_l2Put s32 y31) (fun r239 => some (Lp.nx r239)) else some (Lp.nx s32)))))) r21) (fun s32 => some (s32, true)) (fun x32 => some x32))

noncomputable def spec_l2Resolve (a0 : List Int) (a1 : List Int) (a2 : Int) : Option ((List Int) × Bool) :=
  bd (PF.spec_l2Has a0 a2) (fun r21 => bd (bif (!r21) then some true else bd (PF.spec_l2Has a1 (wr (-a2))) (fun r38 => some (!r38))) (fun t31 => (bif t31 then some ([], false) else bd (PF.spec_l2Without a0 a2) (fun r53 => bd (PF.spec_l2Without a1 a2) (fun r63 => bd (PF.spec_l2Join r53 r63) (fun r83 => some (r83.1, r83.2)))))))

noncomputable def spec_l7Correct (a0 : Cnf) (a1 : List ResStep) (a2 : Int) : Option Bool :=
  bd (ix a1 a2) (fun x35 => bd (PF.spec_l2Clause a0.vars x35.clause) (fun r50 => (bif (!r50) then some false else (bif (x35.left == (-1)) then bd (bif (bif (x35.pivot == 0) then (PF.spec_l1In x35.right 0 (wr ((len a0.clauses) - 1))) else false) then bd (ix a0.clauses x35.right) (fun x93 => bd (PF.spec_l1Same x93 x35.clause) (fun r97 => some r97)) else some false) (fun t80 => some t80) else bd (PF.spec_l7Clause a0 a1 a2 x35.left) (fun r103 => (bif (!r103) then some false else (bif (x35.right == (-1)) then bd (bif (x35.pivot == 0) then bd (ix a1 x35.left) (fun x136 => bd (PF.spec_l2Sub x136.clause x35.clause) (fun r140 => some r140)) else some false) (fun t123 => some t123) else bd (PF.spec_l7Clause a0 a1 a2 x35.right) (fun r146 => (bif (bif (!r146) then true else (!(PF.spec_l1In x35.pivot 1 a0.vars))) then some false else bd (ix a1 x35.left) (fun x12174 => bd (ix a1 x35.right) (fun x30174 => bd (PF.spec_l2Resolve x12174.clause x30174.clause x35.pivot) (fun r45168 => bd (bif r45168.2 then bd (PF.spec_l1Same r45168.1 x35.clause) (fun r66203 => some r66203) else some false) (fun t66191 => some t66191)))))))))))))

noncomputable def spec_l7Wrong (a0 : Cnf) (a1 : List ResStep) : Option Int :=
  bdR (forL (S := Unit) (X := Int) a1 (fun i30 y29 s30 => bd (PF.spec_l7Correct a0 a1 ((i30 : Nat) : Int)) (fun r53 => (bif (!r53) then some (Lp.rt ((i30 : Nat) : Int)) else some (Lp.nx ())))) ()) (fun s30 => some (-1)) (fun x30 => some x30)

noncomputable def spec_l7Good (a0 : Cnf) (a1 : List ResStep) : Option Bool :=
  bd (PF.spec_l7Asked a0 a1) (fun r29 => bd (bif r29 then bd (PF.spec_l7Wrong a0 a1) (fun r46 => some (decide (r46 < 0))) else some false) (fun t39 => some t39))

def spec_l1Num (a0 : Int) : Option ByteArray := numT a0

def spec_l2Text (a0 : List Int) : Option ByteArray :=
  (bif ((len a0) == 0) then some (ByteArray.mk #[110, 111, 110, 101]) else bd (ix a0 0) (fun x28 => bd (PF.spec_l1Num x28) (fun r30 => bdR (forR (S := ByteArray) (X := Empty) 1 a0.length (fun i35 s35 => bd (catS s35 (ByteArray.mk #[32])) (fun z69 => bd (ix a0 ((i35 : Nat) : Int)) (fun x77 => bd (PF.spec_l1Num x77) (fun r79 => bd (catS z69 r79) (fun z84 => some (Lp.nx z84)))))) r30) (fun s35 => some s35) (fun x35 => nomatch x35))))

noncomputable def spec_DerivationText (a0 : Cnf) (a1 : List ResStep) : Option (ByteArray × Bool) :=
  bd (PF.spec_l7Good a0 a1) (fun r29 => (bif (!r29) then some ((ByteArray.mk #[]), false) else bdR (forL (S := ByteArray) (X := Empty) a1 (fun i36 y35 s36 => (bif (decide (0 < ((i36 : Nat) : Int))) then bd (catS s36 (ByteArray.mk #[59, 32])) (fun z143 => bd (PF.spec_l1Num ((i36 : Nat) : Int)) (fun r165 => bd (catS z143 r165) (fun z167 => bd (catS z167 (ByteArray.mk #[58, 32])) (fun z169 => bd (PF.spec_l2Text y35.clause) (fun r171 => bd (catS z169 r171) (fun z173 => (bif (y35.left == (-1)) then bd (catS z173 (ByteArray.mk #[32, 97, 120, 105, 111, 109, 32])) (fun z179 => bd (PF.spec_l1Num y35.right) (fun r181 => bd (catS z179 r181) (fun z186 => some (Lp.nx z186)))) else (bif (y35.right == (-1)) then bd (catS z173 (ByteArray.mk #[32, 102, 114, 111, 109, 32])) (fun z189 => bd (PF.spec_l1Num y35.left) (fun r191 => bd (catS z189 r191) (fun z196 => some (Lp.nx z196)))) else bd (catS z173 (ByteArray.mk #[32, 102, 114, 111, 109, 32])) (fun z199 => bd (PF.spec_l1Num y35.left) (fun r201 => bd (catS z199 r201) (fun z203 => bd (catS z203 (ByteArray.mk #[32, 97, 110, 100, 32])) (fun z205 => bd (PF.spec_l1Num y35.right) (fun r207 => bd (catS z205 r207) (fun z209 => bd (catS z209 (ByteArray.mk #[32, 111, 110, 32])) (fun z211 => bd (PF.spec_l1Num y35.pivot) (fun r213 => bd (catS z211 r213) (fun z215 => some (Lp.nx z215)))))))))))))))))) else bd (PF.spec_l1Num ((i36 : Nat) : Int)) (fun r240 => bd (catS s36 r240) (fun z242 => bd (catS z242 (ByteArray.mk #[58, 32])) (fun z244 => bd (PF.spec_l2Text y35.clause) (fun r246 => bd (catS z244 r246) (fun z248 => (bif (y35.left == (-1)) then bd (catS z248 (ByteArray.mk #[32, 97, 120, 105, 111, 109, 32])) (fun z254 => bd (PF.spec_l1Num y35.right) (fun r256 => bd (catS z254 r256) (fun z261 => some (Lp.nx z261)))) else (bif (y35.right == (-1)) then bd (catS z248 (ByteArray.mk #[32, 102, 114, 111, 109, 32])) (fun z264 => bd (PF.spec_l1Num y35.left) (fun r266 => bd (catS z264 r266) (fun z271 => some (Lp.nx z271)))) else bd (catS z248 (ByteArray.mk #[32, 102, 114, 111, 109, 32])) (fun z274 => bd (PF.spec_l1Num y35.left) (fun r276 => bd (catS z274 r276) (fun z278 => bd (catS z278 (ByteArray.mk #[32, 97, 110, 100, 32])) (fun z280 => bd (PF.spec_l1Num y35.right) (fun r282 => bd (catS z280 r282) (fun z284 => bd (catS z284 (ByteArray.mk #[32, 111, 110, 32])) (fun z286 => bd (PF.spec_l1Num y35.pivot) (fun r288 => bd (catS z286 r288) (fun z290 => some (Lp.nx z290))))))))))))))))))) (ByteArray.mk #[])) (fun s36 => some (s36, true)) (fun x36 => nomatch x36)))

def impl_within (a0 : Int) (a1 : Int) (a2 : Int) : Bool :=
  (bif (decide (a1 ≤ a0)) then (decide (a0 ≤ a2)) else false)

def impl_isLiteral (a0 : Int) (a1 : Int) : Bool :=
  (bif (!(a1 == 0)) then (PF.impl_within a1 (wr (-a0)) a0) else false)

def impl_abs (a0 : Int) : Int :=
  (mx a0 (wr (-a0)))

def impl_varsOk (a0 : Int) : Bool :=
  (PF.impl_within a0 0 12)

def impl_IsClause (a0 : Int) (a1 : List Int) : Option Bool :=
  bdR (forL (S := Unit) (X := Bool) a1 (fun i22 y21 s22 => bd (bif (!(PF.impl_isLiteral a0 y21)) then some true else bd (bif (decide (0 < ((i22 : Nat) : Int))) then bd (ix a1 (wr (((i22 : Nat) : Int) - 1))) (fun x192 => some (decide ((PF.impl_abs y21) ≤ (PF.impl_abs x192)))) else some false) (fun t179 => some t179)) (fun t164 => (bif t164 then some (Lp.rt false) else some (Lp.nx ())))) ()) (fun s22 => some (PF.impl_varsOk a0)) (fun x22 => some x22)

def impl_IsCnf (a0 : Cnf) : Option Bool :=
  bdR (forL (S := Unit) (X := Bool) a0.clauses (fun i30 y29 s30 => bd (PF.impl_IsClause a0.vars y29) (fun r71 => (bif (!r71) then some (Lp.rt false) else some (Lp.nx ())))) ()) (fun s30 => some (bif (PF.impl_varsOk a0.vars) then (decide ((len a0.clauses) ≤ 60)) else false)) (fun x30 => some x30)

def slices_Equal_int_int (a0 : List Int) (a1 : List Int) : Option Bool :=
  (bif (!((len a0) == (len a1))) then some false else bdR (forL (S := Unit) (X := Bool) a0 (fun i23 y22 s23 => bd (ix a1 ((i23 : Nat) : Int)) (fun x74 => (bif (!(y22 == x74)) then some (Lp.rt false) else some (Lp.nx ())))) ()) (fun s23 => some true) (fun x23 => some x23))

def impl_earlier (a0 : Cnf) (a1 : List ResStep) (a2 : Int) (a3 : Int) : Option ((List Int) × Bool) :=
  bd (bif (!(PF.impl_within a3 0 (wr (a2 - 1)))) then some true else bd (ix a1 a3) (fun x55 => bd (PF.impl_IsClause a0.vars x55.clause) (fun r59 => some (!r59)))) (fun t42 => (bif t42 then some ([], false) else bd (ix a1 a3) (fun x74 => some (x74.clause, true))))

def slices_IndexFunc_int_int (a0 : List Int) (a1 : Int → Option Bool) : Option Int :=
  bdR (forL (S := Unit) (X := Int) a0 (fun i22 y21 s22 => bd (a1 y21) (fun r64 => (bif r64 then some (Lp.rt ((i22 : Nat) : Int)) else some (Lp.nx ())))) ()) (fun s22 => some (-1)) (fun x22 => some x22)

def slices_ContainsFunc_int_int (a0 : List Int) (a1 : Int → Option Bool) : Option Bool :=
  bd (PF.slices_IndexFunc_int_int a0 a1) (fun r21 => some (decide (0 ≤ r21)))

def slices_Index_int_int (a0 : List Int) (a1 : Int) : Option Int :=
  bdR (forL (S := Unit) (X := Int) a0 (fun i22 y21 s22 => (bif (a1 == y21) then some (Lp.rt ((i22 : Nat) : Int)) else some (Lp.nx ()))) ()) (fun s22 => some (-1)) (fun x22 => some x22)

def slices_Contains_int_int (a0 : List Int) (a1 : Int) : Option Bool :=
  bd (PF.slices_Index_int_int a0 a1) (fun r21 => some (decide (0 ≤ r21)))

def impl_part_1 (a0 : Int) (b0 : List Int) : Option Bool :=
  bd (PF.slices_Contains_int_int b0 a0) (fun r21 => some (!r21))

def impl_part (a0 : List Int) (a1 : List Int) : Option Bool :=
  bd (PF.slices_ContainsFunc_int_int a0 (fun x0 => PF.impl_part_1 x0 a1)) (fun r29 => some (!r29))

def impl_isVar (a0 : Int) (a1 : Int) : Bool :=
  (PF.impl_within a1 1 a0)

def slices_Clone_int_int (a0 : List Int) : Option (List Int) :=
  bd (app [] a0) (fun xs30 => some xs30)

noncomputable def slices_DeleteFunc_int_int (a0 : List Int) (a1 : Int → Option Bool) : Option (List Int) :=
  bd (PF.slices_IndexFunc_int_int a0 a1) (fun r26 => (bif (r26 == (-1)) then some a0 else bdR (iter (S := ((List Int) × Int × Int)) (X := Empty) (fun s32 => (bif (decide (s32.2.2 < (len s32.1))) then bd (ix s32.1 s32.2.2) (fun x141 => bd (a1 x141) (fun r143 => (bif (!r143) then bd (ix s32.1 s32.2.1) (fun x160 => bd (put s32.1 s32.2.1 x141) (fun xs165 => some (Lp.nx (xs165, (wr (s32.2.1 + 1)), (wr (s32.2.2 + 1)))))) else some (Lp.nx (s32.1, s32.2.1, (wr (s32.2.2 + 1))))))) else some (Lp.bk (s32.1, s32.2.1, s32.2.2)))) (a0, r26, (wr (r26 + 1)))) (fun s32 => bd (cut s32.1 s32.2.1 (len s32.1)) (fun xs178 => bd (cut (clearL 0 s32.1 s32.2.1) 0 s32.2.1) (fun xs188 => some xs188))) (fun x32 => nomatch x32)))

def impl_withoutVar_1 (a0 : Int) (b0 : Int) : Bool :=
  ((PF.impl_abs a0) == b0)

noncomputable def impl_withoutVar (a0 : List Int) (a1 : Int) : Option (List Int) :=
  bd (PF.slices_Clone_int_int a0) (fun r29 => bd (PF.slices_DeleteFunc_int_int r29 (fun x0 => some (PF.impl_withoutVar_1 x0 a1))) (fun r39 => some r39))

def slices_Grow_int_int (a1 : Int) : Option (List Int) := if 0 ≤ a1 ∧ a1 ≤ lim then some [] else none

def slices_Concat_int_int (a0 : List (List Int)) : Option (List Int) :=
  bdR (forL (S := Int) (X := Empty) a0 (fun i22 y21 s22 => (bif (decide ((wr (s22 + (len y21))) < 0)) then none else some (Lp.nx (wr (s22 + (len y21)))))) 0) (fun s22 => bd (PF.slices_Grow_int_int s22) (fun r69 => bdR (forL (S := (List Int)) (X := Empty) a0 (fun i80 y79 s80 => bd (app s80 y79) (fun xs129 => some (Lp.nx xs129))) r69) (fun s80 => some s80) (fun x80 => nomatch x80))) (fun x22 => nomatch x22)

noncomputable def slices_SortFunc_int_int (a0 : List Int) (a1 : Int → Int → Option Int) : Option (List Int) := sortF a1 a0

def cmp_isNaN_int (a0 : Int) : Bool :=
  (!(a0 == a0))

def cmp_Compare_int (a0 : Int) (a1 : Int) : Int :=
  (bif (PF.cmp_isNaN_int a0) then (bif (PF.cmp_isNaN_int a1) then 0 else (-1)) else (bif (PF.cmp_isNaN_int a1) then 1 else (bif (decide (a0 < a1)) then (-1) else (bif (decide (a1 < a0)) then 1 else 0))))

def cmp_Or_int (a0 : List Int) : Option Int :=
  bdR (forL (S := Unit) (X := Int) a0 (fun i22 y21 s22 => (bif (!(y21 == 0)) then some (Lp.rt y21) else some (Lp.nx ()))) ()) (fun s22 => some 0) (fun x22 => some x22)

def impl_compareLiterals (a0 : Int) (a1 : Int) : Option Int :=
  bd (PF.cmp_Or_int [(PF.cmp_Compare_int (PF.impl_abs a0) (PF.impl_abs a1)), (PF.cmp_Compare_int a1 a0)]) (fun r43 => some r43)

def slices_Compact_int_int (a0 : List Int) : Option (List Int) := some (compactL a0)

noncomputable def impl_clause (a0 : List Int) : Option ((List Int) × Bool) :=
  bd (PF.slices_Clone_int_int a0) (fun r21 => bd (PF.slices_SortFunc_int_int r21 (fun x0 x1 => PF.impl_compareLiterals x0 x1)) (fun r31 => bd (PF.slices_Compact_int_int r31) (fun r39 => bdR (iter (S := Int) (X := ((List Int) × Bool)) (fun s49 => (bif (decide (s49 < (len r39))) then bd (ix r39 s49) (fun x94 => bd (ix r39 (wr (s49 - 1))) (fun x102 => (bif (x94 == (wr (-x102))) then some (Lp.rt ([], false)) else some (Lp.nx (wr (s49 + 1)))))) else some (Lp.bk s49))) 1) (fun s49 => some (r39, true)) (fun x49 => some x49))))

noncomputable def impl_resolve (a0 : List Int) (a1 : List Int) (a2 : Int) : Option ((List Int) × Bool) :=
  bd (PF.slices_Contains_int_int a0 a2) (fun r21 => bd (bif (!r21) then some true else bd (PF.slices_Contains_int_int a1 (wr (-a2))) (fun r38 => some (!r38))) (fun t31 => (bif t31 then some ([], false) else bd (PF.impl_withoutVar a0 a2) (fun r48 => bd (PF.impl_withoutVar a1 a2) (fun r58 => bd (PF.slices_Concat_int_int [r48, r58]) (fun r88 => bd (PF.impl_clause r88) (fun r105 => some (r105.1, r105.2))))))))

noncomputable def impl_correct (a0 : Cnf) (a1 : List ResStep) (a2 : Int) : Option Bool :=
  bd (ix a1 a2) (fun x35 => bd (PF.impl_IsClause a0.vars x35.clause) (fun r50 => (bif (!r50) then some false else (bif (x35.left == (-1)) then bd (bif (bif (x35.pivot == 0) then (PF.impl_within x35.right 0 (wr ((len a0.clauses) - 1))) else false) then bd (ix a0.clauses x35.right) (fun x93 => bd (PF.slices_Equal_int_int x93 x35.clause) (fun r97 => some r97)) else some false) (fun t80 => some t80) else bd (PF.impl_earlier a0 a1 a2 x35.left) (fun r103 => (bif (!r103.2) then some false else (bif (x35.right == (-1)) then bd (bif (x35.pivot == 0) then bd (PF.impl_part r103.1 x35.clause) (fun r125 => some r125) else some false) (fun t118 => some t118) else bd (PF.impl_earlier a0 a1 a2 x35.right) (fun r131 => (bif (bif (!r131.2) then true else (!(PF.impl_isVar a0.vars x35.pivot))) then some false else bd (PF.impl_resolve r103.1 r131.1 x35.pivot) (fun r157 => bd (bif r157.2 then bd (PF.slices_Equal_int_int r157.1 x35.clause) (fun r189 => some r189) else some false) (fun t177 => some t177)))))))))))

noncomputable def impl_firstWrong (a0 : Cnf) (a1 : List ResStep) : Option Int :=
  bdR (forL (S := Unit) (X := Int) a1 (fun i30 y29 s30 => bd (PF.impl_correct a0 a1 ((i30 : Nat) : Int)) (fun r55 => (bif (!r55) then some (Lp.rt ((i30 : Nat) : Int)) else some (Lp.nx ())))) ()) (fun s30 => some (-1)) (fun x30 => some x30)

noncomputable def impl_IsDerivation (a0 : Cnf) (a1 : List ResStep) : Option Bool :=
  bd (PF.impl_IsCnf a0) (fun r29 => bd (bif (bif r29 then (decide ((len a1) ≤ 200)) else false) then bd (PF.impl_firstWrong a0 a1) (fun r56 => some (decide (r56 < 0))) else some false) (fun t49 => some t49))

def strconv_Itoa (a0 : Int) : Option ByteArray := numS a0

def strings_Join (a0 : List ByteArray) (a1 : ByteArray) : Option ByteArray := joinS a0 a1

def impl_digits (a0 : List Int) (a1 : ByteArray) : Option ByteArray :=
  bd (mk2 (ByteArray.empty : ByteArray) (len a0) (len a0)) (fun xs21 => bdR (forL (S := (List ByteArray)) (X := Empty) a0 (fun i32 y31 s32 => bd (PF.strconv_Itoa y31) (fun r127 => bd (ix s32 ((i32 : Nat) : Int)) (fun x138 => bd (put s32 ((i32 : Nat) : Int) r127) (fun xs143 => some (Lp.nx xs143))))) xs21) (fun s32 => bd (PF.strings_Join s32 a1) (fun r161 => some r161)) (fun x32 => nomatch x32))

def impl_clauseText (a0 : List Int) : Option ByteArray :=
  (bif ((len a0) == 0) then some (ByteArray.mk #[110, 111, 110, 101]) else bd (PF.impl_digits a0 (ByteArray.mk #[32])) (fun r22 => some r22))

def impl_ResStep_isAxiom (a0 : ResStep) : Bool :=
  (decide (a0.left < 0))

def impl_ResStep_isWeakening (a0 : ResStep) : Bool :=
  (bif (decide (0 ≤ a0.left)) then (decide (a0.right < 0)) else false)

def impl_stepText (a0 : Int) (a1 : ResStep) : Option ByteArray :=
  bd (PF.strconv_Itoa a0) (fun r6029 => bd (catS r6029 (ByteArray.mk #[58, 32])) (fun z9029 => bd (PF.impl_clauseText a1.clause) (fun r18029 => bd (catS z9029 r18029) (fun z21029 => (bif (PF.impl_ResStep_isAxiom a1) then bd (catS z21029 (ByteArray.mk #[32, 97, 120, 105, 111, 109, 32])) (fun z30041 => bd (PF.strconv_Itoa a1.right) (fun r30043 => bd (catS z30041 r30043) (fun z30048 => some z30048))) else (bif (PF.impl_ResStep_isWeakening a1) then bd (catS z21029 (ByteArray.mk #[32, 102, 114, 111, 109, 32])) (fun z30054 => bd (PF.strconv_Itoa a1.left) (fun r30056 => bd (catS z30054 r30056) (fun z30061 => some z30061))) else bd (catS z21029 (ByteArray.mk #[32, 102, 114, 111, 109, 32])) (fun z30064 => bd (PF.strconv_Itoa a1.left) (fun r30066 => bd (catS z30064 r30066) (fun z30068 => bd (catS z30068 (ByteArray.mk #[32, 97, 110, 100, 32])) (fun z30070 => bd (PF.strconv_Itoa a1.right) (fun r30072 => bd (catS z30070 r30072) (fun z30074 => bd (catS z30074 (ByteArray.mk #[32, 111, 110, 32])) (fun z30076 => bd (PF.strconv_Itoa a1.pivot) (fun r30078 => bd (catS z30076 r30078) (fun z30080 => some z30080)))))))))))))))

noncomputable def impl_DerivationText (a0 : Cnf) (a1 : List ResStep) : Option (ByteArray × Bool) :=
  bd (PF.impl_IsDerivation a0 a1) (fun r29 => (bif (!r29) then some ((ByteArray.mk #[]), false) else bdR (forL (S := (List ByteArray)) (X := Empty) a1 (fun i36 y35 s36 => bd (PF.impl_stepText ((i36 : Nat) : Int) y35) (fun r118 => bd (app s36 [r118]) (fun xs128 => some (Lp.nx xs128)))) []) (fun s36 => bd (PF.strings_Join s36 (ByteArray.mk #[59, 32])) (fun r151 => some (r151, true))) (fun x36 => nomatch x36)))

def laws_eqIntS (a0 : List Int) (a1 : List Int) : Option Bool :=
  (bif (!((len a0) == (len a1))) then some false else bdR (forL (S := Unit) (X := Bool) a0 (fun i23 y22 s23 => bd (ix a1 ((i23 : Nat) : Int)) (fun x72 => (bif (!(y22 == x72)) then some (Lp.rt false) else some (Lp.nx ())))) ()) (fun s23 => some true) (fun x23 => some x23))

def laws_eqIntSS (a0 : List (List Int)) (a1 : List (List Int)) : Option Bool :=
  (bif (!((len a0) == (len a1))) then some false else bdR (forL (S := Unit) (X := Bool) a0 (fun i23 y22 s23 => bd (ix a1 ((i23 : Nat) : Int)) (fun x80 => bd (PF.laws_eqIntS y22 x80) (fun r84 => (bif (!r84) then some (Lp.rt false) else some (Lp.nx ()))))) ()) (fun s23 => some true) (fun x23 => some x23))

def laws_eqCnf (a0 : Cnf) (a1 : Cnf) : Option Bool :=
  (bif (!(a0.vars == a1.vars)) then some false else bd (PF.laws_eqIntSS a0.clauses a1.clauses) (fun r38 => (bif (!r38) then some false else some true)))

def laws_eqResStep (a0 : ResStep) (a1 : ResStep) : Option Bool :=
  bd (PF.laws_eqIntS a0.clause a1.clause) (fun r37 => (bif (!r37) then some false else (bif (!(a0.left == a1.left)) then some false else (bif (!(a0.right == a1.right)) then some false else (bif (!(a0.pivot == a1.pivot)) then some false else some true)))))

def laws_eqResStepS (a0 : List ResStep) (a1 : List ResStep) : Option Bool :=
  (bif (!((len a0) == (len a1))) then some false else bdR (forL (S := Unit) (X := Bool) a0 (fun i23 y22 s23 => bd (ix a1 ((i23 : Nat) : Int)) (fun x80 => bd (PF.laws_eqResStep y22 x80) (fun r84 => (bif (!r84) then some (Lp.rt false) else some (Lp.nx ()))))) ()) (fun s23 => some true) (fun x23 => some x23))

noncomputable def laws_FnExactDerivationText (a0 : Cnf) (a1 : List ResStep) : Option Bool :=
  bd (PF.laws_szCnf a0 1048576) (fun r29 => (bif (decide (r29 < 0)) then some true else bd (PF.laws_szResStepS a1 r29) (fun r36 => (bif (decide (r36 < 0)) then some true else bd (PF.laws_toCnf a0) (fun r43 => bd (PF.laws_toResStepS a1) (fun r56 => bd (PF.spec_DerivationText r43 r56) (fun r75 => bd (PF.laws_toCnf a0) (fun r81 => bd (PF.laws_toResStepS a1) (fun r106 => bd (PF.impl_DerivationText r81 r106) (fun r125 => (bif (bif (!(r125.1.toList == r75.1.toList)) then true else (!(r125.2 == r75.2))) then some false else bd (PF.laws_toCnf a0) (fun r9144 => bd (PF.laws_eqCnf r81 r9144) (fun r12144 => (bif (!r12144) then some false else bd (PF.laws_toResStepS a1) (fun r21154 => bd (PF.laws_eqResStepS r106 r21154) (fun r21173 => (bif (!r21173) then some false else some true)))))))))))))))))

end Go.PF
