/- Part of the walks and plain laws behind the claim: it proves helpers, under no condition beyond their own. -/
import Derived.Test.YtikmcenkjiebmaaGreatDoorErLB
set_option linter.unusedVariables false
namespace Go.PF
open Go.Pu

structure Cnf where
  vars : Int
  clauses : List (List Int)
def okCnf (s : Cnf) : Prop := okI s.vars ∧ (okL (okL okI)) s.clauses

structure Record where
  name : ByteArray
  system : Int
  size : Int
  extra : Int
def okRecord (s : Record) : Prop := okS s.name ∧ okI s.system ∧ okI s.size ∧ okI s.extra

structure ResStep where
  clause : List Int
  left : Int
  right : Int
  pivot : Int
def okResStep (s : ResStep) : Prop := (okL okI) s.clause ∧ okI s.left ∧ okI s.right ∧ okI s.pivot

def laws_szRecord (a0 : Record) (a1 : Int) : Int :=
  (bif (decide ((wr (a1 - (a0.name.size : Int))) < 0)) then (-1) else (wr (a1 - (a0.name.size : Int))))

def laws_szRecordS (a0 : List Record) (a1 : Int) : Option Int :=
  (bif (decide ((wr (a1 - (len a0))) < 0)) then some (-1) else bdR (forL (S := Int) (X := Int) a0 (fun i23 y22 s23 => (bif (decide ((PF.laws_szRecord y22 s23) < 0)) then some (Lp.rt (-1)) else some (Lp.nx (PF.laws_szRecord y22 s23)))) (wr (a1 - (len a0)))) (fun s23 => some s23) (fun x23 => some x23))

def laws_szIntS (a0 : List Int) (a1 : Int) : Int :=
  (bif (decide ((wr (a1 - (len a0))) < 0)) then (-1) else (wr (a1 - (len a0))))

def laws_szIntSS (a0 : List (List Int)) (a1 : Int) : Option Int :=
  (bif (decide ((wr (a1 - (len a0))) < 0)) then some (-1) else bdR (forL (S := Int) (X := Int) a0 (fun i23 y22 s23 => (bif (decide ((PF.laws_szIntS y22 s23) < 0)) then some (Lp.rt (-1)) else some (Lp.nx (PF.laws_szIntS y22 s23)))) (wr (a1 - (len a0)))) (fun s23 => some s23) (fun x23 => some x23))

def laws_szCnf (a0 : Cnf) (a1 : Int) : Option Int :=
  bd (PF.laws_szIntSS a0.clauses a1) (fun r29 => (bif (decide (r29 < 0)) then some (-1) else some r29))

def laws_szResStep (a0 : ResStep) (a1 : Int) : Int :=
  (bif (decide ((PF.laws_szIntS a0.clause a1) < 0)) then (-1) else (PF.laws_szIntS a0.clause a1))

def laws_szResStepS (a0 : List ResStep) (a1 : Int) : Option Int :=
  (bif (decide ((wr (a1 - (len a0))) < 0)) then some (-1) else bdR (forL (S := Int) (X := Int) a0 (fun i23 y22 s23 => (bif (decide ((PF.laws_szResStep y22 s23) < 0)) then some (Lp.rt (-1)) else some (Lp.nx (PF.laws_szResStep y22 s23)))) (wr (a1 - (len a0)))) (fun s23 => some s23) (fun x23 => some x23))

def laws_toRecord (a0 : Record) : Record :=
  a0

def laws_toRecordS (a0 : List Record) : Option (List Record) :=
  bd (mk2 ((Record.mk ByteArray.empty 0 0 0) : Record) (len a0) (len a0)) (fun xs21 => bdR (forL (S := (List Record)) (X := Empty) a0 (fun i32 y31 s32 => bd (ix s32 ((i32 : Nat) : Int)) (fun x126 => bd (put s32 ((i32 : Nat) : Int) (PF.laws_toRecord y31)) (fun xs131 => some (Lp.nx xs131)))) xs21) (fun s32 => some s32) (fun x32 => nomatch x32))

def laws_toIntS (a0 : List Int) : Option (List Int) :=
  bd (mk2 (0 : Int) (len a0) (len a0)) (fun xs21 => bdR (forL (S := (List Int)) (X := Empty) a0 (fun i32 y31 s32 => bd (ix s32 ((i32 : Nat) : Int)) (fun x117 => bd (put s32 ((i32 : Nat) : Int) y31) (fun xs122 => some (Lp.nx xs122)))) xs21) (fun s32 => some s32) (fun x32 => nomatch x32))

def laws_toIntSS (a0 : List (List Int)) : Option (List (List Int)) :=
  bd (mk2 ([] : List Int) (len a0) (len a0)) (fun xs21 => bdR (forL (S := (List (List Int))) (X := Empty) a0 (fun i33 y32 s33 => bd (PF.laws_toIntS y32) (fun r155 => bd (ix s33 ((i33 : Nat) : Int)) (fun x171 => bd (put s33 ((i33 : Nat) : Int) r155) (fun xs183 => some (Lp.nx xs183))))) xs21) (fun s33 => some s33) (fun x33 => nomatch x33))

def laws_toCnf (a0 : Cnf) : Option Cnf :=
  bd (PF.laws_toIntSS a0.clauses) (fun r40 => some (Cnf.mk a0.vars r40))

def laws_toResStep (a0 : ResStep) : Option ResStep :=
  bd (PF.laws_toIntS a0.clause) (fun r37 => some (ResStep.mk r37 a0.left a0.right a0.pivot))

def laws_toResStepS (a0 : List ResStep) : Option (List ResStep) :=
  bd (mk2 ((ResStep.mk [] 0 0 0) : ResStep) (len a0) (len a0)) (fun xs21 => bdR (forL (S := (List ResStep)) (X := Empty) a0 (fun i33 y32 s33 => bd (PF.laws_toResStep y32) (fun r143 => bd (ix s33 ((i33 : Nat) : Int)) (fun x158 => bd (put s33 ((i33 : Nat) : Int) r143) (fun xs165 => some (Lp.nx xs165))))) xs21) (fun s33 => some s33) (fun x33 => nomatch x33))

def spec_l1In (a0 : Int) (a1 : Int) (a2 : Int) : Bool :=
  (bif (decide (a1 ≤ a0)) then (decide (a0 ≤ a2)) else false)

def spec_l31Name (a0 : ByteArray) : Option Bool :=
  (bif (!(PF.spec_l1In (a0.size : Int) 1 12)) then some false else bd (chk (a0.size : Int)) (fun m25 => bdR (forR (S := Unit) (X := Bool) 0 m25 (fun i26 s26 => bd (ixS a0 ((i26 : Nat) : Int)) (fun z102 => bd (bif (decide (z102 < 97)) then some true else bd (ixS a0 ((i26 : Nat) : Int)) (fun z113 => some (decide (122 < z113)))) (fun t106 => bd (bif t106 then bd (ixS a0 ((i26 : Nat) : Int)) (fun z142 => bd (bif (decide (z142 < 48)) then some true else bd (ixS a0 ((i26 : Nat) : Int)) (fun z153 => some (decide (57 < z153)))) (fun t146 => some t146)) else some false) (fun t135 => (bif t135 then some (Lp.rt false) else some (Lp.nx ())))))) ()) (fun s26 => some true) (fun x26 => some x26)))

def spec_l31System (a0 : Int) : Bool :=
  (PF.spec_l1In a0 1 4)

def spec_l31Before (a0 : Record) (a1 : ByteArray) (a2 : Int) : Bool :=
  (bif (ltS a0.name a1) then true else (bif (a0.name.toList == a1.toList) then (decide (a0.system < a2)) else false))

def spec_l31Good (a0 : List Record) : Option Bool :=
  (bif (decide (24 < (len a0))) then some false else bdR (forL (S := Unit) (X := Bool) a0 (fun i23 y22 s23 => bd (PF.spec_l31Name y22.name) (fun r160 => (bif (bif (bif (bif (!r160) then true else (!(PF.spec_l31System y22.system))) then true else (!(PF.spec_l1In y22.size 1 9999))) then true else (!(PF.spec_l1In y22.extra 0 9999))) then some (Lp.rt false) else bd (bif (decide (0 < ((i23 : Nat) : Int))) then bd (ix a0 (wr (((i23 : Nat) : Int) - 1))) (fun x239 => some (!(PF.spec_l31Before x239 y22.name y22.system))) else some false) (fun t226 => (bif t226 then some (Lp.rt false) else some (Lp.nx ())))))) ()) (fun s23 => some true) (fun x23 => some x23))

def spec_l31Takes (a0 : List Record) (a1 : ByteArray) : Option Bool :=
  bd (PF.spec_l31Good a0) (fun r21 => bd (bif r21 then bd (PF.spec_l31Name a1) (fun r38 => some r38) else some false) (fun t31 => some t31))

def spec_l2Vars (a0 : Int) : Bool :=
  (PF.spec_l1In a0 0 12)

def spec_l2Lit (a0 : Int) (a1 : Int) : Bool :=
  (bif (PF.spec_l1In a1 (wr (-a0)) a0) then (!(a1 == 0)) else false)

def spec_l2Var (a0 : Int) : Int :=
  (bif (decide (a0 < 0)) then (wr (-a0)) else a0)

def spec_l2Clause (a0 : Int) (a1 : List Int) : Option Bool :=
  (bif (!(PF.spec_l2Vars a0)) then some false else bdR (forL (S := Unit) (X := Bool) a1 (fun i26 y25 s26 => bd (bif (!(PF.spec_l2Lit a0 y25)) then some true else bd (bif (decide (0 < ((i26 : Nat) : Int))) then bd (ix a1 (wr (((i26 : Nat) : Int) - 1))) (fun x226 => some (decide ((PF.spec_l2Var y25) ≤ (PF.spec_l2Var x226)))) else some false) (fun t213 => some t213)) (fun t192 => (bif t192 then some (Lp.rt false) else some (Lp.nx ())))) ()) (fun s26 => some true) (fun x26 => some x26))

noncomputable def spec_l2Good (a0 : Cnf) : Option Bool :=
  (bif (bif (!(PF.spec_l2Vars a0.vars)) then true else (decide (60 < (len a0.clauses)))) then some false else bdR (iter (S := Int) (X := Bool) (fun s42 => (bif (decide (s42 < (len a0.clauses))) then bd (ix a0.clauses s42) (fun x83 => bd (PF.spec_l2Clause a0.vars x83) (fun r87 => (bif (!r87) then some (Lp.rt false) else some (Lp.nx (wr (s42 + 1)))))) else some (Lp.bk s42))) 0) (fun s42 => some true) (fun x42 => some x42))

noncomputable def spec_l7Asked (a0 : Cnf) (a1 : List ResStep) : Option Bool :=
  bd (bif (decide ((len a1) ≤ 200)) then bd (PF.spec_l2Good a0) (fun r41 => some r41) else some false) (fun t34 => some t34)

def spec_l1Same (a0 : List Int) (a1 : List Int) : Option Bool :=
  (bif (!((len a0) == (len a1))) then some false else bdR (forL (S := Unit) (X := Bool) a0 (fun i23 y22 s23 => bd (ix a1 ((i23 : Nat) : Int)) (fun x72 => (bif (!(y22 == x72)) then some (Lp.rt false) else some (Lp.nx ())))) ()) (fun s23 => some true) (fun x23 => some x23))

def spec_l7Clause (a0 : Cnf) (a1 : List ResStep) (a2 : Int) (a3 : Int) : Option Bool :=
  bd (bif (PF.spec_l1In a3 0 (wr (a2 - 1))) then bd (ix a1 a3) (fun x55 => bd (PF.spec_l2Clause a0.vars x55.clause) (fun r59 => some r59)) else some false) (fun t42 => some t42)

def spec_l1Has (a0 : List Int) (a1 : Int) : Option Bool :=
  bdR (forL (S := Unit) (X := Bool) a0 (fun i22 y21 s22 => (bif (y21 == a1) then some (Lp.rt true) else some (Lp.nx ()))) ()) (fun s22 => some false) (fun x22 => some x22)

def spec_l2Has (a0 : List Int) (a1 : Int) : Option Bool :=
  bd (PF.spec_l1Has a0 a1) (fun r21 => some r21)

def spec_l2Sub (a0 : List Int) (a1 : List Int) : Option Bool :=
  bdR (forL (S := Unit) (X := Bool) a0 (fun i22 y21 s22 => bd (PF.spec_l2Has a1 y21) (fun r57 => (bif (!r57) then some (Lp.rt false) else some (Lp.nx ())))) ()) (fun s22 => some true) (fun x22 => some x22)

def spec_l2Without (a0 : List Int) (a1 : Int) : Option (List Int) :=
  bdR (forL (S := (List Int)) (X := Empty) a0 (fun i27 y26 s27 => (bif (!((PF.spec_l2Var y26) == a1)) then bd (app s27 [y26]) (fun xs103 => some (Lp.nx xs103)) else some (Lp.nx s27))) []) (fun s27 => some s27) (fun x27 => nomatch x27)

def spec_l1Own (a0 : List Int) : Option (List Int) :=
  bd (app [] a0) (fun xs26 => some xs26)

noncomputable def spec_l2Put (a0 : List Int) (a1 : Int) : Option (List Int) :=
  bdR (iter (S := Int) (X := Empty) (fun s21 => bd (bif (decide (s21 < (len a0))) then bd (ix a0 s21) (fun x105 => some (decide ((PF.spec_l2Var x105) < (PF.spec_l2Var a1)))) else some false) (fun t92 => (bif t92 then some (Lp.nx (wr (s21 + 1))) else some (Lp.bk s21)))) 0) (fun s21 => bd (cut a0 0 s21) (fun xs9127 => bd (PF.spec_l1Own xs9127) (fun r12127 => bd (app r12127 [a1]) (fun xs21127 => bd (cut a0 s21 (len a0)) (fun xs30127 => bd (app xs21127 xs30127) (fun xs33127 => some xs33127)))))) (fun x21 => nomatch x21)

noncomputable def spec_l2Join (a0 : List Int) (a1 : List Int) : Option ((List Int) × Bool) :=
  bd (PF.spec_l1Own a0) (fun r21 => bdR (forL (S := (List Int)) (X := ((List Int) × Bool)) a1 (fun i32 y31 s32 => bd (PF.spec_l2Has s32 (wr (-y31))) (fun r200 => (bif r200 then some (Lp.rt ([], false)) else bd (PF.spec_l2Has s32 y31) (fun r222 => (bif (!r222) then bd (PF.spec_l2Put s32 y31) (fun r239 => some (Lp.nx r239)) else some (Lp.nx s32)))))) r21) (fun s32 => some (s32, true)) (fun x32 => some x32))

noncomputable def spec_l2Resolve (a0 : List Int) (a1 : List Int) (a2 : Int) : Option ((List Int) × Bool) :=
  bd (PF.spec_l2Has a0 a2) (fun r21 => bd (bif (!r21) then some true else bd (PF.spec_l2Has a1 (wr (-a2))) (fun r38 => some (!r38))) (fun t31 => (bif t31 then some ([], false) else bd (PF.spec_l2Without a0 a2) (fun r53 => bd (PF.spec_l2Without a1 a2) (fun r63 => bd (PF.spec_l2Join r53 r63) (fun r83 => some (r83.1, r83.2)))))))

noncomputable def spec_l7Correct (a0 : Cnf) (a1 : List ResStep) (a2 : Int) : Option Bool :=
  bd (ix a1 a2) (fun x35 => bd (PF.spec_l2Clause a0.vars x35.clause) (fun r50 => (bif (!r50) then some false else (bif (x35.left == (-1)) then bd (bif (bif (x35.pivot == 0) then (PF.spec_l1In x35.right 0 (wr ((len a0.clauses) - 1))) else false) then bd (ix a0.clauses x35.right) (fun x93 => bd (PF.spec_l1Same x93 x35.clause) (fun r97 => some r97)) else some false) (fun t80 => some t80) else bd (PF.spec_l7Clause a0 a1 a2 x35.left) (fun r103 => (bif (!r103) then some false else (bif (x35.right == (-1)) then bd (bif (x35.pivot == 0) then bd (ix a1 x35.left) (fun x136 => bd (PF.spec_l2Sub x136.clause x35.clause) (fun r140 => some r140)) else some false) (fun t123 => some t123) else bd (PF.spec_l7Clause a0 a1 a2 x35.right) (fun r146 => (bif (bif (!r146) then true else (!(PF.spec_l1In x35.pivot 1 a0.vars))) then some false else bd (ix a1 x35.left) (fun x12174 => bd (ix a1 x35.right) (fun x30174 => bd (PF.spec_l2Resolve x12174.clause x30174.clause x35.pivot) (fun r45168 => bd (bif r45168.2 then bd (PF.spec_l1Same r45168.1 x35.clause) (fun r66203 => some r66203) else some false) (fun t66191 => some t66191)))))))))))))

noncomputable def spec_l7Wrong (a0 : Cnf) (a1 : List ResStep) : Option Int :=
  bdR (forL (S := Unit) (X := Int) a1 (fun i30 y29 s30 => bd (PF.spec_l7Correct a0 a1 ((i30 : Nat) : Int)) (fun r53 => (bif (!r53) then some (Lp.rt ((i30 : Nat) : Int)) else some (Lp.nx ())))) ()) (fun s30 => some (-1)) (fun x30 => some x30)

noncomputable def spec_l7Good (a0 : Cnf) (a1 : List ResStep) : Option Bool :=
  bd (PF.spec_l7Asked a0 a1) (fun r29 => bd (bif r29 then bd (PF.spec_l7Wrong a0 a1) (fun r46 => some (decide (r46 < 0))) else some false) (fun t39 => some t39))

def spec_l7Last (a0 : List ResStep) : Option (List Int) :=
  bd (ix a0 (wr ((len a0) - 1))) (fun x27 => some x27.clause)

noncomputable def spec_l7Refutes (a0 : Cnf) (a1 : List ResStep) : Option Bool :=
  bd (PF.spec_l7Good a0 a1) (fun r29 => bd (bif (bif r29 then (decide (0 < (len a1))) else false) then bd (PF.spec_l7Last a1) (fun r58 => some ((len r58) == 0)) else some false) (fun t51 => some t51))

def spec_l1Most (a0 : Int) (a1 : Int) : Int :=
  (bif (decide (a1 < a0)) then a0 else a1)

def spec_l31Width (a0 : List ResStep) : Option Int :=
  bdR (forL (S := Int) (X := Empty) a0 (fun i22 y21 s22 => some (Lp.nx (PF.spec_l1Most s22 (len y21.clause)))) 0) (fun s22 => some s22) (fun x22 => nomatch x22)

noncomputable def spec_l31Enter (a0 : List Record) (a1 : Record) : Option ((List Record) × Bool) :=
  bdR (iter (S := Int) (X := Empty) (fun s29 => bd (bif (decide (s29 < (len a0))) then bd (ix a0 s29) (fun x100 => some (PF.spec_l31Before x100 a1.name a1.system)) else some false) (fun t87 => (bif t87 then some (Lp.nx (wr (s29 + 1))) else some (Lp.bk s29)))) 0) (fun s29 => bd (cut a0 0 s29) (fun xs124 => bd (app [] xs124) (fun xs129 => bd (bif (decide (s29 < (len a0))) then bd (ix a0 s29) (fun x161 => some (x161.name.toList == a1.name.toList)) else some false) (fun t148 => bd (bif t148 then bd (ix a0 s29) (fun x189 => some (x189.system == a1.system)) else some false) (fun t176 => bdR (S := (List Record)) (X := Empty) ((bif t176 then bd (ix a0 s29) (fun x69316 => bdR (S := (ByteArray × Int × Int × Int)) (X := Empty) ((bif (bif (decide (a1.size < x69316.size)) then true else (bif (x69316.size == a1.size) then (decide (a1.extra < x69316.extra)) else false)) then some (Rs.go (a1.name, a1.system, a1.size, a1.extra)) else some (Rs.go (x69316.name, x69316.system, x69316.size, x69316.extra)))) (fun s69378 => bd (app xs129 [(Record.mk s69378.1 s69378.2.1 s69378.2.2.1 s69378.2.2.2)]) (fun xs81404 => bd (cut a0 (wr (s29 + 1)) (len a0)) (fun xs93404 => bd (app xs81404 xs93404) (fun xs96404 => some (Rs.go xs96404))))) (fun x69380 => nomatch x69380)) else bd (app xs129 [a1]) (fun xs117415 => bd (cut a0 s29 (len a0)) (fun xs126415 => bd (app xs117415 xs126415) (fun xs129415 => some (Rs.go xs129415)))))) (fun s69302 => bd (PF.spec_l31Good s69302) (fun r138437 => (bif (!r138437) then some ([], false) else some (s69302, true)))) (fun x69304 => nomatch x69304)))))) (fun x29 => nomatch x29)

noncomputable def spec_EnterResolution (a0 : List Record) (a1 : ByteArray) (a2 : Cnf) (a3 : List ResStep) : Option ((List Record) × Bool) :=
  bd (PF.spec_l31Takes a0 a1) (fun r29 => bd (bif (!r29) then some true else bd (PF.spec_l7Refutes a2 a3) (fun r46 => some (!r46))) (fun t39 => (bif t39 then some ([], false) else bd (PF.spec_l31Width a3) (fun r61 => bd (PF.spec_l31Enter a0 (Record.mk a1 1 (len a3) r61)) (fun r66 => some (r66.1, r66.2))))))

def impl_within (a0 : Int) (a1 : Int) (a2 : Int) : Bool :=
  (bif (decide (a1 ≤ a0)) then (decide (a0 ≤ a2)) else false)

def impl_isLiteral (a0 : Int) (a1 : Int) : Bool :=
  (bif (!(a1 == 0)) then (PF.impl_within a1 (wr (-a0)) a0) else false)

def impl_abs (a0 : Int) : Int :=
  (mx a0 (wr (-a0)))

def impl_varsOk (a0 : Int) : Bool :=
  (PF.impl_within a0 0 12)

def impl_IsClause (a0 : Int) (a1 : List Int) : Option Bool :=
  bdR (forL (S := Unit) (X := Bool) a1 (fun i22 y21 s22 => bd (bif (!(PF.impl_isLiteral a0 y21)) then some true else bd (bif (decide (0 < ((i22 : Nat) : Int))) then bd (ix a1 (wr (((i22 : Nat) : Int) - 1))) (fun x192 => some (decide ((PF.impl_abs y21) ≤ (PF.impl_abs x192)))) else some false) (fun t179 => some t179)) (fun t164 => (bif t164 then some (Lp.rt false) else some (Lp.nx ())))) ()) (fun s22 => some (PF.impl_varsOk a0)) (fun x22 => some x22)

def impl_IsCnf (a0 : Cnf) : Option Bool :=
  bdR (forL (S := Unit) (X := Bool) a0.clauses (fun i30 y29 s30 => bd (PF.impl_IsClause a0.vars y29) (fun r71 => (bif (!r71) then some (Lp.rt false) else some (Lp.nx ())))) ()) (fun s30 => some (bif (PF.impl_varsOk a0.vars) then (decide ((len a0.clauses) ≤ 60)) else false)) (fun x30 => some x30)

def slices_Equal_int_int (a0 : List Int) (a1 : List Int) : Option Bool :=
  (bif (!((len a0) == (len a1))) then some false else bdR (forL (S := Unit) (X := Bool) a0 (fun i23 y22 s23 => bd (ix a1 ((i23 : Nat) : Int)) (fun x74 => (bif (!(y22 == x74)) then some (Lp.rt false) else some (Lp.nx ())))) ()) (fun s23 => some true) (fun x23 => some x23))

def impl_earlier (a0 : Cnf) (a1 : List ResStep) (a2 : Int) (a3 : Int) : Option ((List Int) × Bool) :=
  bd (bif (!(PF.impl_within a3 0 (wr (a2 - 1)))) then some true else bd (ix a1 a3) (fun x55 => bd (PF.impl_IsClause a0.vars x55.clause) (fun r59 => some (!r59)))) (fun t42 => (bif t42 then some ([], false) else bd (ix a1 a3) (fun x74 => some (x74.clause, true))))

def slices_IndexFunc_int_int (a0 : List Int) (a1 : Int → Option Bool) : Option Int :=
  bdR (forL (S := Unit) (X := Int) a0 (fun i22 y21 s22 => bd (a1 y21) (fun r64 => (bif r64 then some (Lp.rt ((i22 : Nat) : Int)) else some (Lp.nx ())))) ()) (fun s22 => some (-1)) (fun x22 => some x22)

def slices_ContainsFunc_int_int (a0 : List Int) (a1 : Int → Option Bool) : Option Bool :=
  bd (PF.slices_IndexFunc_int_int a0 a1) (fun r21 => some (decide (0 ≤ r21)))

def slices_Index_int_int (a0 : List Int) (a1 : Int) : Option Int :=
  bdR (forL (S := Unit) (X := Int) a0 (fun i22 y21 s22 => (bif (a1 == y21) then some (Lp.rt ((i22 : Nat) : Int)) else some (Lp.nx ()))) ()) (fun s22 => some (-1)) (fun x22 => some x22)

def slices_Contains_int_int (a0 : List Int) (a1 : Int) : Option Bool :=
  bd (PF.slices_Index_int_int a0 a1) (fun r21 => some (decide (0 ≤ r21)))

def impl_part_1 (a0 : Int) (b0 : List Int) : Option Bool :=
  bd (PF.slices_Contains_int_int b0 a0) (fun r21 => some (!r21))

def impl_part (a0 : List Int) (a1 : List Int) : Option Bool :=
  bd (PF.slices_ContainsFunc_int_int a0 (fun x0 => PF.impl_part_1 x0 a1)) (fun r29 => some (!r29))

def impl_isVar (a0 : Int) (a1 : Int) : Bool :=
  (PF.impl_within a1 1 a0)

def slices_Clone_int_int (a0 : List Int) : Option (List Int) :=
  bd (app [] a0) (fun xs30 => some xs30)

noncomputable def slices_DeleteFunc_int_int (a0 : List Int) (a1 : Int → Option Bool) : Option (List Int) :=
  bd (PF.slices_IndexFunc_int_int a0 a1) (fun r26 => (bif (r26 == (-1)) then some a0 else bdR (iter (S := ((List Int) × Int × Int)) (X := Empty) (fun s32 => (bif (decide (s32.2.2 < (len s32.1))) then bd (ix s32.1 s32.2.2) (fun x141 => bd (a1 x141) (fun r143 => (bif (!r143) then bd (ix s32.1 s32.2.1) (fun x160 => bd (put s32.1 s32.2.1 x141) (fun xs165 => some (Lp.nx (xs165, (wr (s32.2.1 + 1)), (wr (s32.2.2 + 1)))))) else some (Lp.nx (s32.1, s32.2.1, (wr (s32.2.2 + 1))))))) else some (Lp.bk (s32.1, s32.2.1, s32.2.2)))) (a0, r26, (wr (r26 + 1)))) (fun s32 => bd (cut s32.1 s32.2.1 (len s32.1)) (fun xs178 => bd (cut (clearL 0 s32.1 s32.2.1) 0 s32.2.1) (fun xs188 => some xs188))) (fun x32 => nomatch x32)))

def impl_withoutVar_1 (a0 : Int) (b0 : Int) : Bool :=
  ((PF.impl_abs a0) == b0)

noncomputable def impl_withoutVar (a0 : List Int) (a1 : Int) : Option (List Int) :=
  bd (PF.slices_Clone_int_int a0) (fun r29 => bd (PF.slices_DeleteFunc_int_int r29 (fun x0 => some (PF.impl_withoutVar_1 x0 a1))) (fun r39 => some r39))

def slices_Grow_int_int (a1 : Int) : Option (List Int) := if 0 ≤ a1 ∧ a1 ≤ lim then some [] else none

def slices_Concat_int_int (a0 : List (List Int)) : Option (List Int) :=
  bdR (forL (S := Int) (X := Empty) a0 (fun i22 y21 s22 => (bif (decide ((wr (s22 + (len y21))) < 0)) then none else some (Lp.nx (wr (s22 + (len y21)))))) 0) (fun s22 => bd (PF.slices_Grow_int_int s22) (fun r69 => bdR (forL (S := (List Int)) (X := Empty) a0 (fun i80 y79 s80 => bd (app s80 y79) (fun xs129 => some (Lp.nx xs129))) r69) (fun s80 => some s80) (fun x80 => nomatch x80))) (fun x22 => nomatch x22)

noncomputable def slices_SortFunc_int_int (a0 : List Int) (a1 : Int → Int → Option Int) : Option (List Int) := sortF a1 a0

def cmp_isNaN_int (a0 : Int) : Bool :=
  (!(a0 == a0))

def cmp_Compare_int (a0 : Int) (a1 : Int) : Int :=
  (bif (PF.cmp_isNaN_int a0) then (bif (PF.cmp_isNaN_int a1) then 0 else (-1)) else (bif (PF.cmp_isNaN_int a1) then 1 else (bif (decide (a0 < a1)) then (-1) else (bif (decide (a1 < a0)) then 1 else 0))))

def cmp_Or_int (a0 : List Int) : Option Int :=
  bdR (forL (S := Unit) (X := Int) a0 (fun i22 y21 s22 => (bif (!(y21 == 0)) then some (Lp.rt y21) else some (Lp.nx ()))) ()) (fun s22 => some 0) (fun x22 => some x22)

def impl_compareLiterals (a0 : Int) (a1 : Int) : Option Int :=
  bd (PF.cmp_Or_int [(PF.cmp_Compare_int (PF.impl_abs a0) (PF.impl_abs a1)), (PF.cmp_Compare_int a1 a0)]) (fun r43 => some r43)

def slices_Compact_int_int (a0 : List Int) : Option (List Int) := some (compactL a0)

noncomputable def impl_clause (a0 : List Int) : Option ((List Int) × Bool) :=
  bd (PF.slices_Clone_int_int a0) (fun r21 => bd (PF.slices_SortFunc_int_int r21 (fun x0 x1 => PF.impl_compareLiterals x0 x1)) (fun r31 => bd (PF.slices_Compact_int_int r31) (fun r39 => bdR (iter (S := Int) (X := ((List Int) × Bool)) (fun s49 => (bif (decide (s49 < (len r39))) then bd (ix r39 s49) (fun x94 => bd (ix r39 (wr (s49 - 1))) (fun x102 => (bif (x94 == (wr (-x102))) then some (Lp.rt ([], false)) else some (Lp.nx (wr (s49 + 1)))))) else some (Lp.bk s49))) 1) (fun s49 => some (r39, true)) (fun x49 => some x49))))

noncomputable def impl_resolve (a0 : List Int) (a1 : List Int) (a2 : Int) : Option ((List Int) × Bool) :=
  bd (PF.slices_Contains_int_int a0 a2) (fun r21 => bd (bif (!r21) then some true else bd (PF.slices_Contains_int_int a1 (wr (-a2))) (fun r38 => some (!r38))) (fun t31 => (bif t31 then some ([], false) else bd (PF.impl_withoutVar a0 a2) (fun r48 => bd (PF.impl_withoutVar a1 a2) (fun r58 => bd (PF.slices_Concat_int_int [r48, r58]) (fun r91 => bd (PF.impl_clause r91) (fun r108 => some (r108.1, r108.2))))))))

noncomputable def impl_correct (a0 : Cnf) (a1 : List ResStep) (a2 : Int) : Option Bool :=
  bd (ix a1 a2) (fun x35 => bd (PF.impl_IsClause a0.vars x35.clause) (fun r50 => (bif (!r50) then some false else (bif (x35.left == (-1)) then bd (bif (bif (x35.pivot == 0) then (PF.impl_within x35.right 0 (wr ((len a0.clauses) - 1))) else false) then bd (ix a0.clauses x35.right) (fun x93 => bd (PF.slices_Equal_int_int x93 x35.clause) (fun r97 => some r97)) else some false) (fun t80 => some t80) else bd (PF.impl_earlier a0 a1 a2 x35.left) (fun r103 => (bif (!r103.2) then some false else (bif (x35.right == (-1)) then bd (bif (x35.pivot == 0) then bd (PF.impl_part r103.1 x35.clause) (fun r125 => some r125) else some false) (fun t118 => some t118) else bd (PF.impl_earlier a0 a1 a2 x35.right) (fun r131 => (bif (bif (!r131.2) then true else (!(PF.impl_isVar a0.vars x35.pivot))) then some false else bd (PF.impl_resolve r103.1 r131.1 x35.pivot) (fun r157 => bd (bif r157.2 then bd (PF.slices_Equal_int_int r157.1 x35.clause) (fun r189 => some r189) else some false) (fun t177 => some t177)))))))))))

noncomputable def impl_firstWrong (a0 : Cnf) (a1 : List ResStep) : Option Int :=
  bdR (forL (S := Unit) (X := Int) a1 (fun i30 y29 s30 => bd (PF.impl_correct a0 a1 ((i30 : Nat) : Int)) (fun r55 => (bif (!r55) then some (Lp.rt ((i30 : Nat) : Int)) else some (Lp.nx ())))) ()) (fun s30 => some (-1)) (fun x30 => some x30)

noncomputable def impl_IsDerivation (a0 : Cnf) (a1 : List ResStep) : Option Bool :=
  bd (PF.impl_IsCnf a0) (fun r29 => bd (bif (bif r29 then (decide ((len a1) ≤ 200)) else false) then bd (PF.impl_firstWrong a0 a1) (fun r56 => some (decide (r56 < 0))) else some false) (fun t49 => some t49))

noncomputable def impl_isProof (a0 : Cnf) (a1 : List ResStep) : Option Bool :=
  bd (PF.impl_IsDerivation a0 a1) (fun r29 => some (bif r29 then (decide (0 < (len a1))) else false))

noncomputable def impl_WidthOfProof (a0 : Cnf) (a1 : List ResStep) : Option (Int × Bool) :=
  bd (PF.impl_isProof a0 a1) (fun r29 => (bif (!r29) then some (0, false) else bdR (forL (S := Int) (X := Empty) a1 (fun i36 y35 s36 => some (Lp.nx (mx s36 (len y35.clause)))) 0) (fun s36 => some (s36, true)) (fun x36 => nomatch x36)))

def impl_last_impl_ResStep (a0 : List ResStep) : Option ResStep :=
  bd (ix a0 (wr ((len a0) - 1))) (fun x31 => some x31)

noncomputable def impl_IsRefutation (a0 : Cnf) (a1 : List ResStep) : Option Bool :=
  bd (PF.impl_IsDerivation a0 a1) (fun r29 => bd (bif (bif r29 then (decide (0 < (len a1))) else false) then bd (PF.impl_last_impl_ResStep a1) (fun r58 => some ((len r58.clause) == 0)) else some false) (fun t51 => some t51))

def impl_nameOk (a0 : ByteArray) : Option Bool :=
  bd (chk (a0.size : Int)) (fun m21 => bdR (forR (S := Unit) (X := Bool) 0 m21 (fun i22 s22 => bd (ixS a0 ((i22 : Nat) : Int)) (fun z89 => (bif (bif (bif (decide (z89 < 97)) then true else (decide (122 < z89))) then (bif (decide (z89 < 48)) then true else (decide (57 < z89))) else false) then some (Lp.rt false) else some (Lp.nx ())))) ()) (fun s22 => some (PF.impl_within (a0.size : Int) 1 12)) (fun x22 => some x22))

def impl_systemOk (a0 : Int) : Bool :=
  (PF.impl_within a0 1 4)

def strings_Compare (a0 a1 : ByteArray) : Int := cmpS a0 a1

def impl_compareRecords (a0 : Record) (a1 : Record) : Option Int :=
  bd (PF.cmp_Or_int [(PF.strings_Compare a0.name a1.name), (PF.cmp_Compare_int a0.system a1.system)]) (fun r36042 => some r36042)

def impl_IsBook (a0 : List Record) : Option Bool :=
  bdR (forL (S := Unit) (X := Bool) a0 (fun i22 y21 s22 => bd (PF.impl_nameOk y21.name) (fun r178 => (bif (bif (bif (bif (!r178) then true else (!(PF.impl_systemOk y21.system))) then true else (!(PF.impl_within y21.size 1 9999))) then true else (!(PF.impl_within y21.extra 0 9999))) then some (Lp.rt false) else bd (bif (decide (0 < ((i22 : Nat) : Int))) then bd (ix a0 (wr (((i22 : Nat) : Int) - 1))) (fun x268 => bd (PF.impl_compareRecords x268 y21) (fun r270 => some (decide (0 ≤ r270)))) else some false) (fun t255 => (bif t255 then some (Lp.rt false) else some (Lp.nx ())))))) ()) (fun s22 => some (decide ((len a0) ≤ 24))) (fun x22 => some x22)

def slices_Clone_impl_Record_impl_Record (a0 : List Record) : Option (List Record) :=
  bd (app [] a0) (fun xs30 => some xs30)

noncomputable def slices_BinarySearchFunc_impl_Record_impl_Record_impl_Record (a0 : List Record) (a1 : Record) (a2 : Record → Record → Option Int) : Option (Int × Bool) :=
  bdR (iter (S := (Int × Int)) (X := Empty) (fun s29 => (bif (decide (s29.1 < s29.2)) then bd (ix a0 (wrk true 64 (shrK 64 (wrk false 64 (wr (s29.1 + s29.2))) 1))) (fun x42074 => bd (a2 x42074 a1) (fun r51068 => (bif (decide (r51068 < 0)) then some (Lp.nx ((wr ((wrk true 64 (shrK 64 (wrk false 64 (wr (s29.1 + s29.2))) 1)) + 1)), s29.2)) else some (Lp.nx (s29.1, (wrk true 64 (shrK 64 (wrk false 64 (wr (s29.1 + s29.2))) 1))))))) else some (Lp.bk (s29.1, s29.2)))) (0, (len a0))) (fun s29 => bd (bif (decide (s29.1 < (len a0))) then bd (ix a0 s29.1) (fun x87100 => bd (a2 x87100 a1) (fun r96094 => some (r96094 == 0))) else some false) (fun t60093_13 => some (s29.1, t60093_13))) (fun x29 => nomatch x29)

def slices_Insert_impl_Record_impl_Record (a0 : List Record) (a1 : Int) (a2 : List Record) : Option ((List Record) × (List Record)) := insL a0 a1 a2

noncomputable def impl_enter (a0 : List Record) (a1 : Record) : Option ((List Record) × Bool) :=
  bd (PF.impl_IsBook a0) (fun r29 => (bif (!r29) then some ([], true) else bd (PF.slices_Clone_impl_Record_impl_Record a0) (fun r39 => bd (PF.slices_BinarySearchFunc_impl_Record_impl_Record_impl_Record r39 a1 (fun x0 x1 => PF.impl_compareRecords x0 x1)) (fun r54 => bdR (S := (List Record)) (X := Empty) ((bif (!r54.2) then bd (PF.slices_Insert_impl_Record_impl_Record r39 r54.1 [a1]) (fun r203 => some (Rs.go r203.1)) else bd (ix r39 r54.1) (fun x223 => bd (bif (decide (a1.size < x223.size)) then some true else bd (ix r39 r54.1) (fun x274 => bd (bif (x274.size == a1.size) then bd (ix r39 r54.1) (fun x297 => some (decide (a1.extra < x297.extra))) else some false) (fun t284 => some t284))) (fun t261 => (bif t261 then bd (ix r39 r54.1) (fun x318 => bd (put r39 r54.1 a1) (fun xs323 => some (Rs.go xs323))) else some (Rs.go r39)))))) (fun s190 => bd (PF.impl_IsBook s190) (fun r340 => bd (bif (!r340) then some true else bd (PF.impl_IsBook [a1]) (fun r377 => some (!r377))) (fun t360 => (bif t360 then some ([], true) else some (s190, false))))) (fun x192 => nomatch x192)))))

def errors_Is (a0 a1 : Bool) : Option Bool := bif a1 then some a0 else none

noncomputable def impl_entered (a0 : List Record) (a1 : ByteArray) (a2 : Int) (a3 : Int) (a4 : Int) : Option ((List Record) × Bool) :=
  bd (PF.impl_enter a0 (Record.mk a1 a2 a3 a4)) (fun r21 => bd (PF.errors_Is r21.2 true) (fun r31 => (bif r31 then some ([], false) else some (r21.1, true))))

noncomputable def impl_EnterResolution (a0 : List Record) (a1 : ByteArray) (a2 : Cnf) (a3 : List ResStep) : Option ((List Record) × Bool) :=
  bd (PF.impl_WidthOfProof a2 a3) (fun r29 => bd (bif (!r29.2) then some true else bd (PF.impl_IsRefutation a2 a3) (fun r46 => some (!r46))) (fun t39 => (bif t39 then some ([], false) else bd (PF.impl_entered a0 a1 1 (len a3) r29.1) (fun r57 => some (r57.1, r57.2)))))

def laws_eqRecord (a0 : Record) (a1 : Record) : Bool :=
  (bif (!(a0.name.toList == a1.name.toList)) then false else (bif (!(a0.system == a1.system)) then false else (bif (!(a0.size == a1.size)) then false else (bif (!(a0.extra == a1.extra)) then false else true))))

def laws_eqRecordS (a0 : List Record) (a1 : List Record) : Option Bool :=
  (bif (!((len a0) == (len a1))) then some false else bdR (forL (S := Unit) (X := Bool) a0 (fun i23 y22 s23 => bd (ix a1 ((i23 : Nat) : Int)) (fun x72 => (bif (!(PF.laws_eqRecord y22 x72)) then some (Lp.rt false) else some (Lp.nx ())))) ()) (fun s23 => some true) (fun x23 => some x23))

def laws_eqIntS (a0 : List Int) (a1 : List Int) : Option Bool :=
  (bif (!((len a0) == (len a1))) then some false else bdR (forL (S := Unit) (X := Bool) a0 (fun i23 y22 s23 => bd (ix a1 ((i23 : Nat) : Int)) (fun x72 => (bif (!(y22 == x72)) then some (Lp.rt false) else some (Lp.nx ())))) ()) (fun s23 => some true) (fun x23 => some x23))

def laws_eqIntSS (a0 : List (List Int)) (a1 : List (List Int)) : Option Bool :=
  (bif (!((len a0) == (len a1))) then some false else bdR (forL (S := Unit) (X := Bool) a0 (fun i23 y22 s23 => bd (ix a1 ((i23 : Nat) : Int)) (fun x80 => bd (PF.laws_eqIntS y22 x80) (fun r84 => (bif (!r84) then some (Lp.rt false) else some (Lp.nx ()))))) ()) (fun s23 => some true) (fun x23 => some x23))

def laws_eqCnf (a0 : Cnf) (a1 : Cnf) : Option Bool :=
  (bif (!(a0.vars == a1.vars)) then some false else bd (PF.laws_eqIntSS a0.clauses a1.clauses) (fun r38 => (bif (!r38) then some false else some true)))

def laws_eqResStep (a0 : ResStep) (a1 : ResStep) : Option Bool :=
  bd (PF.laws_eqIntS a0.clause a1.clause) (fun r37 => (bif (!r37) then some false else (bif (!(a0.left == a1.left)) then some false else (bif (!(a0.right == a1.right)) then some false else (bif (!(a0.pivot == a1.pivot)) then some false else some true)))))

def laws_eqResStepS (a0 : List ResStep) (a1 : List ResStep) : Option Bool :=
  (bif (!((len a0) == (len a1))) then some false else bdR (forL (S := Unit) (X := Bool) a0 (fun i23 y22 s23 => bd (ix a1 ((i23 : Nat) : Int)) (fun x80 => bd (PF.laws_eqResStep y22 x80) (fun r84 => (bif (!r84) then some (Lp.rt false) else some (Lp.nx ()))))) ()) (fun s23 => some true) (fun x23 => some x23))

noncomputable def laws_markTextO (a0 : Int) : Option ByteArray :=
  (bif (decide (a0 ≤ 0)) then some (ByteArray.mk #[109, 48]) else bdR (iter (S := (Int × ByteArray)) (X := Empty) (fun s22 => (bif (decide (0 < s22.1)) then bd (catS (bytesS [(wrk false 8 (wr (48 + (s22.1.tmod 10))))]) s22.2) (fun z51 => some (Lp.nx ((wr (s22.1.tdiv 10)), z51))) else some (Lp.bk (s22.1, s22.2)))) (a0, (ByteArray.mk #[]))) (fun s22 => bd (catS (ByteArray.mk #[109]) s22.2) (fun z60 => some z60)) (fun x22 => nomatch x22))
noncomputable def laws_markText (a0 : Int) : ByteArray := (PF.laws_markTextO a0).getD ByteArray.empty
theorem laws_markText_eq (a0 : Int) : PF.laws_markTextO a0 = some (PF.laws_markText a0) := by
  have key : ∃ r, PF.laws_markTextO a0 = some r := by
    unfold PF.laws_markTextO
    cases decide (a0 ≤ 0) with
    | true => exact ⟨_, rfl⟩
    | false =>
      obtain ⟨r, h1, h2⟩ := mtx_some a0
      refine ⟨(ByteArray.mk #[109]) ++ r.2, ?_⟩
      show bdR (iter mtxB (a0, ByteArray.mk #[])) (fun s => bd (catS (ByteArray.mk #[109]) s.2) (fun z => some z)) (fun x => nomatch x) = _
      rw [h1]
      show bd (catS (ByteArray.mk #[109]) r.2) (fun z => some z) = _
      unfold catS
      rw [if_pos (by have : (ByteArray.mk #[109]).size = 1 := rfl; omega)]
      rfl
  obtain ⟨r, h⟩ := key
  unfold PF.laws_markText
  rw [h]; rfl

noncomputable def laws_markRecordS (a0 : List Record) (a1 : Int) : List Record × Int :=
  markFrom (fun y m => ((Record.mk (PF.laws_markText m) (wr (m + 1)) (wr ((wr (m + 1)) + 1)) (wr ((wr ((wr (m + 1)) + 1)) + 1))), (wr ((wr ((wr ((wr (m + 1)) + 1)) + 1)) + 1)))) a0 a1

def laws_markIntS (a0 : List Int) (a1 : Int) : List Int × Int :=
  markFrom (fun y m => (m, (wr (m + 1)))) a0 a1

def laws_markIntSS (a0 : List (List Int)) (a1 : Int) : List (List Int) × Int :=
  markFrom (fun y m => ((PF.laws_markIntS y m).1, (PF.laws_markIntS y m).2)) a0 a1

def laws_markCnf (a0 : Cnf) (a1 : Int) : Cnf × Int :=
  let r := PF.laws_markIntSS a0.clauses a1
  ((Cnf.mk a0.vars r.1), r.2)

def laws_markResStepS (a0 : List ResStep) (a1 : Int) : List ResStep × Int :=
  markFrom (fun y m => ((ResStep.mk ((PF.laws_markIntS y.clause m).1) ((PF.laws_markIntS y.clause m).2) (wr ((PF.laws_markIntS y.clause m).2 + 1)) (wr ((wr ((PF.laws_markIntS y.clause m).2 + 1)) + 1))), (wr ((wr ((wr ((PF.laws_markIntS y.clause m).2 + 1)) + 1)) + 1)))) a0 a1

noncomputable def laws_heldRecordS (a0 : List Record) (a1 : Int) : Option Int :=
  bdR (forL (S := Int) (X := Int) a0 (fun i22 y21 s22 => (bif (!(y21.name.toList == (PF.laws_markText s22).toList)) then some (Lp.rt (-1)) else (bif (!(y21.system == (wr (s22 + 1)))) then some (Lp.rt (-1)) else (bif (!(y21.size == (wr ((wr (s22 + 1)) + 1)))) then some (Lp.rt (-1)) else (bif (!(y21.extra == (wr ((wr ((wr (s22 + 1)) + 1)) + 1)))) then some (Lp.rt (-1)) else some (Lp.nx (wr ((wr ((wr ((wr (s22 + 1)) + 1)) + 1)) + 1)))))))) a1) (fun s22 => some s22) (fun x22 => some x22)

noncomputable def laws_FnExactEnterResolution (a0 : List Record) (a1 : ByteArray) (a2 : Cnf) (a3 : List ResStep) : Option Bool :=
  (bif (decide (1048576 < (a1.size : Int))) then some true else bd (PF.laws_szRecordS a0 1048576) (fun r30 => (bif (decide (r30 < 0)) then some true else bd (PF.laws_szCnf a2 r30) (fun r37 => (bif (decide (r37 < 0)) then some true else bd (PF.laws_szResStepS a3 r37) (fun r44 => (bif (decide (r44 < 0)) then some true else bd (PF.laws_toRecordS a0) (fun r6051 => bd (PF.laws_toCnf a2) (fun r15051 => bd (PF.laws_toResStepS a3) (fun r21051 => bd (PF.spec_EnterResolution r6051 a1 r15051 r21051) (fun r24051 => bd (PF.laws_toRecordS a0) (fun r45067 => bd (PF.laws_toCnf a2) (fun r45083 => bd (PF.laws_toResStepS a3) (fun r45108 => bd (PF.impl_EnterResolution r45067 a1 r45083 r45108) (fun r45127 => bd (PF.laws_eqRecordS r45127.1 r24051.1) (fun r45143 => (bif (bif (!r45143) then true else (!(r45127.2 == r24051.2))) then some false else bd (PF.laws_toRecordS a0) (fun r45169 => bd (PF.laws_eqRecordS r45067 r45169) (fun r45185 => (bif (!r45185) then some false else bd (PF.laws_toCnf a2) (fun r54192 => bd (PF.laws_eqCnf r45083 r54192) (fun r57192 => (bif (!r57192) then some false else bd (PF.laws_toResStepS a3) (fun r66211 => bd (PF.laws_eqResStepS r45108 r66211) (fun r66230 => (bif (!r66230) then some false else bd (bif (decide ((PF.laws_markResStepS r45108 ((PF.laws_markCnf r45083 ((PF.laws_markRecordS r45067 1).2)).2)).2 < 0)) then some true else bd (PF.laws_eqRecordS r45127.1 r24051.1) (fun r66296 => some (!r66296))) (fun t66289 => (bif (bif t66289 then true else (!(r45127.2 == r24051.2))) then some false else bd (PF.laws_heldRecordS ((PF.laws_markRecordS r45127.1 1).1) 1) (fun r66335 => (bif (decide (r66335 < 0)) then some false else (bif (!(r66335 == (PF.laws_markRecordS r45127.1 1).2)) then some false else bd (PF.laws_toRecordS a0) (fun r72343 => bd (PF.laws_toCnf a2) (fun r81343 => bd (PF.laws_toResStepS a3) (fun r87343 => bd (PF.impl_EnterResolution r72343 a1 r81343 r87343) (fun r90343 => bd (PF.laws_eqRecordS r90343.1 r24051.1) (fun r111357 => (bif (bif (!r111357) then true else (!(r90343.2 == r24051.2))) then some false else bd (PF.laws_heldRecordS ((PF.laws_markRecordS r45127.1 1).1) 1) (fun r111374 => (bif (decide (r111374 < 0)) then some false else (bif (!(r111374 == (PF.laws_markRecordS r45127.1 1).2)) then some false else some true))))))))))))))))))))))))))))))))))))))))

end Go.PF
