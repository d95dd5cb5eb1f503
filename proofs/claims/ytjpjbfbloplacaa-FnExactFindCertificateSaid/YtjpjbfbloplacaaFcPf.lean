/- Part of the walks and plain laws behind the claim: it proves helpers, under no condition beyond their own. -/
import Derived.Test.YtjpjbfbloplacaaPl1
set_option linter.unusedVariables false
namespace Go.PF
open Go.Pu

structure Cnf where
  vars : Int
  clauses : List (List Int)
def okCnf (s : Cnf) : Prop := okI s.vars ∧ (okL (okL okI)) s.clauses

structure ring where
  p : Int
  vars : Int
def okring (s : ring) : Prop := okI s.p ∧ okI s.vars

structure algebra where
  ring : ring
  f : Cnf
  q : List (List Int)
def okalgebra (s : algebra) : Prop := okring s.ring ∧ okCnf s.f ∧ (okL (okL okI)) s.q

structure product where
  clause : Int
  mono : Int
  poly : List Int
def okproduct (s : product) : Prop := okI s.clause ∧ okI s.mono ∧ (okL okI) s.poly

structure l19Product where
  clause : Int
  mono : Int
  all : List Int
def okl19Product (s : l19Product) : Prop := okI s.clause ∧ okI s.mono ∧ (okL okI) s.all

structure l19Base where
  rows : List (List Int)
  leads : List Int
  made : List (List Int)
  kept : List l19Product
def okl19Base (s : l19Base) : Prop := (okL (okL okI)) s.rows ∧ (okL okI) s.leads ∧ (okL (okL okI)) s.made ∧ (okL okl19Product) s.kept

structure echelon where
  ring : ring
  rows : List (List Int)
  made : List (List Int)
  many : Int
def okechelon (s : echelon) : Prop := okring s.ring ∧ (okL (okL okI)) s.rows ∧ (okL (okL okI)) s.made ∧ okI s.many

structure Term where
  mono : Int
  coeff : Int
def okTerm (s : Term) : Prop := okI s.mono ∧ okI s.coeff

def laws_szIntS (a0 : List Int) (a1 : Int) : Int :=
  (bif (decide ((wr (a1 - (len a0))) < 0)) then (-1) else (wr (a1 - (len a0))))

def laws_szIntSS (a0 : List (List Int)) (a1 : Int) : Option Int :=
  (bif (decide ((wr (a1 - (len a0))) < 0)) then some (-1) else bdR (forL (S := Int) (X := Int) a0 (fun i23 y22 s23 => (bif (decide ((PF.laws_szIntS y22 s23) < 0)) then some (Lp.rt (-1)) else some (Lp.nx (PF.laws_szIntS y22 s23)))) (wr (a1 - (len a0)))) (fun s23 => some s23) (fun x23 => some x23))

def laws_szCnf (a0 : Cnf) (a1 : Int) : Option Int :=
  bd (PF.laws_szIntSS a0.clauses a1) (fun r29 => (bif (decide (r29 < 0)) then some (-1) else some r29))

def laws_toIntS (a0 : List Int) : Option (List Int) :=
  bd (mk2 (0 : Int) (len a0) (len a0)) (fun xs21 => bdR (forL (S := (List Int)) (X := Empty) a0 (fun i32 y31 s32 => bd (ix s32 ((i32 : Nat) : Int)) (fun x117 => bd (put s32 ((i32 : Nat) : Int) y31) (fun xs122 => some (Lp.nx xs122)))) xs21) (fun s32 => some s32) (fun x32 => nomatch x32))

def laws_toIntSS (a0 : List (List Int)) : Option (List (List Int)) :=
  bd (mk2 ([] : List Int) (len a0) (len a0)) (fun xs21 => bdR (forL (S := (List (List Int))) (X := Empty) a0 (fun i33 y32 s33 => bd (PF.laws_toIntS y32) (fun r155 => bd (ix s33 ((i33 : Nat) : Int)) (fun x171 => bd (put s33 ((i33 : Nat) : Int) r155) (fun xs183 => some (Lp.nx xs183))))) xs21) (fun s33 => some s33) (fun x33 => nomatch x33))

def laws_toCnf (a0 : Cnf) : Option Cnf :=
  bd (PF.laws_toIntSS a0.clauses) (fun r40 => some (Cnf.mk a0.vars r40))

def spec_l1In (a0 : Int) (a1 : Int) (a2 : Int) : Bool :=
  (bif (decide (a1 ≤ a0)) then (decide (a0 ≤ a2)) else false)

def spec_l2Vars (a0 : Int) : Bool :=
  (PF.spec_l1In a0 0 12)

def spec_l2Lit (a0 : Int) (a1 : Int) : Bool :=
  (bif (PF.spec_l1In a1 (wr (-a0)) a0) then (!(a1 == 0)) else false)

def spec_l2Var (a0 : Int) : Int :=
  (bif (decide (a0 < 0)) then (wr (-a0)) else a0)

def spec_l2Clause (a0 : Int) (a1 : List Int) : Option Bool :=
  (bif (!(PF.spec_l2Vars a0)) then some false else bdR (forL (S := Unit) (X := Bool) a1 (fun i26 y25 s26 => bd (bif (!(PF.spec_l2Lit a0 y25)) then some true else bd (bif (decide (0 < ((i26 : Nat) : Int))) then bd (ix a1 (wr (((i26 : Nat) : Int) - 1))) (fun x226 => some (decide ((PF.spec_l2Var y25) ≤ (PF.spec_l2Var x226)))) else some false) (fun t213 => some t213)) (fun t192 => (bif t192 then some (Lp.rt false) else some (Lp.nx ())))) ()) (fun s26 => some true) (fun x26 => some x26))

noncomputable def spec_l2Good (a0 : Cnf) : Option Bool :=
  (bif (bif (!(PF.spec_l2Vars a0.vars)) then true else (decide (60 < (len a0.clauses)))) then some false else bdR (iter (S := Int) (X := Bool) (fun s42 => (bif (decide (s42 < (len a0.clauses))) then bd (ix a0.clauses s42) (fun x83 => bd (PF.spec_l2Clause a0.vars x83) (fun r87 => (bif (!r87) then some (Lp.rt false) else some (Lp.nx (wr (s42 + 1)))))) else some (Lp.bk s42))) 0) (fun s42 => some true) (fun x42 => some x42))

def spec_l18Prime (a0 : Int) (a1 : Int) : Bool :=
  (bif (bif (bif (a0 == 2) then true else (a0 == 3)) then true else (a0 == 5)) then (PF.spec_l1In a1 0 6) else false)

noncomputable def spec_l19Takes (a0 : Int) (a1 : Cnf) : Option Bool :=
  bd (PF.spec_l2Good a1) (fun r29 => some (bif r29 then (PF.spec_l18Prime a0 a1.vars) else false))

def spec_l19Degree (a0 : Int) : Bool :=
  (PF.spec_l1In a0 0 6)

def spec_l18Sparse (a0 : Int) (a1 : List Int) : Option (List Term) :=
  bdR (forL (S := (List Term)) (X := Empty) a1 (fun i27 y26 s27 => bd (nz a0) (fun u82 => (bif (!((y26.tmod a0) == 0)) then bd (app s27 [(Term.mk ((i27 : Nat) : Int) (y26.tmod a0))]) (fun xs89 => some (Lp.nx xs89)) else some (Lp.nx s27)))) []) (fun s27 => some s27) (fun x27 => nomatch x27)

def spec_l18Mul (a0 : Int) (a1 : Int) (a2 : List Term) (a3 : List Term) : Option (List Term) :=
  bd (nn a1) (fun u22 => bd (mk2 (0 : Int) (shlK true 64 1 a1) (shlK true 64 1 a1)) (fun xs23 => bdR (forL (S := (List Int)) (X := Empty) a2 (fun i34 y33 s34 => bdR (forL (S := (List Int)) (X := Empty) a3 (fun i288292 y288291 s288292 => bd (ix s288292 (orK true 64 y33.mono y288291.mono)) (fun x447414 => bd (nz a0) (fun u492409 => bd (ix s288292 (orK true 64 y33.mono y288291.mono)) (fun x495414 => bd (put s288292 (orK true 64 y33.mono y288291.mono) ((wr (x447414 + (wr (y33.coeff * y288291.coeff)))).tmod a0)) (fun xs498411 => some (Lp.nx xs498411)))))) s34) (fun s288292 => some (Lp.nx s288292)) (fun x288292 => nomatch x288292)) xs23) (fun s34 => bd (PF.spec_l18Sparse a0 s34) (fun r504459 => some r504459)) (fun x34 => nomatch x34)))

def spec_l18Clause (a0 : Int) (a1 : Int) (a2 : List Int) : Option (List Term) :=
  bdR (forL (S := (List Term)) (X := Empty) a2 (fun i27 y26 s27 => bd (nn (wr ((PF.spec_l2Var y26) - 1))) (fun u242 => (bif (decide (y26 < 0)) then bd (PF.spec_l18Mul a0 a1 s27 [(Term.mk (shlK true 64 1 (wr ((PF.spec_l2Var y26) - 1))) 1)]) (fun r276 => some (Lp.nx r276)) else bd (PF.spec_l18Mul a0 a1 s27 [(Term.mk 0 1), (Term.mk (shlK true 64 1 (wr ((PF.spec_l2Var y26) - 1))) (wr (a0 - 1)))]) (fun r303 => some (Lp.nx r303))))) [(Term.mk 0 1)]) (fun s27 => some s27) (fun x27 => nomatch x27)

noncomputable def spec_l14Count (a0 : Int) : Option Int :=
  bdR (iter (S := (Int × Int)) (X := Empty) (fun s21 => (bif (decide (0 < s21.1)) then some (Lp.nx ((wr (s21.1.tdiv 2)), (wr (s21.2 + (s21.1.tmod 2))))) else some (Lp.bk (s21.1, s21.2)))) (a0, 0)) (fun s21 => some s21.2) (fun x21 => nomatch x21)

noncomputable def spec_l18Graded (a0 : Int) (a1 : Int) : Option (List Int) :=
  bdR (iter (S := ((List Int) × Int)) (X := Empty) (fun s27 => (bif (decide (s27.2 ≤ a1)) then bdR (iter (S := ((List Int) × Int)) (X := Empty) (fun s111 => bd (nn a0) (fun u162 => (bif (decide (s111.2 < (shlK true 64 1 a0))) then bd (PF.spec_l14Count s111.2) (fun r164 => (bif (r164 == s27.2) then bd (app s111.1 [s111.2]) (fun xs175 => some (Lp.nx (xs175, (wr (s111.2 + 1))))) else some (Lp.nx (s111.1, (wr (s111.2 + 1)))))) else some (Lp.bk (s111.1, s111.2))))) (s27.1, 0)) (fun s111 => some (Lp.nx (s111.1, (wr (s27.2 + 1))))) (fun x111 => nomatch x111) else some (Lp.bk (s27.1, s27.2)))) ([], 0)) (fun s27 => some s27.1) (fun x27 => nomatch x27)

def spec_l18Dense (a0 : Int) (a1 : List Term) : Option (List Int) :=
  bd (nn a0) (fun u22 => bd (mk2 (0 : Int) (shlK true 64 1 a0) (shlK true 64 1 a0)) (fun xs23 => bdR (forL (S := (List Int)) (X := Empty) a1 (fun i34 y33 s34 => bd (ix s34 y33.mono) (fun x126093 => bd (put s34 y33.mono y33.coeff) (fun xs129090 => some (Lp.nx xs129090)))) xs23) (fun s34 => some s34) (fun x34 => nomatch x34)))

noncomputable def spec_l19Products (a0 : Int) (a1 : Cnf) (a2 : Int) : Option (List l19Product) :=
  bdR (iter (S := ((List l19Product) × Int)) (X := Empty) (fun s34 => (bif (decide (s34.2 < (len a1.clauses))) then bd (ix a1.clauses s34.2) (fun x156171 => (bif (decide (a2 < (len x156171))) then some (Lp.nx (s34.1, (wr (s34.2 + 1)))) else bd (ix a1.clauses s34.2) (fun x177182 => bd (PF.spec_l18Clause a0 a1.vars x177182) (fun r183176 => bd (ix a1.clauses s34.2) (fun x213198 => bd (PF.spec_l18Graded a1.vars (wr (a2 - (len x213198)))) (fun r225192 => bdR (iter (S := ((List l19Product) × Int)) (X := Empty) (fun s234209 => (bif (decide (s234209.2 < (len r225192))) then bd (ix r225192 s234209.2) (fun x327267 => bd (ix r225192 s234209.2) (fun x357267 => bd (PF.spec_l18Mul a0 a1.vars r183176 [(Term.mk x357267 1)]) (fun r369271 => bd (PF.spec_l18Dense a1.vars r369271) (fun r372266 => bd (app s234209.1 [(l19Product.mk s34.2 x327267 r372266)]) (fun xs381261 => some (Lp.nx (xs381261, (wr (s234209.2 + 1))))))))) else some (Lp.bk (s234209.1, s234209.2)))) (s34.1, 0)) (fun s234209 => some (Lp.nx (s234209.1, (wr (s34.2 + 1))))) (fun x234209 => nomatch x234209))))))) else some (Lp.bk (s34.1, s34.2)))) ([], 0)) (fun s34 => some s34.1) (fun x34 => nomatch x34)

noncomputable def spec_l19Reduce (a0 : Int) (a1 : l19Base) (a2 : List Int) : Option ((List Int) × (List Int)) :=
  bd (app [] a2) (fun xs9029 => bd (mk2 (0 : Int) (len a1.kept) (len a1.kept)) (fun xs21029 => bdR (iter (S := ((List Int) × (List Int) × Int)) (X := Empty) (fun s33047 => (bif (decide (s33047.2.2 < (len a1.rows))) then bd (ix a1.leads s33047.2.2) (fun x609629 => bd (ix s33047.1 x609629) (fun x609637 => bdR (iter (S := ((List Int) × Int)) (X := Empty) (fun s609639 => (bif (bif (decide (s609639.2 < (len s609639.1))) then (!(x609637 == 0)) else false) then bd (ix s609639.1 s609639.2) (fun x774766 => bd (ix a1.rows s33047.2.2) (fun x798766 => bd (ix x798766 s609639.2) (fun x807766 => bd (nz a0) (fun u822761 => bd (ix s609639.1 s609639.2) (fun x825766 => bd (put s609639.1 s609639.2 ((wr (x774766 + (wr ((wr (a0 - x609637)) * x807766)))).tmod a0)) (fun xs828763 => some (Lp.nx (xs828763, (wr (s609639.2 + 1)))))))))) else some (Lp.bk (s609639.1, s609639.2)))) (s33047.1, 0)) (fun s609639 => bdR (iter (S := ((List Int) × Int)) (X := Empty) (fun s834789 => bd (ix a1.made s33047.2.2) (fun x972920 => (bif (bif (decide (s834789.2 < (len x972920))) then (!(x609637 == 0)) else false) then bd (ix s834789.1 s834789.2) (fun x987946 => bd (ix a1.made s33047.2.2) (fun x1005946 => bd (ix x1005946 s834789.2) (fun x1014946 => bd (nz a0) (fun u1029941 => bd (ix s834789.1 s834789.2) (fun x1032946 => bd (put s834789.1 s834789.2 ((wr (x987946 + (wr (x609637 * x1014946)))).tmod a0)) (fun xs1035943 => some (Lp.nx (xs1035943, (wr (s834789.2 + 1)))))))))) else some (Lp.bk (s834789.1, s834789.2))))) (s33047.2.1, 0)) (fun s834789 => some (Lp.nx (s609639.1, s834789.1, (wr (s33047.2.2 + 1))))) (fun x834789 => nomatch x834789)) (fun x609639 => nomatch x609639))) else some (Lp.bk (s33047.1, s33047.2.1, s33047.2.2)))) (xs9029, xs21029, 0)) (fun s33047 => some (s33047.1, s33047.2.1)) (fun x33047 => nomatch x33047)))

def spec_l19Lead (a0 : List Int) : Option Int :=
  bdR (forL (S := Unit) (X := Int) a0 (fun i22 y21 s22 => (bif (!(y21 == 0)) then some (Lp.rt ((i22 : Nat) : Int)) else some (Lp.nx ()))) ()) (fun s22 => some (-1)) (fun x22 => some x22)

def spec_l19Invert (a0 : Int) (a1 : Int) : Option Int :=
  bd (chk a0) (fun m21 => bdR (forR (S := Unit) (X := Int) 1 m21 (fun i22 s22 => bd (nz a0) (fun u43 => (bif (((wr (a1 * ((i22 : Nat) : Int))).tmod a0) == 1) then some (Lp.rt ((i22 : Nat) : Int)) else some (Lp.nx ())))) ()) (fun s22 => some 0) (fun x22 => some x22))

noncomputable def spec_l19Span (a0 : Int) (a1 : Cnf) (a2 : Int) : Option l19Base :=
  bd (PF.spec_l19Products a0 a1 a2) (fun r64 => bdR (iter (S := ((List l19Product) × (List (List Int)) × (List Int) × (List (List Int)) × Int)) (X := Empty) (fun s76 => (bif (decide (s76.2.2.2.2 < (len r64))) then bd (ix r64 s76.2.2.2.2) (fun x249842 => bd (PF.spec_l19Reduce a0 (l19Base.mk s76.2.2.2.1 s76.2.2.1 s76.2.1 s76.1) x249842.all) (fun r258858 => bd (PF.spec_l19Lead r258858.1) (fun r279862 => (bif (decide (r279862 < 0)) then some (Lp.nx (s76.1, s76.2.1, s76.2.2.1, s76.2.2.2.1, (wr (s76.2.2.2.2 + 1)))) else bd (ix r258858.1 r279862) (fun x279874 => bd (PF.spec_l19Invert a0 x279874) (fun r279876 => bdR (iter (S := ((List Int) × Int)) (X := Empty) (fun s279881 => (bif (decide (s279881.2 < (len s279881.1))) then bd (ix s279881.1 s279881.2) (fun x279992 => bd (nz a0) (fun u279995 => bd (ix s279881.1 s279881.2) (fun x280002 => bd (put s279881.1 s279881.2 ((wr (x279992 * r279876)).tmod a0)) (fun xs280007 => some (Lp.nx (xs280007, (wr (s279881.2 + 1)))))))) else some (Lp.bk (s279881.1, s279881.2)))) (r258858.1, 0)) (fun s279881 => bdR (iter (S := ((List Int) × Int)) (X := Empty) (fun s280027 => (bif (decide (s280027.2 < (len s280027.1))) then bd (ix s280027.1 s280027.2) (fun x280138 => bd (nz a0) (fun u280141 => bd (ix s280027.1 s280027.2) (fun x280148 => bd (put s280027.1 s280027.2 ((wr ((wr (a0 - x280138)) * r279876)).tmod a0)) (fun xs280153 => some (Lp.nx (xs280153, (wr (s280027.2 + 1)))))))) else some (Lp.bk (s280027.1, s280027.2)))) (r258858.2, 0)) (fun s280027 => bd (app s76.2.2.2.1 [s279881.1]) (fun xs280184 => bd (app s76.2.2.1 [r279862]) (fun xs280204 => bd (app s280027.1 [r279876]) (fun xs298218 => bd (app s76.2.1 [xs298218]) (fun xs304218 => bd (ix r64 s76.2.2.2.2) (fun x331240 => bd (app s76.1 [x331240]) (fun xs340234 => some (Lp.nx (xs340234, xs304218, xs280204, xs280184, (wr (s76.2.2.2.2 + 1))))))))))) (fun x280027 => nomatch x280027)) (fun x279881 => nomatch x279881))))))) else some (Lp.bk (s76.1, s76.2.1, s76.2.2.1, s76.2.2.2.1, s76.2.2.2.2)))) ([], [], [], [], 0)) (fun s76 => some (l19Base.mk s76.2.2.2.1 s76.2.2.1 s76.2.1 s76.1)) (fun x76 => nomatch x76))

def spec_l19Unit (a0 : Int) : Option (List Int) :=
  bd (nn a0) (fun u22 => bd (mk2 (0 : Int) (shlK true 64 1 a0) (shlK true 64 1 a0)) (fun xs23 => bd (ix xs23 0) (fun x39 => bd (put xs23 0 1) (fun xs44 => some xs44))))

noncomputable def spec_l19Find (a0 : Int) (a1 : Cnf) (a2 : Int) : Option ((List (List Term)) × Bool) :=
  bd (PF.spec_l19Span a0 a1 a2) (fun r29 => bd (PF.spec_l19Unit a1.vars) (fun r15070 => bd (PF.spec_l19Reduce a0 r29 r15070) (fun r18075 => bd (PF.spec_l19Lead r18075.1) (fun r39094 => (bif (decide (0 ≤ r39094)) then some ([], false) else bdR (iter (S := ((List (List Term)) × Int)) (X := Empty) (fun s39110 => (bif (decide (s39110.2 < (len a1.clauses))) then bd (nn a1.vars) (fun u129307 => bd (mk2 (0 : Int) (shlK true 64 1 a1.vars) (shlK true 64 1 a1.vars)) (fun xs129308 => bdR (iter (S := ((List Int) × Int)) (X := Empty) (fun s129318 => (bif (decide (s129318.2 < (len r29.kept))) then bd (ix r29.kept s129318.2) (fun x219427 => (bif (x219427.clause == s39110.2) then bd (ix r29.kept s129318.2) (fun x234438 => bd (ix r18075.2 s129318.2) (fun x249438 => bd (ix s129318.1 x234438.mono) (fun x255438 => bd (put s129318.1 x234438.mono x249438) (fun xs258435 => some (Lp.nx (xs258435, (wr (s129318.2 + 1)))))))) else some (Lp.nx (s129318.1, (wr (s129318.2 + 1)))))) else some (Lp.bk (s129318.1, s129318.2)))) (xs129308, 0)) (fun s129318 => bd (PF.spec_l18Sparse a0 s129318.1) (fun r264468 => bd (app s39110.1 [r264468]) (fun xs264491 => some (Lp.nx (xs264491, (wr (s39110.2 + 1))))))) (fun x129318 => nomatch x129318))) else some (Lp.bk (s39110.1, s39110.2)))) ([], 0)) (fun s39110 => some (s39110.1, true)) (fun x39110 => nomatch x39110))))))

noncomputable def spec_FindCertificate (a0 : Int) (a1 : Cnf) (a2 : Int) : Option ((List (List Term)) × Bool) :=
  bd (PF.spec_l19Takes a0 a1) (fun r29 => (bif (bif (!r29) then true else (!(PF.spec_l19Degree a2))) then some ([], false) else bd (PF.spec_l19Find a0 a1 a2) (fun r57 => some (r57.1, r57.2))))

def impl_within (a0 : Int) (a1 : Int) (a2 : Int) : Bool :=
  (bif (decide (a1 ≤ a0)) then (decide (a0 ≤ a2)) else false)

def impl_ringOf (a0 : Int) (a1 : Int) : (ring × Bool) :=
  ((ring.mk a0 a1), (bif (bif (bif (a0 == 2) then true else (a0 == 3)) then true else (a0 == 5)) then (PF.impl_within a1 0 6) else false))

def impl_isLiteral (a0 : Int) (a1 : Int) : Bool :=
  (bif (!(a1 == 0)) then (PF.impl_within a1 (wr (-a0)) a0) else false)

def impl_abs (a0 : Int) : Int :=
  (mx a0 (wr (-a0)))

def impl_varsOk (a0 : Int) : Bool :=
  (PF.impl_within a0 0 12)

def impl_IsClause (a0 : Int) (a1 : List Int) : Option Bool :=
  bdR (forL (S := Unit) (X := Bool) a1 (fun i22 y21 s22 => bd (bif (!(PF.impl_isLiteral a0 y21)) then some true else bd (bif (decide (0 < ((i22 : Nat) : Int))) then bd (ix a1 (wr (((i22 : Nat) : Int) - 1))) (fun x192 => some (decide ((PF.impl_abs y21) ≤ (PF.impl_abs x192)))) else some false) (fun t179 => some t179)) (fun t164 => (bif t164 then some (Lp.rt false) else some (Lp.nx ())))) ()) (fun s22 => some (PF.impl_varsOk a0)) (fun x22 => some x22)

def impl_IsCnf (a0 : Cnf) : Option Bool :=
  bdR (forL (S := Unit) (X := Bool) a0.clauses (fun i30 y29 s30 => bd (PF.impl_IsClause a0.vars y29) (fun r71 => (bif (!r71) then some (Lp.rt false) else some (Lp.nx ())))) ()) (fun s30 => some (bif (PF.impl_varsOk a0.vars) then (decide ((len a0.clauses) ≤ 60)) else false)) (fun x30 => some x30)

def impl_ring_zero (a0 : ring) : Option (List Int) :=
  bd (nn a0.vars) (fun u30 => bd (mk2 (0 : Int) (shlK true 64 1 a0.vars) (shlK true 64 1 a0.vars)) (fun xs31 => some xs31))

def impl_ring_mono (a0 : ring) (a1 : Int) : Option (List Int) :=
  bd (PF.impl_ring_zero a0) (fun r29 => bd (ix r29 a1) (fun x45 => bd (put r29 a1 1) (fun xs50 => some xs50)))

def slices_Clone_impl_dense_int (a0 : List Int) : Option (List Int) :=
  bd (app [] a0) (fun xs30 => some xs30)

def impl_ring_plus (a0 : ring) (a1 : List Int) (a2 : List Int) (a3 : Int) : Option (List Int) :=
  bd (PF.slices_Clone_impl_dense_int a1) (fun r29 => bdR (forL (S := (List Int)) (X := Empty) a2 (fun i40 y39 s40 => bd (ix s40 ((i40 : Nat) : Int)) (fun x117132 => bd (nz a0.p) (fun u141127 => bd (ix s40 ((i40 : Nat) : Int)) (fun x144132 => bd (put s40 ((i40 : Nat) : Int) ((wr (x117132 + (wr (a3 * y39)))).tmod a0.p)) (fun xs147129 => some (Lp.nx xs147129)))))) r29) (fun s40 => some s40) (fun x40 => nomatch x40))

def impl_ring_literal (a0 : ring) (a1 : Int) : Option (List Int) :=
  (bif (decide (0 < a1)) then bd (nn (wr (a1 - 1))) (fun u12031 => bd (PF.impl_ring_mono a0 (shlK true 64 1 (wr (a1 - 1)))) (fun r15030 => some r15030)) else bd (PF.impl_ring_mono a0 0) (fun r33041 => bd (nn (wr ((wr (-a1)) - 1))) (fun u48042 => bd (PF.impl_ring_mono a0 (shlK true 64 1 (wr ((wr (-a1)) - 1)))) (fun r51041 => bd (PF.impl_ring_plus a0 r33041 r51041 (wr (a0.p - 1))) (fun r63051 => some r63051)))))

def impl_ring_times (a0 : ring) (a1 : List Int) (a2 : List Int) : Option (List Int) :=
  bd (PF.impl_ring_zero a0) (fun r29 => bdR (forL (S := (List Int)) (X := Empty) a1 (fun i40 y39 s40 => bdR (forL (S := (List Int)) (X := Empty) a2 (fun i252331 y252330 s252331 => bd (ix s252331 (orK true 64 ((i40 : Nat) : Int) ((i252331 : Nat) : Int))) (fun x405448 => bd (nz a0.p) (fun u429443 => bd (ix s252331 (orK true 64 ((i40 : Nat) : Int) ((i252331 : Nat) : Int))) (fun x432448 => bd (put s252331 (orK true 64 ((i40 : Nat) : Int) ((i252331 : Nat) : Int)) ((wr (x405448 + (wr (y39 * y252330)))).tmod a0.p)) (fun xs435445 => some (Lp.nx xs435445)))))) s40) (fun s252331 => some (Lp.nx s252331)) (fun x252331 => nomatch x252331)) r29) (fun s40 => some s40) (fun x40 => nomatch x40))

def impl_ring_clause (a0 : ring) (a1 : List Int) : Option (List Int) :=
  bd (PF.impl_ring_mono a0 0) (fun r29 => bdR (forL (S := (List Int)) (X := Empty) a1 (fun i40 y39 s40 => bd (PF.impl_ring_literal a0 (wr (-y39))) (fun r78125 => bd (PF.impl_ring_times a0 s40 r78125) (fun r81135 => some (Lp.nx r81135)))) r29) (fun s40 => some s40) (fun x40 => nomatch x40))

def impl_algebraOf (a0 : Int) (a1 : Cnf) : Option ((Option algebra) × Bool) :=
  bd (bif (!((PF.impl_ringOf a0 a1.vars).2)) then some true else bd (PF.impl_IsCnf a1) (fun r55 => some (!r55))) (fun t48 => (bif t48 then some (none, false) else bdR (forL (S := ((List (List Int)) × Int × Int × Int × (List (List Int)))) (X := Empty) a1.clauses (fun i71 y70 s71 => bd (PF.impl_ring_clause ((PF.impl_ringOf a0 a1.vars).1) y70) (fun r114167 => bd (app s71.1 [r114167]) (fun xs120167 => some (Lp.nx (xs120167, s71.2.1, s71.2.2.1, s71.2.2.2.1, s71.2.2.2.2))))) ([], ((PF.impl_ringOf a0 a1.vars).1).p, ((PF.impl_ringOf a0 a1.vars).1).vars, a1.vars, a1.clauses)) (fun s71 => some ((some (algebra.mk (ring.mk s71.2.1 s71.2.2.1) (Cnf.mk s71.2.2.2.1 s71.2.2.2.2) s71.1)), true)) (fun x71 => nomatch x71)))

def impl_degreeOk (a0 : Int) : Bool :=
  (PF.impl_within a0 0 6)

def math_bits_OnesCount64 (a0 : Int) : Int :=
  (andK true 64 (wrk true 64 (wrk false 64 ((wrk false 64 ((wrk false 64 ((andK false 64 (wrk false 64 ((shrK 64 (wrk false 64 ((andK false 64 (shrK 64 (wrk false 64 ((andK false 64 (shrK 64 a0 1) 6148914691236517205) + (andK false 64 a0 6148914691236517205))) 2) 3689348814741910323) + (andK false 64 (wrk false 64 ((andK false 64 (shrK 64 a0 1) 6148914691236517205) + (andK false 64 a0 6148914691236517205))) 3689348814741910323))) 4) + (wrk false 64 ((andK false 64 (shrK 64 (wrk false 64 ((andK false 64 (shrK 64 a0 1) 6148914691236517205) + (andK false 64 a0 6148914691236517205))) 2) 3689348814741910323) + (andK false 64 (wrk false 64 ((andK false 64 (shrK 64 a0 1) 6148914691236517205) + (andK false 64 a0 6148914691236517205))) 3689348814741910323))))) 1085102592571150095) + (shrK 64 (andK false 64 (wrk false 64 ((shrK 64 (wrk false 64 ((andK false 64 (shrK 64 (wrk false 64 ((andK false 64 (shrK 64 a0 1) 6148914691236517205) + (andK false 64 a0 6148914691236517205))) 2) 3689348814741910323) + (andK false 64 (wrk false 64 ((andK false 64 (shrK 64 a0 1) 6148914691236517205) + (andK false 64 a0 6148914691236517205))) 3689348814741910323))) 4) + (wrk false 64 ((andK false 64 (shrK 64 (wrk false 64 ((andK false 64 (shrK 64 a0 1) 6148914691236517205) + (andK false 64 a0 6148914691236517205))) 2) 3689348814741910323) + (andK false 64 (wrk false 64 ((andK false 64 (shrK 64 a0 1) 6148914691236517205) + (andK false 64 a0 6148914691236517205))) 3689348814741910323))))) 1085102592571150095) 8))) + (shrK 64 (wrk false 64 ((andK false 64 (wrk false 64 ((shrK 64 (wrk false 64 ((andK false 64 (shrK 64 (wrk false 64 ((andK false 64 (shrK 64 a0 1) 6148914691236517205) + (andK false 64 a0 6148914691236517205))) 2) 3689348814741910323) + (andK false 64 (wrk false 64 ((andK false 64 (shrK 64 a0 1) 6148914691236517205) + (andK false 64 a0 6148914691236517205))) 3689348814741910323))) 4) + (wrk false 64 ((andK false 64 (shrK 64 (wrk false 64 ((andK false 64 (shrK 64 a0 1) 6148914691236517205) + (andK false 64 a0 6148914691236517205))) 2) 3689348814741910323) + (andK false 64 (wrk false 64 ((andK false 64 (shrK 64 a0 1) 6148914691236517205) + (andK false 64 a0 6148914691236517205))) 3689348814741910323))))) 1085102592571150095) + (shrK 64 (andK false 64 (wrk false 64 ((shrK 64 (wrk false 64 ((andK false 64 (shrK 64 (wrk false 64 ((andK false 64 (shrK 64 a0 1) 6148914691236517205) + (andK false 64 a0 6148914691236517205))) 2) 3689348814741910323) + (andK false 64 (wrk false 64 ((andK false 64 (shrK 64 a0 1) 6148914691236517205) + (andK false 64 a0 6148914691236517205))) 3689348814741910323))) 4) + (wrk false 64 ((andK false 64 (shrK 64 (wrk false 64 ((andK false 64 (shrK 64 a0 1) 6148914691236517205) + (andK false 64 a0 6148914691236517205))) 2) 3689348814741910323) + (andK false 64 (wrk false 64 ((andK false 64 (shrK 64 a0 1) 6148914691236517205) + (andK false 64 a0 6148914691236517205))) 3689348814741910323))))) 1085102592571150095) 8))) 16))) + (shrK 64 (wrk false 64 ((wrk false 64 ((andK false 64 (wrk false 64 ((shrK 64 (wrk false 64 ((andK false 64 (shrK 64 (wrk false 64 ((andK false 64 (shrK 64 a0 1) 6148914691236517205) + (andK false 64 a0 6148914691236517205))) 2) 3689348814741910323) + (andK false 64 (wrk false 64 ((andK false 64 (shrK 64 a0 1) 6148914691236517205) + (andK false 64 a0 6148914691236517205))) 3689348814741910323))) 4) + (wrk false 64 ((andK false 64 (shrK 64 (wrk false 64 ((andK false 64 (shrK 64 a0 1) 6148914691236517205) + (andK false 64 a0 6148914691236517205))) 2) 3689348814741910323) + (andK false 64 (wrk false 64 ((andK false 64 (shrK 64 a0 1) 6148914691236517205) + (andK false 64 a0 6148914691236517205))) 3689348814741910323))))) 1085102592571150095) + (shrK 64 (andK false 64 (wrk false 64 ((shrK 64 (wrk false 64 ((andK false 64 (shrK 64 (wrk false 64 ((andK false 64 (shrK 64 a0 1) 6148914691236517205) + (andK false 64 a0 6148914691236517205))) 2) 3689348814741910323) + (andK false 64 (wrk false 64 ((andK false 64 (shrK 64 a0 1) 6148914691236517205) + (andK false 64 a0 6148914691236517205))) 3689348814741910323))) 4) + (wrk false 64 ((andK false 64 (shrK 64 (wrk false 64 ((andK false 64 (shrK 64 a0 1) 6148914691236517205) + (andK false 64 a0 6148914691236517205))) 2) 3689348814741910323) + (andK false 64 (wrk false 64 ((andK false 64 (shrK 64 a0 1) 6148914691236517205) + (andK false 64 a0 6148914691236517205))) 3689348814741910323))))) 1085102592571150095) 8))) + (shrK 64 (wrk false 64 ((andK false 64 (wrk false 64 ((shrK 64 (wrk false 64 ((andK false 64 (shrK 64 (wrk false 64 ((andK false 64 (shrK 64 a0 1) 6148914691236517205) + (andK false 64 a0 6148914691236517205))) 2) 3689348814741910323) + (andK false 64 (wrk false 64 ((andK false 64 (shrK 64 a0 1) 6148914691236517205) + (andK false 64 a0 6148914691236517205))) 3689348814741910323))) 4) + (wrk false 64 ((andK false 64 (shrK 64 (wrk false 64 ((andK false 64 (shrK 64 a0 1) 6148914691236517205) + (andK false 64 a0 6148914691236517205))) 2) 3689348814741910323) + (andK false 64 (wrk false 64 ((andK false 64 (shrK 64 a0 1) 6148914691236517205) + (andK false 64 a0 6148914691236517205))) 3689348814741910323))))) 1085102592571150095) + (shrK 64 (andK false 64 (wrk false 64 ((shrK 64 (wrk false 64 ((andK false 64 (shrK 64 (wrk false 64 ((andK false 64 (shrK 64 a0 1) 6148914691236517205) + (andK false 64 a0 6148914691236517205))) 2) 3689348814741910323) + (andK false 64 (wrk false 64 ((andK false 64 (shrK 64 a0 1) 6148914691236517205) + (andK false 64 a0 6148914691236517205))) 3689348814741910323))) 4) + (wrk false 64 ((andK false 64 (shrK 64 (wrk false 64 ((andK false 64 (shrK 64 a0 1) 6148914691236517205) + (andK false 64 a0 6148914691236517205))) 2) 3689348814741910323) + (andK false 64 (wrk false 64 ((andK false 64 (shrK 64 a0 1) 6148914691236517205) + (andK false 64 a0 6148914691236517205))) 3689348814741910323))))) 1085102592571150095) 8))) 16))) 32)))) 127)

def math_bits_OnesCount (a0 : Int) : Int :=
  (PF.math_bits_OnesCount64 a0)

def impl_degreeOf (a0 : Int) : Int :=
  (PF.math_bits_OnesCount (wrk false 64 a0))

noncomputable def slices_SortFunc_int_int (a0 : List Int) (a1 : Int → Int → Option Int) : Option (List Int) := sortF a1 a0

def cmp_isNaN_int (a0 : Int) : Bool :=
  (!(a0 == a0))

def cmp_Compare_int (a0 : Int) (a1 : Int) : Int :=
  (bif (PF.cmp_isNaN_int a0) then (bif (PF.cmp_isNaN_int a1) then 0 else (-1)) else (bif (PF.cmp_isNaN_int a1) then 1 else (bif (decide (a0 < a1)) then (-1) else (bif (decide (a1 < a0)) then 1 else 0))))

def cmp_Or_int (a0 : List Int) : Option Int :=
  bdR (forL (S := Unit) (X := Int) a0 (fun i22 y21 s22 => (bif (!(y21 == 0)) then some (Lp.rt y21) else some (Lp.nx ()))) ()) (fun s22 => some 0) (fun x22 => some x22)

def impl_compareMonos (a0 : Int) (a1 : Int) : Option Int :=
  bd (PF.cmp_Or_int [(PF.cmp_Compare_int (PF.impl_degreeOf a0) (PF.impl_degreeOf a1)), (PF.cmp_Compare_int a0 a1)]) (fun r43 => some r43)

noncomputable def impl_graded (a0 : Int) (a1 : Int) : Option (List Int) :=
  bd (nn a0) (fun u22 => bd (chk (shlK true 64 1 a0)) (fun m23 => bdR (forR (S := (List Int)) (X := Empty) 0 m23 (fun i24 s24 => (bif (decide ((PF.impl_degreeOf ((i24 : Nat) : Int)) ≤ a1)) then bd (app s24 [((i24 : Nat) : Int)]) (fun xs76 => some (Lp.nx xs76)) else some (Lp.nx s24))) []) (fun s24 => bd (PF.slices_SortFunc_int_int s24 (fun x0 x1 => PF.impl_compareMonos x0 x1)) (fun r94 => some r94)) (fun x24 => nomatch x24)))

noncomputable def impl_algebra_products (a0 : algebra) (a1 : Int) : Option (List product) :=
  bdR (forL (S := (List product)) (X := Empty) a0.f.clauses (fun i22 y21 s22 => (bif (decide (a1 < (len y21))) then some (Lp.nx s22) else bd (PF.impl_graded a0.ring.vars (wr (a1 - (len y21)))) (fun r81154 => bd (chk (len r81154)) (fun m81164 => bdR (forR (S := (List product)) (X := Empty) 0 m81164 (fun i81165 s81165 => bd (ix r81154 ((i81165 : Nat) : Int)) (fun x162235 => bd (ix a0.q ((i22 : Nat) : Int)) (fun x201243 => bd (PF.impl_ring_mono a0.ring x162235) (fun r222237 => bd (PF.impl_ring_times a0.ring x201243 r222237) (fun r225242 => bd (app s81165 [(product.mk ((i22 : Nat) : Int) x162235 r225242)]) (fun xs234237 => some (Lp.nx xs234237))))))) s22) (fun s81165 => some (Lp.nx s81165)) (fun x81165 => nomatch x81165))))) []) (fun s22 => some s22) (fun x22 => nomatch x22)

def impl_leading (a0 : List Int) : Option Int :=
  bdR (forL (S := Int) (X := Empty) a0 (fun i22 y21 s22 => bd (bif (!(y21 == 0)) then bd (bif (decide (s22 < 0)) then some true else bd (PF.impl_compareMonos ((i22 : Nat) : Int) s22) (fun r158 => some (decide (0 < r158)))) (fun t151 => some t151) else some false) (fun t139 => (bif t139 then some (Lp.nx ((i22 : Nat) : Int)) else some (Lp.nx s22)))) (-1)) (fun s22 => some s22) (fun x22 => nomatch x22)

def impl_echelon_reduce (a0 : echelon) (a1 : List Int) : Option ((List Int) × (List Int) × echelon) :=
  bd (mk2 (0 : Int) a0.many a0.many) (fun xs21 => bd (chk (len a0.rows)) (fun m31 => bdR (forR (S := ((List Int) × (List Int))) (X := Empty) 0 m31 (fun i32 s32 => bd (ix a0.rows ((i32 : Nat) : Int)) (fun x342416 => bd (PF.impl_leading x342416) (fun r342420 => bd (ix s32.2 r342420) (fun x342431 => (bif (!(x342431 == 0)) then bd (PF.impl_ring_plus a0.ring s32.2 x342416 (wr (a0.ring.p - x342431))) (fun r384434 => bd (ix a0.made ((i32 : Nat) : Int)) (fun x393458 => bdR (forL (S := (List Int)) (X := Empty) x393458 (fun i393463 y393462 s393463 => bd (ix s393463 ((i393463 : Nat) : Int)) (fun x528575 => bd (nz a0.ring.p) (fun u561570 => bd (ix s393463 ((i393463 : Nat) : Int)) (fun x564575 => bd (put s393463 ((i393463 : Nat) : Int) ((wr (x528575 + (wr (x342431 * y393462)))).tmod a0.ring.p)) (fun xs567572 => some (Lp.nx xs567572)))))) s32.1) (fun s393463 => some (Lp.nx (s393463, r384434))) (fun x393463 => nomatch x393463))) else some (Lp.nx (s32.1, s32.2))))))) (xs21, a1)) (fun s32 => some (s32.2, s32.1, a0)) (fun x32 => nomatch x32)))

noncomputable def impl_ring_inverse (a0 : ring) (a1 : Int) : Option Int :=
  bdR (iter (S := Int) (X := Int) (fun s29 => bd (nz a0.p) (fun u50 => (bif (((wr (a1 * s29)).tmod a0.p) == 1) then some (Lp.rt s29) else some (Lp.nx (wr (s29 + 1)))))) 1) (fun s29 => some 0) (fun x29 => some x29)

noncomputable def impl_echelon_add (a0 : echelon) (a1 : List Int) : Option (Bool × echelon) :=
  bd (PF.impl_echelon_reduce a0 a1) (fun r21 => bd (PF.impl_leading r21.1) (fun r36 => (bif (decide (r36 < 0)) then some (false, (echelon.mk r21.2.2.ring a0.rows a0.made r21.2.2.many)) else bd (ix r21.1 r36) (fun x49 => bd (PF.impl_ring_inverse r21.2.2.ring x49) (fun r51 => bd (PF.impl_ring_zero r21.2.2.ring) (fun r27056 => bd (PF.impl_ring_plus r21.2.2.ring r27056 r21.1 r51) (fun r36061 => bd (mk2 (0 : Int) (wr (r21.2.2.many + 1)) (wr (r21.2.2.many + 1))) (fun xs45071 => bd (chk (len r21.2.1)) (fun m45081 => bdR (forR (S := (List Int)) (X := Empty) 0 m45081 (fun i45082 s45082 => bd (ix r21.2.1 ((i45082 : Nat) : Int)) (fun x171182 => bd (nz r21.2.2.ring.p) (fun u222185 => bd (ix s45082 ((i45082 : Nat) : Int)) (fun x225190 => bd (put s45082 ((i45082 : Nat) : Int) ((wr ((wr (r21.2.2.ring.p - x171182)) * r51)).tmod r21.2.2.ring.p)) (fun xs228187 => some (Lp.nx xs228187)))))) xs45071) (fun s45082 => bd (ix s45082 r21.2.2.many) (fun x234219 => bd (put s45082 r21.2.2.many r51) (fun xs234224 => bd (chk (len a0.rows)) (fun m234232 => bdR (forR (S := ((List (List Int)) × (List (List Int)) × Int × Int × Int)) (X := Empty) 0 m234232 (fun i234233 s234233 => bd (ix s234233.1 ((i234233 : Nat) : Int)) (fun x1014667 => bd (ix s234233.2.1 ((i234233 : Nat) : Int)) (fun x1047677 => bd (PF.slices_Clone_impl_dense_int x1047677) (fun r1053671 => bd (ix s234233.2.1 ((i234233 : Nat) : Int)) (fun x1083677 => bd (appZ r1053671 (wr (s234233.2.2.2.2 - (len x1083677)))) (fun xs1095671 => bd (ix s234233.2.1 ((i234233 : Nat) : Int)) (fun x1098677 => bd (ix x1014667 r36) (fun x1107698 => (bif (!(x1107698 == 0)) then bd (PF.impl_ring_plus (ring.mk s234233.2.2.1 s234233.2.2.2.1) x1014667 r36061 (wr (s234233.2.2.1 - x1107698))) (fun r1164706 => bd (ix s234233.1 ((i234233 : Nat) : Int)) (fun x1167707 => bd (put s234233.1 ((i234233 : Nat) : Int) r1164706) (fun xs1170709 => bd (chk (len xs234224)) (fun m1176719 => bdR (forR (S := (List Int)) (X := Empty) 0 m1176719 (fun i1176720 s1176720 => bd (ix xs234224 ((i1176720 : Nat) : Int)) (fun x1404834 => bd (ix s1176720 ((i1176720 : Nat) : Int)) (fun x1455842 => bd (nz s234233.2.2.1) (fun u1506837 => bd (ix s1176720 ((i1176720 : Nat) : Int)) (fun x1509842 => bd (put s1176720 ((i1176720 : Nat) : Int) ((wr (x1455842 + (wr ((wr (s234233.2.2.1 - x1107698)) * x1404834)))).tmod s234233.2.2.1)) (fun xs1512839 => some (Lp.nx xs1512839))))))) xs1095671) (fun s1176720 => bd (put s234233.2.1 ((i234233 : Nat) : Int) s1176720) (fun xs1518874 => some (Lp.nx (xs1170709, xs1518874, s234233.2.2.1, s234233.2.2.2.1, s234233.2.2.2.2)))) (fun x1176720 => nomatch x1176720))))) else bd (put s234233.2.1 ((i234233 : Nat) : Int) xs1095671) (fun xs1518899 => some (Lp.nx (s234233.1, xs1518899, s234233.2.2.1, s234233.2.2.2.1, s234233.2.2.2.2)))))))))))) (a0.rows, a0.made, r21.2.2.ring.p, r21.2.2.ring.vars, (wr (r21.2.2.many + 1)))) (fun s234233 => bd (app s234233.1 [r36061]) (fun xs1518922 => bd (app s234233.2.1 [xs234224]) (fun xs1518948 => some (true, (echelon.mk (ring.mk s234233.2.2.1 s234233.2.2.2.1) xs1518922 xs1518948 s234233.2.2.2.2))))) (fun x234233 => nomatch x234233))))) (fun x45082 => nomatch x45082))))))))))

noncomputable def impl_algebra_independent (a0 : algebra) (a1 : Int) : Option ((List product) × (Option echelon)) :=
  bd (PF.impl_algebra_products a0 a1) (fun r29 => bd (chk (len r29)) (fun m41 => bdR (forR (S := ((List (List Int)) × (List (List Int)) × Int × Int × Int × (List product))) (X := Empty) 0 m41 (fun i42 s42 => bd (ix r29 ((i42 : Nat) : Int)) (fun x208 => bd (PF.impl_echelon_add (echelon.mk (ring.mk s42.2.2.1 s42.2.2.2.1) s42.2.1 s42.1 s42.2.2.2.2.1) x208.poly) (fun r223 => (bif r223.1 then bd (app s42.2.2.2.2.2 [x208]) (fun xs247 => some (Lp.nx (r223.2.made, r223.2.rows, r223.2.ring.p, r223.2.ring.vars, r223.2.many, xs247))) else some (Lp.nx (r223.2.made, r223.2.rows, r223.2.ring.p, r223.2.ring.vars, r223.2.many, s42.2.2.2.2.2)))))) ([], [], a0.ring.p, a0.ring.vars, 0, [])) (fun s42 => some (s42.2.2.2.2.2, (some (echelon.mk (ring.mk s42.2.2.1 s42.2.2.2.1) s42.2.1 s42.1 s42.2.2.2.2.1)))) (fun x42 => nomatch x42)))

def impl_dense_degree (a0 : List Int) : Option Int :=
  bdR (forL (S := Int) (X := Empty) a0 (fun i22 y21 s22 => (bif (!(y21 == 0)) then some (Lp.nx (mx s22 (PF.impl_degreeOf ((i22 : Nat) : Int)))) else some (Lp.nx s22))) (-1)) (fun s22 => some s22) (fun x22 => nomatch x22)

def impl_dense_isZero (a0 : List Int) : Option Bool :=
  bd (PF.impl_dense_degree a0) (fun r21 => some (decide (r21 < 0)))

def impl_dense_terms (a0 : List Int) : Option (List Term) :=
  bdR (forL (S := (List Term)) (X := Empty) a0 (fun i22 y21 s22 => (bif (!(y21 == 0)) then bd (app s22 [(Term.mk ((i22 : Nat) : Int) y21)]) (fun xs80 => some (Lp.nx xs80)) else some (Lp.nx s22))) []) (fun s22 => some s22) (fun x22 => nomatch x22)

noncomputable def impl_FindCertificate (a0 : Int) (a1 : Cnf) (a2 : Int) : Option ((List (List Term)) × Bool) :=
  bd (PF.impl_algebraOf a0 a1) (fun r29 => (bif (bif (!r29.2) then true else (!(PF.impl_degreeOk a2))) then some ([], false) else bd r29.1 (fun y55 => bd (PF.impl_algebra_independent y55 a2) (fun r66 => bd r66.2 (fun y79 => bd (PF.impl_ring_mono y55.ring 0) (fun r91 => bd (β := _) (bd (mk2 (0 : Int) y79.many y79.many) (fun xs684904 => bdR (forL (S := ((List Int) × (List Int))) (X := Empty) y79.rows (fun i684915 y684914 s684915 => bd (PF.impl_leading y684914) (fun r1027298 => bd (ix s684915.2 r1027298) (fun x1027309 => (bif (!(x1027309 == 0)) then bd (PF.impl_ring_plus y79.ring s684915.2 y684914 (wr (y79.ring.p - x1027309))) (fun r1069312 => bd (ix y79.made ((i684915 : Nat) : Int)) (fun x1078336 => bdR (forL (S := (List Int)) (X := Empty) x1078336 (fun i1078341 y1078340 s1078341 => bd (ix s1078341 ((i1078341 : Nat) : Int)) (fun x1213453 => bd (nz y79.ring.p) (fun u1246448 => bd (ix s1078341 ((i1078341 : Nat) : Int)) (fun x1249453 => bd (put s1078341 ((i1078341 : Nat) : Int) ((wr (x1213453 + (wr (x1027309 * y1078340)))).tmod y79.ring.p)) (fun xs1252450 => some (Lp.nx xs1252450)))))) s684915.1) (fun s1078341 => some (Lp.nx (s1078341, r1069312))) (fun x1078341 => nomatch x1078341))) else some (Lp.nx (s684915.1, s684915.2)))))) (xs684904, r91)) (fun s684915 => some (s684915.1, s684915.2)) (fun x684915 => nomatch x684915)) : Option ((List Int) × (List Int))) (fun s684897 => bd (PF.impl_dense_isZero s684897.2) (fun r1258523 => (bif (!r1258523) then some ([], false) else bd (mk2 ([] : List Int) (len a1.clauses) (len a1.clauses)) (fun xs1258529 => bd (chk (len xs1258529)) (fun m1258540 => bdR (forR (S := (List (List Int))) (X := Empty) 0 m1258540 (fun i1258541 s1258541 => bd (PF.impl_ring_zero y55.ring) (fun r1258648 => bd (ix s1258541 ((i1258541 : Nat) : Int)) (fun x1258664 => bd (put s1258541 ((i1258541 : Nat) : Int) r1258648) (fun xs1258676 => some (Lp.nx xs1258676))))) xs1258529) (fun s1258541 => bd (chk (len r66.1)) (fun m1258692 => bdR (forR (S := (List (List Int))) (X := Empty) 0 m1258692 (fun i1258693 s1258693 => bd (ix r66.1 ((i1258693 : Nat) : Int)) (fun x1426812 => bd (ix s1258693 x1426812.clause) (fun x1459833 => bd (PF.impl_ring_mono y55.ring x1426812.mono) (fun r1483827 => bd (ix s684897.1 ((i1258693 : Nat) : Int)) (fun x1492833 => bd (PF.impl_ring_plus y55.ring x1459833 r1483827 x1492833) (fun r1498832 => bd (ix s1258693 x1426812.clause) (fun x1501833 => bd (put s1258693 x1426812.clause r1498832) (fun xs1504835 => some (Lp.nx xs1504835))))))))) s1258541) (fun s1258693 => bd (chk (len s1258693)) (fun m1510851 => bdR (forR (S := (List (List Term))) (X := Empty) 0 m1510851 (fun i1510852 s1510852 => bd (ix s1258693 ((i1510852 : Nat) : Int)) (fun x1510925 => bd (PF.impl_dense_terms x1510925) (fun r1510929 => bd (app s1510852 [r1510929]) (fun xs1510950 => some (Lp.nx xs1510950))))) []) (fun s1510852 => some (s1510852, true)) (fun x1510852 => nomatch x1510852))) (fun x1258693 => nomatch x1258693))) (fun x1258541 => nomatch x1258541))))))))))))

def laws_eqTerm (a0 : Term) (a1 : Term) : Bool :=
  (bif (!(a0.mono == a1.mono)) then false else (bif (!(a0.coeff == a1.coeff)) then false else true))

def laws_eqTermS (a0 : List Term) (a1 : List Term) : Option Bool :=
  (bif (!((len a0) == (len a1))) then some false else bdR (forL (S := Unit) (X := Bool) a0 (fun i23 y22 s23 => bd (ix a1 ((i23 : Nat) : Int)) (fun x72 => (bif (!(PF.laws_eqTerm y22 x72)) then some (Lp.rt false) else some (Lp.nx ())))) ()) (fun s23 => some true) (fun x23 => some x23))

def laws_eqTermSS (a0 : List (List Term)) (a1 : List (List Term)) : Option Bool :=
  (bif (!((len a0) == (len a1))) then some false else bdR (forL (S := Unit) (X := Bool) a0 (fun i23 y22 s23 => bd (ix a1 ((i23 : Nat) : Int)) (fun x80 => bd (PF.laws_eqTermS y22 x80) (fun r84 => (bif (!r84) then some (Lp.rt false) else some (Lp.nx ()))))) ()) (fun s23 => some true) (fun x23 => some x23))

def laws_eqIntS (a0 : List Int) (a1 : List Int) : Option Bool :=
  (bif (!((len a0) == (len a1))) then some false else bdR (forL (S := Unit) (X := Bool) a0 (fun i23 y22 s23 => bd (ix a1 ((i23 : Nat) : Int)) (fun x72 => (bif (!(y22 == x72)) then some (Lp.rt false) else some (Lp.nx ())))) ()) (fun s23 => some true) (fun x23 => some x23))

def laws_eqIntSS (a0 : List (List Int)) (a1 : List (List Int)) : Option Bool :=
  (bif (!((len a0) == (len a1))) then some false else bdR (forL (S := Unit) (X := Bool) a0 (fun i23 y22 s23 => bd (ix a1 ((i23 : Nat) : Int)) (fun x80 => bd (PF.laws_eqIntS y22 x80) (fun r84 => (bif (!r84) then some (Lp.rt false) else some (Lp.nx ()))))) ()) (fun s23 => some true) (fun x23 => some x23))

def laws_eqCnf (a0 : Cnf) (a1 : Cnf) : Option Bool :=
  (bif (!(a0.vars == a1.vars)) then some false else bd (PF.laws_eqIntSS a0.clauses a1.clauses) (fun r38 => (bif (!r38) then some false else some true)))

def laws_markIntS (a0 : List Int) (a1 : Int) : List Int × Int :=
  markFrom (fun y m => (m, (wr (m + 1)))) a0 a1

def laws_markIntSS (a0 : List (List Int)) (a1 : Int) : List (List Int) × Int :=
  markFrom (fun y m => ((PF.laws_markIntS y m).1, (PF.laws_markIntS y m).2)) a0 a1

def laws_markCnf (a0 : Cnf) (a1 : Int) : Cnf × Int :=
  let r := PF.laws_markIntSS a0.clauses a1
  ((Cnf.mk a0.vars r.1), r.2)

def laws_markTermS (a0 : List Term) (a1 : Int) : List Term × Int :=
  markFrom (fun y m => ((Term.mk m (wr (m + 1))), (wr ((wr (m + 1)) + 1)))) a0 a1

def laws_markTermSS (a0 : List (List Term)) (a1 : Int) : List (List Term) × Int :=
  markFrom (fun y m => ((PF.laws_markTermS y m).1, (PF.laws_markTermS y m).2)) a0 a1

def laws_heldTermS (a0 : List Term) (a1 : Int) : Option Int :=
  bdR (forL (S := Int) (X := Int) a0 (fun i22 y21 s22 => (bif (!(y21.mono == s22)) then some (Lp.rt (-1)) else (bif (!(y21.coeff == (wr (s22 + 1)))) then some (Lp.rt (-1)) else some (Lp.nx (wr ((wr (s22 + 1)) + 1)))))) a1) (fun s22 => some s22) (fun x22 => some x22)

def laws_heldTermSS (a0 : List (List Term)) (a1 : Int) : Option Int :=
  bdR (forL (S := Int) (X := Int) a0 (fun i22 y21 s22 => bd (PF.laws_heldTermS y21 s22) (fun r61 => (bif (decide (r61 < 0)) then some (Lp.rt (-1)) else some (Lp.nx r61)))) a1) (fun s22 => some s22) (fun x22 => some x22)

noncomputable def laws_FnExactFindCertificate (a0 : Int) (a1 : Cnf) (a2 : Int) : Option Bool :=
  bd (PF.laws_szCnf a1 1048576) (fun r29 => (bif (decide (r29 < 0)) then some true else bd (PF.laws_toCnf a1) (fun r36 => bd (PF.spec_FindCertificate a0 r36 a2) (fun r48 => bd (PF.laws_toCnf a1) (fun r67 => bd (PF.impl_FindCertificate a0 r67 a2) (fun r91 => bd (PF.laws_eqTermSS r91.1 r48.1) (fun r110 => (bif (bif (!r110) then true else (!(r91.2 == r48.2))) then some false else bd (PF.laws_toCnf a1) (fun r9133 => bd (PF.laws_eqCnf r67 r9133) (fun r12133 => (bif (!r12133) then some false else bd (bif (decide ((PF.laws_markCnf r67 1).2 < 0)) then some true else bd (PF.laws_eqTermSS r91.1 r48.1) (fun r21177 => some (!r21177))) (fun t21170 => (bif (bif t21170 then true else (!(r91.2 == r48.2))) then some false else bd (PF.laws_heldTermSS ((PF.laws_markTermSS r91.1 1).1) 1) (fun r21218 => (bif (decide (r21218 < 0)) then some false else (bif (!(r21218 == (PF.laws_markTermSS r91.1 1).2)) then some false else bd (PF.laws_toCnf a1) (fun r21226 => bd (PF.impl_FindCertificate a0 r21226 a2) (fun r21238 => bd (PF.laws_eqTermSS r21238.1 r48.1) (fun r21257 => (bif (bif (!r21257) then true else (!(r21238.2 == r48.2))) then some false else bd (PF.laws_heldTermSS ((PF.laws_markTermSS r91.1 1).1) 1) (fun r21274 => (bif (decide (r21274 < 0)) then some false else (bif (!(r21274 == (PF.laws_markTermSS r91.1 1).2)) then some false else some true)))))))))))))))))))))))

end Go.PF
