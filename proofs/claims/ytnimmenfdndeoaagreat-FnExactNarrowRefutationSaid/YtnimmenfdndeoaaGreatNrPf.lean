/- Part of the walks and plain laws behind the claim: it proves helpers, under no condition beyond their own. -/
import Derived.Test.YtnimmenfdndeoaaGreatNrLB
set_option linter.unusedVariables false
namespace Go.PF
open Go.Pu

structure Cnf where
  vars : Int
  clauses : List (List Int)
def okCnf (s : Cnf) : Prop := okI s.vars ∧ (okL (okL okI)) s.clauses

structure Charged where
  vertices : Int
  edges : List (Int × Int)
  charges : List Int
structure ResStep where
  clause : List Int
  left : Int
  right : Int
  pivot : Int
structure l13Work where
  all : List (List Int)
  rounds : List Int
  counts : List Int
  left : List (List Int)
structure pebbles where
  f : Cnf
  w : Int
  all : List (List Int)
  is : List Bool
  rounds : List Int
structure l1Cur where
  code : List Int
  at_ : Int
  seed : Int
structure SpaceStep where
  kind : Int
  a : Int
  b : Int
  pivot : Int
structure family where
  vars : Int
  clauses : List (List Int)
structure l10Work where
  list : List (List Int)
  rounds : List Int
  left : List Int
  right : List Int
  pivots : List Int
  sorted : List (List Int)
structure closure where
  masks : List Int
  rounds : List (Int × Int)
  last : Int
structure sourced where
  clause : List Int
  a : List Int
  b : List Int
  v : Int
structure l15Ways where
  axiomS : List Bool
  pairs : List (List Int)
structure spaces where
  f : Cnf
  all : List (List Int)
  parents : List (List Int)
structure reached where
  vertex : Int
  edge : Int
def laws_szIntS (a0 : List Int) (a1 : Int) : Int :=
  (bif (decide ((wr (a1 - (len a0))) < 0)) then (-1) else (wr (a1 - (len a0))))

def laws_szIntSS (a0 : List (List Int)) (a1 : Int) : Option Int :=
  (bif (decide ((wr (a1 - (len a0))) < 0)) then some (-1) else bdR (forL (S := Int) (X := Int) a0 (fun i23 y22 s23 => (bif (decide ((PF.laws_szIntS y22 s23) < 0)) then some (Lp.rt (-1)) else some (Lp.nx (PF.laws_szIntS y22 s23)))) (wr (a1 - (len a0)))) (fun s23 => some s23) (fun x23 => some x23))

def laws_szCnf (a0 : Cnf) (a1 : Int) : Option Int :=
  bd (PF.laws_szIntSS a0.clauses a1) (fun r29 => (bif (decide (r29 < 0)) then some (-1) else some r29))

def laws_toIntS (a0 : List Int) : Option (List Int) :=
  bd (mk2 (0 : Int) (len a0) (len a0)) (fun xs21 => bdR (forL (S := (List Int)) (X := Empty) a0 (fun i32 y31 s32 => bd (ix s32 ((i32 : Nat) : Int)) (fun x117 => bd (put s32 ((i32 : Nat) : Int) y31) (fun xs122 => some (Lp.nx xs122)))) xs21) (fun s32 => some s32) (fun x32 => nomatch x32))

def laws_toIntSS (a0 : List (List Int)) : Option (List (List Int)) :=
  bd (mk2 ([] : List Int) (len a0) (len a0)) (fun xs21 => bdR (forL (S := (List (List Int))) (X := Empty) a0 (fun i33 y32 s33 => bd (PF.laws_toIntS y32) (fun r155 => bd (ix s33 ((i33 : Nat) : Int)) (fun x171 => bd (put s33 ((i33 : Nat) : Int) r155) (fun xs183 => some (Lp.nx xs183))))) xs21) (fun s33 => some s33) (fun x33 => nomatch x33))

def laws_toCnf (a0 : Cnf) : Option Cnf :=
  bd (PF.laws_toIntSS a0.clauses) (fun r40 => some (Cnf.mk a0.vars r40))

def spec_l1In (a0 : Int) (a1 : Int) (a2 : Int) : Bool :=
  (bif (decide (a1 ≤ a0)) then (decide (a0 ≤ a2)) else false)

def spec_l2Vars (a0 : Int) : Bool :=
  (PF.spec_l1In a0 0 12)

def spec_l2Lit (a0 : Int) (a1 : Int) : Bool :=
  (bif (PF.spec_l1In a1 (wr (-a0)) a0) then (!(a1 == 0)) else false)

def spec_l2Var (a0 : Int) : Int :=
  (bif (decide (a0 < 0)) then (wr (-a0)) else a0)

def spec_l2Clause (a0 : Int) (a1 : List Int) : Option Bool :=
  (bif (!(PF.spec_l2Vars a0)) then some false else bdR (forL (S := Unit) (X := Bool) a1 (fun i26 y25 s26 => bd (bif (!(PF.spec_l2Lit a0 y25)) then some true else bd (bif (decide (0 < ((i26 : Nat) : Int))) then bd (ix a1 (wr (((i26 : Nat) : Int) - 1))) (fun x226 => some (decide ((PF.spec_l2Var y25) ≤ (PF.spec_l2Var x226)))) else some false) (fun t213 => some t213)) (fun t192 => (bif t192 then some (Lp.rt false) else some (Lp.nx ())))) ()) (fun s26 => some true) (fun x26 => some x26))

noncomputable def spec_l2Good (a0 : Cnf) : Option Bool :=
  (bif (bif (!(PF.spec_l2Vars a0.vars)) then true else (decide (60 < (len a0.clauses)))) then some false else bdR (iter (S := Int) (X := Bool) (fun s42 => (bif (decide (s42 < (len a0.clauses))) then bd (ix a0.clauses s42) (fun x83 => bd (PF.spec_l2Clause a0.vars x83) (fun r87 => (bif (!r87) then some (Lp.rt false) else some (Lp.nx (wr (s42 + 1)))))) else some (Lp.bk s42))) 0) (fun s42 => some true) (fun x42 => some x42))

noncomputable def spec_l10Good (a0 : Cnf) : Option Bool :=
  bd (bif (decide (a0.vars ≤ 6)) then bd (PF.spec_l2Good a0) (fun r41 => some r41) else some false) (fun t34 => some t34)

def spec_l1Own (a0 : List Int) : Option (List Int) :=
  bd (app [] a0) (fun xs26 => some xs26)

def spec_l2Key (a0 : Int) : Int :=
  (bif (decide (a0 < 0)) then (wr ((wr ((-2) * a0)) + 1)) else (wr (2 * a0)))

def spec_l2Before (a0 : List Int) (a1 : List Int) : Option Bool :=
  (bif (!((len a0) == (len a1))) then some (decide ((len a0) < (len a1))) else bdR (forL (S := Unit) (X := Bool) a0 (fun i23 y22 s23 => bd (ix a1 ((i23 : Nat) : Int)) (fun x90 => (bif (!(y22 == x90)) then bd (ix a1 ((i23 : Nat) : Int)) (fun x109 => some (Lp.rt (decide ((PF.spec_l2Key y22) < (PF.spec_l2Key x109))))) else some (Lp.nx ())))) ()) (fun s23 => some false) (fun x23 => some x23))

noncomputable def spec_l2Place (a0 : List (List Int)) (a1 : List Int) : Option Int :=
  bdR (iter (S := (Int × Int)) (X := Empty) (fun s21 => (bif (decide (s21.1 < s21.2)) then bd (ix a0 (wr ((wr (s21.1 + s21.2)).tdiv 2))) (fun x64 => bd (PF.spec_l2Before x64 a1) (fun r68 => (bif r68 then some (Lp.nx ((wr ((wr ((wr (s21.1 + s21.2)).tdiv 2)) + 1)), s21.2)) else some (Lp.nx (s21.1, (wr ((wr (s21.1 + s21.2)).tdiv 2))))))) else some (Lp.bk (s21.1, s21.2)))) (0, (len a0))) (fun s21 => some s21.1) (fun x21 => nomatch x21)

def spec_l1Same (a0 : List Int) (a1 : List Int) : Option Bool :=
  (bif (!((len a0) == (len a1))) then some false else bdR (forL (S := Unit) (X := Bool) a0 (fun i23 y22 s23 => bd (ix a1 ((i23 : Nat) : Int)) (fun x72 => (bif (!(y22 == x72)) then some (Lp.rt false) else some (Lp.nx ())))) ()) (fun s23 => some true) (fun x23 => some x23))

noncomputable def spec_l2Insert (a0 : List (List Int)) (a1 : List Int) : Option (List (List Int)) :=
  bd (PF.spec_l2Place a0 a1) (fun r21 => bd (bif (decide (r21 < (len a0))) then bd (ix a0 r21) (fun x54 => bd (PF.spec_l1Same x54 a1) (fun r58 => some r58)) else some false) (fun t41 => (bif t41 then some a0 else bd (cut a0 0 r21) (fun xs12068 => bd (app [] xs12068) (fun xs15068 => bd (app xs15068 [a1]) (fun xs24068 => bd (cut a0 r21 (len a0)) (fun xs33068 => bd (app xs24068 xs33068) (fun xs36068 => some xs36068))))))))

noncomputable def spec_l10Order (a0 : l10Work) : Option (List Int) :=
  bdR (iter (S := ((List Int) × Int)) (X := Empty) (fun s34 => (bif (decide (s34.2 < (len a0.list))) then bdR (iter (S := (Int × Int)) (X := Empty) (fun s84226 => (bif (decide (s84226.1 < s84226.2)) then bd (ix s34.1 (wr ((wr (s84226.1 + s84226.2)).tdiv 2))) (fun x84291 => bd (ix a0.list x84291) (fun x84299 => bd (ix a0.list s34.2) (fun x84309 => bd (PF.spec_l2Before x84299 x84309) (fun r84313 => (bif r84313 then some (Lp.nx ((wr ((wr ((wr (s84226.1 + s84226.2)).tdiv 2)) + 1)), s84226.2)) else some (Lp.nx (s84226.1, (wr ((wr (s84226.1 + s84226.2)).tdiv 2))))))))) else some (Lp.bk (s84226.1, s84226.2)))) (0, (len s34.1))) (fun s84226 => bd (cut s34.1 0 s84226.1) (fun xs93329 => bd (PF.spec_l1Own xs93329) (fun r96329 => bd (app r96329 [s34.2]) (fun xs105329 => bd (cut s34.1 s84226.1 (len s34.1)) (fun xs114329 => bd (app xs105329 xs114329) (fun xs117329 => some (Lp.nx (xs117329, (wr (s34.2 + 1)))))))))) (fun x84226 => nomatch x84226) else some (Lp.bk (s34.1, s34.2)))) ([], 0)) (fun s34 => some s34.1) (fun x34 => nomatch x34)

def spec_l1Has (a0 : List Int) (a1 : Int) : Option Bool :=
  bdR (forL (S := Unit) (X := Bool) a0 (fun i22 y21 s22 => (bif (y21 == a1) then some (Lp.rt true) else some (Lp.nx ()))) ()) (fun s22 => some false) (fun x22 => some x22)

def spec_l2Has (a0 : List Int) (a1 : Int) : Option Bool :=
  bd (PF.spec_l1Has a0 a1) (fun r21 => some r21)

def spec_l2Without (a0 : List Int) (a1 : Int) : Option (List Int) :=
  bdR (forL (S := (List Int)) (X := Empty) a0 (fun i27 y26 s27 => (bif (!((PF.spec_l2Var y26) == a1)) then bd (app s27 [y26]) (fun xs103 => some (Lp.nx xs103)) else some (Lp.nx s27))) []) (fun s27 => some s27) (fun x27 => nomatch x27)

noncomputable def spec_l2Put (a0 : List Int) (a1 : Int) : Option (List Int) :=
  bdR (iter (S := Int) (X := Empty) (fun s21 => bd (bif (decide (s21 < (len a0))) then bd (ix a0 s21) (fun x105 => some (decide ((PF.spec_l2Var x105) < (PF.spec_l2Var a1)))) else some false) (fun t92 => (bif t92 then some (Lp.nx (wr (s21 + 1))) else some (Lp.bk s21)))) 0) (fun s21 => bd (cut a0 0 s21) (fun xs9127 => bd (PF.spec_l1Own xs9127) (fun r12127 => bd (app r12127 [a1]) (fun xs21127 => bd (cut a0 s21 (len a0)) (fun xs30127 => bd (app xs21127 xs30127) (fun xs33127 => some xs33127)))))) (fun x21 => nomatch x21)

noncomputable def spec_l2Join (a0 : List Int) (a1 : List Int) : Option ((List Int) × Bool) :=
  bd (PF.spec_l1Own a0) (fun r21 => bdR (forL (S := (List Int)) (X := ((List Int) × Bool)) a1 (fun i32 y31 s32 => bd (PF.spec_l2Has s32 (wr (-y31))) (fun r200 => (bif r200 then some (Lp.rt ([], false)) else bd (PF.spec_l2Has s32 y31) (fun r222 => (bif (!r222) then bd (PF.spec_l2Put s32 y31) (fun r239 => some (Lp.nx r239)) else some (Lp.nx s32)))))) r21) (fun s32 => some (s32, true)) (fun x32 => some x32))

noncomputable def spec_l2Resolve (a0 : List Int) (a1 : List Int) (a2 : Int) : Option ((List Int) × Bool) :=
  bd (PF.spec_l2Has a0 a2) (fun r21 => bd (bif (!r21) then some true else bd (PF.spec_l2Has a1 (wr (-a2))) (fun r38 => some (!r38))) (fun t31 => (bif t31 then some ([], false) else bd (PF.spec_l2Without a0 a2) (fun r53 => bd (PF.spec_l2Without a1 a2) (fun r63 => bd (PF.spec_l2Join r53 r63) (fun r83 => some (r83.1, r83.2)))))))

noncomputable def spec_l2At (a0 : List (List Int)) (a1 : List Int) : Option Int :=
  bd (PF.spec_l2Place a0 a1) (fun r21 => bd (bif (decide (r21 < (len a0))) then bd (ix a0 r21) (fun x54 => bd (PF.spec_l1Same x54 a1) (fun r58 => some r58)) else some false) (fun t41 => (bif t41 then some r21 else some (-1))))

noncomputable def spec_l10Round (a0 : Int) (a1 : l10Work) (a2 : Int) (a3 : Int) : Option (l10Work × Bool) :=
  bd (PF.spec_l10Order a1) (fun r64 => bdR (iter (S := ((List Int) × (List Int) × (List Int) × (List (List Int)) × Int)) (X := Empty) (fun s118 => (bif (decide (s118.2.2.2.2 < (len r64))) then bdR (iter (S := ((List Int) × (List Int) × (List Int) × (List (List Int)) × Int)) (X := Empty) (fun s1970620 => (bif (decide (s1970620.2.2.2.2 < (len r64))) then bd (ix r64 s118.2.2.2.2) (fun x2955839 => bd (ix a1.rounds x2955839) (fun x2955847 => bd (bif (decide (x2955847 < (wr (a3 - 1)))) then bd (ix r64 s1970620.2.2.2.2) (fun x2955878 => bd (ix a1.rounds x2955878) (fun x2955886 => some (decide (x2955886 < (wr (a3 - 1)))))) else some false) (fun t2955865 => (bif t2955865 then some (Lp.nx (s1970620.1, s1970620.2.1, s1970620.2.2.1, s1970620.2.2.2.1, (wr (s1970620.2.2.2.2 + 1)))) else bdR (iter (S := ((List Int) × (List Int) × (List Int) × (List (List Int)) × Int)) (X := Empty) (fun s2955903 => (bif (decide (s2955903.2.2.2.2 ≤ a0)) then bd (ix r64 s118.2.2.2.2) (fun x3463404 => bd (ix a1.list x3463404) (fun x3469404 => bd (ix r64 s1970620.2.2.2.2) (fun x3487404 => bd (ix a1.list x3487404) (fun x3493404 => bd (PF.spec_l2Resolve x3469404 x3493404 s2955903.2.2.2.2) (fun r3502398 => bd (bif (bif (!r3502398.2) then true else (decide (a2 < (len r3502398.1)))) then some true else bd (PF.spec_l2At a1.sorted r3502398.1) (fun r3523461 => some (decide (0 ≤ r3523461)))) (fun t3523449 => bd (bif t3523449 then some true else bd (PF.spec_l2At s2955903.2.2.2.1 r3502398.1) (fun r3523500 => some (decide (0 ≤ r3523500)))) (fun t3523488 => (bif t3523488 then some (Lp.nx (s2955903.1, s2955903.2.1, s2955903.2.2.1, s2955903.2.2.2.1, (wr (s2955903.2.2.2.2 + 1)))) else bd (PF.spec_l2Place s2955903.2.2.2.1 r3502398.1) (fun r3523523 => bd (PF.spec_l2Insert s2955903.2.2.2.1 r3502398.1) (fun r3523533 => bd (cut s2955903.1 0 r3523523) (fun xs3535544 => bd (PF.spec_l1Own xs3535544) (fun r3538544 => bd (ix r64 s118.2.2.2.2) (fun x3547550 => bd (app r3538544 [x3547550]) (fun xs3556544 => bd (cut s2955903.1 r3523523 (len s2955903.1)) (fun xs3568544 => bd (app xs3556544 xs3568544) (fun xs3571544 => bd (cut s2955903.2.1 0 r3523523) (fun xs3595570 => bd (PF.spec_l1Own xs3595570) (fun r3598570 => bd (ix r64 s1970620.2.2.2.2) (fun x3607576 => bd (app r3598570 [x3607576]) (fun xs3616570 => bd (cut s2955903.2.1 r3523523 (len s2955903.2.1)) (fun xs3628570 => bd (app xs3616570 xs3628570) (fun xs3631570 => bd (cut s2955903.2.2.1 0 r3523523) (fun xs3655596 => bd (PF.spec_l1Own xs3655596) (fun r3658596 => bd (app r3658596 [s2955903.2.2.2.2]) (fun xs3667596 => bd (cut s2955903.2.2.1 r3523523 (len s2955903.2.2.1)) (fun xs3679596 => bd (app xs3667596 xs3679596) (fun xs3682596 => some (Lp.nx (xs3571544, xs3631570, xs3682596, r3523533, (wr (s2955903.2.2.2.2 + 1))))))))))))))))))))))))))))))) else some (Lp.bk (s2955903.1, s2955903.2.1, s2955903.2.2.1, s2955903.2.2.2.1, s2955903.2.2.2.2)))) (s1970620.1, s1970620.2.1, s1970620.2.2.1, s1970620.2.2.2.1, 1)) (fun s2955903 => some (Lp.nx (s2955903.1, s2955903.2.1, s2955903.2.2.1, s2955903.2.2.2.1, (wr (s1970620.2.2.2.2 + 1))))) (fun x2955903 => nomatch x2955903))))) else some (Lp.bk (s1970620.1, s1970620.2.1, s1970620.2.2.1, s1970620.2.2.2.1, s1970620.2.2.2.2)))) (s118.1, s118.2.1, s118.2.2.1, s118.2.2.2.1, 0)) (fun s1970620 => some (Lp.nx (s1970620.1, s1970620.2.1, s1970620.2.2.1, s1970620.2.2.2.1, (wr (s118.2.2.2.2 + 1))))) (fun x1970620 => nomatch x1970620) else some (Lp.bk (s118.1, s118.2.1, s118.2.2.1, s118.2.2.2.1, s118.2.2.2.2)))) ([], [], [], [], 0)) (fun s118 => bdR (iter (S := ((List (List Int)) × (List Int) × (List (List Int)) × Int)) (X := Empty) (fun s3694660 => (bif (decide (s3694660.2.2.2 < (len s118.2.2.2.1))) then bd (ix s118.2.2.2.1 s3694660.2.2.2) (fun x3862804 => bd (app s3694660.1 [x3862804]) (fun xs3871798 => bd (app s3694660.2.1 [a3]) (fun xs3883820 => bd (ix s118.2.2.2.1 s3694660.2.2.2) (fun x3901840 => bd (PF.spec_l2Insert s3694660.2.2.1 x3901840) (fun r3907834 => some (Lp.nx (xs3871798, xs3883820, r3907834, (wr (s3694660.2.2.2 + 1))))))))) else some (Lp.bk (s3694660.1, s3694660.2.1, s3694660.2.2.1, s3694660.2.2.2)))) (a1.list, a1.rounds, a1.sorted, 0)) (fun s3694660 => bd (app a1.left s118.1) (fun xs3919856 => bd (app a1.right s118.2.1) (fun xs3919869 => bd (app a1.pivots s118.2.2.1) (fun xs3919882 => some ((l10Work.mk s3694660.1 s3694660.2.1 xs3919856 xs3919869 xs3919882 s3694660.2.2.1), (decide (0 < (len s118.2.2.2.1)))))))) (fun x3694660 => nomatch x3694660)) (fun x118 => nomatch x118))

noncomputable def spec_l10Closure (a0 : Cnf) (a1 : Int) : Option l10Work :=
  bdR (iter (S := ((List (List Int)) × Int)) (X := Empty) (fun s81 => (bif (decide (s81.2 < (len a0.clauses))) then bd (ix a0.clauses s81.2) (fun x158 => (bif (decide ((len x158) ≤ a1)) then bd (ix a0.clauses s81.2) (fun x169 => bd (PF.spec_l1Own x169) (fun r173 => bd (PF.spec_l2Insert s81.1 r173) (fun r188 => some (Lp.nx (r188, (wr (s81.2 + 1))))))) else some (Lp.nx (s81.1, (wr (s81.2 + 1)))))) else some (Lp.bk (s81.1, s81.2)))) ([], 0)) (fun s81 => bdR (forL (S := ((List Int) × (List Int) × (List Int) × (List Int) × (List (List Int)) × (List (List Int)))) (X := Empty) s81.1 (fun i208 y207 s208 => bd (app s208.2.2.2.2.1 [y207]) (fun xs96450 => bd (app s208.2.2.2.1 [0]) (fun xs108473 => bd (app s208.2.2.1 [(-1)]) (fun xs108492 => bd (app s208.2.1 [(-1)]) (fun xs108511 => bd (app s208.1 [0]) (fun xs108530 => some (Lp.nx (xs108530, xs108511, xs108492, xs108473, xs96450, s208.2.2.2.2.2)))))))) ([], [], [], [], [], [])) (fun s208 => bdR (iter (S := ((List Int) × (List Int) × (List Int) × (List Int) × (List (List Int)) × (List (List Int)) × Int × Bool)) (X := Empty) (fun s108558 => (bif s108558.2.2.2.2.2.2.2 then bd (PF.spec_l10Round a0.vars (l10Work.mk s108558.2.2.2.2.1 s108558.2.2.2.1 s108558.2.2.1 s108558.2.1 s108558.1 s108558.2.2.2.2.2.1) a1 s108558.2.2.2.2.2.2.1) (fun r108687 => some (Lp.nx (r108687.1.pivots, r108687.1.right, r108687.1.left, r108687.1.rounds, r108687.1.list, r108687.1.sorted, (wr (s108558.2.2.2.2.2.2.1 + 1)), r108687.2))) else some (Lp.bk (s108558.1, s108558.2.1, s108558.2.2.1, s108558.2.2.2.1, s108558.2.2.2.2.1, s108558.2.2.2.2.2.1, s108558.2.2.2.2.2.2.1, s108558.2.2.2.2.2.2.2)))) (s208.1, s208.2.1, s208.2.2.1, s208.2.2.2.1, s208.2.2.2.2.1, s81.1, 1, true)) (fun s108558 => some (l10Work.mk s108558.2.2.2.2.1 s108558.2.2.2.1 s108558.2.2.1 s108558.2.1 s108558.1 s108558.2.2.2.2.2.1)) (fun x108558 => nomatch x108558)) (fun x208 => nomatch x208)) (fun x81 => nomatch x81)

def spec_l10Empty (a0 : List (List Int)) : Option Bool :=
  bd (bif (decide (0 < (len a0))) then bd (ix a0 0) (fun x44 => some ((len x44) == 0)) else some false) (fun t31 => some t31)

noncomputable def spec_l10Least (a0 : Cnf) : Option Int :=
  bdR (iter (S := Int) (X := Int) (fun s29 => (bif (decide (s29 ≤ 6)) then bd (PF.spec_l10Closure a0 s29) (fun r74 => bd (PF.spec_l10Empty r74.sorted) (fun r96 => (bif r96 then some (Lp.rt s29) else some (Lp.nx (wr (s29 + 1)))))) else some (Lp.bk s29))) 0) (fun s29 => some (-1)) (fun x29 => some x29)

noncomputable def spec_l10Find (a0 : l10Work) (a1 : List Int) : Option Int :=
  bdR (iter (S := Int) (X := Int) (fun s29 => (bif (decide (s29 < (len a0.list))) then bd (ix a0.list s29) (fun x70 => bd (PF.spec_l1Same x70 a1) (fun r74 => (bif r74 then some (Lp.rt s29) else some (Lp.nx (wr (s29 + 1)))))) else some (Lp.bk s29))) 0) (fun s29 => some (-1)) (fun x29 => some x29)

def spec_l7Axiom (a0 : Cnf) (a1 : Int) : Option ResStep :=
  bd (ix a0.clauses a1) (fun x39 => bd (PF.spec_l1Own x39) (fun r43 => some (ResStep.mk r43 (-1) a1 0)))

noncomputable def spec_l10Derive (a0 : Cnf) (a1 : l10Work) (a2 : Int) : Option ((List ResStep) × Bool) :=
  bd (mk2 (false : Bool) (len a1.list) (len a1.list)) (fun xs12037 => bd (mk2 (0 : Int) (len a1.list) (len a1.list)) (fun xs24037 => bd (ix xs12037 a2) (fun x36062 => bd (put xs12037 a2 true) (fun xs36067 => bdR (iter (S := ((List Bool) × Int)) (X := Empty) (fun s36072 => (bif (decide (0 ≤ s36072.2)) then bd (ix s36072.1 s36072.2) (fun x36293 => bd (bif x36293 then bd (ix a1.rounds s36072.2) (fun x36316 => some (decide (0 < x36316))) else some false) (fun t36303 => (bif t36303 then bd (ix a1.left s36072.2) (fun x36332 => bd (ix s36072.1 x36332) (fun x36340 => bd (put s36072.1 x36332 true) (fun xs36345 => bd (ix a1.right s36072.2) (fun x36356 => bd (ix xs36345 x36356) (fun x36364 => bd (put xs36345 x36356 true) (fun xs36369 => some (Lp.nx (xs36369, (wr (s36072.2 - 1)))))))))) else some (Lp.nx (s36072.1, (wr (s36072.2 - 1))))))) else some (Lp.bk (s36072.1, s36072.2)))) (xs36067, a2)) (fun s36072 => bdR (iter (S := ((List ResStep) × (List Int) × Int)) (X := Empty) (fun s36391 => (bif (decide (s36391.2.2 ≤ a2)) then bd (ix s36072.1 s36391.2.2) (fun x240741 => (bif (!x240741) then some (Lp.nx (s36391.1, s36391.2.1, (wr (s36391.2.2 + 1)))) else bd (ix s36391.2.1 s36391.2.2) (fun x240750 => bd (put s36391.2.1 s36391.2.2 (len s36391.1)) (fun xs240755 => bd (ix a1.rounds s36391.2.2) (fun x240766 => (bif (decide (0 < x240766)) then bd (ix a1.list s36391.2.2) (fun x255775 => bd (PF.spec_l1Own x255775) (fun r261769 => bd (ix a1.left s36391.2.2) (fun x276775 => bd (ix xs240755 x276775) (fun x282775 => bd (ix a1.right s36391.2.2) (fun x300775 => bd (ix xs240755 x300775) (fun x306775 => bd (ix a1.pivots s36391.2.2) (fun x321775 => bd (app s36391.1 [(ResStep.mk r261769 x282775 x306775 x321775)]) (fun xs333769 => some (Lp.nx (xs333769, xs240755, (wr (s36391.2.2 + 1)))))))))))) else bdR (iter (S := Int) (X := Empty) (fun s342787 => bd (ix a0.clauses s342787) (fun x342848 => bd (ix a1.list s36391.2.2) (fun x342858 => bd (PF.spec_l1Same x342848 x342858) (fun r342862 => (bif (!r342862) then some (Lp.nx (wr (s342787 + 1))) else some (Lp.bk s342787)))))) 0) (fun s342787 => bd (PF.spec_l7Axiom a0 s342787) (fun r342882 => bd (app s36391.1 [r342882]) (fun xs342897 => some (Lp.nx (xs342897, xs240755, (wr (s36391.2.2 + 1))))))) (fun x342787 => nomatch x342787))))))) else some (Lp.bk (s36391.1, s36391.2.1, s36391.2.2)))) ([], xs24037, 0)) (fun s36391 => some (s36391.1, (decide ((len s36391.1) ≤ 200)))) (fun x36391 => nomatch x36391)) (fun x36072 => nomatch x36072)))))

noncomputable def spec_l10Refute (a0 : Cnf) (a1 : Int) (a2 : List Int) : Option ((List ResStep) × Bool) :=
  bd (PF.spec_l10Closure a0 a1) (fun r29 => bd (PF.spec_l10Find r29 a2) (fun r72 => (bif (decide (r72 < 0)) then some ([], false) else bd (PF.spec_l10Derive a0 r29 r72) (fun r83 => (bif (!r83.2) then some ([], false) else some (r83.1, true))))))

noncomputable def spec_NarrowRefutation (a0 : Cnf) : Option ((List ResStep) × Bool) :=
  bd (PF.spec_l10Good a0) (fun r29 => (bif (!r29) then some ([], false) else bd (PF.spec_l10Least a0) (fun r40 => (bif (decide (r40 < 0)) then some ([], false) else bd (PF.spec_l10Refute a0 r40 []) (fun r61 => some (r61.1, r61.2))))))

def impl_within (a0 : Int) (a1 : Int) (a2 : Int) : Bool :=
  (bif (decide (a1 ≤ a0)) then (decide (a0 ≤ a2)) else false)

def impl_isLiteral (a0 : Int) (a1 : Int) : Bool :=
  (bif (!(a1 == 0)) then (PF.impl_within a1 (wr (-a0)) a0) else false)

def impl_abs (a0 : Int) : Int :=
  (mx a0 (wr (-a0)))

def impl_varsOk (a0 : Int) : Bool :=
  (PF.impl_within a0 0 12)

def impl_IsClause (a0 : Int) (a1 : List Int) : Option Bool :=
  bdR (forL (S := Unit) (X := Bool) a1 (fun i22 y21 s22 => bd (bif (!(PF.impl_isLiteral a0 y21)) then some true else bd (bif (decide (0 < ((i22 : Nat) : Int))) then bd (ix a1 (wr (((i22 : Nat) : Int) - 1))) (fun x192 => some (decide ((PF.impl_abs y21) ≤ (PF.impl_abs x192)))) else some false) (fun t179 => some t179)) (fun t164 => (bif t164 then some (Lp.rt false) else some (Lp.nx ())))) ()) (fun s22 => some (PF.impl_varsOk a0)) (fun x22 => some x22)

def impl_IsCnf (a0 : Cnf) : Option Bool :=
  bdR (forL (S := Unit) (X := Bool) a0.clauses (fun i30 y29 s30 => bd (PF.impl_IsClause a0.vars y29) (fun r71 => (bif (!r71) then some (Lp.rt false) else some (Lp.nx ())))) ()) (fun s30 => some (bif (PF.impl_varsOk a0.vars) then (decide ((len a0.clauses) ≤ 60)) else false)) (fun x30 => some x30)

def impl_narrowOk (a0 : Cnf) (a1 : Int) : Option Bool :=
  bd (PF.impl_IsCnf a0) (fun r29 => some (bif (bif r29 then (decide (a0.vars ≤ 6)) else false) then (PF.impl_within a1 0 6) else false))

def impl_maskOf (a0 : List Int) : Option Int :=
  bdR (forL (S := Int) (X := Empty) a0 (fun i22 y21 s22 => (bif (decide (0 < y21)) then bd (nn (wr (y21 - 1))) (fun u60 => some (Lp.nx (orK false 16 s22 (shlK false 16 1 (wr (y21 - 1)))))) else bd (nn (wr ((wr (6 - y21)) - 1))) (fun u62 => some (Lp.nx (orK false 16 s22 (shlK false 16 1 (wr ((wr (6 - y21)) - 1)))))))) 0) (fun s22 => some s22) (fun x22 => nomatch x22)

def impl_mask_swapped (a0 : Int) : Int :=
  (orK false 16 (shlK false 16 (andK false 16 a0 63) 6) (shrK 16 a0 6))

def impl_bothOf (a0 : Int) (a1 : Int) : Int :=
  (andK false 16 (orK false 16 (andK false 16 a0 (PF.impl_mask_swapped a1)) (shrK 16 (andK false 16 a0 (PF.impl_mask_swapped a1)) 6)) 63)

def impl_mask_one (a0 : Int) : Bool :=
  (bif (!(a0 == 0)) then ((andK false 16 a0 (wrk false 16 (a0 - 1))) == 0) else false)

noncomputable def impl_mask_count (a0 : Int) : Option Int :=
  bdR (iter (S := (Int × Int)) (X := Empty) (fun s21 => (bif (!(s21.1 == 0)) then some (Lp.nx ((andK false 16 s21.1 (wrk false 16 (s21.1 - 1))), (wr (s21.2 + 1)))) else some (Lp.bk (s21.1, s21.2)))) (a0, 0)) (fun s21 => some s21.2) (fun x21 => nomatch x21)

noncomputable def impl_closureOf (a0 : Cnf) (a1 : Int) : Option (Option closure) :=
  bdR (forL (S := ((List Int) × Int × (List (Int × Int)))) (X := Empty) a0.clauses (fun i42 y41 s42 => (bif (decide ((len y41) ≤ a1)) then bd (PF.impl_maskOf y41) (fun r196 => bd (β := _) ((bif (!((mget s42.2.2 r196).isSome)) then bd (app s42.1 [r196]) (fun xs247 => some (xs247, 0, (mput s42.2.2 r196 0))) else some (s42.1, s42.2.1, s42.2.2)) : Option ((List Int) × Int × (List (Int × Int)))) (fun s229 => some (Lp.nx (s229.1, s229.2.1, s229.2.2)))) else some (Lp.nx (s42.1, s42.2.1, s42.2.2)))) ([], 0, [])) (fun s42 => bdR (iter (S := ((List Int) × Int × (List (Int × Int)) × Int × Int)) (X := Empty) (fun s277 => (bif (decide (s277.2.2.2.1 < (len s277.1))) then bdR (iter (S := ((List Int) × Int × (List (Int × Int)) × Int)) (X := Empty) (fun s1250 => (bif (decide (s1250.2.2.2 < (len s277.1))) then bd (cut s1250.1 0 s1250.2.2.2) (fun xs1710 => bdR (forL (S := ((List Int) × Int × (List (Int × Int)))) (X := Empty) xs1710 (fun i1720 y1719 s1720 => bd (ix s1720.1 s1250.2.2.2) (fun x1922 => (bif (!(PF.impl_mask_one (PF.impl_bothOf x1922 y1719))) then some (Lp.nx (s1720.1, s1720.2.1, s1720.2.2)) else bd (PF.impl_mask_count (anK false 16 (orK false 16 x1922 y1719) (orK false 16 (PF.impl_bothOf x1922 y1719) (shlK false 16 (PF.impl_bothOf x1922 y1719) 6)))) (fun r1931 => (bif (decide (r1931 ≤ a1)) then bd (β := _) ((bif (!((mget s1720.2.2 (anK false 16 (orK false 16 x1922 y1719) (orK false 16 (PF.impl_bothOf x1922 y1719) (shlK false 16 (PF.impl_bothOf x1922 y1719) 6)))).isSome)) then bd (app s1720.1 [(anK false 16 (orK false 16 x1922 y1719) (orK false 16 (PF.impl_bothOf x1922 y1719) (shlK false 16 (PF.impl_bothOf x1922 y1719) 6)))]) (fun xs1987 => some (xs1987, s277.2.2.2.2, (mput s1720.2.2 (anK false 16 (orK false 16 x1922 y1719) (orK false 16 (PF.impl_bothOf x1922 y1719) (shlK false 16 (PF.impl_bothOf x1922 y1719) 6))) s277.2.2.2.2))) else some (s1720.1, s1720.2.1, s1720.2.2)) : Option ((List Int) × Int × (List (Int × Int)))) (fun s1967 => some (Lp.nx (s1967.1, s1967.2.1, s1967.2.2))) else some (Lp.nx (s1720.1, s1720.2.1, s1720.2.2))))))) (s1250.1, s1250.2.1, s1250.2.2.1)) (fun s1720 => some (Lp.nx (s1720.1, s1720.2.1, s1720.2.2, (wr (s1250.2.2.2 + 1))))) (fun x1720 => nomatch x1720)) else some (Lp.bk (s1250.1, s1250.2.1, s1250.2.2.1, s1250.2.2.2)))) (s277.1, s277.2.1, s277.2.2.1, s277.2.2.2.1)) (fun s1250 => some (Lp.nx (s1250.1, s1250.2.1, s1250.2.2.1, (len s277.1), (wr (s277.2.2.2.2 + 1))))) (fun x1250 => nomatch x1250) else some (Lp.bk (s277.1, s277.2.1, s277.2.2.1, s277.2.2.2.1, s277.2.2.2.2)))) (s42.1, s42.2.1, s42.2.2, 0, 1)) (fun s277 => some (some (closure.mk s277.1 s277.2.2.1 s277.2.1))) (fun x277 => nomatch x277)) (fun x42 => nomatch x42)

def impl_closure_round (a0 : closure) (a1 : List Int) : Option Int :=
  bd (PF.impl_maskOf a1) (fun r22 => (bif (mget a0.rounds r22).isSome then some ((mget a0.rounds r22).getD 0) else some (-1)))

noncomputable def impl_narrow (a0 : Cnf) (a1 : Int) : Option Bool :=
  bd (PF.impl_closureOf a0 a1) (fun r29 => bd r29 (fun y37 => bd (PF.impl_closure_round y37 []) (fun r46 => some (decide (0 ≤ r46)))))

noncomputable def impl_LeastWidth (a0 : Cnf) : Option (Int × Bool) :=
  bd (PF.impl_narrowOk a0 0) (fun r29 => (bif (!r29) then some (0, false) else bdR (iter (S := Int) (X := (Int × Bool)) (fun s35 => (bif (decide (s35 ≤ 6)) then bd (PF.impl_narrow a0 s35) (fun r58 => (bif r58 then some (Lp.rt (s35, true)) else some (Lp.nx (wr (s35 + 1))))) else some (Lp.bk s35))) 0) (fun s35 => some (0, false)) (fun x35 => some x35)))

noncomputable def impl_mask_clause (a0 : Int) : Option (List Int) :=
  bdR (iter (S := ((List Int) × Int)) (X := Empty) (fun s21 => (bif (decide (s21.2 ≤ 6)) then bd (nn (wr (s21.2 - 1))) (fun u98 => (bif ((andK false 16 (shrK 16 a0 (wr (s21.2 - 1))) 1) == 1) then bd (app s21.1 [s21.2]) (fun xs105 => bd (nn (wr ((wr (6 + s21.2)) - 1))) (fun u117 => (bif ((andK false 16 (shrK 16 a0 (wr ((wr (6 + s21.2)) - 1))) 1) == 1) then bd (app xs105 [(wr (-s21.2))]) (fun xs124 => some (Lp.nx (xs124, (wr (s21.2 + 1))))) else some (Lp.nx (xs105, (wr (s21.2 + 1))))))) else bd (nn (wr ((wr (6 + s21.2)) - 1))) (fun u136 => (bif ((andK false 16 (shrK 16 a0 (wr ((wr (6 + s21.2)) - 1))) 1) == 1) then bd (app s21.1 [(wr (-s21.2))]) (fun xs143 => some (Lp.nx (xs143, (wr (s21.2 + 1))))) else some (Lp.nx (s21.1, (wr (s21.2 + 1)))))))) else some (Lp.bk (s21.1, s21.2)))) ([], 1)) (fun s21 => some s21.1) (fun x21 => nomatch x21)

noncomputable def slices_SortFunc_LLint_Lint (a0 : List (List Int)) (a1 : (List Int) → (List Int) → Option Int) : Option (List (List Int)) := sortF a1 a0

def cmp_isNaN_int (a0 : Int) : Bool :=
  (!(a0 == a0))

def cmp_Compare_int (a0 : Int) (a1 : Int) : Int :=
  (bif (PF.cmp_isNaN_int a0) then (bif (PF.cmp_isNaN_int a1) then 0 else (-1)) else (bif (PF.cmp_isNaN_int a1) then 1 else (bif (decide (a0 < a1)) then (-1) else (bif (decide (a1 < a0)) then 1 else 0))))

def slices_CompareFunc_int_int_int_int (a0 : List Int) (a1 : List Int) (a2 : Int → Int → Option Int) : Option Int :=
  bdR (forL (S := Unit) (X := Int) a0 (fun i22 y21 s22 => (bif (decide ((len a1) ≤ ((i22 : Nat) : Int))) then some (Lp.rt 1) else bd (ix a1 ((i22 : Nat) : Int)) (fun x84 => bd (a2 y21 x84) (fun r86 => (bif (!(r86 == 0)) then some (Lp.rt r86) else some (Lp.nx ())))))) ()) (fun s22 => (bif (decide ((len a0) < (len a1))) then some (-1) else some 0)) (fun x22 => some x22)

def cmp_Or_int (a0 : List Int) : Option Int :=
  bdR (forL (S := Unit) (X := Int) a0 (fun i22 y21 s22 => (bif (!(y21 == 0)) then some (Lp.rt y21) else some (Lp.nx ()))) ()) (fun s22 => some 0) (fun x22 => some x22)

def impl_compareLiterals (a0 : Int) (a1 : Int) : Option Int :=
  bd (PF.cmp_Or_int [(PF.cmp_Compare_int (PF.impl_abs a0) (PF.impl_abs a1)), (PF.cmp_Compare_int a1 a0)]) (fun r43 => some r43)

def impl_compareClauses (a0 : List Int) (a1 : List Int) : Option Int :=
  bd (PF.slices_CompareFunc_int_int_int_int a0 a1 (fun x0 x1 => PF.impl_compareLiterals x0 x1)) (fun r24 => bd (PF.cmp_Or_int [(PF.cmp_Compare_int (len a0) (len a1)), r24]) (fun r39 => some r39))

noncomputable def impl_closure_clauses (a0 : closure) : Option (List (List Int)) :=
  bdR (forL (S := (List (List Int))) (X := Empty) a0.masks (fun i22 y21 s22 => bd (PF.impl_mask_clause y21) (fun r91 => bd (app s22 [r91]) (fun xs112 => some (Lp.nx xs112)))) []) (fun s22 => bd (PF.slices_SortFunc_LLint_Lint s22 (fun x0 x1 => PF.impl_compareClauses x0 x1)) (fun r131 => some r131)) (fun x22 => nomatch x22)

def slices_IndexFunc_LLint_Lint (a0 : List (List Int)) (a1 : (List Int) → Option Bool) : Option Int :=
  bdR (forL (S := Unit) (X := Int) a0 (fun i22 y21 s22 => bd (a1 y21) (fun r68 => (bif r68 then some (Lp.rt ((i22 : Nat) : Int)) else some (Lp.nx ())))) ()) (fun s22 => some (-1)) (fun x22 => some x22)

noncomputable def slices_DeleteFunc_LLint_Lint (a0 : List (List Int)) (a1 : (List Int) → Option Bool) : Option (List (List Int)) :=
  bd (PF.slices_IndexFunc_LLint_Lint a0 a1) (fun r26 => (bif (r26 == (-1)) then some a0 else bdR (iter (S := ((List (List Int)) × Int × Int)) (X := Empty) (fun s32 => (bif (decide (s32.2.2 < (len s32.1))) then bd (ix s32.1 s32.2.2) (fun x149 => bd (a1 x149) (fun r153 => (bif (!r153) then bd (ix s32.1 s32.2.1) (fun x170 => bd (put s32.1 s32.2.1 x149) (fun xs177 => some (Lp.nx (xs177, (wr (s32.2.1 + 1)), (wr (s32.2.2 + 1)))))) else some (Lp.nx (s32.1, s32.2.1, (wr (s32.2.2 + 1))))))) else some (Lp.bk (s32.1, s32.2.1, s32.2.2)))) (a0, r26, (wr (r26 + 1)))) (fun s32 => bd (cut s32.1 s32.2.1 (len s32.1)) (fun xs190 => bd (cut (clearL [] s32.1 s32.2.1) 0 s32.2.1) (fun xs200 => some xs200))) (fun x32 => nomatch x32)))

def impl_closure_source_1 (a0 : List Int) (b0 : closure) (b1 : Int) : Option Bool :=
  bd (PF.impl_maskOf a0) (fun r22 => some (decide (b1 ≤ ((mget b0.rounds r22).getD 0))))

noncomputable def impl_closure_source (a0 : closure) (a1 : List Int) : Option ((List Int) × (List Int) × Int) :=
  bd (PF.impl_closure_round a0 a1) (fun r29 => bd (PF.impl_closure_clauses a0) (fun r45 => bd (PF.slices_DeleteFunc_LLint_Lint r45 (fun x0 => PF.impl_closure_source_1 x0 a0 r29)) (fun r57 => bd (PF.impl_maskOf a1) (fun r67 => bd (chk (len r57)) (fun m72 => bdR (forR (S := Unit) (X := ((List Int) × (List Int) × Int)) 0 m72 (fun i73 s73 => bd (ix r57 ((i73 : Nat) : Int)) (fun x33229 => bd (chk (len r57)) (fun m33233 => bdR (forR (S := Unit) (X := (Lp Unit ((List Int) × (List Int) × Int))) 0 m33233 (fun i33234 s33234 => bd (ix r57 ((i33234 : Nat) : Int)) (fun x66348 => bd (PF.impl_maskOf x33229) (fun r66352 => bd (PF.impl_maskOf x66348) (fun r66357 => (bif (bif (bif (PF.impl_mask_one (PF.impl_bothOf r66352 r66357)) then (!((andK false 16 r66352 (PF.impl_bothOf r66352 r66357)) == 0)) else false) then ((anK false 16 (orK false 16 r66352 r66357) (orK false 16 (PF.impl_bothOf r66352 r66357) (shlK false 16 (PF.impl_bothOf r66352 r66357) 6))) == r67) else false) then bd (PF.impl_mask_clause (PF.impl_bothOf r66352 r66357)) (fun r78409 => bd (ix r78409 0) (fun x81415 => some (Lp.rt (Lp.rt (x33229, x66348, x81415))))) else some (Lp.nx ())))))) ()) (fun s33234 => some (Lp.nx ())) (fun x33234 => some x33234)))) ()) (fun s73 => some ([], [], 0)) (fun x73 => some x73))))))

noncomputable def impl_closure_needs (a0 : closure) (a1 : List Int) : Option (List sourced) :=
  bd (PF.impl_maskOf a1) (fun r27 => bdR (iter (S := ((List (List Int)) × (List (Int × Bool)) × (List sourced))) (X := Empty) (fun s42 => (bif (decide (0 < (len s42.1))) then bd (ix s42.1 0) (fun x573 => bd (cut s42.1 1 (len s42.1)) (fun xs584 => bd (PF.impl_closure_round a0 x573) (fun r592 => (bif (decide (0 < r592)) then bd (PF.impl_closure_source a0 x573) (fun r598 => bd (chk (len [r598.1, r598.2.1])) (fun m628 => bdR (forR (S := ((List (List Int)) × (List (Int × Bool)))) (X := Empty) 0 m628 (fun i629 s629 => bd (ix [r598.1, r598.2.1] ((i629 : Nat) : Int)) (fun x769 => bd (PF.impl_maskOf x769) (fun r773 => (bif (!((mget s629.2 r773).getD false)) then bd (PF.impl_maskOf x769) (fun r779 => bd (app s629.1 [x769]) (fun xs794 => some (Lp.nx (xs794, (mput s629.2 r779 true))))) else some (Lp.nx (s629.1, s629.2)))))) (xs584, s42.2.1)) (fun s629 => bd (app s42.2.2 [(sourced.mk x573 r598.1 r598.2.1 r598.2.2)]) (fun xs821 => some (Lp.nx (s629.1, s629.2, xs821)))) (fun x629 => nomatch x629))) else bd (app s42.2.2 [(sourced.mk x573 [] [] 0)]) (fun xs850 => some (Lp.nx (xs584, s42.2.1, xs850))))))) else some (Lp.bk (s42.1, s42.2.1, s42.2.2)))) ([a1], (mput [] r27 true), [])) (fun s42 => some s42.2.2) (fun x42 => nomatch x42))

noncomputable def slices_SortFunc_impl_sourced_impl_sourced (a0 : List sourced) (a1 : sourced → sourced → Option Int) : Option (List sourced) := sortF a1 a0

def impl_closure_derive_1 (a0 : sourced) (a1 : sourced) (b0 : closure) : Option Int :=
  bd (PF.impl_closure_round b0 a0.clause) (fun r12037 => bd (PF.impl_closure_round b0 a1.clause) (fun r24037 => (bif (!((wr (r12037 - r24037)) == 0)) then some (wr (r12037 - r24037)) else bd (PF.impl_compareClauses a0.clause a1.clause) (fun r36047 => some r36047))))

def slices_Clone_int_int (a0 : List Int) : Option (List Int) :=
  bd (app [] a0) (fun xs30 => some xs30)

def slices_Equal_int_int (a0 : List Int) (a1 : List Int) : Option Bool :=
  (bif (!((len a0) == (len a1))) then some false else bdR (forL (S := Unit) (X := Bool) a0 (fun i23 y22 s23 => bd (ix a1 ((i23 : Nat) : Int)) (fun x74 => (bif (!(y22 == x74)) then some (Lp.rt false) else some (Lp.nx ())))) ()) (fun s23 => some true) (fun x23 => some x23))

def impl_indexOf_1 (a0 : List Int) (b0 : List Int) : Option Bool :=
  bd (PF.slices_Equal_int_int b0 a0) (fun r21 => some r21)

def impl_indexOf (a0 : List (List Int)) (a1 : List Int) : Option Int :=
  bd (PF.slices_IndexFunc_LLint_Lint a0 (fun x0 => PF.impl_indexOf_1 x0 a1)) (fun r29 => some r29)

def slices_IndexFunc_impl_ResStep_impl_ResStep (a0 : List ResStep) (a1 : ResStep → Option Bool) : Option Int :=
  bdR (forL (S := Unit) (X := Int) a0 (fun i22 y21 s22 => bd (a1 y21) (fun r68 => (bif r68 then some (Lp.rt ((i22 : Nat) : Int)) else some (Lp.nx ())))) ()) (fun s22 => some (-1)) (fun x22 => some x22)

def impl_firstWith_1 (a0 : ResStep) (b0 : List Int) : Option Bool :=
  bd (PF.slices_Equal_int_int a0.clause b0) (fun r29 => some r29)

def impl_firstWith (a0 : List ResStep) (a1 : List Int) : Option Int :=
  bd (PF.slices_IndexFunc_impl_ResStep_impl_ResStep a0 (fun x0 => PF.impl_firstWith_1 x0 a1)) (fun r29 => some r29)

noncomputable def impl_closure_derive (a0 : closure) (a1 : Cnf) (a2 : List Int) : Option ((List ResStep) × Bool) :=
  bd (PF.impl_closure_needs a0 a2) (fun r37 => (bif (decide (200 < (len r37))) then some ([], false) else bd (PF.slices_SortFunc_impl_sourced_impl_sourced r37 (fun x0 x1 => PF.impl_closure_derive_1 x0 x1 a0)) (fun r48 => bd (chk (len r48)) (fun m56 => bdR (forR (S := (List ResStep)) (X := Empty) 0 m56 (fun i57 s57 => bd (ix r48 ((i57 : Nat) : Int)) (fun x217 => bd (PF.slices_Clone_int_int x217.clause) (fun r236 => (bif (x217.v == 0) then bd (PF.impl_indexOf a1.clauses x217.clause) (fun r254 => bd (app s57 [(ResStep.mk r236 (-1) r254 0)]) (fun xs273 => some (Lp.nx xs273))) else bd (PF.impl_firstWith s57 x217.a) (fun r291 => bd (PF.impl_firstWith s57 x217.b) (fun r305 => bd (app s57 [(ResStep.mk r236 r291 r305 x217.v)]) (fun xs327 => some (Lp.nx xs327)))))))) []) (fun s57 => some (s57, true)) (fun x57 => nomatch x57)))))

noncomputable def impl_NarrowDerivation (a0 : Cnf) (a1 : Int) (a2 : List Int) : Option ((List ResStep) × Bool) :=
  bd (PF.impl_narrowOk a0 a1) (fun r29 => bd (bif (!r29) then some true else bd (PF.impl_IsClause a0.vars a2) (fun r46 => some (!r46))) (fun t39 => (bif t39 then some ([], false) else bd (PF.impl_closureOf a0 a1) (fun r56 => bd r56 (fun y64 => bd (PF.impl_closure_round y64 a2) (fun r73 => (bif (decide (r73 < 0)) then some ([], false) else bd (PF.impl_closure_derive y64 a0 a2) (fun r79 => some (r79.1, r79.2)))))))))

noncomputable def impl_NarrowRefutation (a0 : Cnf) : Option ((List ResStep) × Bool) :=
  bd (PF.impl_LeastWidth a0) (fun r29 => (bif (!r29.2) then some ([], false) else bd (PF.impl_NarrowDerivation a0 r29.1 []) (fun r35 => some (r35.1, r35.2))))

def laws_eqIntS (a0 : List Int) (a1 : List Int) : Option Bool :=
  (bif (!((len a0) == (len a1))) then some false else bdR (forL (S := Unit) (X := Bool) a0 (fun i23 y22 s23 => bd (ix a1 ((i23 : Nat) : Int)) (fun x72 => (bif (!(y22 == x72)) then some (Lp.rt false) else some (Lp.nx ())))) ()) (fun s23 => some true) (fun x23 => some x23))

def laws_eqResStep (a0 : ResStep) (a1 : ResStep) : Option Bool :=
  bd (PF.laws_eqIntS a0.clause a1.clause) (fun r37 => (bif (!r37) then some false else (bif (!(a0.left == a1.left)) then some false else (bif (!(a0.right == a1.right)) then some false else (bif (!(a0.pivot == a1.pivot)) then some false else some true)))))

def laws_eqResStepS (a0 : List ResStep) (a1 : List ResStep) : Option Bool :=
  (bif (!((len a0) == (len a1))) then some false else bdR (forL (S := Unit) (X := Bool) a0 (fun i23 y22 s23 => bd (ix a1 ((i23 : Nat) : Int)) (fun x80 => bd (PF.laws_eqResStep y22 x80) (fun r84 => (bif (!r84) then some (Lp.rt false) else some (Lp.nx ()))))) ()) (fun s23 => some true) (fun x23 => some x23))

def laws_eqIntSS (a0 : List (List Int)) (a1 : List (List Int)) : Option Bool :=
  (bif (!((len a0) == (len a1))) then some false else bdR (forL (S := Unit) (X := Bool) a0 (fun i23 y22 s23 => bd (ix a1 ((i23 : Nat) : Int)) (fun x80 => bd (PF.laws_eqIntS y22 x80) (fun r84 => (bif (!r84) then some (Lp.rt false) else some (Lp.nx ()))))) ()) (fun s23 => some true) (fun x23 => some x23))

def laws_eqCnf (a0 : Cnf) (a1 : Cnf) : Option Bool :=
  (bif (!(a0.vars == a1.vars)) then some false else bd (PF.laws_eqIntSS a0.clauses a1.clauses) (fun r38 => (bif (!r38) then some false else some true)))

def laws_markIntS (a0 : List Int) (a1 : Int) : List Int × Int :=
  markFrom (fun y m => (m, (wr (m + 1)))) a0 a1

def laws_markIntSS (a0 : List (List Int)) (a1 : Int) : List (List Int) × Int :=
  markFrom (fun y m => ((PF.laws_markIntS y m).1, (PF.laws_markIntS y m).2)) a0 a1

def laws_markCnf (a0 : Cnf) (a1 : Int) : Cnf × Int :=
  let r := PF.laws_markIntSS a0.clauses a1
  ((Cnf.mk a0.vars r.1), r.2)

def laws_markResStepS (a0 : List ResStep) (a1 : Int) : List ResStep × Int :=
  markFrom (fun y m => ((ResStep.mk ((PF.laws_markIntS y.clause m).1) ((PF.laws_markIntS y.clause m).2) (wr ((PF.laws_markIntS y.clause m).2 + 1)) (wr ((wr ((PF.laws_markIntS y.clause m).2 + 1)) + 1))), (wr ((wr ((wr ((PF.laws_markIntS y.clause m).2 + 1)) + 1)) + 1)))) a0 a1

def laws_heldIntS (a0 : List Int) (a1 : Int) : Option Int :=
  bdR (forL (S := Int) (X := Int) a0 (fun i22 y21 s22 => (bif (!(y21 == s22)) then some (Lp.rt (-1)) else some (Lp.nx (wr (s22 + 1))))) a1) (fun s22 => some s22) (fun x22 => some x22)

def laws_heldResStepS (a0 : List ResStep) (a1 : Int) : Option Int :=
  bdR (forL (S := Int) (X := Int) a0 (fun i22 y21 s22 => bd (PF.laws_heldIntS y21.clause s22) (fun r88 => (bif (decide (r88 < 0)) then some (Lp.rt (-1)) else (bif (!(y21.left == r88)) then some (Lp.rt (-1)) else (bif (!(y21.right == (wr (r88 + 1)))) then some (Lp.rt (-1)) else (bif (!(y21.pivot == (wr ((wr (r88 + 1)) + 1)))) then some (Lp.rt (-1)) else some (Lp.nx (wr ((wr ((wr (r88 + 1)) + 1)) + 1))))))))) a1) (fun s22 => some s22) (fun x22 => some x22)

noncomputable def laws_FnExactNarrowRefutation (a0 : Cnf) : Option Bool :=
  bd (PF.laws_szCnf a0 1048576) (fun r29 => (bif (decide (r29 < 0)) then some true else bd (PF.laws_toCnf a0) (fun r36 => bd (PF.spec_NarrowRefutation r36) (fun r49 => bd (PF.laws_toCnf a0) (fun r68 => bd (PF.impl_NarrowRefutation r68) (fun r93 => bd (PF.laws_eqResStepS r93.1 r49.1) (fun r112 => (bif (bif (!r112) then true else (!(r93.2 == r49.2))) then some false else bd (PF.laws_toCnf a0) (fun r9133 => bd (PF.laws_eqCnf r68 r9133) (fun r12133 => (bif (!r12133) then some false else bd (bif (decide ((PF.laws_markCnf r68 1).2 < 0)) then some true else bd (PF.laws_eqResStepS r93.1 r49.1) (fun r21175 => some (!r21175))) (fun t21168 => (bif (bif t21168 then true else (!(r93.2 == r49.2))) then some false else bd (PF.laws_heldResStepS ((PF.laws_markResStepS r93.1 1).1) 1) (fun r21212 => (bif (decide (r21212 < 0)) then some false else (bif (!(r21212 == (PF.laws_markResStepS r93.1 1).2)) then some false else bd (PF.laws_toCnf a0) (fun r21220 => bd (PF.impl_NarrowRefutation r21220) (fun r21233 => bd (PF.laws_eqResStepS r21233.1 r49.1) (fun r21252 => (bif (bif (!r21252) then true else (!(r21233.2 == r49.2))) then some false else bd (PF.laws_heldResStepS ((PF.laws_markResStepS r93.1 1).1) 1) (fun r21269 => (bif (decide (r21269 < 0)) then some false else (bif (!(r21269 == (PF.laws_markResStepS r93.1 1).2)) then some false else some true)))))))))))))))))))))))

end Go.PF
