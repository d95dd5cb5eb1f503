/- Reduced rows over the numbers modulo p: what is added to them, in any order, gives the same rows. Plain lists of numbers. Reduced rows in the order of their leading places; rounds in which rows are added until nothing is new. -/
set_option linter.unusedVariables false
namespace Go.La
def co (a : List Int) (n : Nat) : Int := a.getD n 0
structure V (p : Int) (N : Nat) (a : List Int) : Prop where
  len : a.length = N
  bd : ∀ n, 0 ≤ co a n ∧ co a n < p
theorem co_ge {a : List Int} {n : Nat} (h : a.length ≤ n) : co a n = 0 := by unfold co; rw [List.getD_eq_getElem?_getD, List.getElem?_eq_none h]; rfl
theorem co_eq {a : List Int} {n : Nat} (h : n < a.length) : a[n]? = some (co a n) := by unfold co; rw [List.getD_eq_getElem?_getD, List.getElem?_eq_getElem h]; rfl
def vadd (p k : Int) (a b : List Int) : List Int := List.zipWith (fun x y => (x + k * y) % p) a b
structure Ctx where
  p : Int
  N : Nat
  key : Nat → Nat
  ld : List Int → Nat
  hp : 1 < p
  inj : ∀ m n, key m = key n → m = n
  nz : ∀ a m, co a m ≠ 0 → co a (ld a) ≠ 0
  mx : ∀ a m, co a m ≠ 0 → key m ≤ key (ld a)
variable {C : Ctx}
structure Red (C : Ctx) (R : List (List Int)) : Prop where
  vec : ∀ r ∈ R, V C.p C.N r
  one : ∀ r ∈ R, co r (C.ld r) = 1
  off : ∀ r ∈ R, ∀ s ∈ R, r ≠ s → co s (C.ld r) = 0
  nd : R.Nodup
def S (C : Ctx) (R : List (List Int)) (f : Nat → Int) (n : Nat) : Int := (R.map fun r => f (C.ld r) * co r n).sum
def In (C : Ctx) (R : List (List Int)) (f : Nat → Int) : Prop := ∀ n, C.p ∣ f n - S C R f n
def zero (C : Ctx) : List Int := List.replicate C.N 0
structure New (C : Ctx) (R : List (List Int)) (new : List Int) : Prop where
  vec : V C.p C.N new
  one : co new (C.ld new) = 1
  off : ∀ r ∈ R, co new (C.ld r) = 0
def monic (C : Ctx) (k : Int) (rest : List Int) : List Int := vadd C.p k (zero C) rest
structure Ext (C : Ctx) (R : List (List Int)) (as : List (List Int)) (T : List (List Int)) : Prop where
  red : Red C T
  old : ∀ r ∈ R, In C T (co r)
  new : ∀ a ∈ as, In C T (co a)
  le : ∀ U, Red C U → (∀ r ∈ R, In C U (co r)) → (∀ a ∈ as, In C U (co a)) → ∀ r ∈ T, In C U (co r)
end Go.La
namespace Go.La
variable {C : Ctx}
def lk (C : Ctx) (r : List Int) : Nat := C.key (C.ld r)
def Srt (C : Ctx) (R : List (List Int)) : Prop := R.Pairwise fun r s => lk C r < lk C s
structure Fresh (C : Ctx) (iv : Int → Int) (R : List (List Int)) (rest : List Int) : Prop where
  vec : V C.p C.N rest
  nz : co rest (C.ld rest) ≠ 0
  bd : 0 < co rest (C.ld rest) ∧ co rest (C.ld rest) < C.p
  new : New C R (monic C (iv (co rest (C.ld rest))) rest)
  ld : C.ld (monic C (iv (co rest (C.ld rest))) rest) = C.ld rest
end Go.La
