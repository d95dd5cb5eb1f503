/- Reduced rows over the numbers modulo p: what is added to them, in any order, gives the same rows. Plain lists of numbers. -/
set_option linter.unusedVariables false
namespace Go.La
def co (a : List Int) (n : Nat) : Int := a.getD n 0
structure V (p : Int) (N : Nat) (a : List Int) : Prop where
  len : a.length = N
  bd : ∀ n, 0 ≤ co a n ∧ co a n < p
theorem co_ge {a : List Int} {n : Nat} (h : a.length ≤ n) : co a n = 0 := by unfold co; rw [List.getD_eq_getElem?_getD, List.getElem?_eq_none h]; rfl
theorem co_eq {a : List Int} {n : Nat} (h : n < a.length) : a[n]? = some (co a n) := by unfold co; rw [List.getD_eq_getElem?_getD, List.getElem?_eq_getElem h]; rfl
def vadd (p k : Int) (a b : List Int) : List Int := List.zipWith (fun x y => (x + k * y) % p) a b
theorem co_vadd {p k : Int} {a b : List Int} (h : a.length = b.length) (n : Nat) : co (vadd p k a b) n = (co a n + k * co b n) % p := by
  by_cases hn : n < a.length
  · unfold vadd co
    simp [List.getD_eq_getElem?_getD, List.getElem?_zipWith, List.getElem?_eq_getElem hn, List.getElem?_eq_getElem (h ▸ hn)]
  · rw [co_ge (by unfold vadd; rw [List.length_zipWith]; omega), co_ge (by omega), co_ge (by omega)]; simp
theorem V.vadd {p k : Int} {N : Nat} {a b : List Int} (hp : 1 < p) (ha : V p N a) (hb : V p N b) : V p N (vadd p k a b) :=
  ⟨by unfold La.vadd; rw [List.length_zipWith, ha.len, hb.len]; omega, fun n => by
    rw [co_vadd (by rw [ha.len, hb.len])]; exact ⟨Int.emod_nonneg _ (by omega), Int.emod_lt_of_pos _ (by omega)⟩⟩
structure Ctx where
  p : Int
  N : Nat
  key : Nat → Nat
  ld : List Int → Nat
  hp : 1 < p
  inj : ∀ m n, key m = key n → m = n
  nz : ∀ a m, co a m ≠ 0 → co a (ld a) ≠ 0
  mx : ∀ a m, co a m ≠ 0 → key m ≤ key (ld a)
variable {C : Ctx}
structure Red (C : Ctx) (R : List (List Int)) : Prop where
  vec : ∀ r ∈ R, V C.p C.N r
  one : ∀ r ∈ R, co r (C.ld r) = 1
  off : ∀ r ∈ R, ∀ s ∈ R, r ≠ s → co s (C.ld r) = 0
  nd : R.Nodup
theorem Red.nil : Red C [] := ⟨nofun, nofun, nofun, .nil⟩
theorem Red.inj {R : List (List Int)} (h : Red C R) {r s : List Int} (hr : r ∈ R) (hs : s ∈ R) (e : C.ld r = C.ld s) : r = s := by
  by_cases hne : r = s
  · exact hne
  · have h1 := h.off r hr s hs hne
    rw [e, h.one s hs] at h1; cases h1

def S (C : Ctx) (R : List (List Int)) (f : Nat → Int) (n : Nat) : Int := (R.map fun r => f (C.ld r) * co r n).sum
theorem S_cons (r : List Int) (R : List (List Int)) (f : Nat → Int) (n : Nat) : S C (r :: R) f n = f (C.ld r) * co r n + S C R f n := by simp [S]
theorem S_congr {R : List (List Int)} {f g : Nat → Int} (h : ∀ n, C.p ∣ f n - g n) (n : Nat) : C.p ∣ S C R f n - S C R g n := by
  induction R with
  | nil => simp [S]
  | cons r R ih => rw [S_cons, S_cons]; obtain ⟨a, ha⟩ := ih; obtain ⟨b, hb⟩ := h (C.ld r); exact ⟨a + b * co r n, by grind⟩
theorem S_comb {R : List (List Int)} {f g u : Nat → Int} {k : Int} (h : ∀ n, C.p ∣ u n - (f n + k * g n)) (n : Nat) : C.p ∣ S C R u n - (S C R f n + k * S C R g n) := by
  induction R with
  | nil => simp [S]
  | cons r R ih => rw [S_cons, S_cons, S_cons]; obtain ⟨a, ha⟩ := ih; obtain ⟨b, hb⟩ := h (C.ld r); exact ⟨a + b * co r n, by grind⟩
def In (C : Ctx) (R : List (List Int)) (f : Nat → Int) : Prop := ∀ n, C.p ∣ f n - S C R f n
theorem In.comb {R : List (List Int)} {f g u : Nat → Int} (hf : In C R f) (hg : In C R g) (k : Int) (h : ∀ n, C.p ∣ u n - (f n + k * g n)) : In C R u := by
  intro n
  obtain ⟨a, ha⟩ := hf n; obtain ⟨b, hb⟩ := hg n; obtain ⟨c, hc⟩ := h n; obtain ⟨d, hd⟩ := S_comb (C := C) (R := R) h n
  exact ⟨c - d + a + k * b, by grind⟩
theorem In.zero {R : List (List Int)} {f : Nat → Int} (h : ∀ n, C.p ∣ f n) : In C R f := by
  intro n
  have := S_congr (C := C) (R := R) (f := f) (g := fun _ => 0) (fun n => by simpa using h n) n
  have e : ∀ R, S C R (fun _ => 0) n = 0 := by
    intro R
    induction R with
    | nil => rfl
    | cons r R ih => rw [S_cons, ih]; simp
  rw [e R] at this
  obtain ⟨a, ha⟩ := h n; obtain ⟨b, hb⟩ := this
  exact ⟨a - b, by grind⟩
theorem In.congr {R : List (List Int)} {f g : Nat → Int} (hf : In C R f) (h : ∀ n, C.p ∣ g n - f n) : In C R g :=
  hf.comb (In.zero (f := fun _ => 0) fun _ => ⟨0, by simp⟩) 0 fun n => by simpa using h n
theorem In.sum {R : List (List Int)} {T : List (List Int)} (hT : ∀ r ∈ T, In C R (co r)) (f : Nat → Int) : In C R (S C T f) := by
  induction T with
  | nil => exact In.zero fun n => by simp [S]
  | cons r T ih =>
    have h1 := ih fun s hs => hT s (by simp [hs])
    exact h1.comb (hT r (by simp)) (f (C.ld r)) fun n => by rw [S_cons]; exact ⟨0, by grind⟩
theorem In.trans {R T : List (List Int)} {f : Nat → Int} (h : In C T f) (hT : ∀ r ∈ T, In C R (co r)) : In C R f := (In.sum hT f).congr h
theorem In.off {R : List (List Int)} {f : Nat → Int} (h : In C R f) (h0 : ∀ r ∈ R, C.p ∣ f (C.ld r)) (n : Nat) : C.p ∣ f n := by
  have e : C.p ∣ S C R f n := by
    unfold S
    clear h
    induction R with
    | nil => exact ⟨0, by simp⟩
    | cons r R ih =>
      obtain ⟨a, ha⟩ := ih fun s hs => h0 s (by simp [hs])
      obtain ⟨b, hb⟩ := h0 r (by simp)
      simp only [List.map_cons, List.sum_cons]
      exact ⟨a + b * co r n, by grind⟩
  obtain ⟨a, ha⟩ := h n; obtain ⟨b, hb⟩ := e
  exact ⟨a + b, by grind⟩
def zero (C : Ctx) : List Int := List.replicate C.N 0
structure New (C : Ctx) (R : List (List Int)) (new : List Int) : Prop where
  vec : V C.p C.N new
  one : co new (C.ld new) = 1
  off : ∀ r ∈ R, co new (C.ld r) = 0
structure Ext (C : Ctx) (R : List (List Int)) (as : List (List Int)) (T : List (List Int)) : Prop where
  red : Red C T
  old : ∀ r ∈ R, In C T (co r)
  new : ∀ a ∈ as, In C T (co a)
  le : ∀ U, Red C U → (∀ r ∈ R, In C U (co r)) → (∀ a ∈ as, In C U (co a)) → ∀ r ∈ T, In C U (co r)
end Go.La
