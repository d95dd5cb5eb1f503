/- Reduced rows over the numbers modulo p: what is added to them, in any order, gives the same rows. Plain lists of numbers. Polynomials modulo a small prime: by all their coefficients, and by their terms. Products of polynomials, literals and clauses as polynomials. The translation of a derivation into polynomials: the reference and the program put the same steps there. The translation of a derivation: the reference. The translation of a derivation: the program. -/
import Derived.Test.YtmpfnnkmplkfoaaGreatCiPlA
set_option linter.unusedVariables false
namespace Go.La
def co (a : List Int) (n : Nat) : Int := a.getD n 0
structure V (p : Int) (N : Nat) (a : List Int) : Prop where
  len : a.length = N
  bd : ∀ n, 0 ≤ co a n ∧ co a n < p
theorem co_ge {a : List Int} {n : Nat} (h : a.length ≤ n) : co a n = 0 := by unfold co; rw [List.getD_eq_getElem?_getD, List.getElem?_eq_none h]; rfl
theorem co_eq {a : List Int} {n : Nat} (h : n < a.length) : a[n]? = some (co a n) := by unfold co; rw [List.getD_eq_getElem?_getD, List.getElem?_eq_getElem h]; rfl
theorem small_dvd {p x y : Int} (h : p ∣ x - y) (hx : 0 ≤ x ∧ x < p) (hy : 0 ≤ y ∧ y < p) : x = y := by
  have h1 : (x - y) % p = 0 := Int.emod_eq_zero_of_dvd h
  rcases Int.lt_or_le x y with hlt | hle
  · have : p ∣ y - x := by have := Int.dvd_neg.2 h; rwa [Int.neg_sub] at this
    have := Int.le_of_dvd (by omega) this; omega
  · rcases Int.lt_or_le y x with hlt | hle2
    · have := Int.le_of_dvd (by omega) h; omega
    · omega
theorem V.ext {p : Int} {N : Nat} {a b : List Int} (ha : V p N a) (hb : V p N b) (h : ∀ n, p ∣ co a n - co b n) : a = b := by
  apply List.ext_getElem?
  intro n
  by_cases hn : n < N
  · rw [co_eq (by rw [ha.len]; exact hn), co_eq (by rw [hb.len]; exact hn), small_dvd (h n) (ha.bd n) (hb.bd n)]
  · rw [List.getElem?_eq_none (by rw [ha.len]; omega), List.getElem?_eq_none (by rw [hb.len]; omega)]
def vadd (p k : Int) (a b : List Int) : List Int := List.zipWith (fun x y => (x + k * y) % p) a b
theorem co_vadd {p k : Int} {a b : List Int} (h : a.length = b.length) (n : Nat) : co (vadd p k a b) n = (co a n + k * co b n) % p := by
  by_cases hn : n < a.length
  · unfold vadd co
    simp [List.getD_eq_getElem?_getD, List.getElem?_zipWith, List.getElem?_eq_getElem hn, List.getElem?_eq_getElem (h ▸ hn)]
  · rw [co_ge (by unfold vadd; rw [List.length_zipWith]; omega), co_ge (by omega), co_ge (by omega)]; simp
theorem dvd_mod (p x : Int) : p ∣ x % p - x := ⟨-(x / p), by have := Int.emod_add_mul_ediv x p; grind⟩
theorem V.vadd {p k : Int} {N : Nat} {a b : List Int} (hp : 1 < p) (ha : V p N a) (hb : V p N b) : V p N (vadd p k a b) :=
  ⟨by unfold La.vadd; rw [List.length_zipWith, ha.len, hb.len]; omega, fun n => by
    rw [co_vadd (by rw [ha.len, hb.len])]; exact ⟨Int.emod_nonneg _ (by omega), Int.emod_lt_of_pos _ (by omega)⟩⟩
theorem cg_vadd {p k : Int} {a b : List Int} (h : a.length = b.length) (n : Nat) : p ∣ co (vadd p k a b) n - (co a n + k * co b n) := by
  rw [co_vadd h]; exact dvd_mod _ _

structure Ctx where
  p : Int
  N : Nat
  key : Nat → Nat
  ld : List Int → Nat
  hp : 1 < p
  inj : ∀ m n, key m = key n → m = n
  nz : ∀ a m, co a m ≠ 0 → co a (ld a) ≠ 0
  mx : ∀ a m, co a m ≠ 0 → key m ≤ key (ld a)
variable {C : Ctx}
theorem Ctx.ld_eq (C : Ctx) {a : List Int} {m : Nat} (h : co a m ≠ 0) (h2 : ∀ n, co a n ≠ 0 → C.key n ≤ C.key m) : C.ld a = m :=
  C.inj _ _ (Nat.le_antisymm (h2 _ (C.nz a m h)) (C.mx a m h))

structure Red (C : Ctx) (R : List (List Int)) : Prop where
  vec : ∀ r ∈ R, V C.p C.N r
  one : ∀ r ∈ R, co r (C.ld r) = 1
  off : ∀ r ∈ R, ∀ s ∈ R, r ≠ s → co s (C.ld r) = 0
  nd : R.Nodup
theorem Red.nil : Red C [] := ⟨nofun, nofun, nofun, .nil⟩
theorem Red.tail {r : List Int} {R : List (List Int)} (h : Red C (r :: R)) : Red C R :=
  ⟨fun s hs => h.vec s (by simp [hs]), fun s hs => h.one s (by simp [hs]), fun s hs t ht => h.off s (by simp [hs]) t (by simp [ht]), (List.nodup_cons.1 h.nd).2⟩
theorem Red.perm {R R' : List (List Int)} (h : Red C R) (hp : R.Perm R') : Red C R' :=
  ⟨fun s hs => h.vec s (hp.mem_iff.2 hs), fun s hs => h.one s (hp.mem_iff.2 hs), fun s hs t ht => h.off s (hp.mem_iff.2 hs) t (hp.mem_iff.2 ht), hp.nodup_iff.1 h.nd⟩
theorem Red.inj {R : List (List Int)} (h : Red C R) {r s : List Int} (hr : r ∈ R) (hs : s ∈ R) (e : C.ld r = C.ld s) : r = s := by
  by_cases hne : r = s
  · exact hne
  · have h1 := h.off r hr s hs hne
    rw [e, h.one s hs] at h1; cases h1

def S (C : Ctx) (R : List (List Int)) (f : Nat → Int) (n : Nat) : Int := (R.map fun r => f (C.ld r) * co r n).sum
theorem S_cons (r : List Int) (R : List (List Int)) (f : Nat → Int) (n : Nat) : S C (r :: R) f n = f (C.ld r) * co r n + S C R f n := by simp [S]
theorem sum_one {α : Type} {R : List α} (hn : R.Nodup) {r : α} (hr : r ∈ R) (f : α → Int) (h : ∀ s ∈ R, s ≠ r → f s = 0) : (R.map f).sum = f r := by
  have z : ∀ R : List α, (∀ s ∈ R, f s = 0) → (R.map f).sum = 0 := by
    intro R
    induction R with
    | nil => intro _; rfl
    | cons x R ih => intro hz; simp only [List.map_cons, List.sum_cons]; rw [hz x (by simp), ih fun s hs => hz s (by simp [hs])]; rfl
  induction R with
  | nil => cases hr
  | cons x R ih =>
    simp only [List.map_cons, List.sum_cons]
    rcases List.mem_cons.1 hr with rfl | hr'
    · rw [z R fun s hs => h s (by simp [hs]) (fun e => (List.nodup_cons.1 hn).1 (e ▸ hs))]; omega
    · rw [ih (List.nodup_cons.1 hn).2 hr' fun s hs => h s (by simp [hs]), h x (by simp) (fun e => (List.nodup_cons.1 hn).1 (e ▸ hr'))]; omega
theorem Red.S_ld {R : List (List Int)} (h : Red C R) {r : List Int} (hr : r ∈ R) (f : Nat → Int) : S C R f (C.ld r) = f (C.ld r) := by
  unfold S
  rw [sum_one h.nd hr (fun s => f (C.ld s) * co s (C.ld r)) fun s hs hne => by rw [h.off r hr s hs (fun e => hne e.symm)]; simp, h.one r hr]; simp
theorem S_congr {R : List (List Int)} {f g : Nat → Int} (h : ∀ n, C.p ∣ f n - g n) (n : Nat) : C.p ∣ S C R f n - S C R g n := by
  induction R with
  | nil => simp [S]
  | cons r R ih => rw [S_cons, S_cons]; obtain ⟨a, ha⟩ := ih; obtain ⟨b, hb⟩ := h (C.ld r); exact ⟨a + b * co r n, by grind⟩
theorem S_comb {R : List (List Int)} {f g u : Nat → Int} {k : Int} (h : ∀ n, C.p ∣ u n - (f n + k * g n)) (n : Nat) : C.p ∣ S C R u n - (S C R f n + k * S C R g n) := by
  induction R with
  | nil => simp [S]
  | cons r R ih => rw [S_cons, S_cons, S_cons]; obtain ⟨a, ha⟩ := ih; obtain ⟨b, hb⟩ := h (C.ld r); exact ⟨a + b * co r n, by grind⟩
def In (C : Ctx) (R : List (List Int)) (f : Nat → Int) : Prop := ∀ n, C.p ∣ f n - S C R f n
theorem In.comb {R : List (List Int)} {f g u : Nat → Int} (hf : In C R f) (hg : In C R g) (k : Int) (h : ∀ n, C.p ∣ u n - (f n + k * g n)) : In C R u := by
  intro n
  obtain ⟨a, ha⟩ := hf n; obtain ⟨b, hb⟩ := hg n; obtain ⟨c, hc⟩ := h n; obtain ⟨d, hd⟩ := S_comb (C := C) (R := R) h n
  exact ⟨c - d + a + k * b, by grind⟩
theorem In.zero {R : List (List Int)} {f : Nat → Int} (h : ∀ n, C.p ∣ f n) : In C R f := by
  intro n
  have := S_congr (C := C) (R := R) (f := f) (g := fun _ => 0) (fun n => by simpa using h n) n
  have e : ∀ R, S C R (fun _ => 0) n = 0 := by
    intro R
    induction R with
    | nil => rfl
    | cons r R ih => rw [S_cons, ih]; simp
  rw [e R] at this
  obtain ⟨a, ha⟩ := h n; obtain ⟨b, hb⟩ := this
  exact ⟨a - b, by grind⟩
theorem In.congr {R : List (List Int)} {f g : Nat → Int} (hf : In C R f) (h : ∀ n, C.p ∣ g n - f n) : In C R g :=
  hf.comb (In.zero (f := fun _ => 0) fun _ => ⟨0, by simp⟩) 0 fun n => by simpa using h n
theorem Red.row {R : List (List Int)} (h : Red C R) {r : List Int} (hr : r ∈ R) : In C R (co r) := by
  intro n
  unfold S
  rw [sum_one h.nd hr (fun s => co r (C.ld s) * co s n) fun s hs hne => by rw [h.off s hs r hr hne]; simp, h.one r hr]
  exact ⟨0, by simp⟩
theorem In.sum {R : List (List Int)} {T : List (List Int)} (hT : ∀ r ∈ T, In C R (co r)) (f : Nat → Int) : In C R (S C T f) := by
  induction T with
  | nil => exact In.zero fun n => by simp [S]
  | cons r T ih =>
    have h1 := ih fun s hs => hT s (by simp [hs])
    exact h1.comb (hT r (by simp)) (f (C.ld r)) fun n => by rw [S_cons]; exact ⟨0, by grind⟩
theorem In.trans {R T : List (List Int)} {f : Nat → Int} (h : In C T f) (hT : ∀ r ∈ T, In C R (co r)) : In C R f := (In.sum hT f).congr h
theorem In.off {R : List (List Int)} {f : Nat → Int} (h : In C R f) (h0 : ∀ r ∈ R, C.p ∣ f (C.ld r)) (n : Nat) : C.p ∣ f n := by
  have e : C.p ∣ S C R f n := by
    unfold S
    clear h
    induction R with
    | nil => exact ⟨0, by simp⟩
    | cons r R ih =>
      obtain ⟨a, ha⟩ := ih fun s hs => h0 s (by simp [hs])
      obtain ⟨b, hb⟩ := h0 r (by simp)
      simp only [List.map_cons, List.sum_cons]
      exact ⟨a + b * co r n, by grind⟩
  obtain ⟨a, ha⟩ := h n; obtain ⟨b, hb⟩ := e
  exact ⟨a + b, by grind⟩
theorem In.lead {R : List (List Int)} (hR : Red C R) {a : List Int} (ha : V C.p C.N a) (h : In C R (co a)) {m : Nat} (hm : co a m ≠ 0) : ∃ r ∈ R, C.ld r = C.ld a := by
  have hn := C.nz a m hm
  -- some row has a part there
  have key : ∃ r ∈ R, co a (C.ld r) ≠ 0 ∧ co r (C.ld a) ≠ 0 := by
    refine Classical.byContradiction fun hno => ?_
    have z : S C R (co a) (C.ld a) = 0 := by
      unfold S
      have : ∀ T : List (List Int), (∀ r ∈ T, r ∈ R) → (T.map fun r => co a (C.ld r) * co r (C.ld a)).sum = 0 := by
        intro T
        induction T with
        | nil => intro _; rfl
        | cons r T ih =>
          intro hT
          simp only [List.map_cons, List.sum_cons]
          rw [ih fun s hs => hT s (by simp [hs])]
          have : co a (C.ld r) = 0 ∨ co r (C.ld a) = 0 := by
            by_cases h1 : co a (C.ld r) = 0
            · exact .inl h1
            · exact .inr (Classical.byContradiction fun h2 => hno ⟨r, hT r (by simp), h1, h2⟩)
          rcases this with e | e <;> rw [e] <;> simp
      exact this R fun _ h => h
    have := h (C.ld a)
    rw [z] at this
    have hb := ha.bd (C.ld a)
    have := small_dvd (y := 0) this hb (by omega)
    exact hn this
  obtain ⟨r, hr, h1, h2⟩ := key
  exact ⟨r, hr, C.inj _ _ (Nat.le_antisymm (C.mx a _ h1) (C.mx r _ h2))⟩
theorem Red.nzr {R : List (List Int)} (h : Red C R) {r : List Int} (hr : r ∈ R) : co r (C.ld r) ≠ 0 := by rw [h.one r hr]; decide
theorem Red.uniq {R R' : List (List Int)} (h : Red C R) (h' : Red C R') (h1 : ∀ r ∈ R, In C R' (co r)) (h2 : ∀ r ∈ R', In C R (co r)) : ∀ r ∈ R, r ∈ R' := by
  intro r hr
  obtain ⟨r', hr', e⟩ := In.lead h' (h.vec r hr) (h1 r hr) (h.nzr hr)
  have hv := h.vec r hr; have hv' := h'.vec r' hr'
  have hd : In C R (fun n => co r n - co r' n) := (h.row hr).comb (h2 r' hr') (-1) fun n => ⟨0, by grind⟩
  have z := hd.off fun s hs => by
    by_cases hs1 : s = r
    · subst hs1
      rw [h.one s hs, ← e, h'.one r' hr']; exact ⟨0, by simp⟩
    · obtain ⟨s', hs', e'⟩ := In.lead h' (h.vec s hs) (h1 s hs) (h.nzr hs)
      have : s' ≠ r' := fun e2 => hs1 (h.inj hs hr (by rw [← e', e2, e]))
      rw [h.off s hs r hr hs1, ← e', h'.off s' hs' r' hr' this]; exact ⟨0, by simp⟩
  rw [hv.ext hv' z]; exact hr'
theorem mem_perm {R R' : List (List Int)} (h : R.Nodup) (h' : R'.Nodup) (h1 : ∀ r ∈ R, r ∈ R') (h2 : ∀ r ∈ R', r ∈ R) : R.Perm R' :=
  (List.perm_ext_iff_of_nodup h h').2 fun r => ⟨h1 r, h2 r⟩

/-! what is left of a vector -/
def red1 (C : Ctx) (a r : List Int) : List Int := bif co a (C.ld r) == 0 then a else vadd C.p (C.p - co a (C.ld r)) a r
def redL (C : Ctx) (R : List (List Int)) (a : List Int) : List Int := R.foldl (red1 C) a
theorem red1_V {a r : List Int} (ha : V C.p C.N a) (hr : V C.p C.N r) : V C.p C.N (red1 C a r) := by
  unfold red1
  cases co a (C.ld r) == 0 with
  | true => exact ha
  | false => exact ha.vadd C.hp hr
theorem red1_co {a r : List Int} (ha : V C.p C.N a) (hr : V C.p C.N r) (n : Nat) : C.p ∣ co (red1 C a r) n - (co a n - co a (C.ld r) * co r n) := by
  unfold red1
  cases h : co a (C.ld r) == 0 with
  | true => rw [beq_iff_eq] at h; rw [h]; exact ⟨0, by simp⟩
  | false =>
    obtain ⟨c, hc⟩ := cg_vadd (p := C.p) (k := C.p - co a (C.ld r)) (a := a) (b := r) (by rw [ha.len, hr.len]) n
    exact ⟨c + co r n, by simp only [cond_false]; grind⟩
theorem redL_spec {R : List (List Int)} (h : Red C R) : ∀ {a : List Int}, V C.p C.N a → V C.p C.N (redL C R a) ∧ ∀ n, C.p ∣ co (redL C R a) n - (co a n - S C R (co a) n) := by
  induction R with
  | nil => intro a ha; exact ⟨ha, fun n => ⟨0, by simp [redL, S]⟩⟩
  | cons r R ih =>
    intro a ha
    have hr := h.vec r (by simp)
    have hv := red1_V ha hr
    obtain ⟨g1, g2⟩ := ih h.tail hv
    refine ⟨g1, fun n => ?_⟩
    have e : S C R (co (red1 C a r)) n = S C R (co a) n := by
      unfold S
      congr 1
      refine List.map_congr_left fun s hs => ?_
      have hne : s ≠ r := fun e => (List.nodup_cons.1 h.nd).1 (e ▸ hs)
      have z := h.off s (by simp [hs]) r (by simp) hne
      have := red1_co ha hr (C.ld s)
      rw [z] at this
      rw [small_dvd (by simpa using this) (hv.bd _) (ha.bd _)]
    obtain ⟨a1, h1⟩ := g2 n; obtain ⟨a2, h2⟩ := red1_co ha hr n
    rw [S_cons]
    rw [e] at h1
    refine ⟨a1 + a2, ?_⟩
    show co (redL C R (red1 C a r)) n - _ = _
    grind
theorem redL_ld {R : List (List Int)} (h : Red C R) {a : List Int} (ha : V C.p C.N a) {r : List Int} (hr : r ∈ R) : co (redL C R a) (C.ld r) = 0 := by
  obtain ⟨g1, g2⟩ := redL_spec h ha
  have := g2 (C.ld r)
  rw [h.S_ld hr, Int.sub_self] at this
  exact small_dvd this (g1.bd _) (by have := C.hp; omega)
theorem redL_in {R : List (List Int)} (h : Red C R) {a : List Int} (ha : V C.p C.N a) : In C R (fun n => co a n - co (redL C R a) n) := by
  obtain ⟨g1, g2⟩ := redL_spec h ha
  refine (In.sum (fun r hr => h.row hr) (co a)).congr fun n => ?_
  obtain ⟨x, hx⟩ := g2 n
  exact ⟨-x, by grind⟩
theorem S_perm {R R' : List (List Int)} (h : R.Perm R') (f : Nat → Int) (n : Nat) : S C R f n = S C R' f n := by
  induction h with
  | nil => rfl
  | cons x _ ih => rw [S_cons, S_cons, ih]
  | swap x y l => rw [S_cons, S_cons, S_cons, S_cons]; omega
  | trans _ _ i1 i2 => rw [i1, i2]
theorem redL_mem {R R' : List (List Int)} (h : Red C R) (h' : Red C R') (hm : ∀ r, r ∈ R ↔ r ∈ R') {a : List Int} (ha : V C.p C.N a) : redL C R a = redL C R' a := by
  obtain ⟨g1, g2⟩ := redL_spec h ha
  obtain ⟨k1, k2⟩ := redL_spec h' ha
  refine g1.ext k1 fun n => ?_
  have hp : R.Perm R' := mem_perm h.nd h'.nd (fun r => (hm r).1) fun r => (hm r).2
  have e : S C R (co a) n = S C R' (co a) n := by
    exact S_perm hp _ _
  obtain ⟨x, hx⟩ := g2 n; obtain ⟨y, hy⟩ := k2 n
  exact ⟨x - y, by grind⟩
theorem redL_zero {R : List (List Int)} (h : Red C R) {a : List Int} (ha : V C.p C.N a) : (∀ n, co (redL C R a) n = 0) ↔ In C R (co a) := by
  obtain ⟨g1, g2⟩ := redL_spec h ha
  constructor
  · intro hz n
    obtain ⟨x, hx⟩ := g2 n
    exact ⟨-x, by rw [hz n] at hx; grind⟩
  · intro hi n
    obtain ⟨x, hx⟩ := g2 n; obtain ⟨y, hy⟩ := hi n
    exact small_dvd ⟨x + y, by grind⟩ (g1.bd n) (by have := C.hp; omega)

/-! one more row -/
def zero (C : Ctx) : List Int := List.replicate C.N 0
theorem co_zero (n : Nat) : co (zero C) n = 0 := by
  unfold co zero; rw [List.getD_eq_getElem?_getD, List.getElem?_replicate]; split <;> rfl
theorem zero_V : V C.p C.N (zero C) := ⟨by simp [zero], fun n => by rw [co_zero]; have := C.hp; omega⟩
def row1 (C : Ctx) (new : List Int) (r : List Int) : List Int := bif co r (C.ld new) == 0 then r else vadd C.p (C.p - co r (C.ld new)) r new
def addR (C : Ctx) (R : List (List Int)) (new : List Int) : List (List Int) := R.map (row1 C new) ++ [new]
structure New (C : Ctx) (R : List (List Int)) (new : List Int) : Prop where
  vec : V C.p C.N new
  one : co new (C.ld new) = 1
  off : ∀ r ∈ R, co new (C.ld r) = 0
theorem row1_co {new r : List Int} (hn : V C.p C.N new) (hr : V C.p C.N r) (n : Nat) : C.p ∣ co (row1 C new r) n - (co r n - co r (C.ld new) * co new n) := red1_co (C := C) (a := r) (r := new) hr hn n
theorem row1_V {new r : List Int} (hn : V C.p C.N new) (hr : V C.p C.N r) : V C.p C.N (row1 C new r) := red1_V (C := C) (a := r) (r := new) hr hn
theorem row1_at {new r : List Int} (hn : V C.p C.N new) (hr : V C.p C.N r) {n : Nat} (h : co new n = 0) : co (row1 C new r) n = co r n := by
  have := row1_co hn hr n
  rw [h] at this
  exact small_dvd (by simpa using this) ((row1_V hn hr).bd n) (hr.bd n)
theorem row1_lead {R : List (List Int)} (h : Red C R) {new : List Int} (hn : New C R new) {r : List Int} (hr : r ∈ R) : co (row1 C new r) (C.ld new) = 0 := by
  have hv := h.vec r hr
  have := row1_co hn.vec hv (C.ld new)
  rw [hn.one] at this
  exact small_dvd (by simpa using this) ((row1_V hn.vec hv).bd _) (by have := C.hp; omega)
theorem row1_ld {R : List (List Int)} (h : Red C R) {new : List Int} (hn : New C R new) {r : List Int} (hr : r ∈ R) : C.ld (row1 C new r) = C.ld r := by
  have hv := h.vec r hr
  have e := row1_at hn.vec hv (hn.off r hr)
  refine C.ld_eq (by rw [e, h.one r hr]; decide) fun n hne => ?_
  by_cases h1 : co r n = 0
  · have hl : co r (C.ld new) ≠ 0 := fun hz => by
      have := row1_co hn.vec hv n
      rw [hz, h1] at this
      exact hne (small_dvd (by simpa using this) ((row1_V hn.vec hv).bd n) (by have := C.hp; omega))
    have h2 : co new n ≠ 0 := fun hz => hne (by rw [row1_at hn.vec hv hz, h1])
    exact Nat.le_trans (C.mx new n h2) (C.mx r _ hl)
  · exact C.mx r n h1
theorem addR_red {R : List (List Int)} (h : Red C R) {new : List Int} (hn : New C R new) : Red C (addR C R new) := by
  have hm : ∀ s ∈ addR C R new, (∃ r ∈ R, row1 C new r = s) ∨ s = new := by
    intro s hs
    unfold addR at hs
    rcases List.mem_append.1 hs with hs | hs
    · exact .inl (List.mem_map.1 hs)
    · exact .inr (by simpa using hs)
  refine ⟨?_, ?_, ?_, ?_⟩
  · intro s hs
    rcases hm s hs with ⟨r, hr, rfl⟩ | rfl
    · exact row1_V hn.vec (h.vec r hr)
    · exact hn.vec
  · intro s hs
    rcases hm s hs with ⟨r, hr, rfl⟩ | rfl
    · rw [row1_ld h hn hr, row1_at hn.vec (h.vec r hr) (hn.off r hr), h.one r hr]
    · exact hn.one
  · intro s hs t ht hne
    rcases hm s hs with ⟨r, hr, rfl⟩ | rfl
    · rw [row1_ld h hn hr]
      rcases hm t ht with ⟨q, hq, rfl⟩ | rfl
      · rw [row1_at hn.vec (h.vec q hq) (hn.off r hr)]
        exact h.off r hr q hq fun e => hne (by rw [e])
      · exact hn.off r hr
    · rcases hm t ht with ⟨q, hq, rfl⟩ | rfl
      · exact row1_lead h hn hq
      · exact absurd rfl hne
  · unfold addR
    rw [List.nodup_append]
    refine ⟨?_, by simp, ?_⟩
    · refine (List.pairwise_map.2 ?_)
      refine List.Pairwise.imp_of_mem (R := fun a b => a ≠ b) ?_ h.nd
      intro a b ha hb hne e
      exact hne (h.inj ha hb (by rw [← row1_ld h hn ha, ← row1_ld h hn hb, e]))
    · intro a ha b hb e
      obtain ⟨r, hr, rfl⟩ := List.mem_map.1 ha
      have hb' : b = new := by simpa using hb
      have := row1_lead h hn hr
      rw [e, hb', hn.one] at this
      cases this
theorem addR_old {R : List (List Int)} (h : Red C R) {new : List Int} (hn : New C R new) {r : List Int} (hr : r ∈ R) : In C (addR C R new) (co r) := by
  have hR := addR_red h hn
  have h1 := hR.row (r := row1 C new r) (by unfold addR; simp; exact .inl ⟨r, hr, rfl⟩)
  have h2 := hR.row (r := new) (by unfold addR; simp)
  refine h1.comb h2 (co r (C.ld new)) fun n => ?_
  obtain ⟨x, hx⟩ := row1_co hn.vec (h.vec r hr) n
  exact ⟨-x, by grind⟩
theorem addR_le {R T : List (List Int)} (h : Red C R) {new : List Int} (hn : New C R new) (hT : ∀ r ∈ R, In C T (co r)) (h2 : In C T (co new)) : ∀ s ∈ addR C R new, In C T (co s) := by
  intro s hs
  unfold addR at hs
  rcases List.mem_append.1 hs with hs | hs
  · obtain ⟨r, hr, rfl⟩ := List.mem_map.1 hs
    refine (hT r hr).comb h2 (-co r (C.ld new)) fun n => ?_
    obtain ⟨x, hx⟩ := row1_co hn.vec (h.vec r hr) n
    exact ⟨x, by grind⟩
  · have : s = new := by simpa using hs
    rw [this]; exact h2

/-! adding -/
def monic (C : Ctx) (k : Int) (rest : List Int) : List Int := vadd C.p k (zero C) rest
theorem monic_co {k : Int} {rest : List Int} (hr : V C.p C.N rest) (n : Nat) : C.p ∣ co (monic C k rest) n - k * co rest n := by
  obtain ⟨x, hx⟩ := cg_vadd (p := C.p) (k := k) (a := zero C) (b := rest) (by rw [zero_V.len, hr.len]) n
  rw [co_zero] at hx
  exact ⟨x, by unfold monic; grind⟩
theorem monic_new {R : List (List Int)} (h : Red C R) {a : List Int} (ha : V C.p C.N a) {m : Nat} (hm : co (redL C R a) m ≠ 0) {k : Int} (hk : C.p ∣ k * co (redL C R a) (C.ld (redL C R a)) - 1) :
    New C R (monic C k (redL C R a)) ∧ C.ld (monic C k (redL C R a)) = C.ld (redL C R a) := by
  obtain ⟨g1, g2⟩ := redL_spec h ha
  generalize hre : redL C R a = rest at *
  have hv : V C.p C.N (monic C k rest) := zero_V.vadd C.hp g1
  have hl : co (monic C k rest) (C.ld rest) = 1 := by
    obtain ⟨x, hx⟩ := monic_co (k := k) g1 (C.ld rest); obtain ⟨y, hy⟩ := hk
    exact small_dvd ⟨x + y, by grind⟩ (hv.bd _) (by have := C.hp; omega)
  have e : C.ld (monic C k rest) = C.ld rest := by
    refine C.ld_eq (by rw [hl]; decide) fun n hne => ?_
    refine C.mx rest n fun hz => hne ?_
    obtain ⟨x, hx⟩ := monic_co (k := k) g1 n
    rw [hz] at hx
    exact small_dvd ⟨x, by grind⟩ (hv.bd n) (by have := C.hp; omega)
  refine ⟨⟨hv, by rw [e, hl], fun r hr => ?_⟩, e⟩
  have hz : co rest (C.ld r) = 0 := by rw [← hre]; exact redL_ld h ha hr
  obtain ⟨x, hx⟩ := monic_co (k := k) g1 (C.ld r)
  rw [hz] at hx
  exact small_dvd ⟨x, by grind⟩ (hv.bd _) (by have := C.hp; omega)
def Inv (C : Ctx) (iv : Int → Int) : Prop := ∀ c, 0 < c → c < C.p → C.p ∣ iv c * c - 1
def isz (a : List Int) : Bool := a.all (· == 0)
theorem isz_iff {a : List Int} : isz a = true ↔ ∀ n, co a n = 0 := by
  unfold isz
  rw [List.all_eq_true]
  constructor
  · intro h n
    by_cases hn : n < a.length
    · have := h (co a n) (List.mem_of_getElem? (co_eq hn)); simpa using this
    · exact co_ge (by omega)
  · intro h x hx
    obtain ⟨n, hn⟩ := List.getElem?_of_mem hx
    have := co_eq (List.getElem?_eq_some_iff.1 hn).1
    rw [hn, h n] at this
    cases this; rfl
def add1 (C : Ctx) (iv : Int → Int) (R : List (List Int)) (a : List Int) : List (List Int) :=
  bif isz (redL C R a) then R else addR C R (monic C (iv (co (redL C R a) (C.ld (redL C R a)))) (redL C R a))
structure Ext (C : Ctx) (R : List (List Int)) (as : List (List Int)) (T : List (List Int)) : Prop where
  red : Red C T
  old : ∀ r ∈ R, In C T (co r)
  new : ∀ a ∈ as, In C T (co a)
  le : ∀ U, Red C U → (∀ r ∈ R, In C U (co r)) → (∀ a ∈ as, In C U (co a)) → ∀ r ∈ T, In C U (co r)
theorem add1_ext {iv : Int → Int} (hi : Inv C iv) {R : List (List Int)} (h : Red C R) {a : List Int} (ha : V C.p C.N a) : Ext C R [a] (add1 C iv R a) := by
  unfold add1
  cases hz : isz (redL C R a) with
  | true =>
    have hin := (redL_zero h ha).1 (isz_iff.1 hz)
    exact ⟨h, fun r hr => h.row hr, by simpa using hin, fun U _ h1 _ => h1⟩
  | false =>
    obtain ⟨m, hm⟩ : ∃ m, co (redL C R a) m ≠ 0 := Classical.byContradiction fun hno => by
      have : isz (redL C R a) = true := isz_iff.2 fun n => Classical.byContradiction fun hne => hno ⟨n, hne⟩
      rw [hz] at this; cases this
    obtain ⟨g1, g2⟩ := redL_spec h ha
    have hb := g1.bd (C.ld (redL C R a)); have hn := C.nz _ m hm
    have hk := hi (co (redL C R a) (C.ld (redL C R a))) (by omega) hb.2
    obtain ⟨hN, he⟩ := monic_new h ha hm hk
    have hin := redL_in h ha
    simp only [cond_false]
    generalize hkk : iv (co (redL C R a) (C.ld (redL C R a))) = k at *
    have hR := addR_red h hN
    refine ⟨hR, fun r hr => addR_old h hN hr, ?_, ?_⟩
    · intro x hx
      obtain rfl : x = a := by simpa using hx
      have h1 : In C (addR C R (monic C k (redL C R x))) (fun n => co x n - co (redL C R x) n) := hin.trans fun r hr => addR_old h hN hr
      refine h1.comb (hR.row (r := monic C k (redL C R x)) (by unfold addR; simp)) (co (redL C R x) (C.ld (redL C R x))) fun n => ?_
      obtain ⟨y, hy⟩ := monic_co (k := k) g1 n; obtain ⟨z, hz⟩ := hk
      exact ⟨-(co (redL C R x) (C.ld (redL C R x)) * y) - z * co (redL C R x) n, by grind⟩
    · intro U hU h1 h2
      refine addR_le h hN h1 ?_
      have h3 : In C U (fun n => co a n - co (redL C R a) n) := hin.trans h1
      have h4 : In C U (co (redL C R a)) := (h2 a (by simp)).comb h3 (-1) fun n => ⟨0, by grind⟩
      refine (In.zero (f := fun _ => 0) fun _ => ⟨0, by simp⟩).comb h4 k fun n => ?_
      obtain ⟨y, hy⟩ := monic_co (k := k) g1 n
      exact ⟨y, by grind⟩
theorem add1_len {iv : Int → Int} {R : List (List Int)} {a : List Int} : (add1 C iv R a).length = R.length + (bif isz (redL C R a) then 0 else 1) := by
  unfold add1 addR
  cases isz (redL C R a) <;> simp
def addAll (C : Ctx) (iv : Int → Int) (R : List (List Int)) (as : List (List Int)) : List (List Int) := as.foldl (add1 C iv) R
theorem addAll_ext {iv : Int → Int} (hi : Inv C iv) {as : List (List Int)} : ∀ {R : List (List Int)}, Red C R → (∀ a ∈ as, V C.p C.N a) → Ext C R as (addAll C iv R as) := by
  induction as with
  | nil => intro R h _; exact ⟨h, fun r hr => h.row hr, nofun, fun U _ h1 _ => h1⟩
  | cons a as ih =>
    intro R h ha
    have e1 := add1_ext hi h (ha a (by simp))
    have e2 := ih e1.red fun x hx => ha x (by simp [hx])
    have i2 : ∀ r ∈ add1 C iv R a, In C (addAll C iv R (a :: as)) (co r) := e2.old
    refine ⟨e2.red, fun r hr => (e1.old r hr).trans i2, ?_, ?_⟩
    · intro x hx
      rcases List.mem_cons.1 hx with rfl | hx
      · exact (e1.new x (by simp)).trans i2
      · exact e2.new x hx
    · intro U hU h1 h2
      exact e2.le U hU (e1.le U hU h1 fun x hx => by
        have e : x = a := by simpa using hx
        rw [e]; exact h2 a (by simp)) fun x hx => h2 x (by simp [hx])
theorem Ext.same {R R' as as' T T' : List (List Int)} (h : Ext C R as T) (h' : Ext C R' as' T') (hR : ∀ r, r ∈ R ↔ r ∈ R') (hA : ∀ a, a ∈ as ↔ a ∈ as') : T.Perm T' := by
  have a1 : ∀ r ∈ T, In C T' (co r) := h.le T' h'.red (fun r hr => h'.old r ((hR r).1 hr)) fun a ha => h'.new a ((hA a).1 ha)
  have a2 : ∀ r ∈ T', In C T (co r) := h'.le T h.red (fun r hr => h.old r ((hR r).2 hr)) fun a ha => h.new a ((hA a).2 ha)
  exact mem_perm h.red.nd h'.red.nd (h.red.uniq h'.red a1 a2) (h'.red.uniq h.red a2 a1)
end Go.La
namespace Go.PF
open Go.Pu
open Go.La (vadd co)
/-! terms -/
def spF : Nat → List Int → List Term
  | _, [] => []
  | i, x :: xs => bif x == 0 then spF (i + 1) xs else ⟨((i : Nat) : Int), x⟩ :: spF (i + 1) xs
def sp (a : List Int) : List Term := spF 0 a
def fuF : Nat → List Int → List Term
  | _, [] => []
  | i, x :: xs => ⟨((i : Nat) : Int), x⟩ :: fuF (i + 1) xs
def fu (a : List Int) : List Term := fuF 0 a
theorem spF_filter : ∀ {a : List Int} {i : Nat}, spF i a = (fuF i a).filter fun t => !(t.coeff == 0)
  | [], _ => rfl
  | x :: xs, i => by
    simp only [spF, fuF, List.filter_cons]
    rw [spF_filter (a := xs)]
    cases h : x == 0 <;> simp
structure Dn (p : Int) (N : Nat) (a : List Int) : Prop where
  len : a.length = N
  bd : ∀ x ∈ a, 0 ≤ x ∧ x < p
structure PV (p v : Int) : Prop where
  p1 : p = 2 ∨ p = 3 ∨ p = 5
  v0 : 0 ≤ v
  v6 : v ≤ 6
def nN (v : Int) : Nat := 2 ^ v.toNat
theorem PV.pos {p v : Int} (h : PV p v) : 1 < p ∧ p ≤ 5 := by rcases h.p1 with h | h | h <;> omega
theorem nN_le {v : Int} (h6 : v ≤ 6) : 1 ≤ nN v ∧ nN v ≤ 64 := by
  unfold nN
  have h : v.toNat ≤ 6 := by omega
  have h1 : 2 ^ v.toNat ≤ 2 ^ 6 := Nat.pow_le_pow_right (by decide) h
  have h2 : 1 ≤ 2 ^ v.toNat := Nat.one_le_two_pow
  omega
theorem shl_pow {v : Int} (h0 : 0 ≤ v) (h6 : v ≤ 6) : shlK true 64 1 v = ((nN v : Nat) : Int) := by
  have : v = 0 ∨ v = 1 ∨ v = 2 ∨ v = 3 ∨ v = 4 ∨ v = 5 ∨ v = 6 := by omega
  rcases this with rfl | rfl | rfl | rfl | rfl | rfl | rfl <;> decide
theorem orK_nat {i j v : Nat} (hv : v ≤ 6) (hi : i < 2 ^ v) (hj : j < 2 ^ v) : orK true 64 ((i : Nat) : Int) ((j : Nat) : Int) = ((i ||| j : Nat) : Int) ∧ i ||| j < 2 ^ v := by
  have hlt := Nat.or_lt_two_pow hi hj
  refine ⟨?_, hlt⟩
  have h6 : 2 ^ v ≤ 2 ^ 6 := Nat.pow_le_pow_right (by decide) hv
  have e1 : i % 18446744073709551616 = i := Nat.mod_eq_of_lt (by omega)
  have e2 : j % 18446744073709551616 = j := Nat.mod_eq_of_lt (by omega)
  unfold orK
  rw [BitVec.toNat_or]
  simp only [BitVec.ofInt_natCast, BitVec.toNat_ofNat]
  rw [show (2 : Nat) ^ 64 = 18446744073709551616 from rfl, e1, e2]
  generalize i ||| j = m at hlt ⊢
  unfold wrk
  simp only [Bool.true_and]
  have : ((m : Nat) : Int) % (2 ^ 64 : Int) = (m : Int) := Int.emod_eq_of_lt (by omega) (by simp; omega)
  rw [this, if_neg (by simp; omega)]
theorem nn_ok {n : Int} (h : 0 ≤ n) : nn n = some () := by unfold nn; rw [if_neg (by omega)]
theorem nz_ok {n : Int} (h : n ≠ 0) : nz n = some () := by unfold nz; rw [if_neg h]
theorem wr_sm {n : Int} (h1 : -1000000 ≤ n) (h2 : n ≤ 1000000) : wr n = n := wr_of _ (by omega) (by omega)
/-! from all coefficients to terms -/
theorem sp_loop {p : Int} (hp : p ≠ 0) {f : Nat → Int → List Term → Option (Lp (List Term) Empty)}
    (hf : ∀ i y s, f i y s = bif !((y.tmod p) == 0) then bd (app s [(Term.mk ((i : Nat) : Int) (y.tmod p))]) (fun xs => some (Lp.nx xs)) else some (Lp.nx s)) :
    ∀ {a : List Int} {i : Nat} {s : List Term}, s.length + a.length ≤ lim → forLFrom f a i s = some (.go (s ++ spF i (a.map fun y => y.tmod p))) := by
  intro a
  induction a with
  | nil => intro i s _; simp [forLFrom, spF]
  | cons x a ih =>
    intro i s hl
    simp only [List.length_cons] at hl
    simp only [List.map_cons, spF]
    cases h : x.tmod p == 0 with
    | true => rw [forLFrom_nx (s' := s) (by rw [hf, h]; rfl), ih (by omega)]; rfl
    | false =>
      rw [forLFrom_nx (s' := s ++ [⟨(i : Nat), x.tmod p⟩]) (by rw [hf, h]; simp only [Bool.not_false, cond_true]; rw [app_ok (by simp; omega), bd_some]), ih (by simp; omega)]
      simp
theorem spec_l18Sparse_eq {p : Int} (hp : p ≠ 0) {a : List Int} (hl : a.length ≤ lim) : spec_l18Sparse p a = some (sp (a.map fun y => y.tmod p)) := by
  unfold spec_l18Sparse forL
  rw [sp_loop hp (fun i y s => by rw [nz_ok hp, bd_some]) (by simpa using hl)]
  simp [sp]
theorem tmod_small {x p : Int} (h : 0 ≤ x ∧ x < p) : x.tmod p = x := Int.tmod_eq_of_lt h.1 h.2
theorem map_tmod {p : Int} {a : List Int} (h : ∀ x ∈ a, 0 ≤ x ∧ x < p) : (a.map fun y => y.tmod p) = a := by
  conv => rhs; rw [← List.map_id a]
  exact List.map_congr_left fun x hx => tmod_small (h x hx)
/-! from terms to all coefficients -/
theorem dense_fold : ∀ (a pre : List Int), (spF pre.length a).foldl (fun s t => s.set t.mono.toNat t.coeff) (pre ++ List.replicate a.length 0) = pre ++ a
  | [], pre => by simp [spF]
  | x :: xs, pre => by
    simp only [spF, List.length_cons, List.replicate_succ]
    cases h : x == 0 with
    | true =>
      rw [beq_iff_eq] at h; subst h
      have := dense_fold xs (pre ++ [0])
      simp only [List.length_append, List.length_singleton, List.append_assoc, List.singleton_append] at this
      exact this
    | false =>
      have := dense_fold xs (pre ++ [x])
      simp only [List.length_append, List.length_singleton, List.append_assoc, List.singleton_append] at this
      simp only [cond_false, List.foldl_cons]
      have e : List.set (pre ++ (0 : Int) :: List.replicate xs.length 0) (((pre.length : Nat) : Int).toNat) x = pre ++ x :: List.replicate xs.length 0 := by simp
      rw [e]
      exact this
theorem mem_fuF : ∀ {a : List Int} {i : Nat} {t : Term}, t ∈ fuF i a → ∃ j : Nat, i ≤ j ∧ j < i + a.length ∧ t.mono = ((j : Nat) : Int) ∧ t.coeff ∈ a
  | [], _, _, h => by cases h
  | x :: xs, i, t, h => by
    rcases List.mem_cons.1 h with rfl | h
    · exact ⟨i, by omega, by simp, rfl, by simp⟩
    · obtain ⟨j, h1, h2, h3, h4⟩ := mem_fuF h
      exact ⟨j, by omega, by simp; omega, h3, by simp [h4]⟩
theorem mem_sp {a : List Int} {t : Term} (h : t ∈ sp a) : ∃ j : Nat, j < a.length ∧ t.mono = ((j : Nat) : Int) ∧ t.coeff ∈ a := by
  unfold sp at h; rw [spF_filter] at h
  obtain ⟨j, _, h2, h3, h4⟩ := mem_fuF (List.mem_filter.1 h).1
  exact ⟨j, by omega, h3, h4⟩
def zs (N : Nat) : List Int := List.replicate N 0
theorem zs_mk {v : Int} (h0 : 0 ≤ v) (h6 : v ≤ 6) : mk2 (0 : Int) (shlK true 64 1 v) (shlK true 64 1 v) = some (zs (nN v)) := by
  rw [shl_pow h0 h6]; exact mk2_ok (by have := nN_le h6; unfold lim; omega)
theorem spec_l18Dense_eq {v : Int} (h0 : 0 ≤ v) (h6 : v ≤ 6) {a : List Int} (ha : a.length = nN v) : spec_l18Dense v (sp a) = some a := by
  unfold spec_l18Dense
  rw [nn_ok h0, bd_some, zs_mk h0 h6, bd_some]
  refine bdR_foldI (X := Empty) (fun s (t : Term) => s.set t.mono.toNat t.coeff) (fun _ s => s.length = nN v) (by simp [zs]) (fun i t s ht hs => ?_) (fun _ => ?_)
  · obtain ⟨j, h1, h2, _⟩ := mem_sp (List.mem_of_getElem? ht)
    obtain ⟨x, hx⟩ : ∃ x, ix s t.mono = some x := by rw [h2, ix_get]; exact ⟨_, List.getElem?_eq_getElem (by omega)⟩
    rw [hx, bd_some, h2, put_ok (by omega), bd_some]
    exact ⟨by simp, by simp [hs]⟩
  · have := dense_fold a []
    simp only [List.length_nil, List.nil_append, ha] at this
    unfold sp zs
    rw [this]
theorem spec_l18Dense_nil {v : Int} (h0 : 0 ≤ v) (h6 : v ≤ 6) : spec_l18Dense v [] = some (zs (nN v)) := by
  unfold spec_l18Dense
  rw [nn_ok h0, bd_some, zs_mk h0 h6, bd_some]; rfl
/-! sums -/
theorem vadd_Dn {p k : Int} {N : Nat} {a b : List Int} (hp : 1 < p) (ha : a.length = N) (hb : b.length = N) : Dn p N (vadd p k a b) :=
  ⟨by unfold vadd; rw [List.length_zipWith, ha, hb]; omega, fun x hx => by
    unfold vadd at hx
    obtain ⟨i, hi, rfl⟩ := List.getElem_of_mem hx
    rw [List.getElem_zipWith]
    exact ⟨Int.emod_nonneg _ (by omega), Int.emod_lt_of_pos _ (by omega)⟩⟩
theorem mul_sm {k y : Int} (hk : 0 ≤ k ∧ k ≤ 5) (hy : 0 ≤ y ∧ y ≤ 5) : 0 ≤ k * y ∧ k * y ≤ 25 := by
  refine ⟨Int.mul_nonneg hk.1 hy.1, ?_⟩
  have := Int.mul_le_mul hk.2 hy.2 hy.1 (by omega)
  omega
theorem get_zip {f : Int → Int → Int} {a b : List Int} {j : Nat} {x y : Int} (hx : a[j]? = some x) (hy : b[j]? = some y) : (List.zipWith f a b)[j]? = some (f x y) := by
  rw [List.getElem?_zipWith, hx, hy]
@[irreducible] def lin (k x y : Int) : Int := x + k * y
theorem lin_eq (k x y : Int) : x + k * y = lin k x y := by unfold lin; rfl
theorem spec_l18Add_dense {p v k : Int} (h : PV p v) (hk : 0 ≤ k ∧ k ≤ 5) {A B : List Term} {a b : List Int} (hA : spec_l18Dense v A = some a) (hB : spec_l18Dense v B = some b) (ha : Dn p (nN v) a) (hb : Dn p (nN v) b) :
    spec_l18Add p v A B k = some (sp (vadd p k a b)) := by
  have hp := h.pos; have hN := nN_le h.v6
  unfold spec_l18Add
  rw [hA, bd_some, hB, bd_some]
  refine bdR_mk (X := Empty) (fun (s : List Int) i => (s, i)) (xs := (List.range (nN v))) (F := fun s j => match a[j]?, b[j]? with | some x, some y => s.set j (lin k x y) | _, _ => s) (s0 := a)
    (fun i s => s.length = nN v ∧ ∀ j, s[j]? = if j < i then (List.zipWith (lin k) a b)[j]? else a[j]?) rfl ⟨ha.len, fun j => by simp⟩ (fun i j s hj hs => ?_) (fun s hs => ?_) (fun hI => ?_)
  · obtain ⟨hi, rfl⟩ := List.getElem?_eq_some_iff.1 hj
    rw [List.getElem_range] at *
    rw [List.length_range] at hi
    have hal := ha.len; have hbl := hb.len
    have hxa : a[i]? = some a[i] := List.getElem?_eq_getElem (by rw [ha.len]; exact hi)
    have hyb : b[i]? = some b[i] := List.getElem?_eq_getElem (by rw [hb.len]; exact hi)
    have bx := ha.bd a[i] (List.getElem_mem _); have by_ := hb.bd b[i] (List.getElem_mem _)
    have hsi : s[i]? = some a[i] := by rw [hs.2, if_neg (Nat.lt_irrefl i), hxa]
    have hlt : decide ((i : Int) < len s) = true := by rw [decide_eq_true_eq, len_eq]; omega
    have hm := mul_sm hk (y := b[i]) ⟨by omega, by omega⟩
    have w1 : wr (k * b[i]) = k * b[i] := wr_sm (by omega) (by omega)
    have w2 : wr (a[i] + k * b[i]) = a[i] + k * b[i] := wr_sm (by omega) (by omega)
    have w3 : wr ((i : Int) + 1) = (i : Int) + 1 := wr_sm (by omega) (by omega)
    have hil : i < s.length := by rw [hs.1]; exact hi
    have hpu : ∀ z, put s (i : Int) z = some (s.set i z) := fun z => put_ok hil
    rw [hlt, cond_true, ix_get, hsi, bd_some, ix_get, hyb, bd_some, bd_some, w1, w2]
    dsimp only
    rw [hpu, bd_some, hxa]
    dsimp only
    rw [lin_eq]
    rw [w3]
    refine ⟨rfl, by rw [List.length_set, hs.1], fun j => ?_⟩
    rw [List.getElem?_set]
    by_cases hij : i = j
    · subst hij
      rw [if_pos rfl, if_pos hil, if_pos (Nat.lt_succ_self i), get_zip hxa hyb]
    · rw [if_neg hij, hs.2]
      by_cases hlt2 : j < i
      · rw [if_pos hlt2, if_pos (Nat.lt_succ_of_lt hlt2)]
      · rw [if_neg hlt2, if_neg (fun h => by rcases Nat.lt_succ_iff_lt_or_eq.1 h with h | h; exact hlt2 h; exact hij h.symm)]
  · have hlt : decide (((List.range (nN v)).length : Int) < len s) = false := by rw [decide_eq_false_iff_not, len_eq, List.length_range]; omega
    simp only [hlt, cond_false]
  · generalize (List.range (nN v)).foldl _ a = s at hI ⊢
    have es : s = List.zipWith (lin k) a b := by
      apply List.ext_getElem?
      intro j
      rw [hI.2, List.length_range]
      split
      · rfl
      · rw [List.getElem?_eq_none (by rw [ha.len]; omega), List.getElem?_eq_none (by rw [List.length_zipWith, ha.len]; omega)]
    rw [es]
    simp only
    rw [spec_l18Sparse_eq (by omega) (by rw [List.length_zipWith, ha.len]; unfold lim; omega), bd_some]
    congr 2
    unfold vadd
    rw [List.map_zipWith]
    apply List.ext_getElem?
    intro j
    rw [List.getElem?_zipWith, List.getElem?_zipWith]
    cases hx : a[j]? with
    | none => rfl
    | some x =>
      cases hy : b[j]? with
      | none => rfl
      | some y =>
        have bx := ha.bd x (List.mem_of_getElem? hx); have by_ := hb.bd y (List.mem_of_getElem? hy)
        have hm := mul_sm hk (y := y) ⟨by omega, by omega⟩
        simp only [Option.some.injEq]
        rw [← lin_eq]
        exact Int.tmod_eq_emod_of_nonneg (by omega)
theorem spec_l18Add_eq {p v k : Int} (h : PV p v) (hk : 0 ≤ k ∧ k ≤ 5) {a b : List Int} (ha : Dn p (nN v) a) (hb : Dn p (nN v) b) : spec_l18Add p v (sp a) (sp b) k = some (sp (vadd p k a b)) :=
  spec_l18Add_dense h hk (spec_l18Dense_eq h.v0 h.v6 ha.len) (spec_l18Dense_eq h.v0 h.v6 hb.len) ha hb
theorem zs_Dn {p : Int} {N : Nat} (hp : 1 < p) : Dn p N (zs N) := ⟨by simp [zs], fun x hx => by unfold zs at hx; rw [List.mem_replicate] at hx; omega⟩
theorem slices_Clone_dense_eq {c : List Int} (hl : c.length ≤ lim) : slices_Clone_impl_dense_int c = some c := by
  unfold slices_Clone_impl_dense_int; rw [app_ok (by simpa using hl)]; rfl
theorem impl_zero_eq {r : ring} (h : PV r.p r.vars) : impl_ring_zero r = some (zs (nN r.vars)) := by
  unfold impl_ring_zero
  rw [nn_ok h.v0, bd_some, zs_mk h.v0 h.v6, bd_some]
theorem impl_plus_eq {r : ring} {k : Int} (h : PV r.p r.vars) (hk : 0 ≤ k ∧ k ≤ 5) {a b : List Int} (ha : Dn r.p (nN r.vars) a) (hb : Dn r.p (nN r.vars) b) : impl_ring_plus r a b k = some (vadd r.p k a b) := by
  have hp := h.pos; have hN := nN_le h.v6
  unfold impl_ring_plus
  rw [slices_Clone_dense_eq (by rw [ha.len]; unfold lim; omega), bd_some]
  obtain ⟨s, h1, h2⟩ := forL_inv (X := Empty) (l := b) (s := a) (body := (fun i40 y39 s40 => bd (ix s40 ((i40 : Nat) : Int)) (fun x117132 => bd (nz r.p) (fun u141127 => bd (ix s40 ((i40 : Nat) : Int)) (fun x144132 => bd (put s40 ((i40 : Nat) : Int) ((wr (x117132 + (wr (k * y39)))).tmod r.p)) (fun xs147129 => some (Lp.nx xs147129)))))))
    (fun i s => s.length = nN r.vars ∧ ∀ j, s[j]? = if j < i then (vadd r.p k a b)[j]? else a[j]?) ⟨ha.len, fun j => by simp⟩ (fun i y s hy hs => by
      have hi := (List.getElem?_eq_some_iff.1 hy).1
      rw [hb.len] at hi
      have hal := ha.len; have hbl := hb.len
      have hxa : a[i]? = some a[i] := List.getElem?_eq_getElem (by rw [ha.len]; exact hi)
      have bx := ha.bd a[i] (List.getElem_mem _); have by_ := hb.bd y (List.mem_of_getElem? hy)
      have hsi : s[i]? = some a[i] := by rw [hs.2, if_neg (Nat.lt_irrefl i), hxa]
      have hm := mul_sm hk (y := y) ⟨by omega, by omega⟩
      have w1 : wr (k * y) = k * y := wr_sm (by omega) (by omega)
      have w2 : wr (a[i] + k * y) = a[i] + k * y := wr_sm (by omega) (by omega)
      have w3 : (a[i] + k * y).tmod r.p = (a[i] + k * y) % r.p := Int.tmod_eq_emod_of_nonneg (by omega)
      have hil : i < s.length := by rw [hs.1]; exact hi
      have hpu : ∀ z, put s (i : Int) z = some (s.set i z) := fun z => put_ok hil
      simp only [ix_get, hsi, bd_some, nz_ok (show r.p ≠ 0 by omega), w1, w2, w3, hpu]
      refine ⟨_, rfl, by simp [hs.1], fun j => ?_⟩
      rw [List.getElem?_set]
      by_cases hij : i = j
      · subst hij
        rw [if_pos rfl, if_pos hil, if_pos (Nat.lt_succ_self i)]
        unfold vadd; rw [get_zip hxa hy]
      · rw [if_neg hij, hs.2]
        by_cases hlt2 : j < i
        · rw [if_pos hlt2, if_pos (Nat.lt_succ_of_lt hlt2)]
        · rw [if_neg hlt2, if_neg (fun h => by rcases Nat.lt_succ_iff_lt_or_eq.1 h with h | h; exact hlt2 h; exact hij h.symm)])
  rw [h1, bdR_go]
  have es : s = vadd r.p k a b := by
    apply List.ext_getElem?
    intro j
    rw [h2.2, hb.len]
    split
    · rfl
    · rw [List.getElem?_eq_none (by rw [ha.len]; omega), List.getElem?_eq_none (by rw [(vadd_Dn hp.1 ha.len hb.len).len]; omega)]
  rw [es]
end Go.PF
namespace Go.PF
open Go.Pu
open Go.La (vadd co)
theorem forL_sim {S X α σ : Type} {body : Nat → α → S → Option (Lp S X)} {F : σ → α → σ} (R : Nat → σ → S → Prop) {l : List α} {s : S} {t0 : σ} (h0 : R 0 t0 s)
    (hb : ∀ i x t s, l[i]? = some x → R i t s → ∃ s', body i x s = some (.nx s') ∧ R (i + 1) (F t x) s') : ∃ s', forL l body s = some (.go s') ∧ R l.length (l.foldl F t0) s' := by
  obtain ⟨s', h1, h2⟩ := forL_inv (X := X) (body := body) (fun i s => R i ((l.take i).foldl F t0) s) (l := l) (s := s) (by simpa using h0) (fun i x s hx hR => by
    obtain ⟨s', h1, h2⟩ := hb i x _ s hx hR
    refine ⟨s', h1, ?_⟩
    rw [List.take_add_one, hx]
    simpa using h2)
  rw [List.take_length] at h2
  exact ⟨s', h1, h2⟩
theorem bdR_sim {S X α σ β : Type} {body : Nat → α → S → Option (Lp S X)} {F : σ → α → σ} (R : Nat → σ → S → Prop) {l : List α} {s : S} {t0 : σ} {k : S → Option β} {lx : X → Option β} {r : Option β} (h0 : R 0 t0 s)
    (hb : ∀ i x t s, l[i]? = some x → R i t s → ∃ s', body i x s = some (.nx s') ∧ R (i + 1) (F t x) s') (hk : ∀ s', R l.length (l.foldl F t0) s' → k s' = r) : bdR (forL l body s) k lx = r := by
  obtain ⟨s', h1, h2⟩ := forL_sim R h0 hb
  rw [h1, bdR_go]; exact hk s' h2
def ms (p : Int) (acc : List Int) (t u : Term) : List Int := acc.set (t.mono.toNat ||| u.mono.toNat) ((co acc (t.mono.toNat ||| u.mono.toNat) + t.coeff * u.coeff) % p)
def mulT (p : Int) (N : Nat) (A B : List Term) : List Int := A.foldl (fun acc t => B.foldl (fun acc u => ms p acc t u) acc) (zs N)
structure TOk (p : Int) (N : Nat) (t : Term) : Prop where
  m : ∃ j : Nat, j < N ∧ t.mono = ((j : Nat) : Int)
  c : 0 ≤ t.coeff ∧ t.coeff < p
theorem sp_TOk {p : Int} {N : Nat} {a : List Int} (h : Dn p N a) : ∀ t ∈ sp a, TOk p N t := fun t ht => by
  obtain ⟨j, h1, h2, h3⟩ := mem_sp ht
  exact ⟨⟨j, by rw [← h.len]; exact h1, h2⟩, h.bd _ h3⟩
theorem fu_TOk {p : Int} {N : Nat} {a : List Int} (h : Dn p N a) : ∀ t ∈ fu a, TOk p N t := fun t ht => by
  obtain ⟨j, _, h2, h3, h4⟩ := mem_fuF ht
  exact ⟨⟨j, by rw [← h.len]; omega, h3⟩, h.bd _ h4⟩
theorem co_bd {p : Int} {N : Nat} {a : List Int} (hp : 1 < p) (h : Dn p N a) (m : Nat) : 0 ≤ co a m ∧ co a m < p := by
  by_cases hm : m < a.length
  · exact h.bd _ (List.mem_of_getElem? (Go.La.co_eq hm))
  · rw [Go.La.co_ge (by omega)]; omega
theorem ms_Dn {p : Int} {N : Nat} {acc : List Int} {t u : Term} (hp : 1 < p) (h : Dn p N acc) : Dn p N (ms p acc t u) :=
  ⟨by unfold ms; rw [List.length_set, h.len], fun x hx => by
    unfold ms at hx
    rcases List.mem_or_eq_of_mem_set hx with hx | rfl
    · exact h.bd x hx
    · exact ⟨Int.emod_nonneg _ (by omega), Int.emod_lt_of_pos _ (by omega)⟩⟩
theorem ms_in {p : Int} {N : Nat} {t : Term} (hp : 1 < p) : ∀ {B : List Term} {acc : List Int}, Dn p N acc → Dn p N (B.foldl (fun acc u => ms p acc t u) acc)
  | [], _, h => h
  | u :: B, acc, h => ms_in hp (B := B) (ms_Dn hp h)
theorem ms_out {p : Int} {N : Nat} {B : List Term} (hp : 1 < p) : ∀ {A : List Term} {acc : List Int}, Dn p N acc → Dn p N (A.foldl (fun acc t => B.foldl (fun acc u => ms p acc t u) acc) acc)
  | [], _, h => h
  | t :: A, acc, h => ms_out hp (A := A) (ms_in hp h)
theorem mulT_Dn {p : Int} {N : Nat} (hp : 1 < p) (A B : List Term) : Dn p N (mulT p N A B) := ms_out hp (zs_Dn hp)
theorem ms_zero {p : Int} {N : Nat} {acc : List Int} {t u : Term} (hp : 1 < p) (h : Dn p N acc) (hz : t.coeff * u.coeff = 0) : ms p acc t u = acc := by
  unfold ms
  generalize t.mono.toNat ||| u.mono.toNat = m
  have hb := co_bd hp h m
  rw [hz, Int.add_zero, Int.emod_eq_of_lt hb.1 hb.2]
  apply List.ext_getElem?
  intro j
  rw [List.getElem?_set]
  by_cases hj : m = j
  · subst hj
    rw [if_pos rfl]
    by_cases hm : m < acc.length
    · rw [if_pos hm, Go.La.co_eq hm]
    · rw [if_neg hm, List.getElem?_eq_none (by omega)]
  · rw [if_neg hj]
theorem foldl_filter_id {α β : Type} {f : β → α → β} {q : α → Bool} {I : β → Prop} (hI : ∀ b a, I b → I (f b a)) : ∀ {l : List α} {b : β}, I b → (∀ b a, I b → a ∈ l → q a = false → f b a = b) → (l.filter q).foldl f b = l.foldl f b
  | [], _, _, _ => rfl
  | a :: l, b, hb, h => by
    rw [List.foldl_cons, List.filter_cons]
    cases hq : q a with
    | true =>
      simp only [if_true, List.foldl_cons]
      exact foldl_filter_id hI (hI b a hb) fun b a hb ha => h b a hb (by simp [ha])
    | false =>
      rw [h b a hb (by simp) hq]
      exact foldl_filter_id hI hb fun b a hb ha => h b a hb (by simp [ha])
theorem mulT_fu {p : Int} {N : Nat} (hp : 1 < p) (a b : List Int) : mulT p N (fu a) (fu b) = mulT p N (sp a) (sp b) := by
  have h1 : ∀ (t : Term) (acc : List Int), Dn p N acc → (sp b).foldl (fun acc u => ms p acc t u) acc = (fu b).foldl (fun acc u => ms p acc t u) acc := fun t acc h => by
    unfold sp; rw [spF_filter]
    exact foldl_filter_id (I := Dn p N) (fun _ _ h => ms_Dn hp h) h fun b u hb _ hq => ms_zero hp hb (by rw [show u.coeff = 0 by simpa using hq, Int.mul_zero])
  have h2 : ∀ (A : List Term) (acc : List Int), Dn p N acc → A.foldl (fun acc t => (sp b).foldl (fun acc u => ms p acc t u) acc) acc = A.foldl (fun acc t => (fu b).foldl (fun acc u => ms p acc t u) acc) acc := by
    intro A
    induction A with
    | nil => intro acc _; rfl
    | cons t A ih => intro acc h; simp only [List.foldl_cons]; rw [h1 t acc h]; exact ih _ (ms_in hp h)
  unfold mulT
  rw [h2 _ _ (zs_Dn hp)]
  conv => rhs; unfold sp; rw [spF_filter]
  refine (foldl_filter_id (I := Dn p N) (fun _ _ h => ms_in hp h) (zs_Dn hp) fun acc t hb _ hq => ?_).symm
  have hz : t.coeff = 0 := by simpa using hq
  have : ∀ (B : List Term), B.foldl (fun acc u => ms p acc t u) acc = acc := by
    intro B
    induction B with
    | nil => rfl
    | cons u B ih => rw [List.foldl_cons, ms_zero hp hb (by rw [hz]; simp)]; exact ih
  exact this _
theorem mul_round {p : Int} {v : Int} (h : PV p v) {t u : Term} (ht : TOk p (nN v) t) (hu : TOk p (nN v) u) {s : List Int} (hs : Dn p (nN v) s) :
    bd (ix s (orK true 64 t.mono u.mono)) (fun x => bd (nz p) (fun _ => bd (ix s (orK true 64 t.mono u.mono)) (fun _ => bd (put s (orK true 64 t.mono u.mono) ((wr (x + (wr (t.coeff * u.coeff)))).tmod p)) (fun xs => some (Lp.nx (X := Empty) xs))))) = some (.nx (ms p s t u)) := by
  have hp := h.pos
  obtain ⟨i, hi, ei⟩ := ht.m; obtain ⟨j, hj, ej⟩ := hu.m
  obtain ⟨o1, o2⟩ := orK_nat (v := v.toNat) (by have := h.v6; omega) hi hj
  have hm : i ||| j < s.length := by rw [hs.len]; exact o2
  have hg : s[i ||| j]? = some (co s (i ||| j)) := Go.La.co_eq hm
  have hb := co_bd hp.1 hs (i ||| j)
  have hc := ht.c; have hd := hu.c
  have hx := mul_sm (k := t.coeff) (y := u.coeff) ⟨by omega, by omega⟩ ⟨by omega, by omega⟩
  have w1 : wr (t.coeff * u.coeff) = t.coeff * u.coeff := wr_sm (by omega) (by omega)
  have w2 : wr (co s (i ||| j) + t.coeff * u.coeff) = co s (i ||| j) + t.coeff * u.coeff := wr_sm (by omega) (by omega)
  have w3 : (co s (i ||| j) + t.coeff * u.coeff).tmod p = (co s (i ||| j) + t.coeff * u.coeff) % p := Int.tmod_eq_emod_of_nonneg (by omega)
  unfold ms
  rw [ei, ej, o1]
  simp only [ix_get, hg, bd_some, nz_ok (show p ≠ 0 by omega), w1, w2, w3, put_ok hm, Int.toNat_natCast]
theorem mul_inner {p v : Int} (h : PV p v) {t : Term} (ht : TOk p (nN v) t) {B : List Term} (hB : ∀ u ∈ B, TOk p (nN v) u) {s : List Int} (hs : Dn p (nN v) s)
    {f : Nat → Term → List Int → Option (Lp (List Int) Empty)} (hf : ∀ i u s, f i u s = bd (ix s (orK true 64 t.mono u.mono)) (fun x => bd (nz p) (fun _ => bd (ix s (orK true 64 t.mono u.mono)) (fun _ => bd (put s (orK true 64 t.mono u.mono) ((wr (x + (wr (t.coeff * u.coeff)))).tmod p)) (fun xs => some (Lp.nx xs)))))) :
    forL B f s = some (.go (B.foldl (fun acc u => ms p acc t u) s)) :=
  (forL_foldI (fun acc u => ms p acc t u) (l := B) (s := s) (fun _ s => Dn p (nN v) s) hs (fun i u s hu hs => ⟨by rw [hf]; exact mul_round h ht (hB u (List.mem_of_getElem? hu)) hs, ms_Dn h.pos.1 hs⟩)).1
theorem spec_l18Mul_eq {p v : Int} (h : PV p v) {A B : List Term} (hA : ∀ t ∈ A, TOk p (nN v) t) (hB : ∀ u ∈ B, TOk p (nN v) u) : spec_l18Mul p v A B = some (sp (mulT p (nN v) A B)) := by
  have hp := h.pos; have hN := nN_le h.v6
  unfold spec_l18Mul
  rw [nn_ok h.v0, bd_some, zs_mk h.v0 h.v6, bd_some]
  refine bdR_foldI (X := Empty) (fun acc t => B.foldl (fun acc u => ms p acc t u) acc) (fun _ s => Dn p (nN v) s) (zs_Dn hp.1) (fun i t s ht hs => ?_) (fun hI => ?_)
  · have htk := hA t (List.mem_of_getElem? ht)
    rw [mul_inner h htk hB hs (fun _ _ _ => rfl), bdR_go]
    exact ⟨rfl, ms_in hp.1 hs⟩
  · rw [spec_l18Sparse_eq (by omega) (by rw [hI.len]; unfold lim; omega), bd_some, map_tmod hI.bd]
    rfl
theorem forL_fu {S X : Type} {F : Int → Int → S → Option (Lp S X)} : ∀ {a : List Int} {i k : Nat} {s : S}, forLFrom (fun i y s => F ((i : Nat) : Int) y s) a i s = forLFrom (fun _ (t : Term) s => F t.mono t.coeff s) (fuF i a) k s
  | [], _, _, _ => rfl
  | x :: a, i, k, s => by
    simp only [fuF, forLFrom]
    cases F ((i : Nat) : Int) x s with
    | none => rfl
    | some q =>
      cases q with
      | nx s' => exact forL_fu
      | bk s' => rfl
      | rt x => rfl
theorem impl_times_eq {r : ring} (h : PV r.p r.vars) {a b : List Int} (ha : Dn r.p (nN r.vars) a) (hb : Dn r.p (nN r.vars) b) : impl_ring_times r a b = some (mulT r.p (nN r.vars) (sp a) (sp b)) := by
  have hp := h.pos
  unfold impl_ring_times
  rw [impl_zero_eq h, bd_some, ← mulT_fu hp.1]
  unfold forL
  refine Eq.trans (congrArg (fun z => bdR z _ _) (forL_fu (X := Empty) (k := 0) (F := fun m y s40 => bdR (forLFrom (S := (List Int)) (X := Empty) (fun i252331 y252330 s252331 => bd (ix s252331 (orK true 64 m ((i252331 : Nat) : Int))) (fun x405448 => bd (nz r.p) (fun u429443 => bd (ix s252331 (orK true 64 m ((i252331 : Nat) : Int))) (fun x432448 => bd (put s252331 (orK true 64 m ((i252331 : Nat) : Int)) ((wr (x405448 + (wr (y * y252330)))).tmod r.p)) (fun xs435445 => some (Lp.nx xs435445)))))) b 0 s40) (fun s252331 => some (Lp.nx s252331)) (fun x252331 => nomatch x252331)))) ?_
  refine bdR_foldI (X := Empty) (fun acc t => (fu b).foldl (fun acc u => ms r.p acc t u) acc) (l := fu a) (fun _ s => Dn r.p (nN r.vars) s) (zs_Dn hp.1) (fun i t s ht hs => ?_) (fun hI => rfl)
  have htk := fu_TOk ha t (List.mem_of_getElem? ht)
  have e2 := forL_fu (X := Empty) (a := b) (i := 0) (s := s) (k := 0) (F := fun m y s252331 => bd (ix s252331 (orK true 64 t.mono m)) (fun x405448 => bd (nz r.p) (fun u429443 => bd (ix s252331 (orK true 64 t.mono m)) (fun x432448 => bd (put s252331 (orK true 64 t.mono m) ((wr (x405448 + (wr (t.coeff * y)))).tmod r.p)) (fun xs435445 => some (Lp.nx xs435445))))))
  have := mul_inner h htk (fu_TOk hb) hs (f := fun _ (u : Term) s252331 => bd (ix s252331 (orK true 64 t.mono u.mono)) (fun x405448 => bd (nz r.p) (fun u429443 => bd (ix s252331 (orK true 64 t.mono u.mono)) (fun x432448 => bd (put s252331 (orK true 64 t.mono u.mono) ((wr (x405448 + (wr (t.coeff * u.coeff)))).tmod r.p)) (fun xs435445 => some (Lp.nx xs435445)))))) (fun _ _ _ => rfl)
  unfold forL at this
  have e3 := e2.trans this
  refine ⟨?_, ms_in hp.1 hs⟩
  exact (congrArg (fun z => bdR z _ _) e3).trans rfl
/-! literals -/
def eD (N k : Nat) : List Int := (zs N).set k 1
def bt (u : Int) : Nat := nN (u - 1)
theorem bt_lt {u v : Int} (h1 : 1 ≤ u) (h2 : u ≤ v) : 1 ≤ bt u ∧ bt u < nN v := by
  unfold bt nN
  exact ⟨Nat.one_le_two_pow, Nat.pow_lt_pow_right (by decide) (by omega)⟩
theorem eD_Dn {p : Int} {N k : Nat} (hp : 1 < p) : Dn p N (eD N k) :=
  ⟨by simp [eD, zs], fun x hx => by
    unfold eD at hx
    rcases List.mem_or_eq_of_mem_set hx with hx | rfl
    · exact (zs_Dn hp).bd x hx
    · omega⟩
theorem spF_zero : ∀ {n i : Nat}, spF i (List.replicate n 0) = []
  | 0, _ => rfl
  | n + 1, i => by rw [List.replicate_succ]; simp only [spF, BEq.rfl, cond_true]; exact spF_zero
theorem spF_set {x : Int} (hx : x ≠ 0) : ∀ {n i k : Nat}, k < n → spF i ((List.replicate n 0).set k x) = [⟨((i + k : Nat) : Int), x⟩]
  | 0, _, _, h => by omega
  | n + 1, i, 0, _ => by
    rw [List.replicate_succ, List.set_cons_zero]
    simp only [spF, show (x == 0) = false by rw [beq_eq_false_iff_ne]; exact hx, cond_false, spF_zero, Nat.add_zero]
  | n + 1, i, k + 1, h => by
    rw [List.replicate_succ, List.set_cons_succ]
    simp only [spF, BEq.rfl, cond_true]
    rw [spF_set hx (show k < n by omega), show i + 1 + k = i + (k + 1) by omega]
theorem sp_eD {N k : Nat} (h : k < N) : sp (eD N k) = [⟨((k : Nat) : Int), 1⟩] := by
  unfold sp eD zs
  rw [spF_set (by decide) h, Nat.zero_add]
def litD (p : Int) (N : Nat) (l : Int) : List Int := bif decide (0 < l) then eD N (bt l) else vadd p (p - 1) (eD N 0) (eD N (bt (-l)))
theorem litD_Dn {p : Int} {N : Nat} (hp : 1 < p) (l : Int) : Dn p N (litD p N l) := by
  unfold litD
  cases decide (0 < l)
  · exact vadd_Dn hp (eD_Dn hp).len (eD_Dn hp).len
  · exact eD_Dn hp
theorem zip_set {p k : Int} (hp : 1 < p) (hk : 0 ≤ k ∧ k < p) : ∀ {n m : Nat}, List.zipWith (fun x y => (x + k * y) % p) (List.replicate n 0) ((List.replicate n 0).set m 1) = (List.replicate n 0).set m k
  | 0, m => by simp
  | n + 1, 0 => by
    rw [List.replicate_succ, List.set_cons_zero, List.set_cons_zero, List.zipWith_cons_cons]
    have e : (0 + k * 1) % p = k := by rw [Int.zero_add, Int.mul_one]; exact Int.emod_eq_of_lt hk.1 hk.2
    rw [e]
    congr 1
    rw [List.zipWith_replicate]
    simp
  | n + 1, m + 1 => by
    rw [List.replicate_succ, List.set_cons_succ, List.set_cons_succ, List.zipWith_cons_cons, zip_set hp hk]
    simp
theorem sp_lit_pos {p v u : Int} (h1 : 1 ≤ u) (h2 : u ≤ v) : sp (litD p (nN v) u) = [⟨((bt u : Nat) : Int), 1⟩] := by
  unfold litD
  rw [show decide (0 < u) = true from decide_eq_true (by omega), cond_true]
  exact sp_eD (bt_lt h1 h2).2
theorem sp_lit_neg {p v u : Int} (hp : 1 < p) (h1 : 1 ≤ u) (h2 : u ≤ v) : sp (litD p (nN v) (-u)) = [⟨0, 1⟩, ⟨((bt u : Nat) : Int), p - 1⟩] := by
  unfold litD
  rw [show decide (0 < -u) = false from decide_eq_false (by omega), cond_false, Int.neg_neg]
  obtain ⟨b1, b2⟩ := bt_lt h1 h2
  generalize nN v = N at b2 ⊢
  obtain ⟨n, rfl⟩ : ∃ n, N = n + 1 := ⟨N - 1, by omega⟩
  obtain ⟨m, hm⟩ : ∃ m, bt u = m + 1 := ⟨bt u - 1, by omega⟩
  rw [hm]
  have e : vadd p (p - 1) (eD (n + 1) 0) (eD (n + 1) (m + 1)) = 1 :: (List.replicate n 0).set m (p - 1) := by
    unfold vadd eD zs
    rw [List.replicate_succ, List.set_cons_zero, List.set_cons_succ, List.zipWith_cons_cons, zip_set hp ⟨by omega, by omega⟩]
    congr 1
    rw [Int.mul_zero, Int.add_zero]; exact Int.emod_eq_of_lt (by omega) hp
  rw [e]
  unfold sp
  simp only [spF, show ((1 : Int) == 0) = false from rfl, cond_false]
  rw [spF_set (by omega) (by omega), show 0 + 1 + m = m + 1 by omega]
  rfl
theorem impl_mono_eq {r : ring} (h : PV r.p r.vars) {k : Nat} (hk : k < nN r.vars) : impl_ring_mono r ((k : Nat) : Int) = some (eD (nN r.vars) k) := by
  unfold impl_ring_mono
  rw [impl_zero_eq h, bd_some, ix_get, show (zs (nN r.vars))[k]? = some 0 by unfold zs; rw [List.getElem?_replicate, if_pos hk], bd_some, put_ok (by simp [zs]; exact hk), bd_some]
  rfl
theorem shl_bt {u : Int} (h1 : 1 ≤ u) (h2 : u ≤ 6) : shlK true 64 1 (wr (u - 1)) = ((bt u : Nat) : Int) := by
  rw [wr_sm (by omega) (by omega)]
  exact shl_pow (by omega) (by omega)
theorem impl_literal_eq {r : ring} (h : PV r.p r.vars) {l : Int} (h0 : l ≠ 0) (h1 : -r.vars ≤ l) (h2 : l ≤ r.vars) : impl_ring_literal r l = some (litD r.p (nN r.vars) l) := by
  have hp := h.pos; have h6 := h.v6
  unfold impl_ring_literal litD
  cases hd : decide (0 < l) with
  | true =>
    have hl := of_decide_eq_true hd
    simp only [cond_true]
    rw [nn_ok (by rw [wr_sm (by omega) (by omega)]; omega), bd_some, shl_bt (by omega) (by omega), impl_mono_eq h (bt_lt (by omega) h2).2, bd_some]
  | false =>
    have hl := of_decide_eq_false hd
    have e : wr (-l) = -l := wr_sm (by omega) (by omega)
    have m0 : impl_ring_mono r 0 = some (eD (nN r.vars) 0) := impl_mono_eq h (k := 0) (by have := nN_le h.v6; omega)
    simp only [cond_false]
    rw [m0, bd_some, e, nn_ok (by rw [wr_sm (by omega) (by omega)]; omega), bd_some, shl_bt (u := -l) (by omega) (by omega), impl_mono_eq h (bt_lt (u := -l) (by omega) (by omega)).2, bd_some,
      wr_sm (show -1000000 ≤ r.p - 1 by omega) (by omega), impl_plus_eq h ⟨by omega, by omega⟩ (eD_Dn hp.1) (eD_Dn hp.1), bd_some]
/-! clauses -/
def clD (p : Int) (N : Nat) (c : List Int) : List Int := c.foldl (fun acc l => mulT p N (sp acc) (sp (litD p N (-l)))) (eD N 0)
theorem clD_Dn {p : Int} {N : Nat} (hp : 1 < p) (c : List Int) : Dn p N (clD p N c) := by
  unfold clD
  have : ∀ (c : List Int) (a : List Int), Dn p N a → Dn p N (c.foldl (fun acc l => mulT p N (sp acc) (sp (litD p N (-l)))) a) := by
    intro c
    induction c with
    | nil => intro a h; exact h
    | cons l c ih => intro a h; exact ih _ (mulT_Dn hp _ _)
  exact this c _ (eD_Dn hp)
theorem IsC.lits {V : Int} {c : List Int} (h : IsC V c) : ∀ l ∈ c, -V ≤ l ∧ l ≤ V ∧ l ≠ 0 := fun l hl => by have := h.lit l hl; omega
theorem vr_nat {l : Int} (h1 : -12 ≤ l) (h2 : l ≤ 12) : vr l = bif decide (l < 0) then -l else l := by
  unfold vr
  rw [wr_sm (n := -l) (by omega) (by omega)]
theorem spec_l18Clause_eq {p v : Int} (h : PV p v) {c : List Int} (hc : IsC v c) : spec_l18Clause p v c = some (sp (clD p (nN v) c)) := by
  have hp := h.pos; have h6 := h.v6; have hN := nN_le h.v6
  unfold spec_l18Clause
  refine bdR_sim (X := Empty) (F := fun acc l => mulT p (nN v) (sp acc) (sp (litD p (nN v) (-l)))) (t0 := eD (nN v) 0) (fun _ t s => s = sp t ∧ Dn p (nN v) t) ⟨by rw [sp_eD (N := nN v) (k := 0) (by omega)]; rfl, eD_Dn hp.1⟩ (fun i l t s hl hs => ?_) (fun s' hs' => ?_)
  · obtain ⟨rfl, hD⟩ := hs
    have hlt := hc.lits l (List.mem_of_getElem? hl)
    have hv := vr_nat (l := l) (by omega) (by omega)
    refine ⟨_, ?_, rfl, mulT_Dn hp.1 _ _⟩
    simp only [spec_l2Var_eq]
    cases hd : decide (l < 0) with
    | true =>
      have hn := of_decide_eq_true hd
      rw [hd, cond_true] at hv
      rw [hv, nn_ok (by rw [wr_sm (by omega) (by omega)]; omega), bd_some, shl_bt (u := -l) (by omega) (by omega)]
      simp only [cond_true]
      rw [← sp_lit_pos (p := p) (v := v) (u := -l) (by omega) (by omega), spec_l18Mul_eq h (sp_TOk hD) (sp_TOk (litD_Dn hp.1 _)), bd_some]
    | false =>
      have hn := of_decide_eq_false hd
      rw [hd, cond_false] at hv
      rw [hv, nn_ok (by rw [wr_sm (by omega) (by omega)]; omega), bd_some, shl_bt (u := l) (by omega) (by omega), wr_sm (show -1000000 ≤ p - 1 by omega) (by omega)]
      simp only [cond_false]
      rw [← sp_lit_neg (p := p) (v := v) (u := l) hp.1 (by omega) (by omega), spec_l18Mul_eq h (sp_TOk hD) (sp_TOk (litD_Dn hp.1 _)), bd_some]
  · rw [hs'.1]; rfl
theorem impl_ring_clause_eq {r : ring} (h : PV r.p r.vars) {c : List Int} (hc : IsC r.vars c) : impl_ring_clause r c = some (clD r.p (nN r.vars) c) := by
  have hp := h.pos; have h6 := h.v6; have hN := nN_le h.v6
  unfold impl_ring_clause
  have m0 : impl_ring_mono r 0 = some (eD (nN r.vars) 0) := impl_mono_eq h (k := 0) (by omega)
  rw [m0, bd_some]
  refine bdR_foldI (X := Empty) (fun acc l => mulT r.p (nN r.vars) (sp acc) (sp (litD r.p (nN r.vars) (-l)))) (fun _ t => Dn r.p (nN r.vars) t) (eD_Dn hp.1) (fun i l t hl hD => ?_) (fun _ => rfl)
  have hlt := hc.lits l (List.mem_of_getElem? hl)
  rw [wr_sm (n := -l) (by omega) (by omega), impl_literal_eq h (by omega) (by omega) (by omega), bd_some, impl_times_eq h hD (litD_Dn hp.1 _), bd_some]
  exact ⟨rfl, mulT_Dn hp.1 _ _⟩
end Go.PF
namespace Go.PF
open Go.Pu
open Go.La (vadd co)
theorem spec_l20Times_eq {p v : Int} (h : PV p v) {a : List Int} (ha : Dn p (nN v) a) {u : Int} (h1 : 1 ≤ u) (h2 : u ≤ v) : spec_l20Times p v (sp a) u = some (sp (mulT p (nN v) (sp a) (sp (litD p (nN v) u)))) := by
  have h6 := h.v6
  unfold spec_l20Times
  rw [nn_ok (by rw [wr_sm (by omega) (by omega)]; omega), bd_some, shl_bt h1 (by omega), ← sp_lit_pos (p := p) h1 h2, spec_l18Mul_eq h (sp_TOk ha) (sp_TOk (litD_Dn h.pos.1 _)), bd_some]
end Go.PF
namespace Go.PF
open Go.Pu
open Go.La (vadd co)
end Go.PF
namespace Go.PF
open Go.Pu
open Go.La (vadd co)
def pvB (p v : Int) : Bool := (p == 2 || p == 3 || p == 5) && inB v 0 6
theorem pvB_iff {p v : Int} : pvB p v = true ↔ PV p v := by
  unfold pvB
  rw [Bool.and_eq_true, Bool.or_eq_true, Bool.or_eq_true, beq_iff_eq, beq_iff_eq, beq_iff_eq, inB_iff]
  constructor
  · rintro ⟨h1, h2, h3⟩; exact ⟨by rcases h1 with (h | h) | h <;> omega, h2, h3⟩
  · rintro ⟨h1, h2, h3⟩; exact ⟨by rcases h1 with h | h | h <;> simp [h], h2, h3⟩
theorem bif_or (a b : Bool) : (bif a then true else b) = (a || b) := by cases a <;> rfl
theorem bif_and (a b : Bool) : (bif a then b else false) = (a && b) := by cases a <;> rfl
theorem spec_l18Prime_eq (p v : Int) : spec_l18Prime p v = pvB p v := by
  unfold spec_l18Prime pvB
  rw [spec_l1In_eq, bif_or, bif_or, bif_and]
theorem impl_ringOf_eq (p v : Int) : impl_ringOf p v = (⟨p, v⟩, pvB p v) := by
  unfold impl_ringOf pvB
  rw [impl_within_eq, bif_or, bif_or, bif_and]
def alg (p : Int) (F : Cnf) : algebra := ⟨⟨p, F.vars⟩, ⟨F.vars, F.clauses⟩, F.clauses.map fun c => clD p (nN F.vars) c⟩
def algB (p : Int) (F : Cnf) : Bool := pvB p F.vars && cnfB F
theorem cnf_bds {F : Cnf} (h : cnfB F = true) : F.clauses.length ≤ 60 ∧ ∀ c ∈ F.clauses, IsC F.vars c := by
  unfold cnfB at h
  rw [Bool.and_eq_true, Bool.and_eq_true, decide_eq_true_eq, List.all_eq_true, len_eq] at h
  exact ⟨by omega, fun c hc => clauseB_iff.1 (h.2 c hc)⟩
theorem impl_algebraOf_eq {p : Int} {F : Cnf} (hF : okCnf F) : impl_algebraOf p F = some (bif algB p F then (some (alg p F), true) else (none, false)) := by
  unfold impl_algebraOf algB
  rw [impl_ringOf_eq]
  cases h1 : pvB p F.vars with
  | false => rfl
  | true =>
    simp only [Bool.not_true, cond_false]
    rw [impl_IsCnf_eq hF, bd_some]
    cases h2 : cnfB F with
    | false => rfl
    | true =>
      have h := pvB_iff.1 h1
      obtain ⟨b1, b2⟩ := cnf_bds h2
      simp only [Bool.not_true, cond_false, bd_some, Bool.and_self, cond_true]
      refine bdR_sim (X := Empty) (F := fun (t : List (List Int)) c => t ++ [clD p (nN F.vars) c]) (t0 := []) (fun i t s => s = (t, p, F.vars, F.vars, F.clauses) ∧ t.length ≤ i ∧ t = (F.clauses.take i).map fun c => clD p (nN F.vars) c) ⟨rfl, Nat.le_refl _, rfl⟩ (fun i c t s hc hs => ?_) (fun s' hs' => ?_)
      · obtain ⟨rfl, hl, ht⟩ := hs
        have hi := (List.getElem?_eq_some_iff.1 hc).1
        refine ⟨(t ++ [clD p (nN F.vars) c], p, F.vars, F.vars, F.clauses), ?_, rfl, by simp; omega, ?_⟩
        · rw [impl_ring_clause_eq (r := ⟨p, F.vars⟩) h (b2 c (List.mem_of_getElem? hc)), bd_some]
          simp only
          rw [app_ok (by simp; unfold lim; omega), bd_some]
        · rw [List.take_add_one, hc, List.map_append, ← ht]; rfl
      · obtain ⟨rfl, _, ht⟩ := hs'
        rw [ht, List.take_length]; rfl
theorem spec_l20Asked_eq {p : Int} {F : Cnf} (hF : okCnf F) : spec_l20Asked p F = some (algB p F) := by
  unfold spec_l20Asked algB
  rw [spec_l18Prime_eq, spec_l2Good_eq hF, bd_some]
  cases pvB p F.vars <;> rfl
end Go.PF
