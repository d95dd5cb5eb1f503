/- Reduced rows over the numbers modulo p: what is added to them, in any order, gives the same rows. Plain lists of numbers. Reduced rows in the order of their leading places; rounds in which rows are added until nothing is new. Sums of vectors modulo p; vectors none of which is a sum of those before it. -/
set_option linter.unusedVariables false
namespace Go.La
def co (a : List Int) (n : Nat) : Int := a.getD n 0
structure V (p : Int) (N : Nat) (a : List Int) : Prop where
  len : a.length = N
  bd : ∀ n, 0 ≤ co a n ∧ co a n < p
theorem co_ge {a : List Int} {n : Nat} (h : a.length ≤ n) : co a n = 0 := by unfold co; rw [List.getD_eq_getElem?_getD, List.getElem?_eq_none h]; rfl
theorem co_eq {a : List Int} {n : Nat} (h : n < a.length) : a[n]? = some (co a n) := by unfold co; rw [List.getD_eq_getElem?_getD, List.getElem?_eq_getElem h]; rfl
theorem small_dvd {p x y : Int} (h : p ∣ x - y) (hx : 0 ≤ x ∧ x < p) (hy : 0 ≤ y ∧ y < p) : x = y := by
  have h1 : (x - y) % p = 0 := Int.emod_eq_zero_of_dvd h
  rcases Int.lt_or_le x y with hlt | hle
  · have : p ∣ y - x := by have := Int.dvd_neg.2 h; rwa [Int.neg_sub] at this
    have := Int.le_of_dvd (by omega) this; omega
  · rcases Int.lt_or_le y x with hlt | hle2
    · have := Int.le_of_dvd (by omega) h; omega
    · omega
theorem V.ext {p : Int} {N : Nat} {a b : List Int} (ha : V p N a) (hb : V p N b) (h : ∀ n, p ∣ co a n - co b n) : a = b := by
  apply List.ext_getElem?
  intro n
  by_cases hn : n < N
  · rw [co_eq (by rw [ha.len]; exact hn), co_eq (by rw [hb.len]; exact hn), small_dvd (h n) (ha.bd n) (hb.bd n)]
  · rw [List.getElem?_eq_none (by rw [ha.len]; omega), List.getElem?_eq_none (by rw [hb.len]; omega)]
def vadd (p k : Int) (a b : List Int) : List Int := List.zipWith (fun x y => (x + k * y) % p) a b
theorem co_vadd {p k : Int} {a b : List Int} (h : a.length = b.length) (n : Nat) : co (vadd p k a b) n = (co a n + k * co b n) % p := by
  by_cases hn : n < a.length
  · unfold vadd co
    simp [List.getD_eq_getElem?_getD, List.getElem?_zipWith, List.getElem?_eq_getElem hn, List.getElem?_eq_getElem (h ▸ hn)]
  · rw [co_ge (by unfold vadd; rw [List.length_zipWith]; omega), co_ge (by omega), co_ge (by omega)]; simp
theorem dvd_mod (p x : Int) : p ∣ x % p - x := ⟨-(x / p), by have := Int.emod_add_mul_ediv x p; grind⟩
theorem V.vadd {p k : Int} {N : Nat} {a b : List Int} (hp : 1 < p) (ha : V p N a) (hb : V p N b) : V p N (vadd p k a b) :=
  ⟨by unfold La.vadd; rw [List.length_zipWith, ha.len, hb.len]; omega, fun n => by
    rw [co_vadd (by rw [ha.len, hb.len])]; exact ⟨Int.emod_nonneg _ (by omega), Int.emod_lt_of_pos _ (by omega)⟩⟩
theorem cg_vadd {p k : Int} {a b : List Int} (h : a.length = b.length) (n : Nat) : p ∣ co (vadd p k a b) n - (co a n + k * co b n) := by
  rw [co_vadd h]; exact dvd_mod _ _

structure Ctx where
  p : Int
  N : Nat
  key : Nat → Nat
  ld : List Int → Nat
  hp : 1 < p
  inj : ∀ m n, key m = key n → m = n
  nz : ∀ a m, co a m ≠ 0 → co a (ld a) ≠ 0
  mx : ∀ a m, co a m ≠ 0 → key m ≤ key (ld a)
variable {C : Ctx}
theorem Ctx.ld_eq (C : Ctx) {a : List Int} {m : Nat} (h : co a m ≠ 0) (h2 : ∀ n, co a n ≠ 0 → C.key n ≤ C.key m) : C.ld a = m :=
  C.inj _ _ (Nat.le_antisymm (h2 _ (C.nz a m h)) (C.mx a m h))

structure Red (C : Ctx) (R : List (List Int)) : Prop where
  vec : ∀ r ∈ R, V C.p C.N r
  one : ∀ r ∈ R, co r (C.ld r) = 1
  off : ∀ r ∈ R, ∀ s ∈ R, r ≠ s → co s (C.ld r) = 0
  nd : R.Nodup
theorem Red.nil : Red C [] := ⟨nofun, nofun, nofun, .nil⟩
theorem Red.tail {r : List Int} {R : List (List Int)} (h : Red C (r :: R)) : Red C R :=
  ⟨fun s hs => h.vec s (by simp [hs]), fun s hs => h.one s (by simp [hs]), fun s hs t ht => h.off s (by simp [hs]) t (by simp [ht]), (List.nodup_cons.1 h.nd).2⟩
theorem Red.inj {R : List (List Int)} (h : Red C R) {r s : List Int} (hr : r ∈ R) (hs : s ∈ R) (e : C.ld r = C.ld s) : r = s := by
  by_cases hne : r = s
  · exact hne
  · have h1 := h.off r hr s hs hne
    rw [e, h.one s hs] at h1; cases h1

def S (C : Ctx) (R : List (List Int)) (f : Nat → Int) (n : Nat) : Int := (R.map fun r => f (C.ld r) * co r n).sum
theorem S_cons (r : List Int) (R : List (List Int)) (f : Nat → Int) (n : Nat) : S C (r :: R) f n = f (C.ld r) * co r n + S C R f n := by simp [S]
theorem sum_one {α : Type} {R : List α} (hn : R.Nodup) {r : α} (hr : r ∈ R) (f : α → Int) (h : ∀ s ∈ R, s ≠ r → f s = 0) : (R.map f).sum = f r := by
  have z : ∀ R : List α, (∀ s ∈ R, f s = 0) → (R.map f).sum = 0 := by
    intro R
    induction R with
    | nil => intro _; rfl
    | cons x R ih => intro hz; simp only [List.map_cons, List.sum_cons]; rw [hz x (by simp), ih fun s hs => hz s (by simp [hs])]; rfl
  induction R with
  | nil => cases hr
  | cons x R ih =>
    simp only [List.map_cons, List.sum_cons]
    rcases List.mem_cons.1 hr with rfl | hr'
    · rw [z R fun s hs => h s (by simp [hs]) (fun e => (List.nodup_cons.1 hn).1 (e ▸ hs))]; omega
    · rw [ih (List.nodup_cons.1 hn).2 hr' fun s hs => h s (by simp [hs]), h x (by simp) (fun e => (List.nodup_cons.1 hn).1 (e ▸ hr'))]; omega
theorem Red.S_ld {R : List (List Int)} (h : Red C R) {r : List Int} (hr : r ∈ R) (f : Nat → Int) : S C R f (C.ld r) = f (C.ld r) := by
  unfold S
  rw [sum_one h.nd hr (fun s => f (C.ld s) * co s (C.ld r)) fun s hs hne => by rw [h.off r hr s hs (fun e => hne e.symm)]; simp, h.one r hr]; simp
theorem S_congr {R : List (List Int)} {f g : Nat → Int} (h : ∀ n, C.p ∣ f n - g n) (n : Nat) : C.p ∣ S C R f n - S C R g n := by
  induction R with
  | nil => simp [S]
  | cons r R ih => rw [S_cons, S_cons]; obtain ⟨a, ha⟩ := ih; obtain ⟨b, hb⟩ := h (C.ld r); exact ⟨a + b * co r n, by grind⟩
theorem S_comb {R : List (List Int)} {f g u : Nat → Int} {k : Int} (h : ∀ n, C.p ∣ u n - (f n + k * g n)) (n : Nat) : C.p ∣ S C R u n - (S C R f n + k * S C R g n) := by
  induction R with
  | nil => simp [S]
  | cons r R ih => rw [S_cons, S_cons, S_cons]; obtain ⟨a, ha⟩ := ih; obtain ⟨b, hb⟩ := h (C.ld r); exact ⟨a + b * co r n, by grind⟩
def In (C : Ctx) (R : List (List Int)) (f : Nat → Int) : Prop := ∀ n, C.p ∣ f n - S C R f n
theorem In.comb {R : List (List Int)} {f g u : Nat → Int} (hf : In C R f) (hg : In C R g) (k : Int) (h : ∀ n, C.p ∣ u n - (f n + k * g n)) : In C R u := by
  intro n
  obtain ⟨a, ha⟩ := hf n; obtain ⟨b, hb⟩ := hg n; obtain ⟨c, hc⟩ := h n; obtain ⟨d, hd⟩ := S_comb (C := C) (R := R) h n
  exact ⟨c - d + a + k * b, by grind⟩
theorem In.zero {R : List (List Int)} {f : Nat → Int} (h : ∀ n, C.p ∣ f n) : In C R f := by
  intro n
  have := S_congr (C := C) (R := R) (f := f) (g := fun _ => 0) (fun n => by simpa using h n) n
  have e : ∀ R, S C R (fun _ => 0) n = 0 := by
    intro R
    induction R with
    | nil => rfl
    | cons r R ih => rw [S_cons, ih]; simp
  rw [e R] at this
  obtain ⟨a, ha⟩ := h n; obtain ⟨b, hb⟩ := this
  exact ⟨a - b, by grind⟩
theorem In.congr {R : List (List Int)} {f g : Nat → Int} (hf : In C R f) (h : ∀ n, C.p ∣ g n - f n) : In C R g :=
  hf.comb (In.zero (f := fun _ => 0) fun _ => ⟨0, by simp⟩) 0 fun n => by simpa using h n
theorem Red.row {R : List (List Int)} (h : Red C R) {r : List Int} (hr : r ∈ R) : In C R (co r) := by
  intro n
  unfold S
  rw [sum_one h.nd hr (fun s => co r (C.ld s) * co s n) fun s hs hne => by rw [h.off s hs r hr hne]; simp, h.one r hr]
  exact ⟨0, by simp⟩
theorem In.sum {R : List (List Int)} {T : List (List Int)} (hT : ∀ r ∈ T, In C R (co r)) (f : Nat → Int) : In C R (S C T f) := by
  induction T with
  | nil => exact In.zero fun n => by simp [S]
  | cons r T ih =>
    have h1 := ih fun s hs => hT s (by simp [hs])
    exact h1.comb (hT r (by simp)) (f (C.ld r)) fun n => by rw [S_cons]; exact ⟨0, by grind⟩
theorem In.trans {R T : List (List Int)} {f : Nat → Int} (h : In C T f) (hT : ∀ r ∈ T, In C R (co r)) : In C R f := (In.sum hT f).congr h
theorem In.off {R : List (List Int)} {f : Nat → Int} (h : In C R f) (h0 : ∀ r ∈ R, C.p ∣ f (C.ld r)) (n : Nat) : C.p ∣ f n := by
  have e : C.p ∣ S C R f n := by
    unfold S
    clear h
    induction R with
    | nil => exact ⟨0, by simp⟩
    | cons r R ih =>
      obtain ⟨a, ha⟩ := ih fun s hs => h0 s (by simp [hs])
      obtain ⟨b, hb⟩ := h0 r (by simp)
      simp only [List.map_cons, List.sum_cons]
      exact ⟨a + b * co r n, by grind⟩
  obtain ⟨a, ha⟩ := h n; obtain ⟨b, hb⟩ := e
  exact ⟨a + b, by grind⟩
theorem In.lead {R : List (List Int)} (hR : Red C R) {a : List Int} (ha : V C.p C.N a) (h : In C R (co a)) {m : Nat} (hm : co a m ≠ 0) : ∃ r ∈ R, C.ld r = C.ld a := by
  have hn := C.nz a m hm
  -- some row has a part there
  have key : ∃ r ∈ R, co a (C.ld r) ≠ 0 ∧ co r (C.ld a) ≠ 0 := by
    refine Classical.byContradiction fun hno => ?_
    have z : S C R (co a) (C.ld a) = 0 := by
      unfold S
      have : ∀ T : List (List Int), (∀ r ∈ T, r ∈ R) → (T.map fun r => co a (C.ld r) * co r (C.ld a)).sum = 0 := by
        intro T
        induction T with
        | nil => intro _; rfl
        | cons r T ih =>
          intro hT
          simp only [List.map_cons, List.sum_cons]
          rw [ih fun s hs => hT s (by simp [hs])]
          have : co a (C.ld r) = 0 ∨ co r (C.ld a) = 0 := by
            by_cases h1 : co a (C.ld r) = 0
            · exact .inl h1
            · exact .inr (Classical.byContradiction fun h2 => hno ⟨r, hT r (by simp), h1, h2⟩)
          rcases this with e | e <;> rw [e] <;> simp
      exact this R fun _ h => h
    have := h (C.ld a)
    rw [z] at this
    have hb := ha.bd (C.ld a)
    have := small_dvd (y := 0) this hb (by omega)
    exact hn this
  obtain ⟨r, hr, h1, h2⟩ := key
  exact ⟨r, hr, C.inj _ _ (Nat.le_antisymm (C.mx a _ h1) (C.mx r _ h2))⟩
theorem Red.nzr {R : List (List Int)} (h : Red C R) {r : List Int} (hr : r ∈ R) : co r (C.ld r) ≠ 0 := by rw [h.one r hr]; decide
theorem Red.uniq {R R' : List (List Int)} (h : Red C R) (h' : Red C R') (h1 : ∀ r ∈ R, In C R' (co r)) (h2 : ∀ r ∈ R', In C R (co r)) : ∀ r ∈ R, r ∈ R' := by
  intro r hr
  obtain ⟨r', hr', e⟩ := In.lead h' (h.vec r hr) (h1 r hr) (h.nzr hr)
  have hv := h.vec r hr; have hv' := h'.vec r' hr'
  have hd : In C R (fun n => co r n - co r' n) := (h.row hr).comb (h2 r' hr') (-1) fun n => ⟨0, by grind⟩
  have z := hd.off fun s hs => by
    by_cases hs1 : s = r
    · subst hs1
      rw [h.one s hs, ← e, h'.one r' hr']; exact ⟨0, by simp⟩
    · obtain ⟨s', hs', e'⟩ := In.lead h' (h.vec s hs) (h1 s hs) (h.nzr hs)
      have : s' ≠ r' := fun e2 => hs1 (h.inj hs hr (by rw [← e', e2, e]))
      rw [h.off s hs r hr hs1, ← e', h'.off s' hs' r' hr' this]; exact ⟨0, by simp⟩
  rw [hv.ext hv' z]; exact hr'
def red1 (C : Ctx) (a r : List Int) : List Int := bif co a (C.ld r) == 0 then a else vadd C.p (C.p - co a (C.ld r)) a r
def redL (C : Ctx) (R : List (List Int)) (a : List Int) : List Int := R.foldl (red1 C) a
theorem red1_V {a r : List Int} (ha : V C.p C.N a) (hr : V C.p C.N r) : V C.p C.N (red1 C a r) := by
  unfold red1
  cases co a (C.ld r) == 0 with
  | true => exact ha
  | false => exact ha.vadd C.hp hr
theorem red1_co {a r : List Int} (ha : V C.p C.N a) (hr : V C.p C.N r) (n : Nat) : C.p ∣ co (red1 C a r) n - (co a n - co a (C.ld r) * co r n) := by
  unfold red1
  cases h : co a (C.ld r) == 0 with
  | true => rw [beq_iff_eq] at h; rw [h]; exact ⟨0, by simp⟩
  | false =>
    obtain ⟨c, hc⟩ := cg_vadd (p := C.p) (k := C.p - co a (C.ld r)) (a := a) (b := r) (by rw [ha.len, hr.len]) n
    exact ⟨c + co r n, by simp only [cond_false]; grind⟩
theorem redL_spec {R : List (List Int)} (h : Red C R) : ∀ {a : List Int}, V C.p C.N a → V C.p C.N (redL C R a) ∧ ∀ n, C.p ∣ co (redL C R a) n - (co a n - S C R (co a) n) := by
  induction R with
  | nil => intro a ha; exact ⟨ha, fun n => ⟨0, by simp [redL, S]⟩⟩
  | cons r R ih =>
    intro a ha
    have hr := h.vec r (by simp)
    have hv := red1_V ha hr
    obtain ⟨g1, g2⟩ := ih h.tail hv
    refine ⟨g1, fun n => ?_⟩
    have e : S C R (co (red1 C a r)) n = S C R (co a) n := by
      unfold S
      congr 1
      refine List.map_congr_left fun s hs => ?_
      have hne : s ≠ r := fun e => (List.nodup_cons.1 h.nd).1 (e ▸ hs)
      have z := h.off s (by simp [hs]) r (by simp) hne
      have := red1_co ha hr (C.ld s)
      rw [z] at this
      rw [small_dvd (by simpa using this) (hv.bd _) (ha.bd _)]
    obtain ⟨a1, h1⟩ := g2 n; obtain ⟨a2, h2⟩ := red1_co ha hr n
    rw [S_cons]
    rw [e] at h1
    refine ⟨a1 + a2, ?_⟩
    show co (redL C R (red1 C a r)) n - _ = _
    grind
theorem redL_ld {R : List (List Int)} (h : Red C R) {a : List Int} (ha : V C.p C.N a) {r : List Int} (hr : r ∈ R) : co (redL C R a) (C.ld r) = 0 := by
  obtain ⟨g1, g2⟩ := redL_spec h ha
  have := g2 (C.ld r)
  rw [h.S_ld hr, Int.sub_self] at this
  exact small_dvd this (g1.bd _) (by have := C.hp; omega)
theorem redL_in {R : List (List Int)} (h : Red C R) {a : List Int} (ha : V C.p C.N a) : In C R (fun n => co a n - co (redL C R a) n) := by
  obtain ⟨g1, g2⟩ := redL_spec h ha
  refine (In.sum (fun r hr => h.row hr) (co a)).congr fun n => ?_
  obtain ⟨x, hx⟩ := g2 n
  exact ⟨-x, by grind⟩
theorem redL_zero {R : List (List Int)} (h : Red C R) {a : List Int} (ha : V C.p C.N a) : (∀ n, co (redL C R a) n = 0) ↔ In C R (co a) := by
  obtain ⟨g1, g2⟩ := redL_spec h ha
  constructor
  · intro hz n
    obtain ⟨x, hx⟩ := g2 n
    exact ⟨-x, by rw [hz n] at hx; grind⟩
  · intro hi n
    obtain ⟨x, hx⟩ := g2 n; obtain ⟨y, hy⟩ := hi n
    exact small_dvd ⟨x + y, by grind⟩ (g1.bd n) (by have := C.hp; omega)

/-! one more row -/
def zero (C : Ctx) : List Int := List.replicate C.N 0
theorem co_zero (n : Nat) : co (zero C) n = 0 := by
  unfold co zero; rw [List.getD_eq_getElem?_getD, List.getElem?_replicate]; split <;> rfl
theorem zero_V : V C.p C.N (zero C) := ⟨by simp [zero], fun n => by rw [co_zero]; have := C.hp; omega⟩
def row1 (C : Ctx) (new : List Int) (r : List Int) : List Int := bif co r (C.ld new) == 0 then r else vadd C.p (C.p - co r (C.ld new)) r new
def addR (C : Ctx) (R : List (List Int)) (new : List Int) : List (List Int) := R.map (row1 C new) ++ [new]
structure New (C : Ctx) (R : List (List Int)) (new : List Int) : Prop where
  vec : V C.p C.N new
  one : co new (C.ld new) = 1
  off : ∀ r ∈ R, co new (C.ld r) = 0
theorem row1_co {new r : List Int} (hn : V C.p C.N new) (hr : V C.p C.N r) (n : Nat) : C.p ∣ co (row1 C new r) n - (co r n - co r (C.ld new) * co new n) := red1_co (C := C) (a := r) (r := new) hr hn n
theorem row1_V {new r : List Int} (hn : V C.p C.N new) (hr : V C.p C.N r) : V C.p C.N (row1 C new r) := red1_V (C := C) (a := r) (r := new) hr hn
theorem row1_at {new r : List Int} (hn : V C.p C.N new) (hr : V C.p C.N r) {n : Nat} (h : co new n = 0) : co (row1 C new r) n = co r n := by
  have := row1_co hn hr n
  rw [h] at this
  exact small_dvd (by simpa using this) ((row1_V hn hr).bd n) (hr.bd n)
theorem row1_lead {R : List (List Int)} (h : Red C R) {new : List Int} (hn : New C R new) {r : List Int} (hr : r ∈ R) : co (row1 C new r) (C.ld new) = 0 := by
  have hv := h.vec r hr
  have := row1_co hn.vec hv (C.ld new)
  rw [hn.one] at this
  exact small_dvd (by simpa using this) ((row1_V hn.vec hv).bd _) (by have := C.hp; omega)
theorem row1_ld {R : List (List Int)} (h : Red C R) {new : List Int} (hn : New C R new) {r : List Int} (hr : r ∈ R) : C.ld (row1 C new r) = C.ld r := by
  have hv := h.vec r hr
  have e := row1_at hn.vec hv (hn.off r hr)
  refine C.ld_eq (by rw [e, h.one r hr]; decide) fun n hne => ?_
  by_cases h1 : co r n = 0
  · have hl : co r (C.ld new) ≠ 0 := fun hz => by
      have := row1_co hn.vec hv n
      rw [hz, h1] at this
      exact hne (small_dvd (by simpa using this) ((row1_V hn.vec hv).bd n) (by have := C.hp; omega))
    have h2 : co new n ≠ 0 := fun hz => hne (by rw [row1_at hn.vec hv hz, h1])
    exact Nat.le_trans (C.mx new n h2) (C.mx r _ hl)
  · exact C.mx r n h1
theorem addR_red {R : List (List Int)} (h : Red C R) {new : List Int} (hn : New C R new) : Red C (addR C R new) := by
  have hm : ∀ s ∈ addR C R new, (∃ r ∈ R, row1 C new r = s) ∨ s = new := by
    intro s hs
    unfold addR at hs
    rcases List.mem_append.1 hs with hs | hs
    · exact .inl (List.mem_map.1 hs)
    · exact .inr (by simpa using hs)
  refine ⟨?_, ?_, ?_, ?_⟩
  · intro s hs
    rcases hm s hs with ⟨r, hr, rfl⟩ | rfl
    · exact row1_V hn.vec (h.vec r hr)
    · exact hn.vec
  · intro s hs
    rcases hm s hs with ⟨r, hr, rfl⟩ | rfl
    · rw [row1_ld h hn hr, row1_at hn.vec (h.vec r hr) (hn.off r hr), h.one r hr]
    · exact hn.one
  · intro s hs t ht hne
    rcases hm s hs with ⟨r, hr, rfl⟩ | rfl
    · rw [row1_ld h hn hr]
      rcases hm t ht with ⟨q, hq, rfl⟩ | rfl
      · rw [row1_at hn.vec (h.vec q hq) (hn.off r hr)]
        exact h.off r hr q hq fun e => hne (by rw [e])
      · exact hn.off r hr
    · rcases hm t ht with ⟨q, hq, rfl⟩ | rfl
      · exact row1_lead h hn hq
      · exact absurd rfl hne
  · unfold addR
    rw [List.nodup_append]
    refine ⟨?_, by simp, ?_⟩
    · refine (List.pairwise_map.2 ?_)
      refine List.Pairwise.imp_of_mem (R := fun a b => a ≠ b) ?_ h.nd
      intro a b ha hb hne e
      exact hne (h.inj ha hb (by rw [← row1_ld h hn ha, ← row1_ld h hn hb, e]))
    · intro a ha b hb e
      obtain ⟨r, hr, rfl⟩ := List.mem_map.1 ha
      have hb' : b = new := by simpa using hb
      have := row1_lead h hn hr
      rw [e, hb', hn.one] at this
      cases this
theorem addR_old {R : List (List Int)} (h : Red C R) {new : List Int} (hn : New C R new) {r : List Int} (hr : r ∈ R) : In C (addR C R new) (co r) := by
  have hR := addR_red h hn
  have h1 := hR.row (r := row1 C new r) (by unfold addR; simp; exact .inl ⟨r, hr, rfl⟩)
  have h2 := hR.row (r := new) (by unfold addR; simp)
  refine h1.comb h2 (co r (C.ld new)) fun n => ?_
  obtain ⟨x, hx⟩ := row1_co hn.vec (h.vec r hr) n
  exact ⟨-x, by grind⟩
theorem addR_le {R T : List (List Int)} (h : Red C R) {new : List Int} (hn : New C R new) (hT : ∀ r ∈ R, In C T (co r)) (h2 : In C T (co new)) : ∀ s ∈ addR C R new, In C T (co s) := by
  intro s hs
  unfold addR at hs
  rcases List.mem_append.1 hs with hs | hs
  · obtain ⟨r, hr, rfl⟩ := List.mem_map.1 hs
    refine (hT r hr).comb h2 (-co r (C.ld new)) fun n => ?_
    obtain ⟨x, hx⟩ := row1_co hn.vec (h.vec r hr) n
    exact ⟨x, by grind⟩
  · have : s = new := by simpa using hs
    rw [this]; exact h2

/-! adding -/
def monic (C : Ctx) (k : Int) (rest : List Int) : List Int := vadd C.p k (zero C) rest
theorem monic_co {k : Int} {rest : List Int} (hr : V C.p C.N rest) (n : Nat) : C.p ∣ co (monic C k rest) n - k * co rest n := by
  obtain ⟨x, hx⟩ := cg_vadd (p := C.p) (k := k) (a := zero C) (b := rest) (by rw [zero_V.len, hr.len]) n
  rw [co_zero] at hx
  exact ⟨x, by unfold monic; grind⟩
theorem monic_new {R : List (List Int)} (h : Red C R) {a : List Int} (ha : V C.p C.N a) {m : Nat} (hm : co (redL C R a) m ≠ 0) {k : Int} (hk : C.p ∣ k * co (redL C R a) (C.ld (redL C R a)) - 1) :
    New C R (monic C k (redL C R a)) ∧ C.ld (monic C k (redL C R a)) = C.ld (redL C R a) := by
  obtain ⟨g1, g2⟩ := redL_spec h ha
  generalize hre : redL C R a = rest at *
  have hv : V C.p C.N (monic C k rest) := zero_V.vadd C.hp g1
  have hl : co (monic C k rest) (C.ld rest) = 1 := by
    obtain ⟨x, hx⟩ := monic_co (k := k) g1 (C.ld rest); obtain ⟨y, hy⟩ := hk
    exact small_dvd ⟨x + y, by grind⟩ (hv.bd _) (by have := C.hp; omega)
  have e : C.ld (monic C k rest) = C.ld rest := by
    refine C.ld_eq (by rw [hl]; decide) fun n hne => ?_
    refine C.mx rest n fun hz => hne ?_
    obtain ⟨x, hx⟩ := monic_co (k := k) g1 n
    rw [hz] at hx
    exact small_dvd ⟨x, by grind⟩ (hv.bd n) (by have := C.hp; omega)
  refine ⟨⟨hv, by rw [e, hl], fun r hr => ?_⟩, e⟩
  have hz : co rest (C.ld r) = 0 := by rw [← hre]; exact redL_ld h ha hr
  obtain ⟨x, hx⟩ := monic_co (k := k) g1 (C.ld r)
  rw [hz] at hx
  exact small_dvd ⟨x, by grind⟩ (hv.bd _) (by have := C.hp; omega)
def Inv (C : Ctx) (iv : Int → Int) : Prop := ∀ c, 0 < c → c < C.p → C.p ∣ iv c * c - 1
def isz (a : List Int) : Bool := a.all (· == 0)
theorem isz_iff {a : List Int} : isz a = true ↔ ∀ n, co a n = 0 := by
  unfold isz
  rw [List.all_eq_true]
  constructor
  · intro h n
    by_cases hn : n < a.length
    · have := h (co a n) (List.mem_of_getElem? (co_eq hn)); simpa using this
    · exact co_ge (by omega)
  · intro h x hx
    obtain ⟨n, hn⟩ := List.getElem?_of_mem hx
    have := co_eq (List.getElem?_eq_some_iff.1 hn).1
    rw [hn, h n] at this
    cases this; rfl
def add1 (C : Ctx) (iv : Int → Int) (R : List (List Int)) (a : List Int) : List (List Int) :=
  bif isz (redL C R a) then R else addR C R (monic C (iv (co (redL C R a) (C.ld (redL C R a)))) (redL C R a))
structure Ext (C : Ctx) (R : List (List Int)) (as : List (List Int)) (T : List (List Int)) : Prop where
  red : Red C T
  old : ∀ r ∈ R, In C T (co r)
  new : ∀ a ∈ as, In C T (co a)
  le : ∀ U, Red C U → (∀ r ∈ R, In C U (co r)) → (∀ a ∈ as, In C U (co a)) → ∀ r ∈ T, In C U (co r)
theorem add1_ext {iv : Int → Int} (hi : Inv C iv) {R : List (List Int)} (h : Red C R) {a : List Int} (ha : V C.p C.N a) : Ext C R [a] (add1 C iv R a) := by
  unfold add1
  cases hz : isz (redL C R a) with
  | true =>
    have hin := (redL_zero h ha).1 (isz_iff.1 hz)
    exact ⟨h, fun r hr => h.row hr, by simpa using hin, fun U _ h1 _ => h1⟩
  | false =>
    obtain ⟨m, hm⟩ : ∃ m, co (redL C R a) m ≠ 0 := Classical.byContradiction fun hno => by
      have : isz (redL C R a) = true := isz_iff.2 fun n => Classical.byContradiction fun hne => hno ⟨n, hne⟩
      rw [hz] at this; cases this
    obtain ⟨g1, g2⟩ := redL_spec h ha
    have hb := g1.bd (C.ld (redL C R a)); have hn := C.nz _ m hm
    have hk := hi (co (redL C R a) (C.ld (redL C R a))) (by omega) hb.2
    obtain ⟨hN, he⟩ := monic_new h ha hm hk
    have hin := redL_in h ha
    simp only [cond_false]
    generalize hkk : iv (co (redL C R a) (C.ld (redL C R a))) = k at *
    have hR := addR_red h hN
    refine ⟨hR, fun r hr => addR_old h hN hr, ?_, ?_⟩
    · intro x hx
      obtain rfl : x = a := by simpa using hx
      have h1 : In C (addR C R (monic C k (redL C R x))) (fun n => co x n - co (redL C R x) n) := hin.trans fun r hr => addR_old h hN hr
      refine h1.comb (hR.row (r := monic C k (redL C R x)) (by unfold addR; simp)) (co (redL C R x) (C.ld (redL C R x))) fun n => ?_
      obtain ⟨y, hy⟩ := monic_co (k := k) g1 n; obtain ⟨z, hz⟩ := hk
      exact ⟨-(co (redL C R x) (C.ld (redL C R x)) * y) - z * co (redL C R x) n, by grind⟩
    · intro U hU h1 h2
      refine addR_le h hN h1 ?_
      have h3 : In C U (fun n => co a n - co (redL C R a) n) := hin.trans h1
      have h4 : In C U (co (redL C R a)) := (h2 a (by simp)).comb h3 (-1) fun n => ⟨0, by grind⟩
      refine (In.zero (f := fun _ => 0) fun _ => ⟨0, by simp⟩).comb h4 k fun n => ?_
      obtain ⟨y, hy⟩ := monic_co (k := k) g1 n
      exact ⟨y, by grind⟩
theorem add1_len {iv : Int → Int} {R : List (List Int)} {a : List Int} : (add1 C iv R a).length = R.length + (bif isz (redL C R a) then 0 else 1) := by
  unfold add1 addR
  cases isz (redL C R a) <;> simp
def addAll (C : Ctx) (iv : Int → Int) (R : List (List Int)) (as : List (List Int)) : List (List Int) := as.foldl (add1 C iv) R
end Go.La
namespace Go.La
variable {C : Ctx}
theorem nodup_lt : ∀ {N : Nat} {l : List Nat}, l.Nodup → (∀ x ∈ l, x < N) → l.length ≤ N := by
  intro N
  induction N with
  | zero =>
    intro l _ h
    cases l with
    | nil => simp
    | cons x l => have := h x (by simp); omega
  | succ N ih =>
    intro l hn h
    by_cases hm : N ∈ l
    · have h1 := ih (hn.erase N) fun x hx => by
        have := (hn.mem_erase_iff).1 hx
        have := h x this.2
        omega
      rw [List.length_erase_of_mem hm] at h1
      omega
    · have := ih hn fun x hx => by
        have h1 := h x hx
        have : x ≠ N := fun e => hm (e ▸ hx)
        omega
      omega
theorem Red.ld_lt {R : List (List Int)} (h : Red C R) {r : List Int} (hr : r ∈ R) : C.ld r < C.N := by
  have h1 := h.nzr hr
  rw [← (h.vec r hr).len]
  exact Classical.byContradiction fun hno => h1 (co_ge (by omega))
theorem Red.len {R : List (List Int)} (h : Red C R) : R.length ≤ C.N := by
  have hn : (R.map C.ld).Nodup := by
    refine List.pairwise_map.2 ?_
    exact List.Pairwise.imp_of_mem (R := fun a b => a ≠ b) (fun ha hb hne e => hne (h.inj ha hb e)) h.nd
  have := nodup_lt hn fun x hx => by
    obtain ⟨r, hr, rfl⟩ := List.mem_map.1 hx
    exact h.ld_lt hr
  simpa using this

/-! in order -/
def lk (C : Ctx) (r : List Int) : Nat := C.key (C.ld r)
def Srt (C : Ctx) (R : List (List Int)) : Prop := R.Pairwise fun r s => lk C r < lk C s
def ins (C : Ctx) (new : List Int) : List (List Int) → List (List Int)
  | [] => [new]
  | r :: R => bif decide (lk C new < lk C r) then new :: r :: R else r :: ins C new R
def putS (C : Ctx) (iv : Int → Int) (R : List (List Int)) (a : List Int) : List (List Int) :=
  bif isz (redL C R a) then R else
    ins C (monic C (iv (co (redL C R a) (C.ld (redL C R a)))) (redL C R a)) (R.map (row1 C (monic C (iv (co (redL C R a) (C.ld (redL C R a)))) (redL C R a))))
structure Fresh (C : Ctx) (iv : Int → Int) (R : List (List Int)) (rest : List Int) : Prop where
  vec : V C.p C.N rest
  nz : co rest (C.ld rest) ≠ 0
  bd : 0 < co rest (C.ld rest) ∧ co rest (C.ld rest) < C.p
  new : New C R (monic C (iv (co rest (C.ld rest))) rest)
  ld : C.ld (monic C (iv (co rest (C.ld rest))) rest) = C.ld rest
theorem fresh {iv : Int → Int} (hi : Inv C iv) {R : List (List Int)} (h : Red C R) {a : List Int} (ha : V C.p C.N a) (hz : isz (redL C R a) = false) : Fresh C iv R (redL C R a) := by
  obtain ⟨m, hm⟩ : ∃ m, co (redL C R a) m ≠ 0 := Classical.byContradiction fun hno => by
    have : isz (redL C R a) = true := isz_iff.2 fun n => Classical.byContradiction fun hne => hno ⟨n, hne⟩
    rw [hz] at this; cases this
  obtain ⟨g1, g2⟩ := redL_spec h ha
  have hb := g1.bd (C.ld (redL C R a)); have hn := C.nz _ m hm
  have hk := hi (co (redL C R a) (C.ld (redL C R a))) (by omega) hb.2
  obtain ⟨hN, he⟩ := monic_new h ha hm hk
  exact ⟨g1, hn, by omega, hN, he⟩
def putAll (C : Ctx) (iv : Int → Int) (R : List (List Int)) (as : List (List Int)) : List (List Int) := as.foldl (putS C iv) R
def fixG {X : Type} (f : List X → List X) : Nat → List X → List X
  | 0, R => R
  | n + 1, R => bif decide (R.length < (f R).length) then fixG f n (f R) else f R
end Go.La
namespace Go.La
def comb (K : List (List Int)) (f : Nat → Int) (n : Nat) : Int := match K with
  | [] => 0
  | a :: K => f 0 * co a n + comb K (fun k => f (k + 1)) n
theorem comb_lin {p c : Int} : ∀ {K : List (List Int)} {f g u : Nat → Int} (h : ∀ k, k < K.length → p ∣ u k - (f k + c * g k)) (n : Nat), p ∣ comb K u n - (comb K f n + c * comb K g n) := by
  intro K
  induction K with
  | nil => intro f g u _ n; exact ⟨0, by simp [comb]⟩
  | cons a K ih =>
    intro f g u h n
    obtain ⟨x, hx⟩ := ih (f := fun k => f (k + 1)) (g := fun k => g (k + 1)) (u := fun k => u (k + 1)) (fun k hk => h (k + 1) (by simp; omega)) n
    obtain ⟨y, hy⟩ := h 0 (by simp)
    refine ⟨x + y * co a n, ?_⟩
    simp only [comb]
    grind
theorem comb_congr {p : Int} {K : List (List Int)} {f g : Nat → Int} (h : ∀ k, k < K.length → p ∣ f k - g k) (n : Nat) : p ∣ comb K f n - comb K g n := by
  have := comb_lin (p := p) (c := 0) (K := K) (f := g) (g := g) (u := f) (fun k hk => by simpa using h k hk) n
  simpa using this
theorem comb_snoc {a : List Int} {n : Nat} : ∀ {K : List (List Int)} {f : Nat → Int}, comb (K ++ [a]) f n = comb K f n + f K.length * co a n := by
  intro K
  induction K with
  | nil => intro f; simp [comb]
  | cons b K ih => intro f; simp only [List.cons_append, comb, ih, List.length_cons]; omega
theorem comb_zero {K : List (List Int)} {n : Nat} : ∀ {f : Nat → Int}, (∀ k, k < K.length → f k = 0) → comb K f n = 0 := by
  induction K with
  | nil => intro f _; rfl
  | cons a K ih => intro f h; simp only [comb]; rw [h 0 (by simp), ih fun k hk => h (k + 1) (by simp; omega)]; simp
theorem comb_off {K : List (List Int)} {n : Nat} (h : ∀ a ∈ K, co a n = 0) : ∀ {f : Nat → Int}, comb K f n = 0 := by
  induction K with
  | nil => intro f; rfl
  | cons a K ih => intro f; simp only [comb]; rw [h a (by simp), ih fun b hb => h b (by simp [hb])]; simp
def Sp (p : Int) (K : List (List Int)) (f : Nat → Int) : Prop := ∃ c : Nat → Int, ∀ n, p ∣ f n - comb K c n
theorem Sp.zero {p : Int} {K : List (List Int)} {f : Nat → Int} (h : ∀ n, p ∣ f n) : Sp p K f := ⟨fun _ => 0, fun n => by rw [comb_zero fun _ _ => rfl]; simpa using h n⟩
theorem Sp.lin {p : Int} {K : List (List Int)} {f g u : Nat → Int} (hf : Sp p K f) (hg : Sp p K g) (k : Int) (h : ∀ n, p ∣ u n - (f n + k * g n)) : Sp p K u := by
  obtain ⟨c, hc⟩ := hf; obtain ⟨d, hd⟩ := hg
  refine ⟨fun j => c j + k * d j, fun n => ?_⟩
  obtain ⟨x, hx⟩ := hc n; obtain ⟨y, hy⟩ := hd n; obtain ⟨z, hz⟩ := h n
  obtain ⟨w, hw⟩ := comb_lin (p := p) (c := k) (K := K) (f := c) (g := d) (u := fun j => c j + k * d j) (fun j _ => ⟨0, by simp⟩) n
  exact ⟨z + x + k * y - w, by grind⟩
theorem Sp.congr {p : Int} {K : List (List Int)} {f g : Nat → Int} (hf : Sp p K f) (h : ∀ n, p ∣ g n - f n) : Sp p K g := hf.lin (Sp.zero (f := fun _ => 0) fun _ => ⟨0, by simp⟩) 0 fun n => by simpa using h n
theorem Sp.mem {p : Int} : ∀ {K : List (List Int)} {a : List Int}, a ∈ K → Sp p K (co a) := by
  intro K
  induction K with
  | nil => intro a h; cases h
  | cons b K ih =>
    intro a h
    rcases List.mem_cons.1 h with rfl | h
    · refine ⟨fun k => if k = 0 then 1 else 0, fun n => ?_⟩
      simp only [comb]
      rw [comb_zero fun k _ => by simp]
      exact ⟨0, by simp⟩
    · obtain ⟨c, hc⟩ := ih h
      refine ⟨fun k => if k = 0 then 0 else c (k - 1), fun n => ?_⟩
      obtain ⟨x, hx⟩ := hc n
      simp only [comb]
      exact ⟨x, by simpa using hx⟩
theorem Sp.snoc {p : Int} {K : List (List Int)} {a : List Int} {f : Nat → Int} (h : Sp p K f) : Sp p (K ++ [a]) f := by
  obtain ⟨c, hc⟩ := h
  refine ⟨fun k => if k < K.length then c k else 0, fun n => ?_⟩
  obtain ⟨x, hx⟩ := hc n
  obtain ⟨y, hy⟩ := comb_congr (p := p) (K := K) (f := fun k => if k < K.length then c k else 0) (g := c) (fun k hk => ⟨0, by simp [hk]⟩) n
  rw [comb_snoc]
  exact ⟨x - y, by simp; grind⟩
theorem Sp.of_comb {p : Int} {K L : List (List Int)} (h : ∀ a ∈ K, Sp p L (co a)) : ∀ {c : Nat → Int}, Sp p L (comb K c) := by
  induction K with
  | nil => intro c; exact Sp.zero fun n => ⟨0, by simp [comb]⟩
  | cons a K ih =>
    intro c
    exact (ih (fun b hb => h b (by simp [hb])) (c := fun k => c (k + 1))).lin (h a (by simp)) (c 0) fun n => ⟨0, by simp only [comb]; grind⟩
theorem Sp.trans {p : Int} {K L : List (List Int)} {f : Nat → Int} (h : Sp p K f) (hK : ∀ a ∈ K, Sp p L (co a)) : Sp p L f := by
  obtain ⟨c, hc⟩ := h
  exact (Sp.of_comb hK (c := c)).congr hc
def Ind (p : Int) (K : List (List Int)) : Prop := ∀ L a M, K = L ++ a :: M → ¬ Sp p L (co a)
theorem Ind.nil {p : Int} : Ind p [] := fun L a M h => by simp at h
theorem Ind.snoc {p : Int} {K : List (List Int)} {a : List Int} (h : Ind p K) (ha : ¬ Sp p K (co a)) : Ind p (K ++ [a]) := by
  intro L b M e
  rcases List.eq_nil_or_concat M with rfl | ⟨M', c, rfl⟩
  · have := List.append_inj' e (by simp)
    obtain ⟨rfl, h2⟩ := this
    have : a = b := by simpa using h2
    subst this
    exact ha
  · have e' : K ++ [a] = (L ++ b :: M') ++ [c] := by rw [e]; simp
    have := List.append_inj' e' (by simp)
    exact h L b M' this.1
theorem Ind.uniq {p : Int} (hinv : ∀ x : Int, ¬ p ∣ x → ∃ e, p ∣ e * x - 1) : ∀ (m : Nat) {K : List (List Int)} {f g : Nat → Int}, K.length = m → Ind p K → (∀ n, p ∣ comb K f n - comb K g n) → ∀ k, k < m → p ∣ f k - g k := by
  intro m
  induction m with
  | zero => intro K f g _ _ _ k hk; omega
  | succ m ih =>
    intro K f g hl hI h k hk
    rcases List.eq_nil_or_concat K with rfl | ⟨L, a, rfl⟩
    · simp at hl
    · have hlL : L.length = m := by simpa using hl
      have hd : p ∣ f m - g m := Classical.byContradiction fun hno => by
        obtain ⟨e, he⟩ := hinv _ hno
        refine hI L a [] (by simp) ?_
        refine ⟨fun k => e * (g k - f k), fun n => ?_⟩
        obtain ⟨x, hx⟩ := h n
        obtain ⟨y, hy⟩ := he
        obtain ⟨z, hz⟩ := comb_lin (p := p) (c := -1) (K := L) (f := g) (g := f) (u := fun k => g k - f k) (fun k _ => ⟨0, by grind⟩) n
        obtain ⟨w, hw⟩ := comb_lin (p := p) (c := e) (K := L) (f := fun _ => 0) (g := fun k => g k - f k) (u := fun k => e * (g k - f k)) (fun k _ => ⟨0, by grind⟩) n
        have h0 : comb L (fun _ => 0) n = 0 := comb_zero fun _ _ => rfl
        simp only [List.concat_eq_append, comb_snoc, hlL] at hx
        exact ⟨e * x - y * co a n - w - e * z, by grind⟩
      by_cases hkm : k = m
      · rw [hkm]; exact hd
      · refine ih hlL (fun L' b M e => hI L' b (M ++ [a]) (by rw [List.concat_eq_append, e]; simp)) (fun n => ?_) k (by omega)
        obtain ⟨x, hx⟩ := h n; obtain ⟨y, hy⟩ := hd
        simp only [List.concat_eq_append, comb_snoc, hlL] at hx
        exact ⟨x - y * co a n, by grind⟩
/-! rows with leading places, each row 0 where an earlier one leads -/
def Tri : List (List Int) → List Nat → Prop
  | [], [] => True
  | r :: R, l :: L => co r l = 1 ∧ (∀ s ∈ R, co s l = 0) ∧ Tri R L
  | _, _ => False
theorem Tri.len : ∀ {R : List (List Int)} {L : List Nat}, Tri R L → R.length = L.length := by
  intro R
  induction R with
  | nil => intro L h; cases L with
    | nil => rfl
    | cons l L => exact h.elim
  | cons r R ih => intro L h; cases L with
    | nil => exact h.elim
    | cons l L => simp [ih h.2.2]
theorem Tri.snoc {r : List Int} {l : Nat} (h1 : co r l = 1) : ∀ {R : List (List Int)} {L : List Nat}, Tri R L → (∀ x ∈ L, co r x = 0) → Tri (R ++ [r]) (L ++ [l]) := by
  intro R
  induction R with
  | nil => intro L h _; cases L with
    | nil => exact ⟨h1, nofun, trivial⟩
    | cons l L => exact h.elim
  | cons s R ih => intro L h h0; cases L with
    | nil => exact h.elim
    | cons x L =>
      refine ⟨h.1, fun t ht => ?_, ih h.2.2 fun y hy => h0 y (by simp [hy])⟩
      rcases List.mem_append.1 ht with ht | ht
      · exact h.2.1 t ht
      · have : t = r := by simpa using ht
        rw [this]; exact h0 x (by simp)
theorem Tri.zero {p : Int} : ∀ {R : List (List Int)} {L : List Nat} {f c : Nat → Int}, Tri R L → (∀ n, p ∣ f n - comb R c n) → (∀ l ∈ L, p ∣ f l) → ∀ n, p ∣ f n := by
  intro R
  induction R with
  | nil => intro L f c _ h _ n; simpa [comb] using h n
  | cons r R ih => intro L f c hT h h0; cases L with
    | nil => exact hT.elim
    | cons l L =>
      have hc : p ∣ c 0 := by
        obtain ⟨x, hx⟩ := h l; obtain ⟨y, hy⟩ := h0 l (by simp)
        simp only [comb] at hx
        rw [hT.1, comb_off hT.2.1] at hx
        exact ⟨y - x, by grind⟩
      refine ih hT.2.2 (c := fun k => c (k + 1)) (fun n => ?_) fun y hy => h0 y (by simp [hy])
      obtain ⟨x, hx⟩ := h n; obtain ⟨y, hy⟩ := hc
      simp only [comb] at hx
      exact ⟨x + y * co r n, by grind⟩
theorem Tri.get {R : List (List Int)} : ∀ {L : List Nat} {i : Nat} {r : List Int} {l : Nat}, Tri R L → R[i]? = some r → L[i]? = some l → co r l = 1 ∧ ∀ j s, i < j → R[j]? = some s → co s l = 0 := by
  induction R with
  | nil => intro L i r l _ h _; simp at h
  | cons q R ih => intro L i r l h hr hl; cases L with
    | nil => exact h.elim
    | cons x L =>
      cases i with
      | zero =>
        have e1 : q = r := by simpa using hr
        have e2 : x = l := by simpa using hl
        subst e1; subst e2
        refine ⟨h.1, fun j s hj hs => ?_⟩
        cases j with
        | zero => omega
        | succ j => exact h.2.1 s (List.mem_of_getElem? (by simpa using hs))
      | succ i =>
        obtain ⟨a1, a2⟩ := ih h.2.2 (by simpa using hr) (by simpa using hl)
        refine ⟨a1, fun j s hj hs => ?_⟩
        cases j with
        | zero => omega
        | succ j => exact a2 j s (by omega) (by simpa using hs)
/-! reduced rows -/
variable {C : Ctx}
theorem S_is_comb {f : Nat → Int} {n : Nat} : ∀ {R : List (List Int)}, ∃ c, S C R f n = comb R c n ∧ c = fun k => f (C.ld (R.getD k [])) := by
  intro R
  induction R with
  | nil => exact ⟨_, rfl, rfl⟩
  | cons r R ih =>
    obtain ⟨c, h1, h2⟩ := ih
    refine ⟨_, ?_, rfl⟩
    rw [S_cons, h1, h2]
    simp only [comb]
    simp
theorem In.sp {R : List (List Int)} {f : Nat → Int} (h : In C R f) : Sp C.p R f := by
  refine ⟨fun k => f (C.ld (R.getD k [])), fun n => ?_⟩
  obtain ⟨c, h1, h2⟩ := S_is_comb (C := C) (f := f) (n := n) (R := R)
  have := h n
  rw [h1, h2] at this
  exact this
theorem In.of_sp {R K : List (List Int)} {f : Nat → Int} (h : Sp C.p K f) (hK : ∀ a ∈ K, In C R (co a)) : In C R f := by
  obtain ⟨c, hc⟩ := h
  have key : ∀ {K : List (List Int)}, (∀ a ∈ K, In C R (co a)) → ∀ {c : Nat → Int}, In C R (Go.La.comb K c) := by
    intro K
    induction K with
    | nil => intro _ c; exact In.zero fun n => ⟨0, by simp [Go.La.comb]⟩
    | cons a K ih =>
      intro hK c
      exact (ih (fun b hb => hK b (by simp [hb])) (c := fun k => c (k + 1))).comb (hK a (by simp)) (c 0) fun n => ⟨0, by simp only [Go.La.comb]; grind⟩
  exact (key hK (c := c)).congr hc
end Go.La
