/- Reduced rows over the numbers modulo p: what is added to them, in any order, gives the same rows. Plain lists of numbers. -/
set_option linter.unusedVariables false
namespace Go.La
def co (a : List Int) (n : Nat) : Int := a.getD n 0
/-- a vector: n numbers from 0 to p - 1 -/
structure V (p : Int) (N : Nat) (a : List Int) : Prop where
  len : a.length = N
  bd : ∀ n, 0 ≤ co a n ∧ co a n < p
theorem co_ge {a : List Int} {n : Nat} (h : a.length ≤ n) : co a n = 0 := by unfold co; rw [List.getD_eq_getElem?_getD, List.getElem?_eq_none h]; rfl
theorem co_eq {a : List Int} {n : Nat} (h : n < a.length) : a[n]? = some (co a n) := by unfold co; rw [List.getD_eq_getElem?_getD, List.getElem?_eq_getElem h]; rfl
theorem small_dvd {p x y : Int} (h : p ∣ x - y) (hx : 0 ≤ x ∧ x < p) (hy : 0 ≤ y ∧ y < p) : x = y := by
  have h1 : (x - y) % p = 0 := Int.emod_eq_zero_of_dvd h
  rcases Int.lt_or_le x y with hlt | hle
  · have : p ∣ y - x := by have := Int.dvd_neg.2 h; rwa [Int.neg_sub] at this
    have := Int.le_of_dvd (by omega) this; omega
  · rcases Int.lt_or_le y x with hlt | hle2
    · have := Int.le_of_dvd (by omega) h; omega
    · omega
theorem V.ext {p : Int} {N : Nat} {a b : List Int} (ha : V p N a) (hb : V p N b) (h : ∀ n, p ∣ co a n - co b n) : a = b := by
  apply List.ext_getElem?
  intro n
  by_cases hn : n < N
  · rw [co_eq (by rw [ha.len]; exact hn), co_eq (by rw [hb.len]; exact hn), small_dvd (h n) (ha.bd n) (hb.bd n)]
  · rw [List.getElem?_eq_none (by rw [ha.len]; omega), List.getElem?_eq_none (by rw [hb.len]; omega)]
def vadd (p k : Int) (a b : List Int) : List Int := List.zipWith (fun x y => (x + k * y) % p) a b
theorem co_vadd {p k : Int} {a b : List Int} (h : a.length = b.length) (n : Nat) : co (vadd p k a b) n = (co a n + k * co b n) % p := by
  by_cases hn : n < a.length
  · unfold vadd co
    simp [List.getD_eq_getElem?_getD, List.getElem?_zipWith, List.getElem?_eq_getElem hn, List.getElem?_eq_getElem (h ▸ hn)]
  · rw [co_ge (by unfold vadd; rw [List.length_zipWith]; omega), co_ge (by omega), co_ge (by omega)]; simp
theorem dvd_mod (p x : Int) : p ∣ x % p - x := ⟨-(x / p), by have := Int.emod_add_mul_ediv x p; grind⟩
theorem V.vadd {p k : Int} {N : Nat} {a b : List Int} (hp : 1 < p) (ha : V p N a) (hb : V p N b) : V p N (vadd p k a b) :=
  ⟨by unfold La.vadd; rw [List.length_zipWith, ha.len, hb.len]; omega, fun n => by
    rw [co_vadd (by rw [ha.len, hb.len])]; exact ⟨Int.emod_nonneg _ (by omega), Int.emod_lt_of_pos _ (by omega)⟩⟩
theorem cg_vadd {p k : Int} {a b : List Int} (h : a.length = b.length) (n : Nat) : p ∣ co (vadd p k a b) n - (co a n + k * co b n) := by
  rw [co_vadd h]; exact dvd_mod _ _

structure Ctx where
  p : Int
  N : Nat
  key : Nat → Nat
  ld : List Int → Nat
  hp : 1 < p
  inj : ∀ m n, key m = key n → m = n
  nz : ∀ a m, co a m ≠ 0 → co a (ld a) ≠ 0
  mx : ∀ a m, co a m ≠ 0 → key m ≤ key (ld a)
variable {C : Ctx}
theorem Ctx.ld_eq (C : Ctx) {a : List Int} {m : Nat} (h : co a m ≠ 0) (h2 : ∀ n, co a n ≠ 0 → C.key n ≤ C.key m) : C.ld a = m :=
  C.inj _ _ (Nat.le_antisymm (h2 _ (C.nz a m h)) (C.mx a m h))

structure Red (C : Ctx) (R : List (List Int)) : Prop where
  vec : ∀ r ∈ R, V C.p C.N r
  one : ∀ r ∈ R, co r (C.ld r) = 1
  off : ∀ r ∈ R, ∀ s ∈ R, r ≠ s → co s (C.ld r) = 0
  nd : R.Nodup
theorem Red.nil : Red C [] := ⟨nofun, nofun, nofun, .nil⟩
theorem Red.tail {r : List Int} {R : List (List Int)} (h : Red C (r :: R)) : Red C R :=
  ⟨fun s hs => h.vec s (by simp [hs]), fun s hs => h.one s (by simp [hs]), fun s hs t ht => h.off s (by simp [hs]) t (by simp [ht]), (List.nodup_cons.1 h.nd).2⟩
theorem Red.perm {R R' : List (List Int)} (h : Red C R) (hp : R.Perm R') : Red C R' :=
  ⟨fun s hs => h.vec s (hp.mem_iff.2 hs), fun s hs => h.one s (hp.mem_iff.2 hs), fun s hs t ht => h.off s (hp.mem_iff.2 hs) t (hp.mem_iff.2 ht), hp.nodup_iff.1 h.nd⟩
theorem Red.inj {R : List (List Int)} (h : Red C R) {r s : List Int} (hr : r ∈ R) (hs : s ∈ R) (e : C.ld r = C.ld s) : r = s := by
  by_cases hne : r = s
  · exact hne
  · have h1 := h.off r hr s hs hne
    rw [e, h.one s hs] at h1; cases h1

/-- the sum of the rows, each as often as f tells at its leading place -/
def S (C : Ctx) (R : List (List Int)) (f : Nat → Int) (n : Nat) : Int := (R.map fun r => f (C.ld r) * co r n).sum
theorem S_cons (r : List Int) (R : List (List Int)) (f : Nat → Int) (n : Nat) : S C (r :: R) f n = f (C.ld r) * co r n + S C R f n := by simp [S]
theorem sum_one {α : Type} {R : List α} (hn : R.Nodup) {r : α} (hr : r ∈ R) (f : α → Int) (h : ∀ s ∈ R, s ≠ r → f s = 0) : (R.map f).sum = f r := by
  have z : ∀ R : List α, (∀ s ∈ R, f s = 0) → (R.map f).sum = 0 := by
    intro R
    induction R with
    | nil => intro _; rfl
    | cons x R ih => intro hz; simp only [List.map_cons, List.sum_cons]; rw [hz x (by simp), ih fun s hs => hz s (by simp [hs])]; rfl
  induction R with
  | nil => cases hr
  | cons x R ih =>
    simp only [List.map_cons, List.sum_cons]
    rcases List.mem_cons.1 hr with rfl | hr'
    · rw [z R fun s hs => h s (by simp [hs]) (fun e => (List.nodup_cons.1 hn).1 (e ▸ hs))]; omega
    · rw [ih (List.nodup_cons.1 hn).2 hr' fun s hs => h s (by simp [hs]), h x (by simp) (fun e => (List.nodup_cons.1 hn).1 (e ▸ hr'))]; omega
theorem Red.S_ld {R : List (List Int)} (h : Red C R) {r : List Int} (hr : r ∈ R) (f : Nat → Int) : S C R f (C.ld r) = f (C.ld r) := by
  unfold S
  rw [sum_one h.nd hr (fun s => f (C.ld s) * co s (C.ld r)) fun s hs hne => by rw [h.off r hr s hs (fun e => hne e.symm)]; simp, h.one r hr]; simp
theorem S_congr {R : List (List Int)} {f g : Nat → Int} (h : ∀ n, C.p ∣ f n - g n) (n : Nat) : C.p ∣ S C R f n - S C R g n := by
  induction R with
  | nil => simp [S]
  | cons r R ih => rw [S_cons, S_cons]; obtain ⟨a, ha⟩ := ih; obtain ⟨b, hb⟩ := h (C.ld r); exact ⟨a + b * co r n, by grind⟩
theorem S_comb {R : List (List Int)} {f g u : Nat → Int} {k : Int} (h : ∀ n, C.p ∣ u n - (f n + k * g n)) (n : Nat) : C.p ∣ S C R u n - (S C R f n + k * S C R g n) := by
  induction R with
  | nil => simp [S]
  | cons r R ih => rw [S_cons, S_cons, S_cons]; obtain ⟨a, ha⟩ := ih; obtain ⟨b, hb⟩ := h (C.ld r); exact ⟨a + b * co r n, by grind⟩
/-- f is a sum of the rows -/
def In (C : Ctx) (R : List (List Int)) (f : Nat → Int) : Prop := ∀ n, C.p ∣ f n - S C R f n
theorem In.comb {R : List (List Int)} {f g u : Nat → Int} (hf : In C R f) (hg : In C R g) (k : Int) (h : ∀ n, C.p ∣ u n - (f n + k * g n)) : In C R u := by
  intro n
  obtain ⟨a, ha⟩ := hf n; obtain ⟨b, hb⟩ := hg n; obtain ⟨c, hc⟩ := h n; obtain ⟨d, hd⟩ := S_comb (C := C) (R := R) h n
  exact ⟨c - d + a + k * b, by grind⟩
theorem In.zero {R : List (List Int)} {f : Nat → Int} (h : ∀ n, C.p ∣ f n) : In C R f := by
  intro n
  have := S_congr (C := C) (R := R) (f := f) (g := fun _ => 0) (fun n => by simpa using h n) n
  have e : ∀ R, S C R (fun _ => 0) n = 0 := by
    intro R
    induction R with
    | nil => rfl
    | cons r R ih => rw [S_cons, ih]; simp
  rw [e R] at this
  obtain ⟨a, ha⟩ := h n; obtain ⟨b, hb⟩ := this
  exact ⟨a - b, by grind⟩
theorem In.congr {R : List (List Int)} {f g : Nat → Int} (hf : In C R f) (h : ∀ n, C.p ∣ g n - f n) : In C R g :=
  hf.comb (In.zero (f := fun _ => 0) fun _ => ⟨0, by simp⟩) 0 fun n => by simpa using h n
theorem Red.row {R : List (List Int)} (h : Red C R) {r : List Int} (hr : r ∈ R) : In C R (co r) := by
  intro n
  unfold S
  rw [sum_one h.nd hr (fun s => co r (C.ld s) * co s n) fun s hs hne => by rw [h.off s hs r hr hne]; simp, h.one r hr]
  exact ⟨0, by simp⟩
/-- sums of sums -/
theorem In.sum {R : List (List Int)} {T : List (List Int)} (hT : ∀ r ∈ T, In C R (co r)) (f : Nat → Int) : In C R (S C T f) := by
  induction T with
  | nil => exact In.zero fun n => by simp [S]
  | cons r T ih =>
    have h1 := ih fun s hs => hT s (by simp [hs])
    exact h1.comb (hT r (by simp)) (f (C.ld r)) fun n => by rw [S_cons]; exact ⟨0, by grind⟩
theorem In.trans {R T : List (List Int)} {f : Nat → Int} (h : In C T f) (hT : ∀ r ∈ T, In C R (co r)) : In C R f := (In.sum hT f).congr h
theorem In.off {R : List (List Int)} {f : Nat → Int} (h : In C R f) (h0 : ∀ r ∈ R, C.p ∣ f (C.ld r)) (n : Nat) : C.p ∣ f n := by
  have e : C.p ∣ S C R f n := by
    unfold S
    clear h
    induction R with
    | nil => exact ⟨0, by simp⟩
    | cons r R ih =>
      obtain ⟨a, ha⟩ := ih fun s hs => h0 s (by simp [hs])
      obtain ⟨b, hb⟩ := h0 r (by simp)
      simp only [List.map_cons, List.sum_cons]
      exact ⟨a + b * co r n, by grind⟩
  obtain ⟨a, ha⟩ := h n; obtain ⟨b, hb⟩ := e
  exact ⟨a + b, by grind⟩
/-- the leading place of a sum is one of the rows' -/
theorem In.lead {R : List (List Int)} (hR : Red C R) {a : List Int} (ha : V C.p C.N a) (h : In C R (co a)) {m : Nat} (hm : co a m ≠ 0) : ∃ r ∈ R, C.ld r = C.ld a := by
  have hn := C.nz a m hm
  -- some row has a part there
  have key : ∃ r ∈ R, co a (C.ld r) ≠ 0 ∧ co r (C.ld a) ≠ 0 := by
    refine Classical.byContradiction fun hno => ?_
    have z : S C R (co a) (C.ld a) = 0 := by
      unfold S
      have : ∀ T : List (List Int), (∀ r ∈ T, r ∈ R) → (T.map fun r => co a (C.ld r) * co r (C.ld a)).sum = 0 := by
        intro T
        induction T with
        | nil => intro _; rfl
        | cons r T ih =>
          intro hT
          simp only [List.map_cons, List.sum_cons]
          rw [ih fun s hs => hT s (by simp [hs])]
          have : co a (C.ld r) = 0 ∨ co r (C.ld a) = 0 := by
            by_cases h1 : co a (C.ld r) = 0
            · exact .inl h1
            · exact .inr (Classical.byContradiction fun h2 => hno ⟨r, hT r (by simp), h1, h2⟩)
          rcases this with e | e <;> rw [e] <;> simp
      exact this R fun _ h => h
    have := h (C.ld a)
    rw [z] at this
    have hb := ha.bd (C.ld a)
    have := small_dvd (y := 0) this hb (by omega)
    exact hn this
  obtain ⟨r, hr, h1, h2⟩ := key
  exact ⟨r, hr, C.inj _ _ (Nat.le_antisymm (C.mx a _ h1) (C.mx r _ h2))⟩
theorem Red.nzr {R : List (List Int)} (h : Red C R) {r : List Int} (hr : r ∈ R) : co r (C.ld r) ≠ 0 := by rw [h.one r hr]; decide
/-- reduced rows are told by what they span -/
theorem Red.uniq {R R' : List (List Int)} (h : Red C R) (h' : Red C R') (h1 : ∀ r ∈ R, In C R' (co r)) (h2 : ∀ r ∈ R', In C R (co r)) : ∀ r ∈ R, r ∈ R' := by
  intro r hr
  obtain ⟨r', hr', e⟩ := In.lead h' (h.vec r hr) (h1 r hr) (h.nzr hr)
  have hv := h.vec r hr; have hv' := h'.vec r' hr'
  have hd : In C R (fun n => co r n - co r' n) := (h.row hr).comb (h2 r' hr') (-1) fun n => ⟨0, by grind⟩
  have z := hd.off fun s hs => by
    by_cases hs1 : s = r
    · subst hs1
      rw [h.one s hs, ← e, h'.one r' hr']; exact ⟨0, by simp⟩
    · obtain ⟨s', hs', e'⟩ := In.lead h' (h.vec s hs) (h1 s hs) (h.nzr hs)
      have : s' ≠ r' := fun e2 => hs1 (h.inj hs hr (by rw [← e', e2, e]))
      rw [h.off s hs r hr hs1, ← e', h'.off s' hs' r' hr' this]; exact ⟨0, by simp⟩
  rw [hv.ext hv' z]; exact hr'
theorem mem_perm {R R' : List (List Int)} (h : R.Nodup) (h' : R'.Nodup) (h1 : ∀ r ∈ R, r ∈ R') (h2 : ∀ r ∈ R', r ∈ R) : R.Perm R' :=
  (List.perm_ext_iff_of_nodup h h').2 fun r => ⟨h1 r, h2 r⟩

/-! what is left of a vector -/
def red1 (C : Ctx) (a r : List Int) : List Int := bif co a (C.ld r) == 0 then a else vadd C.p (C.p - co a (C.ld r)) a r
def redL (C : Ctx) (R : List (List Int)) (a : List Int) : List Int := R.foldl (red1 C) a
theorem red1_V {a r : List Int} (ha : V C.p C.N a) (hr : V C.p C.N r) : V C.p C.N (red1 C a r) := by
  unfold red1
  cases co a (C.ld r) == 0 with
  | true => exact ha
  | false => exact ha.vadd C.hp hr
theorem red1_co {a r : List Int} (ha : V C.p C.N a) (hr : V C.p C.N r) (n : Nat) : C.p ∣ co (red1 C a r) n - (co a n - co a (C.ld r) * co r n) := by
  unfold red1
  cases h : co a (C.ld r) == 0 with
  | true => rw [beq_iff_eq] at h; rw [h]; exact ⟨0, by simp⟩
  | false =>
    obtain ⟨c, hc⟩ := cg_vadd (p := C.p) (k := C.p - co a (C.ld r)) (a := a) (b := r) (by rw [ha.len, hr.len]) n
    exact ⟨c + co r n, by simp only [cond_false]; grind⟩
theorem redL_spec {R : List (List Int)} (h : Red C R) : ∀ {a : List Int}, V C.p C.N a → V C.p C.N (redL C R a) ∧ ∀ n, C.p ∣ co (redL C R a) n - (co a n - S C R (co a) n) := by
  induction R with
  | nil => intro a ha; exact ⟨ha, fun n => ⟨0, by simp [redL, S]⟩⟩
  | cons r R ih =>
    intro a ha
    have hr := h.vec r (by simp)
    have hv := red1_V ha hr
    obtain ⟨g1, g2⟩ := ih h.tail hv
    refine ⟨g1, fun n => ?_⟩
    have e : S C R (co (red1 C a r)) n = S C R (co a) n := by
      unfold S
      congr 1
      refine List.map_congr_left fun s hs => ?_
      have hne : s ≠ r := fun e => (List.nodup_cons.1 h.nd).1 (e ▸ hs)
      have z := h.off s (by simp [hs]) r (by simp) hne
      have := red1_co ha hr (C.ld s)
      rw [z] at this
      rw [small_dvd (by simpa using this) (hv.bd _) (ha.bd _)]
    obtain ⟨a1, h1⟩ := g2 n; obtain ⟨a2, h2⟩ := red1_co ha hr n
    rw [S_cons]
    rw [e] at h1
    refine ⟨a1 + a2, ?_⟩
    show co (redL C R (red1 C a r)) n - _ = _
    grind
theorem redL_ld {R : List (List Int)} (h : Red C R) {a : List Int} (ha : V C.p C.N a) {r : List Int} (hr : r ∈ R) : co (redL C R a) (C.ld r) = 0 := by
  obtain ⟨g1, g2⟩ := redL_spec h ha
  have := g2 (C.ld r)
  rw [h.S_ld hr, Int.sub_self] at this
  exact small_dvd this (g1.bd _) (by have := C.hp; omega)
theorem redL_in {R : List (List Int)} (h : Red C R) {a : List Int} (ha : V C.p C.N a) : In C R (fun n => co a n - co (redL C R a) n) := by
  obtain ⟨g1, g2⟩ := redL_spec h ha
  refine (In.sum (fun r hr => h.row hr) (co a)).congr fun n => ?_
  obtain ⟨x, hx⟩ := g2 n
  exact ⟨-x, by grind⟩
theorem S_perm {R R' : List (List Int)} (h : R.Perm R') (f : Nat → Int) (n : Nat) : S C R f n = S C R' f n := by
  induction h with
  | nil => rfl
  | cons x _ ih => rw [S_cons, S_cons, ih]
  | swap x y l => rw [S_cons, S_cons, S_cons, S_cons]; omega
  | trans _ _ i1 i2 => rw [i1, i2]
/-- the order of the rows does not matter -/
theorem redL_mem {R R' : List (List Int)} (h : Red C R) (h' : Red C R') (hm : ∀ r, r ∈ R ↔ r ∈ R') {a : List Int} (ha : V C.p C.N a) : redL C R a = redL C R' a := by
  obtain ⟨g1, g2⟩ := redL_spec h ha
  obtain ⟨k1, k2⟩ := redL_spec h' ha
  refine g1.ext k1 fun n => ?_
  have hp : R.Perm R' := mem_perm h.nd h'.nd (fun r => (hm r).1) fun r => (hm r).2
  have e : S C R (co a) n = S C R' (co a) n := by
    exact S_perm hp _ _
  obtain ⟨x, hx⟩ := g2 n; obtain ⟨y, hy⟩ := k2 n
  exact ⟨x - y, by grind⟩
/-- nothing is left exactly of the sums -/
theorem redL_zero {R : List (List Int)} (h : Red C R) {a : List Int} (ha : V C.p C.N a) : (∀ n, co (redL C R a) n = 0) ↔ In C R (co a) := by
  obtain ⟨g1, g2⟩ := redL_spec h ha
  constructor
  · intro hz n
    obtain ⟨x, hx⟩ := g2 n
    exact ⟨-x, by rw [hz n] at hx; grind⟩
  · intro hi n
    obtain ⟨x, hx⟩ := g2 n; obtain ⟨y, hy⟩ := hi n
    exact small_dvd ⟨x + y, by grind⟩ (g1.bd n) (by have := C.hp; omega)

/-! one more row -/
def zero (C : Ctx) : List Int := List.replicate C.N 0
theorem co_zero (n : Nat) : co (zero C) n = 0 := by
  unfold co zero; rw [List.getD_eq_getElem?_getD, List.getElem?_replicate]; split <;> rfl
theorem zero_V : V C.p C.N (zero C) := ⟨by simp [zero], fun n => by rw [co_zero]; have := C.hp; omega⟩
def row1 (C : Ctx) (new : List Int) (r : List Int) : List Int := bif co r (C.ld new) == 0 then r else vadd C.p (C.p - co r (C.ld new)) r new
def addR (C : Ctx) (R : List (List Int)) (new : List Int) : List (List Int) := R.map (row1 C new) ++ [new]
structure New (C : Ctx) (R : List (List Int)) (new : List Int) : Prop where
  vec : V C.p C.N new
  one : co new (C.ld new) = 1
  off : ∀ r ∈ R, co new (C.ld r) = 0
theorem row1_co {new r : List Int} (hn : V C.p C.N new) (hr : V C.p C.N r) (n : Nat) : C.p ∣ co (row1 C new r) n - (co r n - co r (C.ld new) * co new n) := red1_co (C := C) (a := r) (r := new) hr hn n
theorem row1_V {new r : List Int} (hn : V C.p C.N new) (hr : V C.p C.N r) : V C.p C.N (row1 C new r) := red1_V (C := C) (a := r) (r := new) hr hn
theorem row1_at {new r : List Int} (hn : V C.p C.N new) (hr : V C.p C.N r) {n : Nat} (h : co new n = 0) : co (row1 C new r) n = co r n := by
  have := row1_co hn hr n
  rw [h] at this
  exact small_dvd (by simpa using this) ((row1_V hn hr).bd n) (hr.bd n)
theorem row1_lead {R : List (List Int)} (h : Red C R) {new : List Int} (hn : New C R new) {r : List Int} (hr : r ∈ R) : co (row1 C new r) (C.ld new) = 0 := by
  have hv := h.vec r hr
  have := row1_co hn.vec hv (C.ld new)
  rw [hn.one] at this
  exact small_dvd (by simpa using this) ((row1_V hn.vec hv).bd _) (by have := C.hp; omega)
theorem row1_ld {R : List (List Int)} (h : Red C R) {new : List Int} (hn : New C R new) {r : List Int} (hr : r ∈ R) : C.ld (row1 C new r) = C.ld r := by
  have hv := h.vec r hr
  have e := row1_at hn.vec hv (hn.off r hr)
  refine C.ld_eq (by rw [e, h.one r hr]; decide) fun n hne => ?_
  by_cases h1 : co r n = 0
  · have hl : co r (C.ld new) ≠ 0 := fun hz => by
      have := row1_co hn.vec hv n
      rw [hz, h1] at this
      exact hne (small_dvd (by simpa using this) ((row1_V hn.vec hv).bd n) (by have := C.hp; omega))
    have h2 : co new n ≠ 0 := fun hz => hne (by rw [row1_at hn.vec hv hz, h1])
    exact Nat.le_trans (C.mx new n h2) (C.mx r _ hl)
  · exact C.mx r n h1
theorem addR_red {R : List (List Int)} (h : Red C R) {new : List Int} (hn : New C R new) : Red C (addR C R new) := by
  have hm : ∀ s ∈ addR C R new, (∃ r ∈ R, row1 C new r = s) ∨ s = new := by
    intro s hs
    unfold addR at hs
    rcases List.mem_append.1 hs with hs | hs
    · exact .inl (List.mem_map.1 hs)
    · exact .inr (by simpa using hs)
  refine ⟨?_, ?_, ?_, ?_⟩
  · intro s hs
    rcases hm s hs with ⟨r, hr, rfl⟩ | rfl
    · exact row1_V hn.vec (h.vec r hr)
    · exact hn.vec
  · intro s hs
    rcases hm s hs with ⟨r, hr, rfl⟩ | rfl
    · rw [row1_ld h hn hr, row1_at hn.vec (h.vec r hr) (hn.off r hr), h.one r hr]
    · exact hn.one
  · intro s hs t ht hne
    rcases hm s hs with ⟨r, hr, rfl⟩ | rfl
    · rw [row1_ld h hn hr]
      rcases hm t ht with ⟨q, hq, rfl⟩ | rfl
      · rw [row1_at hn.vec (h.vec q hq) (hn.off r hr)]
        exact h.off r hr q hq fun e => hne (by rw [e])
      · exact hn.off r hr
    · rcases hm t ht with ⟨q, hq, rfl⟩ | rfl
      · exact row1_lead h hn hq
      · exact absurd rfl hne
  · unfold addR
    rw [List.nodup_append]
    refine ⟨?_, by simp, ?_⟩
    · refine (List.pairwise_map.2 ?_)
      refine List.Pairwise.imp_of_mem (R := fun a b => a ≠ b) ?_ h.nd
      intro a b ha hb hne e
      exact hne (h.inj ha hb (by rw [← row1_ld h hn ha, ← row1_ld h hn hb, e]))
    · intro a ha b hb e
      obtain ⟨r, hr, rfl⟩ := List.mem_map.1 ha
      have hb' : b = new := by simpa using hb
      have := row1_lead h hn hr
      rw [e, hb', hn.one] at this
      cases this
theorem addR_old {R : List (List Int)} (h : Red C R) {new : List Int} (hn : New C R new) {r : List Int} (hr : r ∈ R) : In C (addR C R new) (co r) := by
  have hR := addR_red h hn
  have h1 := hR.row (r := row1 C new r) (by unfold addR; simp; exact .inl ⟨r, hr, rfl⟩)
  have h2 := hR.row (r := new) (by unfold addR; simp)
  refine h1.comb h2 (co r (C.ld new)) fun n => ?_
  obtain ⟨x, hx⟩ := row1_co hn.vec (h.vec r hr) n
  exact ⟨-x, by grind⟩
theorem addR_le {R T : List (List Int)} (h : Red C R) {new : List Int} (hn : New C R new) (hT : ∀ r ∈ R, In C T (co r)) (h2 : In C T (co new)) : ∀ s ∈ addR C R new, In C T (co s) := by
  intro s hs
  unfold addR at hs
  rcases List.mem_append.1 hs with hs | hs
  · obtain ⟨r, hr, rfl⟩ := List.mem_map.1 hs
    refine (hT r hr).comb h2 (-co r (C.ld new)) fun n => ?_
    obtain ⟨x, hx⟩ := row1_co hn.vec (h.vec r hr) n
    exact ⟨x, by grind⟩
  · have : s = new := by simpa using hs
    rw [this]; exact h2

/-! adding -/
def monic (C : Ctx) (k : Int) (rest : List Int) : List Int := vadd C.p k (zero C) rest
theorem monic_co {k : Int} {rest : List Int} (hr : V C.p C.N rest) (n : Nat) : C.p ∣ co (monic C k rest) n - k * co rest n := by
  obtain ⟨x, hx⟩ := cg_vadd (p := C.p) (k := k) (a := zero C) (b := rest) (by rw [zero_V.len, hr.len]) n
  rw [co_zero] at hx
  exact ⟨x, by unfold monic; grind⟩
theorem monic_new {R : List (List Int)} (h : Red C R) {a : List Int} (ha : V C.p C.N a) {m : Nat} (hm : co (redL C R a) m ≠ 0) {k : Int} (hk : C.p ∣ k * co (redL C R a) (C.ld (redL C R a)) - 1) :
    New C R (monic C k (redL C R a)) ∧ C.ld (monic C k (redL C R a)) = C.ld (redL C R a) := by
  obtain ⟨g1, g2⟩ := redL_spec h ha
  generalize hre : redL C R a = rest at *
  have hv : V C.p C.N (monic C k rest) := zero_V.vadd C.hp g1
  have hl : co (monic C k rest) (C.ld rest) = 1 := by
    obtain ⟨x, hx⟩ := monic_co (k := k) g1 (C.ld rest); obtain ⟨y, hy⟩ := hk
    exact small_dvd ⟨x + y, by grind⟩ (hv.bd _) (by have := C.hp; omega)
  have e : C.ld (monic C k rest) = C.ld rest := by
    refine C.ld_eq (by rw [hl]; decide) fun n hne => ?_
    refine C.mx rest n fun hz => hne ?_
    obtain ⟨x, hx⟩ := monic_co (k := k) g1 n
    rw [hz] at hx
    exact small_dvd ⟨x, by grind⟩ (hv.bd n) (by have := C.hp; omega)
  refine ⟨⟨hv, by rw [e, hl], fun r hr => ?_⟩, e⟩
  have hz : co rest (C.ld r) = 0 := by rw [← hre]; exact redL_ld h ha hr
  obtain ⟨x, hx⟩ := monic_co (k := k) g1 (C.ld r)
  rw [hz] at hx
  exact small_dvd ⟨x, by grind⟩ (hv.bd _) (by have := C.hp; omega)
/-- a number's inverse, modulo p -/
def Inv (C : Ctx) (iv : Int → Int) : Prop := ∀ c, 0 < c → c < C.p → C.p ∣ iv c * c - 1
def isz (a : List Int) : Bool := a.all (· == 0)
theorem isz_iff {a : List Int} : isz a = true ↔ ∀ n, co a n = 0 := by
  unfold isz
  rw [List.all_eq_true]
  constructor
  · intro h n
    by_cases hn : n < a.length
    · have := h (co a n) (List.mem_of_getElem? (co_eq hn)); simpa using this
    · exact co_ge (by omega)
  · intro h x hx
    obtain ⟨n, hn⟩ := List.getElem?_of_mem hx
    have := co_eq (List.getElem?_eq_some_iff.1 hn).1
    rw [hn, h n] at this
    cases this; rfl
def add1 (C : Ctx) (iv : Int → Int) (R : List (List Int)) (a : List Int) : List (List Int) :=
  bif isz (redL C R a) then R else addR C R (monic C (iv (co (redL C R a) (C.ld (redL C R a)))) (redL C R a))
structure Ext (C : Ctx) (R : List (List Int)) (as : List (List Int)) (T : List (List Int)) : Prop where
  red : Red C T
  old : ∀ r ∈ R, In C T (co r)
  new : ∀ a ∈ as, In C T (co a)
  le : ∀ U, Red C U → (∀ r ∈ R, In C U (co r)) → (∀ a ∈ as, In C U (co a)) → ∀ r ∈ T, In C U (co r)
theorem add1_ext {iv : Int → Int} (hi : Inv C iv) {R : List (List Int)} (h : Red C R) {a : List Int} (ha : V C.p C.N a) : Ext C R [a] (add1 C iv R a) := by
  unfold add1
  cases hz : isz (redL C R a) with
  | true =>
    have hin := (redL_zero h ha).1 (isz_iff.1 hz)
    exact ⟨h, fun r hr => h.row hr, by simpa using hin, fun U _ h1 _ => h1⟩
  | false =>
    obtain ⟨m, hm⟩ : ∃ m, co (redL C R a) m ≠ 0 := Classical.byContradiction fun hno => by
      have : isz (redL C R a) = true := isz_iff.2 fun n => Classical.byContradiction fun hne => hno ⟨n, hne⟩
      rw [hz] at this; cases this
    obtain ⟨g1, g2⟩ := redL_spec h ha
    have hb := g1.bd (C.ld (redL C R a)); have hn := C.nz _ m hm
    have hk := hi (co (redL C R a) (C.ld (redL C R a))) (by omega) hb.2
    obtain ⟨hN, he⟩ := monic_new h ha hm hk
    have hin := redL_in h ha
    simp only [cond_false]
    generalize hkk : iv (co (redL C R a) (C.ld (redL C R a))) = k at *
    have hR := addR_red h hN
    refine ⟨hR, fun r hr => addR_old h hN hr, ?_, ?_⟩
    · intro x hx
      obtain rfl : x = a := by simpa using hx
      have h1 : In C (addR C R (monic C k (redL C R x))) (fun n => co x n - co (redL C R x) n) := hin.trans fun r hr => addR_old h hN hr
      refine h1.comb (hR.row (r := monic C k (redL C R x)) (by unfold addR; simp)) (co (redL C R x) (C.ld (redL C R x))) fun n => ?_
      obtain ⟨y, hy⟩ := monic_co (k := k) g1 n; obtain ⟨z, hz⟩ := hk
      exact ⟨-(co (redL C R x) (C.ld (redL C R x)) * y) - z * co (redL C R x) n, by grind⟩
    · intro U hU h1 h2
      refine addR_le h hN h1 ?_
      have h3 : In C U (fun n => co a n - co (redL C R a) n) := hin.trans h1
      have h4 : In C U (co (redL C R a)) := (h2 a (by simp)).comb h3 (-1) fun n => ⟨0, by grind⟩
      refine (In.zero (f := fun _ => 0) fun _ => ⟨0, by simp⟩).comb h4 k fun n => ?_
      obtain ⟨y, hy⟩ := monic_co (k := k) g1 n
      exact ⟨y, by grind⟩
theorem add1_len {iv : Int → Int} {R : List (List Int)} {a : List Int} : (add1 C iv R a).length = R.length + (bif isz (redL C R a) then 0 else 1) := by
  unfold add1 addR
  cases isz (redL C R a) <;> simp
def addAll (C : Ctx) (iv : Int → Int) (R : List (List Int)) (as : List (List Int)) : List (List Int) := as.foldl (add1 C iv) R
theorem addAll_ext {iv : Int → Int} (hi : Inv C iv) {as : List (List Int)} : ∀ {R : List (List Int)}, Red C R → (∀ a ∈ as, V C.p C.N a) → Ext C R as (addAll C iv R as) := by
  induction as with
  | nil => intro R h _; exact ⟨h, fun r hr => h.row hr, nofun, fun U _ h1 _ => h1⟩
  | cons a as ih =>
    intro R h ha
    have e1 := add1_ext hi h (ha a (by simp))
    have e2 := ih e1.red fun x hx => ha x (by simp [hx])
    have i2 : ∀ r ∈ add1 C iv R a, In C (addAll C iv R (a :: as)) (co r) := e2.old
    refine ⟨e2.red, fun r hr => (e1.old r hr).trans i2, ?_, ?_⟩
    · intro x hx
      rcases List.mem_cons.1 hx with rfl | hx
      · exact (e1.new x (by simp)).trans i2
      · exact e2.new x hx
    · intro U hU h1 h2
      exact e2.le U hU (e1.le U hU h1 fun x hx => by
        have e : x = a := by simpa using hx
        rw [e]; exact h2 a (by simp)) fun x hx => h2 x (by simp [hx])
/-- neither the order of the rows nor the order of what is added matters -/
theorem Ext.same {R R' as as' T T' : List (List Int)} (h : Ext C R as T) (h' : Ext C R' as' T') (hR : ∀ r, r ∈ R ↔ r ∈ R') (hA : ∀ a, a ∈ as ↔ a ∈ as') : T.Perm T' := by
  have a1 : ∀ r ∈ T, In C T' (co r) := h.le T' h'.red (fun r hr => h'.old r ((hR r).1 hr)) fun a ha => h'.new a ((hA a).1 ha)
  have a2 : ∀ r ∈ T', In C T (co r) := h'.le T h.red (fun r hr => h.old r ((hR r).2 hr)) fun a ha => h.new a ((hA a).2 ha)
  exact mem_perm h.red.nd h'.red.nd (h.red.uniq h'.red a1 a2) (h'.red.uniq h.red a2 a1)
end Go.La
