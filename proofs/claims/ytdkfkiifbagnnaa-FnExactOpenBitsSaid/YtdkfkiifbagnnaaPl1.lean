/- Plain laws: loops as tests, folds and searches (no program in sight). -/
import Derived.Test.YtdkfkiifbagnnaaPu1
namespace Go.Pu

/-- Go's ints -/
def okI (n : Int) : Prop := -9223372036854775808 ≤ n ∧ n ≤ 9223372036854775807
/-- a slice's data -/
def okL {A : Type} (ok : A → Prop) (xs : List A) : Prop := xs.length ≤ 9223372036854775807 ∧ ∀ x ∈ xs, ok x
def okT {A : Type} (_ : A) : Prop := True

section
variable {α β S X : Type}

theorem forL_nil {body : Nat → α → S → Option (Lp S X)} {s : S} : forL [] body s = some (.go s) := rfl

/-- an invariant that leads through all rounds of a loop over a list -/
theorem forL_inv {body : Nat → α → S → Option (Lp S X)} (I : Nat → S → Prop) {l : List α} {s : S} (h0 : I 0 s)
    (hb : ∀ i x s, l[i]? = some x → I i s → ∃ s', body i x s = some (.nx s') ∧ I (i + 1) s') : ∃ s', forL l body s = some (.go s') ∧ I l.length s' := by
  have key : ∀ (m p : List α) (s : S), l = p ++ m → I p.length s → ∃ s', forLFrom body m p.length s = some (.go s') ∧ I l.length s' := by
    intro m
    induction m with
    | nil =>
      intro p s hm hi
      refine ⟨s, rfl, ?_⟩
      rw [hm, List.append_nil]; exact hi
    | cons x m ih =>
      intro p s hm hi
      have hx : l[p.length]? = some x := by rw [hm]; simp
      obtain ⟨s', h1, h2⟩ := hb p.length x s hx hi
      obtain ⟨s'', h3, h4⟩ := ih (p ++ [x]) s' (by rw [hm]; simp) (by simpa using h2)
      refine ⟨s'', ?_, h4⟩
      rw [forLFrom, h1]
      simpa using h3
  exact key l [] s rfl h0

/-- a loop that only leads a state on -/
theorem forL_fold {body : Nat → α → S → Option (Lp S X)} (g : S → α → S) {l : List α} {s : S} (h : ∀ i x t, l[i]? = some x → body i x t = some (.nx (g t x))) : forL l body s = some (.go (l.foldl g s)) := by
  obtain ⟨s', h1, h2⟩ := forL_inv (X := X) (body := body) (fun i t => t = (l.take i).foldl g s) (l := l) (s := s) (by simp) (fun i x t hx ht => ⟨g t x, h i x t hx, by
    subst ht
    rw [List.take_add_one, hx]
    simp⟩)
  rw [h1, h2, List.take_length]
/-- .. while something holds of the state -/
theorem forL_foldI {body : Nat → α → S → Option (Lp S X)} (g : S → α → S) {l : List α} {s : S} (I : Nat → S → Prop) (h0 : I 0 s) (h : ∀ i x t, l[i]? = some x → I i t → body i x t = some (.nx (g t x)) ∧ I (i + 1) (g t x)) : forL l body s = some (.go (l.foldl g s)) ∧ I l.length (l.foldl g s) := by
  obtain ⟨s', h1, h2, h3⟩ := forL_inv (X := X) (body := body) (fun i t => t = (l.take i).foldl g s ∧ I i t) (l := l) (s := s) ⟨by simp, h0⟩ (fun i x t hx ht => ⟨g t x, (h i x t hx ht.2).1, by
    obtain ⟨rfl, _⟩ := ht
    rw [List.take_add_one, hx]
    simp, (h i x t hx ht.2).2⟩)
  rw [List.take_length] at h2
  subst h2
  exact ⟨h1, h3⟩

/-- each round hangs one element on -/
theorem forL_push {f : Nat → α → Option β} {g : α → β} {l : List α} {s : List β} (hf : ∀ (i : Nat) x, l[i]? = some x → f i x = some (g x)) (hl : s.length + l.length ≤ lim) :
    forL (X := X) l (fun i x s => bd (f i x) fun r => bd (app s [r]) fun s' => some (.nx s')) s = some (.go (s ++ l.map g)) := by
  obtain ⟨s', h1, h2⟩ := forL_inv (X := X) (body := fun i x s => bd (f i x) fun r => bd (app s [r]) fun s' => some (.nx s')) (fun i t => t = s ++ (l.take i).map g) (l := l) (s := s) (by simp)
    (fun i x t hx ht => by
      have hi := (List.getElem?_eq_some_iff.1 hx).1
      refine ⟨t ++ [g x], ?_, ?_⟩
      · simp only [hf i x hx, bd_some]
        have : t.length + [g x].length ≤ lim := by
          rw [ht]; simp; omega
        unfold app
        rw [if_pos this]; rfl
      · rw [ht, List.take_add_one, hx]; simp)
  rw [h1, h2, List.take_length]

/-- does something hold of an element at its place -/
def anyI (p : Nat → α → Bool) : List α → Nat → Bool
  | [], _ => false
  | y :: l, i => p i y || anyI p l (i + 1)
theorem anyI_any (p : α → Bool) (l : List α) (i : Nat) : anyI (fun _ y => p y) l i = l.any p := by
  induction l generalizing i with
  | nil => rfl
  | cons y l ih => simp [anyI, ih]
theorem anyI_congr {p q : Nat → α → Bool} : ∀ {l : List α} {k : Nat}, (∀ i y, l[i]? = some y → p (k + i) y = q (k + i) y) → anyI p l k = anyI q l k := by
  intro l
  induction l with
  | nil => intro k _; rfl
  | cons y l ih =>
    intro k h
    have h0 := h 0 y rfl
    rw [Nat.add_zero] at h0
    simp only [anyI]
    rw [h0, ih fun i z hz => by have := h (i + 1) z (by simpa using hz); rwa [show k + (i + 1) = k + 1 + i by omega] at this]
theorem anyI_false {p : Nat → α → Bool} : ∀ {l : List α} {k : Nat}, anyI p l k = false ↔ ∀ i y, l[i]? = some y → p (k + i) y = false := by
  intro l
  induction l with
  | nil => intro k; simp [anyI]
  | cons y l ih =>
    intro k
    simp only [anyI, Bool.or_eq_false_iff, ih]
    constructor
    · rintro ⟨h1, h2⟩ i z hz
      cases i with
      | zero => simp at hz; subst hz; simpa using h1
      | succ i => have := h2 i z (by simpa using hz); rwa [show k + 1 + i = k + (i + 1) by omega] at this
    · intro h
      refine ⟨by simpa using h 0 y rfl, fun i z hz => ?_⟩
      have := h (i + 1) z (by simpa using hz); rwa [show k + (i + 1) = k + 1 + i by omega] at this

/-- a loop that goes on until a test says yes -/
theorem forL_any {body : Nat → α → Unit → Option (Lp Unit X)} {p : Nat → α → Bool} {v : X} {l : List α} {u : Unit} (h : ∀ i y, l[i]? = some y → body i y () = (bif p i y then some (.rt v) else some (.nx ()))) :
    forL l body u = some (bif anyI p l 0 then .rt v else .go ()) := by
  have key : ∀ (m : List α) (k : Nat), (∀ i y, m[i]? = some y → body (k + i) y () = (bif p (k + i) y then some (.rt v) else some (.nx ()))) → forLFrom body m k () = some (bif anyI p m k then .rt v else .go ()) := by
    intro m
    induction m with
    | nil => intro k _; rfl
    | cons y m ih =>
      intro k hm
      have h0 := hm 0 y rfl
      rw [Nat.add_zero] at h0
      rw [forLFrom, h0]
      cases hp : p k y with
      | true => simp [anyI, hp]
      | false =>
        simp only [cond_false, anyI, hp, Bool.false_or]
        exact ih (k + 1) fun i z hz => by have := hm (i + 1) z (by simpa using hz); rwa [show k + (i + 1) = k + 1 + i by omega] at this
  exact key l 0 fun i y hy => by rw [Nat.zero_add]; exact h i y hy
/-- .. and hands back where -/
def findI (p : Nat → α → Bool) : List α → Nat → Option (Nat × α)
  | [], _ => none
  | y :: l, i => bif p i y then some (i, y) else findI p l (i + 1)
theorem forL_find {body : Nat → α → Unit → Option (Lp Unit X)} {p : Nat → α → Bool} {v : Nat → α → X} {l : List α} {u : Unit} (h : ∀ i y, l[i]? = some y → body i y () = (bif p i y then some (.rt (v i y)) else some (.nx ()))) :
    forL l body u = some (match findI p l 0 with | some z => .rt (v z.1 z.2) | none => .go ()) := by
  have key : ∀ (m : List α) (k : Nat), (∀ i y, m[i]? = some y → body (k + i) y () = (bif p (k + i) y then some (.rt (v (k + i) y)) else some (.nx ()))) → forLFrom body m k () = some (match findI p m k with | some z => .rt (v z.1 z.2) | none => .go ()) := by
    intro m
    induction m with
    | nil => intro k _; rfl
    | cons y m ih =>
      intro k hm
      have h0 := hm 0 y rfl
      rw [Nat.add_zero] at h0
      rw [forLFrom, h0]
      cases hp : p k y with
      | true => simp [findI, hp]
      | false =>
        simp only [cond_false, findI, hp]
        exact ih (k + 1) fun i z hz => by have := hm (i + 1) z (by simpa using hz); rwa [show k + (i + 1) = k + 1 + i by omega] at this
  exact key l 0 fun i y hy => by rw [Nat.zero_add]; exact h i y hy
theorem findI_none {p : Nat → α → Bool} : ∀ {l : List α} {k : Nat}, findI p l k = none ↔ anyI p l k = false := by
  intro l
  induction l with
  | nil => intro k; simp [findI, anyI]
  | cons y l ih =>
    intro k
    simp only [findI, anyI]
    cases p k y <;> simp [ih]
theorem findI_some {p : Nat → α → Bool} : ∀ {l : List α} {k : Nat} {z : Nat × α}, findI p l k = some z → k ≤ z.1 ∧ l[z.1 - k]? = some z.2 ∧ p z.1 z.2 = true ∧ anyI p l k = true := by
  intro l
  induction l with
  | nil => intro k z h; simp [findI] at h
  | cons y l ih =>
    intro k z h
    simp only [findI] at h
    cases hp : p k y with
    | true => rw [hp] at h; simp at h; subst h; simp [anyI, hp]
    | false =>
      rw [hp] at h
      simp only [cond_false] at h
      obtain ⟨h1, h2, h3, h4⟩ := ih h
      refine ⟨by omega, ?_, h3, by simp [anyI, h4]⟩
      rw [show z.1 - k = (z.1 - (k + 1)) + 1 by omega, List.getElem?_cons_succ]; exact h2

/-! loops with a counter of their own -/
/-- 'for i := 0; i < len(xs); i++' with a test on each element -/
theorem iter_any {xs : List α} {body : Int → Option (Lp Int X)} {p : Nat → α → Bool} {v : X} (h : ∀ (i : Nat) y, xs[i]? = some y → body (i : Int) = (bif p i y then some (.rt v) else some (.nx ((i : Int) + 1)))) (he : body (xs.length : Int) = some (.bk (xs.length : Int))) :
    iter body 0 = some (bif anyI p xs 0 then .rt v else .go (xs.length : Int)) := by
  have key : ∀ (m : List α) (k : Nat), k + m.length = xs.length → (∀ i y, m[i]? = some y → xs[k + i]? = some y) → iter body (k : Int) = some (bif anyI p m k then .rt v else .go (xs.length : Int)) := by
    intro m
    induction m with
    | nil =>
      intro k hk _
      simp only [List.length_nil, Nat.add_zero] at hk
      subst hk
      rw [iter_bk he]; rfl
    | cons y m ih =>
      intro k hk hm
      have h0 := h k y (by have := hm 0 y rfl; simpa using this)
      cases hp : p k y with
      | true => rw [hp] at h0; rw [iter_rt h0]; simp [anyI, hp]
      | false =>
        rw [hp] at h0
        rw [iter_nx h0]
        simp only [anyI, hp, Bool.false_or]
        exact ih (k + 1) (by simp at hk; omega) fun i z hz => by have := hm (i + 1) z (by simpa using hz); rwa [show k + (i + 1) = k + 1 + i by omega] at this
  have := key xs 0 (by simp) (by simp)
  simpa using this
/-- 'for k < len(xs) && p(xs[k]) { k++ }' -/
theorem iter_while {xs : List α} {body : Int → Option (Lp Int X)} {p : α → Bool} (h : ∀ (i : Nat) y, xs[i]? = some y → body (i : Int) = (bif p y then some (.nx ((i : Int) + 1)) else some (.bk (i : Int)))) (he : body (xs.length : Int) = some (.bk (xs.length : Int))) :
    iter body 0 = some (.go ((xs.takeWhile p).length : Int)) := by
  have key : ∀ (m : List α) (k : Nat), k + m.length = xs.length → (∀ i y, m[i]? = some y → xs[k + i]? = some y) → iter body (k : Int) = some (.go ((k + (m.takeWhile p).length : Nat) : Int)) := by
    intro m
    induction m with
    | nil =>
      intro k hk _
      simp only [List.length_nil, Nat.add_zero] at hk
      subst hk
      rw [iter_bk he]; rfl
    | cons y m ih =>
      intro k hk hm
      have h0 := h k y (by have := hm 0 y rfl; simpa using this)
      cases hp : p y with
      | true =>
        rw [hp] at h0
        rw [iter_nx h0, List.takeWhile_cons, if_pos hp]
        have := ih (k + 1) (by simp at hk; omega) fun i z hz => by have := hm (i + 1) z (by simpa using hz); rwa [show k + (i + 1) = k + 1 + i by omega] at this
        rw [show ((k : Int) + 1) = ((k + 1 : Nat) : Int) by simp, this]
        simp; omega
      | false =>
        rw [hp] at h0
        rw [iter_bk h0, List.takeWhile_cons, if_neg (by simp [hp])]; simp
  have := key xs 0 (by simp) (by simp)
  simpa using this

/-! small words -/
theorem ix_get {xs : List α} {i : Nat} : ix xs (i : Int) = xs[i]? := by simp [ix]
theorem ix_of {xs : List α} {i : Int} (h0 : 0 ≤ i) (h1 : i < xs.length) : ∃ x, ix xs i = some x ∧ xs[i.toNat]? = some x := by
  refine ⟨xs[i.toNat]'(by omega), ?_, List.getElem?_eq_getElem (by omega)⟩
  unfold ix; rw [if_pos h0]; exact List.getElem?_eq_getElem (by omega)
theorem wr_id {n : Int} (h : okI n) : wr n = n := wr_of n h.1 h.2
theorem wr_pred {i n : Nat} (hi : 0 < i) (h : i < n) (hn : n ≤ 9223372036854775807) : wr ((i : Int) - 1) = ((i - 1 : Nat) : Int) := by rw [wr_of _ (by omega) (by omega)]; omega
theorem wr_succ {i n : Nat} (h : i < n) (hn : n ≤ 9223372036854775807) : wr ((i : Int) + 1) = (i : Int) + 1 := wr_of _ (by omega) (by omega)
theorem app_ok {xs ys : List α} (h : xs.length + ys.length ≤ lim) : app xs ys = some (xs ++ ys) := by unfold app; rw [if_pos h]
theorem cut_ok {xs : List α} {a b : Nat} (h : a ≤ b) (hb : b ≤ xs.length) : cut xs (a : Int) (b : Int) = some ((xs.take b).drop a) := by unfold cut; rw [if_pos (by omega)]; simp
theorem put_ok {xs : List α} {i : Nat} {x : α} (h : i < xs.length) : put xs (i : Int) x = some (xs.set i x) := by unfold put; rw [if_pos (by omega)]; simp
theorem mk2_ok {z : α} {n : Nat} (h : n ≤ lim) : mk2 z (n : Int) (n : Int) = some (List.replicate n z) := by unfold mk2; rw [if_pos (by unfold lim at h ⊢; omega)]; simp
theorem len_eq (xs : List α) : len xs = (xs.length : Int) := rfl
theorem bif_some {β : Type} {c : Bool} {a b : β} : (bif c then some a else some b) = some (bif c then a else b) := by cases c <;> rfl
theorem bif_eq {β : Type} {c d : Bool} {a b : β} (h : c = d) : (bif c then a else b) = bif d then a else b := by rw [h]
@[simp] theorem bif_ff {c d : Bool} : (bif c then d else false) = (c && d) := by cases c <;> rfl
@[simp] theorem bif_tt {c d : Bool} : (bif c then true else d) = (c || d) := by cases c <;> rfl

/-- neighbours -/
def adj (r : α → α → Bool) : List α → Bool
  | a :: b :: l => r a b && adj r (b :: l)
  | _ => true
theorem anyI_adj {q : α → Bool} {r : α → α → Bool} {l : List α} {p : Nat → α → Bool} (h0 : ∀ y, l[0]? = some y → p 0 y = q y) (h : ∀ (i : Nat) x y, l[i]? = some x → l[i + 1]? = some y → p (i + 1) y = (q y || !r x y)) :
    anyI p l 0 = !(l.all (fun y => !q y) && adj r l) := by
  have key : ∀ (m : List α) (k : Nat) (x : α), l[k]? = some x → (∀ i y, m[i]? = some y → l[k + 1 + i]? = some y) → anyI p m (k + 1) = !(m.all (fun y => !q y) && adj r (x :: m)) := by
    intro m
    induction m with
    | nil => intro k x _ _; rfl
    | cons y m ih =>
      intro k x hx hm
      have hy : l[k + 1]? = some y := by simpa using hm 0 y rfl
      simp only [anyI, List.all_cons, adj]
      rw [h k x y hx hy, ih (k + 1) y hy fun i z hz => by have := hm (i + 1) z (by simpa using hz); rwa [show k + 1 + (i + 1) = k + 1 + 1 + i by omega] at this]
      cases q y <;> cases r x y <;> cases m.all (fun y => !q y) <;> simp
  cases l with
  | nil => rfl
  | cons x m =>
    simp only [anyI, List.all_cons]
    rw [h0 x rfl, Nat.zero_add, key m 0 x rfl (by intro i y hy; rw [show 0 + 1 + i = i + 1 by omega]; simpa using hy)]
    cases q x <;> simp

/-! the frame of a law: sizes, copies, comparisons, marks -/
def tot (wt : α → Nat) : List α → Nat
  | [] => 0
  | y :: l => wt y + tot wt l
theorem tot_mem {wt : α → Nat} {l : List α} {y : α} (h : y ∈ l) : wt y ≤ tot wt l := by
  induction l with
  | nil => cases h
  | cons x l ih =>
    simp only [tot]
    rcases List.mem_cons.1 h with rfl | h
    · omega
    · have := ih h; omega

/-- sizes are taken off, element by element -/
theorem sz_loop {sz : α → Int → Option Int} {wt : α → Nat} : ∀ {l : List α} {i : Nat} {s : Int}, (∀ y ∈ l, ∀ s : Int, 0 ≤ s → s ≤ 1048576 → ∃ t, sz y s = some t ∧ (t < 0 ∨ t + wt y = s)) → 0 ≤ s → s ≤ 1048576 →
    ∃ q, forLFrom (X := Int) (fun _ y s => bd (sz y s) fun t => bif decide (t < 0) then some (.rt (-1)) else some (.nx t)) l i s = some q ∧ match q with | .rt v => v = -1 | .go t => 0 ≤ t ∧ t + tot wt l = s := by
  intro l
  induction l with
  | nil => intro i s _ h0 _; exact ⟨_, rfl, h0, by simp [tot]⟩
  | cons y l ih =>
    intro i s h h0 h1
    obtain ⟨t, h2, h3⟩ := h y (by simp) s h0 h1
    simp only [forLFrom, h2, bd_some]
    by_cases ht : t < 0
    · simp only [ht, decide_true, cond_true]
      exact ⟨_, rfl, rfl⟩
    · simp only [ht, decide_false, cond_false]
      obtain ⟨q, h4, h5⟩ := ih (i := i + 1) (s := t) (fun z hz => h z (by simp [hz])) (by omega) (by omega)
      refine ⟨q, h4, ?_⟩
      cases q with
      | rt v => exact h5
      | go u => exact ⟨h5.1, by simp only [tot]; omega⟩
theorem sz_list {sz : α → Int → Option Int} {wt : α → Nat} {l : List α} {s : Int} {f : Nat → α → Int → Option (Lp Int Int)} (hf : ∀ i y s, f i y s = bd (sz y s) fun t => bif decide (t < 0) then some (.rt (-1)) else some (.nx t))
    (h : ∀ y ∈ l, ∀ s : Int, 0 ≤ s → s ≤ 1048576 → ∃ t, sz y s = some t ∧ (t < 0 ∨ t + wt y = s)) (hl : l.length ≤ 9223372036854775807) (h0 : 0 ≤ s) (h1 : s ≤ 1048576) :
    ∃ r, (bif (decide ((wr (s - (len l))) < 0)) then some (-1) else bdR (forL (S := Int) (X := Int) l f (wr (s - (len l)))) (fun s => some s) (fun x => some x)) = some r ∧ (r < 0 ∨ r + (l.length + tot wt l : Nat) = s) := by
  have e : f = fun _ y s => bd (sz y s) fun t => bif decide (t < 0) then some (.rt (-1)) else some (.nx t) := by funext i y s; exact hf i y s
  subst e
  rw [wr_of _ (by rw [len_eq]; omega) (by rw [len_eq]; omega)]
  by_cases hn : s - len l < 0
  · simp only [hn, decide_true, cond_true]
    exact ⟨_, rfl, .inl (by omega)⟩
  · simp only [hn, decide_false, cond_false]
    obtain ⟨q, h2, h3⟩ := sz_loop (l := l) (i := 0) (s := s - len l) h (by omega) (by rw [len_eq]; omega)
    unfold forL
    rw [h2]
    cases q with
    | rt v => simp only at h3; subst h3; exact ⟨-1, rfl, .inl (by omega)⟩
    | go t => exact ⟨t, rfl, .inr (by rw [len_eq] at h3; omega)⟩
/-- a copy, element by element -/
theorem to_list {f : Nat → α → List β → Option (Lp (List β) Empty)} {g : α → Option β} {h : α → β} {z : β} {l : List α} (hf : ∀ i y s, f i y s = bd (g y) fun r => bd (ix s (i : Int)) fun _ => bd (put s (i : Int) r) fun xs => some (.nx xs)) (hg : ∀ y ∈ l, g y = some (h y))
    (hl : l.length ≤ lim) : bd (mk2 z (len l) (len l)) (fun xs => bdR (forL (S := List β) (X := Empty) l f xs) (fun s => some s) (fun x => nomatch x)) = some (l.map h) := by
  rw [len_eq, mk2_ok hl, bd_some]
  obtain ⟨s', h1, h2, h3⟩ := forL_inv (X := Empty) (body := f) (fun i t => t = (l.take i).map h ++ List.replicate (l.length - i) z ∧ i ≤ l.length) (l := l) (s := List.replicate l.length z) (by simp) (fun i x t hx ht => by
    obtain ⟨rfl, _⟩ := ht
    have hi := (List.getElem?_eq_some_iff.1 hx).1
    have hm : x ∈ l := List.mem_of_getElem? hx
    have hlen : ((l.take i).map h ++ List.replicate (l.length - i) z).length = l.length := by simp; omega
    obtain ⟨u, hu, _⟩ := ix_of (xs := (l.take i).map h ++ List.replicate (l.length - i) z) (i := (i : Int)) (by omega) (by omega)
    refine ⟨_, by rw [hf, hg x hm, bd_some, hu, bd_some, put_ok (by omega)]; rfl, ?_, by omega⟩
    rw [List.set_append_right _ _ (by simp; omega), List.length_map, List.length_take, Nat.min_eq_left (by omega), Nat.sub_self]
    obtain ⟨m, hm'⟩ : ∃ m, l.length - i = m + 1 := ⟨l.length - i - 1, by omega⟩
    rw [hm', List.replicate_succ, List.set_cons_zero, List.take_add_one, hx]
    simp [show l.length - (i + 1) = m by omega])
  rw [h1]
  simp only [bdR_go, h2, List.take_length, Nat.sub_self, List.replicate_zero, List.append_nil]
/-- a datum against itself -/
theorem eq_list {f : Nat → α → Unit → Option (Lp Unit Bool)} {eq : α → α → Option Bool} {l : List α} (hf : ∀ i y u, f i y u = bd (ix l (i : Int)) fun x => bd (eq y x) fun r => bif !r then some (.rt false) else some (.nx ())) (he : ∀ y ∈ l, eq y y = some true) :
    (bif (!((len l) == (len l))) then some false else bdR (forL (S := Unit) (X := Bool) l f ()) (fun _ => some true) (fun x => some x)) = some true := by
  rw [forL_any (p := fun _ _ => false) (v := false) (fun i y hy => by
    rw [hf, ix_get, hy, bd_some, he y (List.mem_of_getElem? hy), bd_some]; rfl)]
  have : anyI (fun _ _ => false) l 0 = false := anyI_false.2 fun _ _ _ => rfl
  rw [this]; simp

theorem markFrom_len {F : α → Int → α × Int} : ∀ {l : List α} {k : Int}, (markFrom F l k).1.length = l.length := by
  intro l
  induction l with
  | nil => intro k; rfl
  | cons y l ih => intro k; simp [markFrom, ih]
theorem mark_end {F : α → Int → α × Int} {wt : α → Nat} : ∀ {l : List α} {k : Int}, (∀ y ∈ l, ∀ k : Int, 0 ≤ k → k + wt y ≤ 9223372036854775807 → (F y k).2 = k + wt y) → 0 ≤ k → k + tot wt l ≤ 9223372036854775807 → (markFrom F l k).2 = k + tot wt l := by
  intro l
  induction l with
  | nil => intro k _ _ _; simp [markFrom, tot]
  | cons y l ih =>
    intro k h h0 h1
    simp only [tot] at h1 ⊢
    have e := h y (by simp) k h0 (by omega)
    simp only [markFrom]
    rw [ih (fun z hz => h z (by simp [hz])) (by omega) (by omega), e]; omega
/-- what was marked is read back -/
theorem held_list {F : α → Int → α × Int} {wt : α → Nat} {f : Nat → α → Int → Option (Lp Int Int)} : ∀ {l : List α} {k : Int} {i : Nat}, (∀ y ∈ l, ∀ k : Int, 0 ≤ k → k + wt y ≤ 9223372036854775807 → (F y k).2 = k + wt y ∧ ∀ i, f i (F y k).1 k = some (.nx (F y k).2)) → 0 ≤ k → k + tot wt l ≤ 9223372036854775807 →
    forLFrom f (markFrom F l k).1 i k = some (.go (markFrom F l k).2) := by
  intro l
  induction l with
  | nil => intro k i _ _ _; rfl
  | cons y l ih =>
    intro k i h h0 h1
    simp only [tot] at h1
    obtain ⟨e, hb⟩ := h y (by simp) k h0 (by omega)
    simp only [markFrom, forLFrom, hb]
    exact ih (fun z hz => h z (by simp [hz])) (by omega) (by omega)
theorem forLFrom_nx {α S X : Type} {body : Nat → α → S → Option (Lp S X)} {a : α} {l : List α} {i : Nat} {s s' : S} (h : body i a s = some (.nx s')) : forLFrom body (a :: l) i s = forLFrom body l (i + 1) s' := by
  simp only [forLFrom, h]
theorem forLFrom_nil {α S X : Type} {body : Nat → α → S → Option (Lp S X)} {i : Nat} {s : S} : forLFrom body [] i s = some (.go s) := rfl
/-- 'for k := 0; k < len(xs); k++ { s = F(s, xs[k]) }' -/
theorem iter_foldI {σ : Type} {xs : List α} {body : σ × Int → Option (Lp (σ × Int) X)} {F : σ → α → σ} (I : Nat → σ → Prop) {s0 : σ} (h0 : I 0 s0)
    (h : ∀ (i : Nat) x s, xs[i]? = some x → I i s → body (s, (i : Int)) = some (.nx (F s x, (i : Int) + 1)) ∧ I (i + 1) (F s x)) (he : ∀ s, body (s, (xs.length : Int)) = some (.bk (s, (xs.length : Int)))) :
    iter body (s0, 0) = some (.go (xs.foldl F s0, (xs.length : Int))) ∧ I xs.length (xs.foldl F s0) := by
  have key : ∀ (m : List α) (k : Nat) (s : σ), k + m.length = xs.length → (∀ i y, m[i]? = some y → xs[k + i]? = some y) → I k s → iter body (s, (k : Int)) = some (.go (m.foldl F s, (xs.length : Int))) ∧ I xs.length (m.foldl F s) := by
    intro m
    induction m with
    | nil =>
      intro k s hk _ hI
      simp only [List.length_nil, Nat.add_zero] at hk
      subst hk
      exact ⟨iter_bk (he s), hI⟩
    | cons y m ih =>
      intro k s hk hm hI
      obtain ⟨h1, h2⟩ := h k y s (by have := hm 0 y rfl; simpa using this) hI
      rw [iter_nx h1]
      exact ih (k + 1) (F s y) (by simp at hk; omega) (fun i z hz => by have := hm (i + 1) z (by simpa using hz); rwa [show k + (i + 1) = k + 1 + i by omega] at this) h2
  have := key xs 0 s0 (by simp) (by simp) h0
  simpa using this
end
end Go.Pu
