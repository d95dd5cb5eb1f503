/- Sets of ints as ascending lists; the pivots of a proof. -/
import Derived.Test.YtjkhehplbjempaaGreatDoorDtPl6
namespace Go.PF
open Go.Pu

abbrev Asc (c : List Int) : Prop := c.Pairwise fun a b => a < b
theorem asc_unique : ∀ {a b : List Int}, Asc a → Asc b → (∀ x, x ∈ a ↔ x ∈ b) → a = b := by
  intro a
  induction a with
  | nil =>
    intro b _ _ h
    cases b with
    | nil => rfl
    | cons y b => exact absurd ((h y).2 (by simp)) (by simp)
  | cons x a ih =>
    intro b ha hb h
    cases b with
    | nil => exact absurd ((h x).1 (by simp)) (by simp)
    | cons y b =>
      obtain ⟨a1, a2⟩ := List.pairwise_cons.1 ha
      obtain ⟨b1, b2⟩ := List.pairwise_cons.1 hb
      have hxy : x = y := by
        rcases List.mem_cons.1 ((h x).1 (by simp)) with e | e
        · exact e
        · rcases List.mem_cons.1 ((h y).2 (by simp)) with e' | e'
          · exact e'.symm
          · have := b1 x e; have := a1 y e'; omega
      subst hxy
      rw [ih a2 b2 fun z => ?_]
      constructor
      · intro hz
        rcases List.mem_cons.1 ((h z).1 (by simp [hz])) with e | e
        · subst e; have := a1 z hz; omega
        · exact e
      · intro hz
        rcases List.mem_cons.1 ((h z).2 (by simp [hz])) with e | e
        · subst e; have := b1 z hz; omega
        · exact e
theorem asc_len : ∀ {c : List Int} {lo hi : Int}, Asc c → (∀ x ∈ c, lo < x ∧ x ≤ hi) → (c.length : Int) ≤ max 0 (hi - lo) := by
  intro c
  induction c with
  | nil => intro lo hi _ _; simp only [List.length_nil]; omega
  | cons a c ih =>
    intro lo hi h hl
    obtain ⟨h1, h2⟩ := List.pairwise_cons.1 h
    have ha := hl a (by simp)
    have := ih (lo := a) (hi := hi) h2 fun x hx => ⟨h1 x hx, (hl x (by simp [hx])).2⟩
    simp only [List.length_cons]; omega
/-- the set of some ints -/
def setI (xs : List Int) : List Int := compactL (xs.mergeSort fun x y => decide (x ≤ y))
theorem setI_mem {xs : List Int} {x : Int} : x ∈ setI xs ↔ x ∈ xs := by unfold setI; rw [compactL_mem, List.mem_mergeSort]
theorem setI_asc (xs : List Int) : Asc (setI xs) := by
  unfold setI
  have h := List.pairwise_mergeSort (le := fun x y : Int => decide (x ≤ y)) (fun a b c h1 h2 => by simp only [decide_eq_true_eq] at *; omega) (fun a b => by simp only [Bool.or_eq_true, decide_eq_true_eq]; omega) xs
  have h' : (xs.mergeSort fun x y => decide (x ≤ y)).Pairwise fun a b => a ≤ b := h.imp fun h => of_decide_eq_true h
  exact (compactL_strict (fun a b h1 h2 => by omega) h').imp fun h => by have := h.1; have := h.2; omega
/-- one more -/
def putI (c : List Int) (n : Int) : List Int := if n ∈ c then c else c.takeWhile (fun y => decide (y < n)) ++ n :: c.dropWhile (fun y => decide (y < n))
theorem asc_at {c : List Int} {n : Int} (hc : Asc c) : (match c[(c.takeWhile (fun y => decide (y < n))).length]? with | some x => x == n | none => false) = decide (n ∈ c) := by
  induction c with
  | nil => rfl
  | cons y c ih =>
    obtain ⟨h1, h2⟩ := List.pairwise_cons.1 hc
    rw [List.takeWhile_cons]
    by_cases hy : y < n
    · simp only [hy, decide_true, if_true, List.length_cons, List.getElem?_cons_succ]
      rw [ih h2]
      have : ¬ n = y := by omega
      simp [this]
    · simp only [hy, decide_false, Bool.false_eq_true, if_false, List.length_nil, List.getElem?_cons_zero]
      rw [Bool.eq_iff_iff, beq_iff_eq, decide_eq_true_eq, List.mem_cons]
      constructor
      · intro e; exact .inl e.symm
      · rintro (e | e)
        · exact e.symm
        · have := h1 n e; omega
theorem putI_length (c : List Int) (n : Int) : (putI c n).length ≤ c.length + 1 := by
  unfold putI
  split
  · omega
  · have := congrArg List.length (List.takeWhile_append_dropWhile (p := fun y => decide (y < n)) (l := c))
    simp only [List.length_append, List.length_cons] at this ⊢; omega
theorem putI_mem {c : List Int} {n x : Int} : x ∈ putI c n ↔ x = n ∨ x ∈ c := by
  unfold putI
  split
  · rename_i h
    constructor
    · exact .inr
    · rintro (rfl | h') <;> assumption
  · have h := List.takeWhile_append_dropWhile (p := fun y => decide (y < n)) (l := c)
    have : x ∈ c ↔ x ∈ c.takeWhile (fun y => decide (y < n)) ∨ x ∈ c.dropWhile (fun y => decide (y < n)) := by rw [← List.mem_append, h]
    rw [this, List.mem_append, List.mem_cons]
    constructor
    · rintro (h | h | h)
      · exact .inr (.inl h)
      · exact .inl h
      · exact .inr (.inr h)
    · rintro (h | h | h)
      · exact .inr (.inl h)
      · exact .inl h
      · exact .inr (.inr h)
theorem putI_asc {c : List Int} {n : Int} (hc : Asc c) : Asc (putI c n) := by
  by_cases hn : n ∈ c
  · unfold putI; rw [if_pos hn]; exact hc
  · have e : putI c n = c.takeWhile (fun y => decide (y < n)) ++ n :: c.dropWhile (fun y => decide (y < n)) := by unfold putI; rw [if_neg hn]
    rw [e]
    clear e
    induction c with
    | nil => simp
    | cons y c ih =>
      obtain ⟨h1, h2⟩ := List.pairwise_cons.1 hc
      have hn' : n ∉ c := fun h => hn (by simp [h])
      have hyn : n ≠ y := fun e => hn (by simp [e])
      rw [List.takeWhile_cons, List.dropWhile_cons]
      by_cases hy : y < n
      · simp only [hy, decide_true, if_true, List.cons_append]
        have hmem : ∀ x, x ∈ c.takeWhile (fun y => decide (y < n)) ++ n :: c.dropWhile (fun y => decide (y < n)) → x = n ∨ x ∈ c := fun x hx => by
          have := (putI_mem (c := c) (n := n) (x := x)).1 (by unfold putI; rw [if_neg hn']; exact hx)
          exact this
        refine List.pairwise_cons.2 ⟨fun x hx => ?_, ih h2 hn'⟩
        rcases hmem x hx with rfl | hx
        · exact hy
        · exact h1 x hx
      · simp only [hy, decide_false, Bool.false_eq_true, if_false, List.nil_append]
        refine List.pairwise_cons.2 ⟨fun x hx => ?_, hc⟩
        rcases List.mem_cons.1 hx with rfl | hx
        · omega
        · have := h1 x hx; omega
/-- put one by one is the set -/
theorem putI_fold : ∀ {ys c : List Int}, Asc c → Asc (ys.foldl putI c) ∧ (∀ x, x ∈ ys.foldl putI c ↔ x ∈ c ∨ x ∈ ys) ∧ (ys.foldl putI c).length ≤ c.length + ys.length := by
  intro ys
  induction ys with
  | nil => intro c hc; exact ⟨hc, by simp, by simp⟩
  | cons y ys ih =>
    intro c hc
    obtain ⟨h1, h2, h3⟩ := ih (putI_asc (n := y) hc)
    have := putI_length c y
    refine ⟨h1, fun x => ?_, by simp only [List.foldl_cons, List.length_cons]; omega⟩
    rw [List.foldl_cons, h2, putI_mem, List.mem_cons]
    constructor
    · rintro ((h | h) | h)
      · exact .inr (.inl h)
      · exact .inl h
      · exact .inr (.inr h)
    · rintro (h | h | h)
      · exact .inl (.inr h)
      · exact .inl (.inl h)
      · exact .inr h
theorem putI_set (ys : List Int) : ys.foldl putI [] = setI ys := by
  obtain ⟨h1, h2, _⟩ := putI_fold (ys := ys) (c := []) (by simp)
  exact asc_unique h1 (setI_asc _) fun x => by rw [h2, setI_mem]; simp
def prem (x : ResStep) : List Int := bif decide (x.left < 0) then [] else bif decide (0 ≤ x.left) && decide (0 ≤ x.right) then [x.left, x.right] else [x.left]
theorem prem_len (x : ResStep) : (prem x).length ≤ 2 := by
  unfold prem
  cases decide (x.left < 0) <;> cases (decide (0 ≤ x.left) && decide (0 ≤ x.right)) <;> simp
theorem IsD.prem {F : Cnf} {S : List ResStep} (h : IsD F S) {i : Nat} {x : ResStep} (hx : S[i]? = some x) : ∀ k ∈ prem x, 0 ≤ k ∧ k < i := by
  intro k hk
  unfold PF.prem at hk
  have hb := h.before hx
  by_cases h1 : x.left < 0
  · simp [h1] at hk
  · have h0 : 0 ≤ x.left := by omega
    obtain ⟨b1, b2⟩ := hb h0
    by_cases h2 : 0 ≤ x.right
    · simp only [h1, decide_false, cond_false, h0, h2, decide_true, Bool.and_true, cond_true, List.mem_cons, List.not_mem_nil, or_false] at hk
      rcases hk with rfl | rfl
      · omega
      · have := b2 h2; omega
    · simp only [h1, decide_false, cond_false, h0, h2, decide_true, Bool.and_false, List.mem_cons, List.not_mem_nil, or_false] at hk
      rw [hk]; omega
end Go.PF
