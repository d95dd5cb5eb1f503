/- Clauses in order: places in a sorted list, binary search, insertion. -/
import Derived.Test.YtmpfnnkmplkfoaaGreatCrPlCl
set_option linter.unusedVariables false
namespace Go.PF
open Go.Pu
theorem bsearch {X : Type} {body : Int × Int → Option (Lp (Int × Int) X)} {n P : Nat} (hP : P ≤ n)
    (h : ∀ a b : Nat, a < b → b ≤ n → body ((a : Int), (b : Int)) = some (.nx (if (a + b) / 2 < P then ((((a + b) / 2 + 1 : Nat) : Int), (b : Int)) else ((a : Int), (((a + b) / 2 : Nat) : Int)))))
    (he : ∀ a : Nat, a ≤ n → body ((a : Int), (a : Int)) = some (.bk ((a : Int), (a : Int)))) :
    iter body (0, (n : Int)) = some (.go ((P : Int), (P : Int))) := by
  have key : ∀ (m a b : Nat), b - a ≤ m → a ≤ P → P ≤ b → b ≤ n → iter body ((a : Int), (b : Int)) = some (.go ((P : Int), (P : Int))) := by
    intro m
    induction m with
    | zero =>
      intro a b hm h1 h2 h3
      have e1 : a = P := by omega
      have e2 : b = P := by omega
      rw [e1, e2]; exact iter_bk (he _ hP)
    | succ m ih =>
      intro a b hm h1 h2 h3
      by_cases hab : a < b
      · rw [iter_nx (h a b hab h3)]
        by_cases hc : (a + b) / 2 < P
        · rw [if_pos hc]; exact ih _ _ (by omega) (by omega) h2 h3
        · rw [if_neg hc]; exact ih _ _ (by omega) h1 (by omega) (by omega)
      · have e1 : a = P := by omega
        have e2 : b = P := by omega
        rw [e1, e2]; exact iter_bk (he _ hP)
  have := key n 0 n (by omega) (by omega) hP (Nat.le_refl _)
  simpa using this
/-- how many clauses of a list are ahead of one -/
def plc (xs : List (List Int)) (c : List Int) : Nat := (xs.takeWhile fun a => decide (cmpC a c < 0)).length
theorem plc_le (xs : List (List Int)) (c : List Int) : plc xs c ≤ xs.length := (List.takeWhile_prefix _).length_le
theorem plc_lt : ∀ {xs : List (List Int)} {c : List Int}, SrtC xs → ∀ {i : Nat} {x : List Int}, xs[i]? = some x → (cmpC x c < 0 ↔ i < plc xs c)
  | [], _, _, _, _, h => by simp at h
  | a :: xs, c, hs, i, x, h => by
    obtain ⟨a1, a2⟩ := List.pairwise_cons.1 hs
    unfold plc
    rw [List.takeWhile_cons]
    by_cases hc : cmpC a c < 0
    · rw [if_pos (by simp [hc])]
      cases i with
      | zero => simp at h; subst h; simp [hc]
      | succ i =>
        rw [List.getElem?_cons_succ] at h
        have := plc_lt a2 (c := c) h
        unfold plc at this
        rw [this, List.length_cons]; omega
    · rw [if_neg (by simp [hc])]
      cases i with
      | zero => simp at h; subst h; simp [hc]
      | succ i =>
        rw [List.getElem?_cons_succ] at h
        exact ⟨fun h1 => absurd (cmpC_trans (a1 x (List.mem_of_getElem? h)) h1) hc, fun h1 => absurd h1 (by simp)⟩
theorem plc_mem {xs : List (List Int)} {c : List Int} (hs : SrtC xs) : c ∈ xs ↔ xs[plc xs c]? = some c := by
  constructor
  · intro h
    obtain ⟨i, hi⟩ := List.mem_iff_getElem?.1 h
    have h1 : ¬ i < plc xs c := fun h => cmpC_irrefl c ((plc_lt hs hi).2 h)
    by_cases h2 : plc xs c < i
    · have hil : i < xs.length := (List.getElem?_eq_some_iff.1 hi).1
      obtain ⟨x, hx⟩ : ∃ x, xs[plc xs c]? = some x := ⟨_, List.getElem?_eq_getElem (by omega)⟩
      have h3 := List.pairwise_iff_getElem.1 hs (plc xs c) i (by omega) hil h2
      rw [List.getElem?_eq_some_iff] at hx hi
      obtain ⟨_, hx⟩ := hx
      obtain ⟨_, hi⟩ := hi
      rw [hx, hi] at h3
      exact absurd ((plc_lt hs (List.getElem?_eq_some_iff.2 ⟨_, hx⟩)).1 h3) (Nat.lt_irrefl _)
    · rw [show plc xs c = i by omega]; exact hi
  · exact fun h => List.mem_of_getElem? h
def insC (xs : List (List Int)) (c : List Int) : List (List Int) := xs.take (plc xs c) ++ c :: xs.drop (plc xs c)
theorem insC_mem {xs : List (List Int)} {c x : List Int} : x ∈ insC xs c ↔ x = c ∨ x ∈ xs := by
  unfold insC
  have e := List.take_append_drop (plc xs c) xs
  constructor
  · intro h
    rcases List.mem_append.1 h with h | h
    · exact .inr (List.mem_of_mem_take h)
    · rcases List.mem_cons.1 h with h | h
      · exact .inl h
      · exact .inr (List.mem_of_mem_drop h)
  · rintro (rfl | h)
    · simp
    · rw [← e] at h
      rcases List.mem_append.1 h with h | h
      · exact List.mem_append_left _ h
      · exact List.mem_append_right _ (List.mem_cons_of_mem _ h)
theorem insC_len (xs : List (List Int)) (c : List Int) : (insC xs c).length = xs.length + 1 := by
  unfold insC; simp; have := plc_le xs c; omega
theorem insC_srt {xs : List (List Int)} {c : List Int} (hs : SrtC xs) (hc : c ∉ xs) : SrtC (insC xs c) := by
  have hlt : ∀ x ∈ xs.take (plc xs c), cmpC x c < 0 := fun x hx => by
    obtain ⟨i, hi⟩ := List.mem_iff_getElem?.1 hx
    have hl : i < plc xs c := by
      have := (List.getElem?_eq_some_iff.1 hi).1
      rw [List.length_take] at this; omega
    rw [List.getElem?_take_of_lt hl] at hi
    exact (plc_lt hs hi).2 hl
  have hgt : ∀ x ∈ xs.drop (plc xs c), cmpC c x < 0 := fun x hx => by
    obtain ⟨i, hi⟩ := List.mem_iff_getElem?.1 hx
    rw [List.getElem?_drop] at hi
    have h1 : ¬ cmpC x c < 0 := fun h => absurd ((plc_lt hs hi).1 h) (by omega)
    by_cases h2 : cmpC c x < 0
    · exact h2
    · exact absurd (by rw [cmpC_total h2 h1]; exact List.mem_of_getElem? hi) hc
  unfold insC SrtC
  rw [List.pairwise_append, List.pairwise_cons]
  refine ⟨hs.sublist (List.take_sublist _ _), ⟨hgt, hs.sublist (List.drop_sublist _ _)⟩, fun a ha b hb => ?_⟩
  rcases List.mem_cons.1 hb with rfl | hb
  · exact hlt a ha
  · exact cmpC_trans (hlt a ha) (hgt b hb)
/-- one more clause, once -/
def putC (xs : List (List Int)) (c : List Int) : List (List Int) := bif xs.contains c then xs else insC xs c
theorem putC_mem {xs : List (List Int)} {c x : List Int} : x ∈ putC xs c ↔ x = c ∨ x ∈ xs := by
  unfold putC
  cases h : xs.contains c with
  | true =>
    simp only [cond_true]
    rw [List.contains_iff_mem] at h
    exact ⟨.inr, fun h1 => h1.elim (fun h2 => by rw [h2]; exact h) id⟩
  | false => exact insC_mem
theorem putC_srt {xs : List (List Int)} {c : List Int} (hs : SrtC xs) : SrtC (putC xs c) := by
  unfold putC
  cases h : xs.contains c with
  | true => exact hs
  | false => exact insC_srt hs (fun h1 => by rw [← List.contains_iff_mem, h] at h1; cases h1)
theorem putC_len (xs : List (List Int)) (c : List Int) : (putC xs c).length ≤ xs.length + 1 := by
  unfold putC
  cases h : xs.contains c with
  | true => exact Nat.le_succ _
  | false => exact Nat.le_of_eq (insC_len xs c)
end Go.PF
