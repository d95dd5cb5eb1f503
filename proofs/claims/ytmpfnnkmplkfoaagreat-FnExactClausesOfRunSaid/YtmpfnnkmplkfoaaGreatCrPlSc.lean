/- Clauses sorted, and each once. -/
import Derived.Test.YtmpfnnkmplkfoaaGreatCrPlCs
set_option linter.unusedVariables false
namespace Go.PF
open Go.Pu
theorem compG_srt {f : List Int → List Int → Option Bool} (hf : ∀ a b, f a b = some (a == b)) : ∀ {l : List (List Int)} {p : List Int}, (p :: l).Pairwise (fun x y => ¬ cmpC y x < 0) → ∃ r, compG f p l = some r ∧ SrtC (p :: r) ∧ ∀ x, x ∈ p :: r ↔ x ∈ p :: l := by
  intro l
  induction l with
  | nil => intro p _; exact ⟨[], rfl, List.pairwise_singleton _ _, fun _ => Iff.rfl⟩
  | cons y l ih =>
    intro p h
    obtain ⟨h1, h2⟩ := List.pairwise_cons.1 h
    unfold compG
    rw [hf, bd_some]
    by_cases e : y = p
    · subst e
      obtain ⟨r, a1, a2, a3⟩ := ih h2
      refine ⟨r, by rw [a1, bd_some, BEq.rfl]; rfl, a2, fun x => ?_⟩
      rw [a3, List.mem_cons, List.mem_cons, List.mem_cons]
      exact ⟨fun h => h.elim .inl fun h => .inr (.inr h), fun h => h.elim .inl id⟩
    · obtain ⟨r, a1, a2, a3⟩ := ih h2
      refine ⟨y :: r, by rw [a1, bd_some, show (y == p) = false by rw [beq_eq_false_iff_ne]; exact e]; rfl, ?_, fun x => ?_⟩
      · have hyp : cmpC p y < 0 := by
          by_cases h3 : cmpC p y < 0
          · exact h3
          · exact absurd (cmpC_total (h1 y (by simp)) h3) e
        refine List.pairwise_cons.2 ⟨fun z hz => ?_, a2⟩
        rcases List.mem_cons.1 hz with rfl | hz
        · exact hyp
        · exact cmpC_trans hyp ((List.pairwise_cons.1 a2).1 z hz)
      · rw [List.mem_cons, a3]; exact List.mem_cons.symm
theorem compF_srt {f : List Int → List Int → Option Bool} (hf : ∀ a b, f a b = some (a == b)) {l : List (List Int)} (h : l.Pairwise (fun x y => ¬ cmpC y x < 0)) : ∃ r, compF f l = some r ∧ SrtC r ∧ ∀ x, x ∈ r ↔ x ∈ l := by
  cases l with
  | nil => exact ⟨[], rfl, .nil, fun _ => Iff.rfl⟩
  | cons p l =>
    obtain ⟨r, h1, h2, h3⟩ := compG_srt hf h
    exact ⟨p :: r, by simp only [compF, h1, bd_some], h2, h3⟩
theorem sort_once {xs : List (List Int)} (hl : xs.length < lim) : ∃ s r, slices_SortFunc_LLint_Lint xs (fun x0 x1 => PF.impl_compareClauses x0 x1) = some s ∧ slices_CompactFunc_LLint_Lint s (fun x0 x1 => PF.slices_Equal_int_int x0 x1) = some r ∧ SrtC r ∧ ∀ x, x ∈ r ↔ x ∈ xs := by
  obtain ⟨r, h1, h2, h3⟩ := compF_srt (f := fun x0 x1 => PF.slices_Equal_int_int x0 x1) slices_Equal_int_int_eq (sorted_config xs)
  refine ⟨_, r, ?_, h1, h2, fun x => (h3 x).trans (List.mergeSort_perm _ _).mem_iff⟩
  unfold slices_SortFunc_LLint_Lint sortF
  rw [if_pos]
  exact ⟨cmpC, hl, fun x _ y _ => impl_compareClauses_eq x y, fun x _ => cmpC_irrefl x, fun x _ y _ z _ h1 h2 => cmpC_trans h1 h2, fun x _ y _ z _ h1 h2 => cmpC_ntrans h1 h2, fun x _ y _ h1 h2 => cmpC_total h1 h2⟩
end Go.PF
