/- Refutations, told by both sides. -/
import Derived.Test.YtjkhehplbjempaaGreatDoorBtPl9
set_option linter.unusedVariables false
namespace Go.PF
open Go.Pu
def refB (F : Cnf) (S : List ResStep) : Bool := derB F S && (decide (0 < len S) && match S[S.length - 1]? with | some x => len x.clause == 0 | none => false)
theorem ix_last {S : List ResStep} (hS : okL okResStep S) (h : 0 < S.length) : ∃ x, S[S.length - 1]? = some x ∧ ix S (wr (len S - 1)) = some x := by
  have hx : S[S.length - 1]? = some S[S.length - 1] := List.getElem?_eq_getElem (by omega)
  refine ⟨_, hx, ?_⟩
  have := hS.1
  rw [len_eq, wr_of _ (by omega) (by omega), show (S.length : Int) - 1 = ((S.length - 1 : Nat) : Int) by omega]
  exact ix_nat hx
theorem spec_ref {F : Cnf} {S : List ResStep} (hF : okCnf F) (hS : okL okResStep S) : spec_l7Refutes F S = some (refB F S) := by
  unfold spec_l7Refutes refB
  rw [spec_l7Good_eq hF hS, bd_some]
  by_cases h : 0 < S.length
  · obtain ⟨x, h1, h2⟩ := ix_last hS h
    rw [h1]
    simp only [spec_l7Last, h2, bd_some, show decide (0 < len S) = true by rw [len_eq, decide_eq_true_eq]; omega]
    cases derB F S <;> rfl
  · simp only [show decide (0 < len S) = false by rw [len_eq, decide_eq_false_iff_not]; omega]
    cases derB F S <;> rfl
theorem impl_ref {F : Cnf} {S : List ResStep} (hF : okCnf F) (hS : okL okResStep S) : impl_IsRefutation F S = some (refB F S) := by
  unfold impl_IsRefutation refB
  rw [impl_IsDerivation_eq hF hS, bd_some]
  by_cases h : 0 < S.length
  · obtain ⟨x, h1, h2⟩ := ix_last hS h
    rw [h1]
    simp only [impl_last_impl_ResStep, h2, bd_some, show decide (0 < len S) = true by rw [len_eq, decide_eq_true_eq]; omega]
    cases derB F S <;> rfl
  · simp only [show decide (0 < len S) = false by rw [len_eq, decide_eq_false_iff_not]; omega]
    cases derB F S <;> rfl
end Go.PF
