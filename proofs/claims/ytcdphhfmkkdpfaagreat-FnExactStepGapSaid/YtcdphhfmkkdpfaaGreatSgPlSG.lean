/- StepGap: the law. -/
import Derived.Test.YtcdphhfmkkdpfaaGreatSgPlTi
set_option linter.unusedVariables false
namespace Go.PF
open Go.Pu
def gapV (p : Int) (F : Cnf) (S : List ResStep) : Int × Bool := bif !(lenV p F S).2 then (0, false) else (wr ((lenV p F S).1 - len S), true)
theorem spec_TranslatedLen2_eq {p : Int} {F : Cnf} {S : List ResStep} (hF : okCnf F) (hS : okL okResStep S) : spec_TranslatedLength p F S = some (lenV p F S) := by
  unfold spec_TranslatedLength lenV
  rw [spec_l21Asked_eq hF hS, bd_some]
  cases h : askB p F S with
  | false => rfl
  | true =>
    obtain ⟨h1, h2⟩ := askB_iff h
    simp only [Bool.not_true, cond_false, cond_true]
    rw [spec_l21Translate_eq h1 h2, bd_some]
theorem impl_TranslatedLen2_eq {p : Int} {F : Cnf} {S : List ResStep} (hF : okCnf F) (hS : okL okResStep S) : impl_TranslatedLength p F S = some (lenV p F S) := by
  unfold impl_TranslatedLength lenV
  rw [impl_translate_eq hF hS, bd_some]
  cases askB p F S <;> rfl
theorem spec_StepGap_eq {p : Int} {F : Cnf} {S : List ResStep} (hF : okCnf F) (hS : okL okResStep S) : spec_StepGap p F S = some (gapV p F S) := by
  unfold spec_StepGap gapV
  rw [spec_TranslatedLen2_eq hF hS, bd_some]
  cases (lenV p F S).2 <;> rfl
theorem impl_StepGap_eq {p : Int} {F : Cnf} {S : List ResStep} (hF : okCnf F) (hS : okL okResStep S) : impl_StepGap p F S = some (gapV p F S) := by
  unfold impl_StepGap gapV
  rw [impl_TranslatedLen2_eq hF hS, bd_some]
  cases (lenV p F S).2 <;> rfl
theorem plain_StepGap (a0 : Int) (a1 : Cnf) (a2 : List ResStep) (o : okI a0) (o0 : okCnf a1) (o1 : okL okResStep a2) : laws_FnExactStepGap a0 a1 a2 = some true := by
  unfold laws_FnExactStepGap
  obtain ⟨r0, q0, z0⟩ := sz_Cnf o0 (s := 1048576) (by omega) (by omega)
  rw [q0, bd_some]
  by_cases n0 : r0 < 0
  · simp [n0]
  obtain ⟨r1, q1, z1⟩ := sz_ResStepS o1 (s := r0) (by omega) (by omega)
  simp only [n0, decide_false, cond_false]
  rw [q1, bd_some]
  by_cases n1 : r1 < 0
  · simp [n1]
  simp only [n1, decide_false, cond_false]
  have t0 := to_Cnf (a := a1) (by unfold lim; omega)
  have t1 := to_ResStepS (a := a2) (by unfold lim; omega)
  simp only [t0, t1, spec_StepGap_eq o0 o1, impl_StepGap_eq o0 o1, bd_some, eq_ResStepS, eq_Cnf, BEq.rfl, Bool.not_true, cond_false]
end Go.PF
