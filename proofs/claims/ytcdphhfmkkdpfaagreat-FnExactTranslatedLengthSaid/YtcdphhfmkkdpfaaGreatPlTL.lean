/- TranslatedLength: the law. -/
import Derived.Test.YtcdphhfmkkdpfaaGreatPlTi
set_option linter.unusedVariables false
namespace Go.PF
open Go.Pu
theorem plain_TranslatedLength (a0 : Int) (a1 : Cnf) (a2 : List ResStep) (o : okI a0) (o0 : okCnf a1) (o1 : okL okResStep a2) : laws_FnExactTranslatedLength a0 a1 a2 = some true := by
  unfold laws_FnExactTranslatedLength
  obtain ⟨r0, q0, z0⟩ := sz_Cnf o0 (s := 1048576) (by omega) (by omega)
  rw [q0, bd_some]
  by_cases n0 : r0 < 0
  · simp [n0]
  obtain ⟨r1, q1, z1⟩ := sz_ResStepS o1 (s := r0) (by omega) (by omega)
  simp only [n0, decide_false, cond_false]
  rw [q1, bd_some]
  by_cases n1 : r1 < 0
  · simp [n1]
  simp only [n1, decide_false, cond_false]
  have t0 := to_Cnf (a := a1) (by unfold lim; omega)
  have t1 := to_ResStepS (a := a2) (by unfold lim; omega)
  simp only [t0, t1, spec_TranslatedLength_eq o0 o1, impl_TranslatedLength_eq o0 o1, bd_some, eq_ResStepS, eq_Cnf, BEq.rfl, Bool.not_true, cond_false]
end Go.PF
