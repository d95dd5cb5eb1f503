/- IsRegularProof: the law. -/
import Derived.Test.YtgkmebdjookgnaaGreatPl12
namespace Go.PF
open Go.Pu
def regV (F : Cnf) (S : List ResStep) : Bool × Bool := bif proofB F S then (decide (irrV S < 0), true) else (false, false)
theorem spec_IsRegularProof_eq {F : Cnf} {S : List ResStep} (hF : okCnf F) (hS : okL okResStep S) : spec_IsRegularProof F S = some (regV F S) := by
  unfold spec_IsRegularProof regV
  rw [spec_l8Takes_eq hF hS, bd_some]
  cases h : proofB F S with
  | false => rfl
  | true =>
    obtain ⟨hD, h0⟩ := proofB_iff h
    simp only [Bool.not_true, cond_false, cond_true]
    rw [spec_l8Irregular_eq hD h0, bd_some]
theorem impl_IsRegularProof_eq {F : Cnf} {S : List ResStep} (hF : okCnf F) (hS : okL okResStep S) : impl_IsRegularProof F S = some (regV F S) := by
  unfold impl_IsRegularProof regV
  rw [impl_isProof_eq hF hS, bd_some]
  cases h : proofB F S with
  | false => rfl
  | true =>
    obtain ⟨hD, h0⟩ := proofB_iff h
    simp only [Bool.not_true, cond_false, cond_true]
    rw [impl_firstIrregular_eq hD, bd_some]
theorem plain_IsRegularProof (a0 : Cnf) (a1 : List ResStep) (o0 : okCnf a0) (o1 : okL okResStep a1) : laws_FnExactIsRegularProof a0 a1 = some true := by
  unfold laws_FnExactIsRegularProof
  obtain ⟨r0, q0, z0⟩ := sz_Cnf o0 (s := 1048576) (by omega) (by omega)
  rw [q0, bd_some]
  by_cases n0 : r0 < 0
  · simp [n0]
  obtain ⟨r1, q1, z1⟩ := sz_ResStepS o1 (s := r0) (by omega) (by omega)
  simp only [n0, decide_false, cond_false]
  rw [q1, bd_some]
  by_cases n1 : r1 < 0
  · simp [n1]
  simp only [n1, decide_false, cond_false]
  have t0 := to_Cnf (a := a0) (by unfold lim; omega)
  have t1 := to_ResStepS (a := a1) (by unfold lim; omega)
  have hs := spec_IsRegularProof_eq o0 o1
  have hi := impl_IsRegularProof_eq o0 o1
  simp only [t0, t1, hs, hi, bd_some, eq_ResStepS, eq_Cnf, BEq.rfl, Bool.not_true, cond_false, bif_tt, Bool.or_false]
end Go.PF
