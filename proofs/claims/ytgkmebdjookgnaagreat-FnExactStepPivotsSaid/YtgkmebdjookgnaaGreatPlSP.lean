/- StepPivots: the law. -/
import Derived.Test.YtgkmebdjookgnaaGreatPl9
namespace Go.PF
open Go.Pu

def stepPivV (F : Cnf) (S : List ResStep) : List (List Int) × Bool := bif proofB F S then (pivL S, true) else ([], false)
theorem spec_StepPivots_eq {F : Cnf} {S : List ResStep} (hF : okCnf F) (hS : okL okResStep S) : spec_StepPivots F S = some (stepPivV F S) := by
  unfold spec_StepPivots stepPivV
  rw [spec_l8Takes_eq hF hS, bd_some]
  cases h : proofB F S with
  | false => rfl
  | true =>
    have hD : IsD F S := derB_iff.1 (by unfold proofB at h; rw [Bool.and_eq_true] at h; exact h.1)
    simp only [Bool.not_true, cond_false, cond_true]
    rw [(spec_l8Pivots_eq hD).1, bd_some]
theorem impl_StepPivots_eq {F : Cnf} {S : List ResStep} (hF : okCnf F) (hS : okL okResStep S) : impl_StepPivots F S = some (stepPivV F S) := by
  unfold impl_StepPivots stepPivV
  rw [impl_isProof_eq hF hS, bd_some]
  cases h : proofB F S with
  | false => rfl
  | true =>
    have hD : IsD F S := derB_iff.1 (by unfold proofB at h; rw [Bool.and_eq_true] at h; exact h.1)
    simp only [Bool.not_true, cond_false, cond_true]
    rw [impl_stepPivots_eq hD, bd_some]
theorem tot_le {A : Type} {wt : A → Nat} {n : Nat} : ∀ {l : List A}, (∀ x ∈ l, wt x ≤ n) → tot wt l ≤ n * l.length := by
  intro l
  induction l with
  | nil => intro _; simp [tot]
  | cons x l ih =>
    intro h
    have h1 := h x (by simp); have h2 := ih fun y hy => h y (by simp [hy])
    simp only [tot, List.length_cons, Nat.mul_add, Nat.mul_one]; omega
theorem stepPivV_small {F : Cnf} {S : List ResStep} : tot wIntS (stepPivV F S).1 ≤ 10000 := by
  unfold stepPivV
  cases h : proofB F S with
  | false => simp [tot]
  | true =>
    have hD : IsD F S := derB_iff.1 (by unfold proofB at h; rw [Bool.and_eq_true] at h; exact h.1)
    have hP := (spec_l8Pivots_eq hD).2
    have hS := hD.le
    have := tot_le (wt := wIntS) (n := 12) (l := pivL S) fun y hy => by
      have := asc_len (lo := 0) (hi := 12) (hP.asc y hy) fun x hx => by have := hP.sm y hy x hx; omega
      unfold wIntS; omega
    rw [hP.len] at this
    simp only [cond_true]; omega

theorem plain_StepPivots (a0 : Cnf) (a1 : List ResStep) (o0 : okCnf a0) (o1 : okL okResStep a1) : laws_FnExactStepPivots a0 a1 = some true := by
  unfold laws_FnExactStepPivots
  obtain ⟨r0, q0, z0⟩ := sz_Cnf o0 (s := 1048576) (by omega) (by omega)
  rw [q0, bd_some]
  by_cases n0 : r0 < 0
  · simp [n0]
  obtain ⟨r1, q1, z1⟩ := sz_ResStepS o1 (s := r0) (by omega) (by omega)
  simp only [n0, decide_false, cond_false]
  rw [q1, bd_some]
  by_cases n1 : r1 < 0
  · simp [n1]
  simp only [n1, decide_false, cond_false]
  have t0 := to_Cnf (a := a0) (by unfold lim; omega)
  have t1 := to_ResStepS (a := a1) (by unfold lim; omega)
  have hs := spec_StepPivots_eq o0 o1
  have hi := impl_StepPivots_eq o0 o1
  have hm := stepPivV_small (F := a0) (S := a1)
  generalize stepPivV a0 a1 = g at hs hi hm
  have w0 : tot wIntS a0.clauses ≤ 1048576 := by unfold wCnf wIntSS at z0; omega
  have w1 := mResStep_le (a := a1) (by omega)
  have m0 := mark_Cnf (a := a0) (k := 1) (by omega) (by unfold big; omega)
  have m1 := mark_ResStepS (a := a1) (k := (laws_markCnf a0 1).2) (by omega) (by unfold big; omega)
  have mg := mark_IntSS (a := g.1) (k := 1) (by omega) (by unfold big; omega)
  have hg := held_IntSS (a := g.1) (k := 1) (by omega) (by unfold big; omega)
  have d1 : decide ((laws_markResStepS a1 (laws_markCnf a0 1).2).2 < 0) = false := by rw [decide_eq_false_iff_not]; omega
  have d2 : decide ((laws_markIntSS g.1 1).2 < 0) = false := by rw [decide_eq_false_iff_not]; omega
  simp only [t0, t1, hs, hi, hg, d1, d2, bd_some, eq_ResStepS, eq_Cnf, eq_IntSS, BEq.rfl, Bool.not_true, cond_false, bif_tt, Bool.or_false]
end Go.PF
