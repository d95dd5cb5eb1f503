/- Derivations of the polynomial calculus: both sides find the same ones right. -/
import Derived.Test.YtjpjbfbloplacaaGreatItPlPc
set_option linter.unusedVariables false
namespace Go.PF
open Go.Pu
theorem okPs_of {S : List PcStep} (h : okL okPcStep S) : okPs S := ⟨h.1, fun s hs => (h.2 s hs).2.1.1⟩
noncomputable def pcdB (p : Int) (F : Cnf) (S : List PcStep) : Bool := decide (len S ≤ 300) && !anyI (fun i s => !pcB p F S i s) S 0
theorem spec_l20Wrong_eq {p : Int} {F : Cnf} (h : PV p F.vars) (hF : cnfB F = true) {S : List PcStep} (hS : okPs S) : ∃ r, spec_l20Wrong p F S = some r ∧ decide (r < 0) = !anyI (fun i s => !pcB p F S i s) S 0 := by
  unfold spec_l20Wrong
  rw [forL_find (p := fun i s => !pcB p F S i s) (v := fun i _ => (i : Int)) (fun i y hy => by rw [spec_l20Correct_eq h hF hS hy, bd_some])]
  cases hf : findI (fun i s => !pcB p F S i s) S 0 with
  | none => exact ⟨-1, rfl, by rw [findI_none.1 hf]; rfl⟩
  | some z =>
    obtain ⟨_, _, _, h4⟩ := findI_some hf
    exact ⟨_, rfl, by rw [h4]; simp⟩
theorem spec_l20Good_eq {p : Int} {F : Cnf} {S : List PcStep} (hF : okCnf F) (hS : okPs S) : spec_l20Good p F S = some (algB p F && pcdB p F S) := by
  unfold spec_l20Good pcdB
  rw [spec_l20Asked_eq hF, bd_some]
  cases ha : algB p F with
  | false => rfl
  | true =>
    unfold algB at ha
    have ha1 := (Bool.and_eq_true _ _).mp ha
    have h := pvB_iff.1 ha1.1
    obtain ⟨r, r1, r2⟩ := spec_l20Wrong_eq h ha1.2 hS
    simp only [cond_true, Bool.true_and]
    cases decide (len S ≤ 300) with
    | false => rfl
    | true => simp only [cond_true, r1, bd_some, r2, Bool.true_and]
theorem impl_firstWrongPc_eq {p : Int} {F : Cnf} (h : PV p F.vars) (hF : cnfB F = true) {S : List PcStep} (hS : okPs S) : ∃ r, impl_algebra_firstWrongPc (alg p F) S = some r ∧ decide (r < 0) = !anyI (fun i s => !pcB p F S i s) S 0 := by
  unfold impl_algebra_firstWrongPc
  rw [forL_find (p := fun i s => !pcB p F S i s) (v := fun i _ => (i : Int)) (fun i y hy => by rw [impl_pcCorrect_eq h hF hS hy, bd_some])]
  cases hf : findI (fun i s => !pcB p F S i s) S 0 with
  | none => exact ⟨-1, rfl, by rw [findI_none.1 hf]; rfl⟩
  | some z =>
    obtain ⟨_, _, _, h4⟩ := findI_some hf
    exact ⟨_, rfl, by rw [h4]; simp⟩
theorem impl_pcDerivation_eq {p : Int} {F : Cnf} (ha : algB p F = true) {S : List PcStep} (hS : okPs S) : impl_algebra_pcDerivation (alg p F) S = some (pcdB p F S) := by
  unfold algB at ha
  have ha1 := (Bool.and_eq_true _ _).mp ha
  have h := pvB_iff.1 ha1.1
  obtain ⟨r, r1, r2⟩ := impl_firstWrongPc_eq h ha1.2 hS
  unfold impl_algebra_pcDerivation pcdB
  cases decide (len S ≤ 300) with
  | false => rfl
  | true => simp only [cond_true, r1, bd_some, r2, Bool.true_and]
end Go.PF
