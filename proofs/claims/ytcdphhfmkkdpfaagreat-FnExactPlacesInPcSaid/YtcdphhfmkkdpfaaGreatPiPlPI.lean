/- PlacesInPc: the law. -/
import Derived.Test.YtcdphhfmkkdpfaaGreatPiPlTi
set_option linter.unusedVariables false
namespace Go.PF
open Go.Pu
theorem trL_To {p : Int} {F : Cnf} {S : List ResStep} (h : PV p F.vars) (hD : IsD F S) : To p F.vars S.length (trL p F.vars S) := by
  have key : ∀ n, n ≤ S.length → To p F.vars n ((S.take n).foldl (trS p F.vars S) ([], [], [])) := by
    intro n
    induction n with
    | zero => intro _; exact To.nil
    | succ n ih =>
      intro hn
      have hx : S[n]? = some S[n] := List.getElem?_eq_getElem (by omega)
      rw [List.take_add_one, hx, List.foldl_append]
      exact trS_ok h hD hx (ih (by omega))
  have := key S.length (Nat.le_refl _)
  rwa [List.take_length] at this
def plV (p : Int) (F : Cnf) (S : List ResStep) : List Int × Bool := bif askB p F S then ((trL p F.vars S).1, true) else ([], false)
theorem plV_small {p : Int} {F : Cnf} {S : List ResStep} : (plV p F S).1.length ≤ 200 := by
  unfold plV
  cases h : askB p F S with
  | false => exact Nat.zero_le _
  | true =>
    obtain ⟨h1, h2⟩ := askB_iff h
    have := (trL_To h1 h2).len
    have := h2.le
    simp only [cond_true]
    omega
theorem spec_PlacesInPc_eq {p : Int} {F : Cnf} {S : List ResStep} (hF : okCnf F) (hS : okL okResStep S) : spec_PlacesInPc p F S = some (plV p F S) := by
  unfold spec_PlacesInPc plV
  rw [spec_l21Asked_eq hF hS, bd_some]
  cases h : askB p F S with
  | false => rfl
  | true =>
    obtain ⟨h1, h2⟩ := askB_iff h
    simp only [Bool.not_true, cond_false, cond_true]
    rw [spec_l21Translate_eq h1 h2, bd_some]
theorem impl_PlacesInPc_eq {p : Int} {F : Cnf} {S : List ResStep} (hF : okCnf F) (hS : okL okResStep S) : impl_PlacesInPc p F S = some (plV p F S) := by
  unfold impl_PlacesInPc plV
  rw [impl_translate_eq hF hS, bd_some]
  cases askB p F S <;> rfl
theorem plain_PlacesInPc (a0 : Int) (a1 : Cnf) (a2 : List ResStep) (o : okI a0) (o0 : okCnf a1) (o1 : okL okResStep a2) : laws_FnExactPlacesInPc a0 a1 a2 = some true := by
  unfold laws_FnExactPlacesInPc
  obtain ⟨r0, q0, z0⟩ := sz_Cnf o0 (s := 1048576) (by omega) (by omega)
  rw [q0, bd_some]
  by_cases n0 : r0 < 0
  · simp [n0]
  obtain ⟨r1, q1, z1⟩ := sz_ResStepS o1 (s := r0) (by omega) (by omega)
  simp only [n0, decide_false, cond_false]
  rw [q1, bd_some]
  by_cases n1 : r1 < 0
  · simp [n1]
  simp only [n1, decide_false, cond_false]
  have t0 := to_Cnf (a := a1) (by unfold lim; omega)
  have t1 := to_ResStepS (a := a2) (by unfold lim; omega)
  have hs := spec_PlacesInPc_eq (p := a0) o0 o1
  have hi := impl_PlacesInPc_eq (p := a0) o0 o1
  have hm := plV_small (p := a0) (F := a1) (S := a2)
  generalize plV a0 a1 a2 = g at hs hi hm
  have w0 : tot wIntS a1.clauses ≤ 1048576 := by unfold wCnf wIntSS at z0; omega
  have w1 := mResStep_le (a := a2) (by omega)
  have m0 := mark_Cnf (a := a1) (k := 1) (by omega) (by unfold big; omega)
  have m1 := mark_ResStepS (a := a2) (k := (laws_markCnf a1 1).2) (by omega) (by unfold big; omega)
  have mg := mark_IntS (a := g.1) (k := 1) (by omega) (by unfold big; omega)
  have hg := held_IntS (a := g.1) (k := 1) (by omega) (by unfold big; omega)
  have d1 : decide ((laws_markResStepS a2 (laws_markCnf a1 1).2).2 < 0) = false := by rw [decide_eq_false_iff_not]; omega
  have d2 : decide ((laws_markIntS g.1 1).2 < 0) = false := by rw [decide_eq_false_iff_not]; omega
  simp only [t0, t1, hs, hi, hg, d1, d2, bd_some, eq_ResStepS, eq_IntS, eq_Cnf, BEq.rfl, Bool.not_true, cond_false, bif_tt, Bool.or_false]
end Go.PF
