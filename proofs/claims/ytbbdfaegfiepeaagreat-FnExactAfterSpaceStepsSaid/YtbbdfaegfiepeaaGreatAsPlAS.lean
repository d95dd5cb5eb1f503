/- AfterSpaceSteps: the law. -/
import Derived.Test.YtbbdfaegfiepeaaGreatAsPlRu
set_option linter.unusedVariables false
namespace Go.PF
open Go.Pu
def asV (F : Cnf) (steps : List SpaceStep) : List (List Int) × Bool := bif cnfB F && runB F steps then (lastC F steps [], true) else ([], false)
theorem asV_cfg {F : Cnf} {steps : List SpaceStep} (h1 : cnfB F = true) (h : runB F steps = true) : Cfg F.vars 300 (lastC F steps []) := by
  obtain ⟨h2, h3⟩ := runB_len h
  have := lastC_cfg h1 (ss := steps) (now := []) (n := 0) Cfg.nil h3
  exact ⟨this.srt, by have := this.len; omega, this.cl⟩
theorem asV_small {F : Cnf} {steps : List SpaceStep} : tot wIntS (asV F steps).1 ≤ 3600 := by
  unfold asV
  cases h : cnfB F && runB F steps with
  | false => exact Nat.zero_le _
  | true =>
    have h1 := (Bool.and_eq_true _ _).mp h
    have hc := asV_cfg h1.1 h1.2
    have key : ∀ l : List (List Int), (∀ c ∈ l, c.length ≤ 12) → tot wIntS l ≤ 12 * l.length := by
      intro l
      induction l with
      | nil => intro _; exact Nat.le_refl _
      | cons c l ih =>
        intro h
        have := h c (by simp); have := ih fun d hd => h d (by simp [hd])
        simp only [tot, wIntS, List.length_cons]; omega
    have := key _ fun c hx => (hc.cl c hx).len
    have := hc.len
    simp only [cond_true]; omega
theorem spec_AfterSpaceSteps_eq {F : Cnf} {steps : List SpaceStep} (hF : okCnf F) (hS : okL okSpaceStep steps) : spec_AfterSpaceSteps F steps = some (asV F steps) := by
  unfold spec_AfterSpaceSteps asV
  rw [spec_l2Good_eq hF, bd_some]
  cases h1 : cnfB F with
  | false => rfl
  | true =>
    obtain ⟨w, e1, e2, e3⟩ := spec_l15Run_eq h1 hS
    simp only [Bool.not_true, cond_false, Bool.true_and]
    rw [e1, bd_some, e2]
    cases h2 : runB F steps with
    | false => rfl
    | true =>
      have hc := asV_cfg h1 h2
      have hlim : lim = 4294967296 := rfl
      simp only [Bool.not_true, cond_false, cond_true, (e3 h2).1]
      rw [spec_l10Copy_eq (by have := hc.len; omega) (fun y hy => by have := (hc.cl y hy).len; omega)]; rfl
theorem last_at (F : Cnf) (steps : List SpaceStep) (now : List (List Int)) (h : (cfgs F steps now).1.length ≤ 1000) : ix (now :: (cfgs F steps now).1) (wr (len (now :: (cfgs F steps now).1) - 1)) = some (lastC F steps now) := by
  rw [len_eq, List.length_cons, wr_of _ (by omega) (by omega), show ((((cfgs F steps now).1.length + 1 : Nat) : Int) - 1) = (((cfgs F steps now).1.length : Nat) : Int) by omega, ix_get]
  unfold lastC
  generalize (cfgs F steps now).1 = l
  have h1 := List.getLast?_eq_getElem? (l := now :: l)
  rw [List.getLast?_cons, List.length_cons, Nat.add_sub_cancel] at h1
  rw [← h1, List.getLastD_eq_getLast?]
theorem cfgs_len (F : Cnf) : ∀ (steps : List SpaceStep) (now : List (List Int)), (cfgs F steps now).1.length ≤ steps.length
  | [], _ => Nat.le_refl _
  | s :: ss, now => by
    simp only [cfgs]
    cases (nxt F now s).2 with
    | false => exact Nat.zero_le _
    | true => simp only [cond_true, List.length_cons]; have := cfgs_len F ss (nxt F now s).1; omega
theorem impl_AfterSpaceSteps_eq {F : Cnf} {steps : List SpaceStep} (hF : okCnf F) : impl_AfterSpaceSteps F steps = some (asV F steps) := by
  unfold impl_AfterSpaceSteps asV
  rw [impl_configs_eq hF, bd_some]
  cases h : cnfB F && runB F steps with
  | false => rfl
  | true =>
    have h1 := (Bool.and_eq_true _ _).mp h
    have hc := asV_cfg h1.1 h1.2
    have hlim : lim = 4294967296 := rfl
    simp only [Bool.not_true, cond_false, cond_true]
    rw [last_at F steps [] (by have := cfgs_len F steps []; have := (runB_len h1.2).1; omega), bd_some, bd_some, impl_cloneLists_eq (by have := hc.len; omega) (fun y hy => by have := (hc.cl y hy).len; omega)]; rfl
theorem plain_AfterSpaceSteps (a0 : Cnf) (a1 : List SpaceStep) (o0 : okCnf a0) (o1 : okL okSpaceStep a1) : laws_FnExactAfterSpaceSteps a0 a1 = some true := by
  unfold laws_FnExactAfterSpaceSteps
  obtain ⟨r0, q0, z0⟩ := sz_Cnf o0 (s := 1048576) (by omega) (by omega)
  rw [q0, bd_some]
  by_cases n0 : r0 < 0
  · simp [n0]
  have z1 := sz_SpaceStepS o1 (s := r0) (by omega) (by omega)
  simp only [n0, decide_false, cond_false]
  by_cases n1 : laws_szSpaceStepS a1 r0 < 0
  · simp [n1]
  simp only [n1, decide_false, cond_false]
  have hlim : lim = 4294967296 := rfl
  have t0 := to_Cnf (a := a0) (by omega)
  have t1 := to_SpaceStepS (a := a1) (by omega)
  have hs := spec_AfterSpaceSteps_eq (F := a0) o0 o1
  have hi := impl_AfterSpaceSteps_eq (F := a0) (steps := a1) o0
  have hm := asV_small (F := a0) (steps := a1)
  generalize asV a0 a1 = g at hs hi hm
  have w0 : tot wIntS a0.clauses ≤ 1048576 := by unfold wCnf wIntSS at z0; omega
  have m0 := mark_Cnf (a := a0) (k := 1) (by omega) (by unfold big; omega)
  have m1 := mark_SpaceStepS (a := a1) (k := (laws_markCnf a0 1).2) (by omega) (by omega)
  have mg := mark_IntSS (a := g.1) (k := 1) (by omega) (by unfold big; omega)
  have hg := held_IntSS (a := g.1) (k := 1) (by omega) (by unfold big; omega)
  have d1 : decide ((laws_markSpaceStepS a1 (laws_markCnf a0 1).2).2 < 0) = false := by rw [decide_eq_false_iff_not]; omega
  have d2 : decide ((laws_markIntSS g.1 1).2 < 0) = false := by rw [decide_eq_false_iff_not]; omega
  simp only [t0, t1, hs, hi, hg, d1, d2, bd_some, eq_SpaceStepS, eq_IntSS, eq_Cnf, BEq.rfl, Bool.not_true, cond_false, bif_tt, Bool.or_false]
end Go.PF
