/- A bench that may stand, told by both sides. -/
import Derived.Test.YtjkhehplbjempaaGreatDoorBtPlRf
import Derived.Test.YtjkhehplbjempaaGreatDoorBtPl14
set_option linter.unusedVariables false
namespace Go.PF
open Go.Pu
def wBench (a : Bench) : Nat := wCnf a.formula + wResStepS a.steps
theorem sz_Bench {a : Bench} {s : Int} (ha : okBench a) (h0 : 0 ≤ s) (h1 : s ≤ 1048576) : ∃ r, laws_szBench a s = some r ∧ (r < 0 ∨ r + wBench a = s) := by
  obtain ⟨r0, q0, z0⟩ := sz_Cnf ha.2.1 h0 h1
  unfold laws_szBench wBench
  rw [q0, bd_some]
  by_cases n0 : r0 < 0
  · exact ⟨_, by rw [show decide (r0 < 0) = true from decide_eq_true n0]; rfl, .inl (by decide)⟩
  obtain ⟨r1, q1, z1⟩ := sz_ResStepS ha.2.2.1 (s := r0) (by omega) (by omega)
  rw [show decide (r0 < 0) = false from decide_eq_false n0, cond_false, q1, bd_some]
  by_cases n1 : r1 < 0
  · exact ⟨_, by rw [show decide (r1 < 0) = true from decide_eq_true n1]; rfl, .inl (by decide)⟩
  · exact ⟨r1, by rw [show decide (r1 < 0) = false from decide_eq_false n1]; rfl, .inr (by omega)⟩
theorem to_Bench {a : Bench} (h : wBench a ≤ lim) : laws_toBench a = some a := by
  unfold wBench at h
  unfold laws_toBench
  rw [to_Cnf (by omega), bd_some, to_ResStepS (by omega), bd_some]
theorem slices_ContainsFunc_step_eq {c : List ResStep} {f : ResStep → Option Bool} {g : ResStep → Bool} (h : ∀ y, f y = some (g y)) : slices_ContainsFunc_impl_ResStep_impl_ResStep c f = some (c.any g) := by
  unfold slices_ContainsFunc_impl_ResStep_impl_ResStep slices_IndexFunc_impl_ResStep_impl_ResStep
  rw [forL_find (p := fun _ y => g y) (v := fun i _ => ((i : Nat) : Int)) (fun i y hy => by rw [h y, bd_some])]
  have := anyI_any g c 0
  cases hf : findI (fun _ y => g y) c 0 with
  | none =>
    rw [findI_none] at hf
    rw [← this, hf]; rfl
  | some z =>
    have h2 := (findI_some hf).2.2.2
    rw [← this, h2]
    show bd (some ((z.1 : Nat) : Int)) _ = _
    rw [bd_some, decide_eq_true (by omega)]
/-- a bench that may stand -/
def benchB (a : Bench) : Bool :=
  bif !inB a.stage 0 2 || !inB a.count 0 9999 then false
  else bif a.stage == 0 then (a.formula.vars == 0 && (len a.formula.clauses == 0) && (len a.steps == 0) && a.wide == 0)
  else inB a.wide 0 12 && derB a.formula a.steps && !(a.steps.any fun x => decide (a.wide < len x.clause)) && (a.stage == 1 || refB a.formula a.steps)
theorem spec_l32Good_eq {a : Bench} (ha : okBench a) : spec_l32Good a = some (benchB a) := by
  unfold spec_l32Good benchB
  simp only [spec_l1In_eq]
  cases h1 : inB a.stage 0 2 with
  | false => rfl
  | true =>
    cases h2 : inB a.count 0 9999 with
    | false => rfl
    | true =>
      simp only [Bool.not_true, cond_false, Bool.or_self]
      cases h3 : a.stage == 0 with
      | true => simp only [cond_true, bif_ff]
      | false =>
        simp only [cond_false]
        cases h4 : inB a.wide 0 12 with
        | false => rfl
        | true =>
          simp only [Bool.not_true, cond_false, Bool.true_and]
          rw [spec_l7Good_eq ha.2.1 ha.2.2.1, bd_some, bd_some]
          cases h5 : derB a.formula a.steps with
          | false => rfl
          | true =>
            have hd := derB_iff.1 h5
            have hn := hd.le
            simp only [Bool.not_true, cond_false, Bool.true_and]
            rw [iter_any (xs := a.steps) (p := fun _ x => decide (a.wide < len x.clause)) (v := false) (fun i y hy => by
              have hi := (List.getElem?_eq_some_iff.1 hy).1
              rw [show decide ((i : Int) < len a.steps) = true by rw [decide_eq_true_eq, len_eq]; omega, cond_true, ix_get, hy, bd_some, wr_succ hi (by omega)]) (by
              rw [show decide ((a.steps.length : Int) < len a.steps) = false by rw [decide_eq_false_iff_not, len_eq]; omega]; rfl)]
            rw [anyI_any]
            cases h6 : a.steps.any fun x => decide (a.wide < len x.clause) with
            | true => rfl
            | false =>
              simp only [cond_false, bdR_go]
              cases h7 : a.stage == 1 with
              | true => rfl
              | false =>
                simp only [cond_false]
                rw [spec_ref ha.2.1 ha.2.2.1]; rfl
theorem impl_IsBench_eq {a : Bench} (ha : okBench a) : impl_IsBench a = some (benchB a) := by
  unfold impl_IsBench benchB
  simp only [impl_within_eq]
  cases h1 : inB a.stage 0 2 with
  | false => rfl
  | true =>
    cases h2 : inB a.count 0 9999 with
    | false => rfl
    | true =>
      simp only [Bool.not_true, cond_false, Bool.or_self]
      cases h3 : a.stage == 0 with
      | true => simp only [cond_true, bif_ff]
      | false =>
        simp only [cond_false]
        rw [show impl_varsOk a.wide = inB a.wide 0 12 from impl_within_eq _ _ _]
        cases h4 : inB a.wide 0 12 with
        | false => rfl
        | true =>
          simp only [Bool.not_true, cond_false, Bool.true_and]
          rw [impl_IsDerivation_eq ha.2.1 ha.2.2.1, bd_some, bd_some]
          cases h5 : derB a.formula a.steps with
          | false => rfl
          | true =>
            simp only [Bool.not_true, cond_false, Bool.true_and]
            have hcf := slices_ContainsFunc_step_eq (c := a.steps) (f := fun x0 => some (impl_IsBench_1 x0 a)) (g := fun x => decide (a.wide < len x.clause)) (fun y => rfl)
            rw [hcf, bd_some]
            cases h6 : a.steps.any fun x => decide (a.wide < len x.clause) with
            | true => rfl
            | false =>
              simp only [cond_false]
              cases h7 : a.stage == 1 with
              | true => rfl
              | false =>
                simp only [cond_false]
                rw [impl_ref ha.2.1 ha.2.2.1]; rfl
theorem eq_Bench (a : Bench) : laws_eqBench a a = some true := by
  unfold laws_eqBench
  simp only [eq_Cnf, eq_ResStepS, BEq.rfl, Bool.not_true, cond_false, bd_some]
end Go.PF
