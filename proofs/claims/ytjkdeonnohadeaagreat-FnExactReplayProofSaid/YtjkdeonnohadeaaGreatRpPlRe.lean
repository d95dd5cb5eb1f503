/- ReplayProof: the law. -/
import Derived.Test.YtjkdeonnohadeaaGreatRpPl7
import Derived.Test.YtjkdeonnohadeaaGreatRpPl14
import Derived.Test.YtjkdeonnohadeaaGreatRpPlRf
set_option linter.unusedVariables false
namespace Go.PF
open Go.Pu
theorem IsC.lm {v : Int} {c : List Int} (h : IsC v c) : c.length ≤ lim := by have := h.len; unfold lim; omega
theorem push_all {α : Type} : ∀ {l s : List α}, l.foldl (fun s x => s ++ [x]) s = s ++ l := by
  intro l
  induction l with
  | nil => intro s; simp
  | cons y l ih => intro s; rw [List.foldl_cons, ih]; simp
theorem cnf_parts {F : Cnf} (h : cnfB F = true) : F.clauses.length ≤ 60 ∧ ∀ c ∈ F.clauses, IsC F.vars c := by
  unfold cnfB at h
  rw [Bool.and_eq_true, Bool.and_eq_true, decide_eq_true_eq, len_eq, List.all_eq_true] at h
  exact ⟨by omega, fun c hc => clauseB_iff.1 (h.2 c hc)⟩
theorem spec_l2Own_eq {F : Cnf} (h : cnfB F = true) : spec_l2Own F = some F := by
  obtain ⟨hl, hc⟩ := cnf_parts h
  unfold spec_l2Own
  refine bdR_mk (fun (s : List (List Int)) i => (s, F.vars, i)) (xs := F.clauses) (F := fun s x => s ++ [x]) (fun i s => s.length = i) rfl rfl (fun i x s hx hI => ?_) (fun s hI => ?_) (fun _ => ?_)
  · have hi := (List.getElem?_eq_some_iff.1 hx).1
    have hm := (hc x (List.mem_of_getElem? hx)).lm
    simp only [show decide ((i : Int) < len F.clauses) = true by rw [decide_eq_true_eq, len_eq]; omega, cond_true]
    rw [ix_get, hx, bd_some, spec_l1Own_eq hm, bd_some, app_ok (by unfold lim; simp; omega), bd_some, wr_succ hi (by omega)]
    exact ⟨rfl, by simp [hI]⟩
  · simp only [show decide ((F.clauses.length : Int) < len F.clauses) = false by rw [decide_eq_false_iff_not, len_eq]; omega, cond_false]
  · simp only
    rw [push_all]; rfl
theorem impl_cloneCnf_eq {F : Cnf} (h : cnfB F = true) : impl_cloneCnf F = some F := by
  obtain ⟨hl, hc⟩ := cnf_parts h
  unfold impl_cloneCnf impl_cloneLists
  have := forL_push (X := Empty) (f := fun _ y => slices_Clone_int_int y) (g := id) (l := F.clauses) (s := []) (fun i x hx => slices_Clone_int_int_eq (hc x (List.mem_of_getElem? hx)).lm) (by unfold lim; simp; omega)
  rw [this]; simp
def replV (F : Cnf) (S : List ResStep) : Bench × Bool := bif refB F S then (Bench.mk 2 F S 12 1, true) else (Bench.mk 0 (Cnf.mk 0 []) [] 0 0, false)
theorem refB_isD {F : Cnf} {S : List ResStep} (h : refB F S = true) : IsD F S := by
  unfold refB at h
  rw [Bool.and_eq_true] at h
  exact derB_iff.1 h.1
theorem spec_ReplayProof_eq {F : Cnf} {S : List ResStep} (hF : okCnf F) (hS : okL okResStep S) : spec_ReplayProof F S = some (replV F S) := by
  unfold spec_ReplayProof replV
  rw [spec_ref hF hS, bd_some]
  cases h : refB F S with
  | false => rfl
  | true =>
    have hd := refB_isD h
    have := spec_l7Behind_eq (G := F) (b := []) hd ⟨hd.cnf, by simp, fun i x hx => by simp at hx⟩
    simp only [List.map_nil, List.append_nil] at this
    rw [spec_l2Own_eq hd.cnf, this]; rfl
theorem impl_ReplayProof_eq {F : Cnf} {S : List ResStep} (hF : okCnf F) (hS : okL okResStep S) : impl_ReplayProof F S = some (replV F S) := by
  unfold impl_ReplayProof replV
  rw [impl_ref hF hS, bd_some]
  cases h : refB F S with
  | false => rfl
  | true =>
    have hd := refB_isD h
    rw [impl_cloneCnf_eq hd.cnf, impl_cloneSteps_eq hd]; rfl
theorem eq_Bench (a : Bench) : laws_eqBench a a = some true := by
  unfold laws_eqBench
  simp only [eq_Cnf, eq_ResStepS, BEq.rfl, Bool.not_true, cond_false, bd_some]
theorem mark_Bench {a : Bench} {k : Int} (h0 : 0 ≤ k) (h1 : k + tot wIntS a.formula.clauses + tot mResStep a.steps ≤ big) : (laws_markBench a k).2 = k + tot wIntS a.formula.clauses + tot mResStep a.steps := by
  unfold laws_markBench
  have e := mark_Cnf (a := a.formula) h0 (by omega)
  simp only
  rw [e, mark_ResStepS (by omega) (by omega)]
theorem held_Bench {a : Bench} {k : Int} (h0 : 0 ≤ k) (h1 : k + tot wIntS a.formula.clauses + tot mResStep a.steps ≤ big) :
    laws_heldBench (Bench.mk a.stage (Cnf.mk a.formula.vars (((laws_markBench a k).1).formula).clauses) ((laws_markBench a k).1).steps a.wide a.count) k = some (laws_markBench a k).2 := by
  have e := mark_Cnf (a := a.formula) h0 (by omega)
  have e2 := mark_ResStepS (a := a.steps) (k := (laws_markCnf a.formula k).2) (by omega) (by omega)
  have hs := held_ResStepS (a := a.steps) (k := (laws_markCnf a.formula k).2) (by omega) (by omega)
  have hc := held_IntSS (a := a.formula.clauses) (k := k) h0 (by omega)
  have e3 : (laws_markIntSS a.formula.clauses k).2 = (laws_markCnf a.formula k).2 := rfl
  rw [e3] at hc
  unfold laws_heldBench laws_heldCnf laws_markBench
  simp only
  have e4 : (laws_markCnf a.formula k).1.clauses = (laws_markIntSS a.formula.clauses k).1 := rfl
  rw [e4, hc]
  have d1 : decide ((laws_markCnf a.formula k).2 < 0) = false := by rw [decide_eq_false_iff_not]; omega
  have d2 : decide ((laws_markResStepS a.steps (laws_markCnf a.formula k).2).2 < 0) = false := by rw [decide_eq_false_iff_not]; omega
  simp only [d1, d2, hs, bd_some, cond_false]
theorem replV_small {F : Cnf} {S : List ResStep} : tot wIntS (replV F S).1.formula.clauses ≤ tot wIntS F.clauses ∧ tot mResStep (replV F S).1.steps ≤ tot mResStep S := by
  unfold replV
  cases refB F S <;> simp [tot]
theorem plain_ReplayProof (a0 : Cnf) (a1 : List ResStep) (o0 : okCnf a0) (o1 : okL okResStep a1) : laws_FnExactReplayProof a0 a1 = some true := by
  unfold laws_FnExactReplayProof
  obtain ⟨r0, q0, z0⟩ := sz_Cnf o0 (s := 1048576) (by omega) (by omega)
  rw [q0, bd_some]
  by_cases n0 : r0 < 0
  · simp [n0]
  obtain ⟨r1, q1, z1⟩ := sz_ResStepS o1 (s := r0) (by omega) (by omega)
  simp only [n0, decide_false, cond_false]
  rw [q1, bd_some]
  by_cases n1 : r1 < 0
  · simp [n1]
  simp only [n1, decide_false, cond_false]
  have t0 := to_Cnf (a := a0) (by unfold lim; omega)
  have t1 := to_ResStepS (a := a1) (by unfold lim; omega)
  have hs := spec_ReplayProof_eq o0 o1
  have hi := impl_ReplayProof_eq o0 o1
  obtain ⟨g1, g2⟩ := replV_small (F := a0) (S := a1)
  generalize replV a0 a1 = g at hs hi g1 g2
  have w0 : tot wIntS a0.clauses ≤ 1048576 := by unfold wCnf wIntSS at z0; omega
  have w1 := mResStep_le (a := a1) (by omega)
  have m0 := mark_Cnf (a := a0) (k := 1) (by omega) (by unfold big; omega)
  have m1 := mark_ResStepS (a := a1) (k := (laws_markCnf a0 1).2) (by omega) (by unfold big; omega)
  have mg := mark_Bench (a := g.1) (k := 1) (by omega) (by unfold big; omega)
  have hg := held_Bench (a := g.1) (k := 1) (by omega) (by unfold big; omega)
  have d1 : decide ((laws_markResStepS a1 (laws_markCnf a0 1).2).2 < 0) = false := by rw [decide_eq_false_iff_not]; omega
  have d2 : decide ((laws_markBench g.1 1).2 < 0) = false := by rw [decide_eq_false_iff_not]; omega
  simp only [t0, t1, hs, hi, hg, d1, d2, bd_some, eq_ResStepS, eq_Cnf, eq_Bench, BEq.rfl, Bool.not_true, cond_false, bif_tt, Bool.or_false]
end Go.PF
