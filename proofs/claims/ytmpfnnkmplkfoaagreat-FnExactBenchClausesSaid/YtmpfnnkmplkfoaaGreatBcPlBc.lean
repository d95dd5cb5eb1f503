/- BenchClauses: the law. -/
import Derived.Test.YtmpfnnkmplkfoaaGreatBcPlCo
import Derived.Test.YtmpfnnkmplkfoaaGreatBcPlSc
import Derived.Test.YtmpfnnkmplkfoaaGreatBcPlRf
import Derived.Test.YtmpfnnkmplkfoaaGreatBcPl14
set_option linter.unusedVariables false
namespace Go.PF
open Go.Pu
def wBench (a : Bench) : Nat := wCnf a.formula + wResStepS a.steps
theorem sz_Bench {a : Bench} {s : Int} (ha : okBench a) (h0 : 0 ≤ s) (h1 : s ≤ 1048576) : ∃ r, laws_szBench a s = some r ∧ (r < 0 ∨ r + wBench a = s) := by
  obtain ⟨r0, q0, z0⟩ := sz_Cnf ha.2.1 h0 h1
  unfold laws_szBench wBench
  rw [q0, bd_some]
  by_cases n0 : r0 < 0
  · exact ⟨_, by rw [show decide (r0 < 0) = true from decide_eq_true n0]; rfl, .inl (by decide)⟩
  obtain ⟨r1, q1, z1⟩ := sz_ResStepS ha.2.2.1 (s := r0) (by omega) (by omega)
  rw [show decide (r0 < 0) = false from decide_eq_false n0, cond_false, q1, bd_some]
  by_cases n1 : r1 < 0
  · exact ⟨_, by rw [show decide (r1 < 0) = true from decide_eq_true n1]; rfl, .inl (by decide)⟩
  · exact ⟨r1, by rw [show decide (r1 < 0) = false from decide_eq_false n1]; rfl, .inr (by omega)⟩
theorem to_Bench {a : Bench} (h : wBench a ≤ lim) : laws_toBench a = some a := by
  unfold wBench at h
  unfold laws_toBench
  rw [to_Cnf (by omega), bd_some, to_ResStepS (by omega), bd_some]
theorem slices_ContainsFunc_step_eq {c : List ResStep} {f : ResStep → Option Bool} {g : ResStep → Bool} (h : ∀ y, f y = some (g y)) : slices_ContainsFunc_impl_ResStep_impl_ResStep c f = some (c.any g) := by
  unfold slices_ContainsFunc_impl_ResStep_impl_ResStep slices_IndexFunc_impl_ResStep_impl_ResStep
  rw [forL_find (p := fun _ y => g y) (v := fun i _ => ((i : Nat) : Int)) (fun i y hy => by rw [h y, bd_some])]
  have := anyI_any g c 0
  cases hf : findI (fun _ y => g y) c 0 with
  | none =>
    rw [findI_none] at hf
    rw [← this, hf]; rfl
  | some z =>
    have h2 := (findI_some hf).2.2.2
    rw [← this, h2]
    show bd (some ((z.1 : Nat) : Int)) _ = _
    rw [bd_some, decide_eq_true (by omega)]
/-- a bench that may stand -/
def benchB (a : Bench) : Bool :=
  bif !inB a.stage 0 2 || !inB a.count 0 9999 then false
  else bif a.stage == 0 then (a.formula.vars == 0 && (len a.formula.clauses == 0) && (len a.steps == 0) && a.wide == 0)
  else inB a.wide 0 12 && derB a.formula a.steps && !(a.steps.any fun x => decide (a.wide < len x.clause)) && (a.stage == 1 || refB a.formula a.steps)
theorem spec_l32Good_eq {a : Bench} (ha : okBench a) : spec_l32Good a = some (benchB a) := by
  unfold spec_l32Good benchB
  simp only [spec_l1In_eq]
  cases h1 : inB a.stage 0 2 with
  | false => rfl
  | true =>
    cases h2 : inB a.count 0 9999 with
    | false => rfl
    | true =>
      simp only [Bool.not_true, cond_false, Bool.or_self]
      cases h3 : a.stage == 0 with
      | true => simp only [cond_true, bif_ff]
      | false =>
        simp only [cond_false]
        cases h4 : inB a.wide 0 12 with
        | false => rfl
        | true =>
          simp only [Bool.not_true, cond_false, Bool.true_and]
          rw [spec_l7Good_eq ha.2.1 ha.2.2.1, bd_some, bd_some]
          cases h5 : derB a.formula a.steps with
          | false => rfl
          | true =>
            have hd := derB_iff.1 h5
            have hn := hd.le
            simp only [Bool.not_true, cond_false, Bool.true_and]
            rw [iter_any (xs := a.steps) (p := fun _ x => decide (a.wide < len x.clause)) (v := false) (fun i y hy => by
              have hi := (List.getElem?_eq_some_iff.1 hy).1
              rw [show decide ((i : Int) < len a.steps) = true by rw [decide_eq_true_eq, len_eq]; omega, cond_true, ix_get, hy, bd_some, wr_succ hi (by omega)]) (by
              rw [show decide ((a.steps.length : Int) < len a.steps) = false by rw [decide_eq_false_iff_not, len_eq]; omega]; rfl)]
            rw [anyI_any]
            cases h6 : a.steps.any fun x => decide (a.wide < len x.clause) with
            | true => rfl
            | false =>
              simp only [cond_false, bdR_go]
              cases h7 : a.stage == 1 with
              | true => rfl
              | false =>
                simp only [cond_false]
                rw [spec_ref ha.2.1 ha.2.2.1]; rfl
theorem impl_IsBench_eq {a : Bench} (ha : okBench a) : impl_IsBench a = some (benchB a) := by
  unfold impl_IsBench benchB
  simp only [impl_within_eq]
  cases h1 : inB a.stage 0 2 with
  | false => rfl
  | true =>
    cases h2 : inB a.count 0 9999 with
    | false => rfl
    | true =>
      simp only [Bool.not_true, cond_false, Bool.or_self]
      cases h3 : a.stage == 0 with
      | true => simp only [cond_true, bif_ff]
      | false =>
        simp only [cond_false]
        rw [show impl_varsOk a.wide = inB a.wide 0 12 from impl_within_eq _ _ _]
        cases h4 : inB a.wide 0 12 with
        | false => rfl
        | true =>
          simp only [Bool.not_true, cond_false, Bool.true_and]
          rw [impl_IsDerivation_eq ha.2.1 ha.2.2.1, bd_some, bd_some]
          cases h5 : derB a.formula a.steps with
          | false => rfl
          | true =>
            simp only [Bool.not_true, cond_false, Bool.true_and]
            have hcf := slices_ContainsFunc_step_eq (c := a.steps) (f := fun x0 => some (impl_IsBench_1 x0 a)) (g := fun x => decide (a.wide < len x.clause)) (fun y => rfl)
            rw [hcf, bd_some]
            cases h6 : a.steps.any fun x => decide (a.wide < len x.clause) with
            | true => rfl
            | false =>
              simp only [cond_false]
              cases h7 : a.stage == 1 with
              | true => rfl
              | false =>
                simp only [cond_false]
                rw [impl_ref ha.2.1 ha.2.2.1]; rfl
theorem benchB_steps {a : Bench} (h : benchB a = true) : a.steps.length ≤ 200 ∧ ∀ x ∈ a.steps, IsC a.formula.vars x.clause := by
  unfold benchB at h
  cases h1 : !inB a.stage 0 2 || !inB a.count 0 9999 with
  | true => rw [h1] at h; cases h
  | false =>
    rw [h1] at h
    simp only [cond_false] at h
    cases h2 : a.stage == 0 with
    | true =>
      rw [h2] at h
      simp only [cond_true, Bool.and_eq_true, beq_iff_eq, len_eq] at h
      have : a.steps = [] := List.eq_nil_of_length_eq_zero (by omega)
      rw [this]; exact ⟨by simp, nofun⟩
    | false =>
      rw [h2] at h
      simp only [cond_false, Bool.and_eq_true] at h
      have hd := derB_iff.1 h.1.1.2
      exact ⟨hd.le, fun x hx => hd.clause hx⟩
def setC (cs : List (List Int)) : List (List Int) := cs.foldl putC []
theorem foldC {V : Int} : ∀ {cs s : List (List Int)} {n : Nat}, Cfg V n s → (∀ c ∈ cs, IsC V c) → Cfg V (n + cs.length) (cs.foldl putC s) ∧ ∀ x, x ∈ cs.foldl putC s ↔ x ∈ s ∨ x ∈ cs := by
  intro cs
  induction cs with
  | nil => intro s n h _; exact ⟨h, fun x => ⟨.inl, fun h => h.elim id nofun⟩⟩
  | cons c cs ih =>
    intro s n h hc
    obtain ⟨h1, h2⟩ := ih (h.put (hc c (by simp))) fun d hd => hc d (by simp [hd])
    refine ⟨⟨h1.srt, by have := h1.len; simp only [List.length_cons, List.foldl_cons]; omega, h1.cl⟩, fun x => ?_⟩
    rw [List.foldl_cons, h2, putC_mem, List.mem_cons]
    exact ⟨fun h => h.elim (fun h => h.elim (fun h => .inr (.inl h)) .inl) fun h => .inr (.inr h), fun h => h.elim (fun h => .inl (.inr h)) fun h => h.elim (fun h => .inl (.inl h)) .inr⟩
def bcV (a : Bench) : List (List Int) × Bool := bif benchB a then (setC (a.steps.map fun x => x.clause), true) else ([], false)
theorem bcV_cfg {a : Bench} (h : benchB a = true) : Cfg a.formula.vars 200 (setC (a.steps.map fun x => x.clause)) ∧ ∀ x, x ∈ setC (a.steps.map fun x => x.clause) ↔ x ∈ a.steps.map fun x => x.clause := by
  obtain ⟨h1, h2⟩ := benchB_steps h
  obtain ⟨h3, h4⟩ := foldC (V := a.formula.vars) (cs := a.steps.map fun x => x.clause) (s := []) (n := 0) Cfg.nil fun c hc => by
    obtain ⟨x, hx, rfl⟩ := List.mem_map.1 hc; exact h2 x hx
  exact ⟨⟨h3.srt, by have := h3.len; rw [List.length_map] at this; unfold setC; omega, h3.cl⟩, fun x => (h4 x).trans ⟨fun h => h.elim nofun id, .inr⟩⟩
theorem bcV_small {a : Bench} : tot wIntS (bcV a).1 ≤ 2400 := by
  unfold bcV
  cases h : benchB a with
  | false => exact Nat.zero_le _
  | true =>
    have hc := (bcV_cfg h).1
    have key : ∀ l : List (List Int), (∀ c ∈ l, c.length ≤ 12) → tot wIntS l ≤ 12 * l.length := by
      intro l
      induction l with
      | nil => intro _; exact Nat.le_refl _
      | cons c l ih =>
        intro h
        have := h c (by simp); have := ih fun d hd => h d (by simp [hd])
        simp only [tot, wIntS, List.length_cons]; omega
    have := key _ fun c hx => (hc.cl c hx).len
    have := hc.len
    simp only [cond_true]; omega
theorem spec_BenchClauses_eq {a : Bench} (ha : okBench a) : spec_BenchClauses a = some (bcV a) := by
  unfold spec_BenchClauses bcV
  rw [spec_l32Good_eq ha, bd_some]
  cases h : benchB a with
  | false => rfl
  | true =>
    obtain ⟨h1, h2⟩ := benchB_steps h
    have hlim : lim = 4294967296 := rfl
    simp only [Bool.not_true, cond_false, cond_true]
    refine bdR_mk (fun (s : List (List Int)) i => (s, i)) (xs := a.steps) (F := fun s x => putC s x.clause) (fun i s => Cfg a.formula.vars i s) rfl Cfg.nil (fun i x s hx hI => ?_) (fun s hI => ?_) (fun _ => ?_)
    · have hi := (List.getElem?_eq_some_iff.1 hx).1
      have hm := h2 x (List.mem_of_getElem? hx)
      simp only [show decide ((i : Int) < len a.steps) = true by rw [decide_eq_true_eq, len_eq]; omega, cond_true]
      rw [ix_get, hx, bd_some, spec_l1Own_eq (by have := hm.len; omega), bd_some, spec_l2Insert_eq hI (by omega) hm.small, bd_some, wr_succ hi (by omega)]
      exact ⟨rfl, hI.put hm⟩
    · simp only [show decide ((a.steps.length : Int) < len a.steps) = false by rw [decide_eq_false_iff_not, len_eq]; omega, cond_false]
    · unfold setC; rw [List.foldl_map]
theorem impl_BenchClauses_eq {a : Bench} (ha : okBench a) : impl_BenchClauses a = some (bcV a) := by
  unfold impl_BenchClauses bcV
  rw [impl_IsBench_eq ha, bd_some]
  cases h : benchB a with
  | false => rfl
  | true =>
    obtain ⟨h1, h2⟩ := benchB_steps h
    obtain ⟨g1, g2⟩ := bcV_cfg h
    have hlim : lim = 4294967296 := rfl
    simp only [Bool.not_true, cond_false, cond_true]
    have e := forL_push (X := Empty) (f := fun _ y => slices_Clone_int_int y.clause) (g := fun x : ResStep => x.clause) (l := a.steps) (s := []) (fun i x hx => slices_Clone_int_int_eq (by have := (h2 x (List.mem_of_getElem? hx)).len; omega)) (by simp; omega)
    rw [e, bdR_go, List.nil_append]
    obtain ⟨s, r, e1, e2, e3, e4⟩ := sort_once (xs := a.steps.map fun x => x.clause) (by rw [List.length_map]; omega)
    rw [e1, bd_some, e2, bd_some, srt_ext e3 g1.srt fun x => (e4 x).trans (g2 x).symm]
theorem eq_Bench (a : Bench) : laws_eqBench a a = some true := by
  unfold laws_eqBench
  simp only [eq_Cnf, eq_ResStepS, BEq.rfl, Bool.not_true, cond_false, bd_some]
theorem mark_Bench {a : Bench} {k : Int} (h0 : 0 ≤ k) (h1 : k + tot wIntS a.formula.clauses + tot mResStep a.steps ≤ big) : (laws_markBench a k).2 = k + tot wIntS a.formula.clauses + tot mResStep a.steps := by
  unfold laws_markBench
  have e := mark_Cnf (a := a.formula) h0 (by omega)
  simp only
  rw [e, mark_ResStepS (by omega) (by omega)]
theorem plain_BenchClauses (a0 : Bench) (o0 : okBench a0) : laws_FnExactBenchClauses a0 = some true := by
  unfold laws_FnExactBenchClauses
  obtain ⟨r0, q0, z0⟩ := sz_Bench o0 (s := 1048576) (by omega) (by omega)
  rw [q0, bd_some]
  by_cases n0 : r0 < 0
  · simp [n0]
  simp only [n0, decide_false, cond_false]
  have hlim : lim = 4294967296 := rfl
  have t0 := to_Bench (a := a0) (by omega)
  have hs := spec_BenchClauses_eq o0
  have hi := impl_BenchClauses_eq o0
  have hm := bcV_small (a := a0)
  generalize bcV a0 = g at hs hi hm
  have w0 : tot wIntS a0.formula.clauses ≤ 1048576 := by unfold wBench wCnf wIntSS at z0; omega
  have w1 := mResStep_le (a := a0.steps) (by unfold wBench at z0; omega)
  have m0 := mark_Bench (a := a0) (k := 1) (by omega) (by unfold big; omega)
  have mg := mark_IntSS (a := g.1) (k := 1) (by omega) (by unfold big; omega)
  have hg := held_IntSS (a := g.1) (k := 1) (by omega) (by unfold big; omega)
  have d1 : decide ((laws_markBench a0 1).2 < 0) = false := by rw [decide_eq_false_iff_not]; omega
  have d2 : decide ((laws_markIntSS g.1 1).2 < 0) = false := by rw [decide_eq_false_iff_not]; omega
  simp only [t0, hs, hi, hg, d1, d2, bd_some, eq_Bench, eq_IntSS, BEq.rfl, Bool.not_true, cond_false, bif_tt, Bool.or_false]
end Go.PF
