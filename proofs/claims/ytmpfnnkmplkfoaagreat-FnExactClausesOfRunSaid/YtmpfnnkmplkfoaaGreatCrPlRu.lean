/- Runs of configurations: the reference's loop and the program's. -/
import Derived.Test.YtmpfnnkmplkfoaaGreatCrPlCo
set_option linter.unusedVariables false
namespace Go.PF
open Go.Pu
/-- the configurations behind one, and whether all steps are possible -/
def cfgs (F : Cnf) : List SpaceStep → List (List Int) → List (List (List Int)) × Bool
  | [], _ => ([], true)
  | s :: ss, now => bif (nxt F now s).2 then ((nxt F now s).1 :: (cfgs F ss (nxt F now s).1).1, (cfgs F ss (nxt F now s).1).2) else ([], false)
def lastC (F : Cnf) (ss : List SpaceStep) (now : List (List Int)) : List (List Int) := (cfgs F ss now).1.getLastD now
/-- all clauses that were put there -/
def allC (F : Cnf) : List SpaceStep → List (List Int) → List (List Int) → List (List Int)
  | [], _, all => all
  | s :: ss, now, all => allC F ss (nxt F now s).1 (bif s.kind == 3 then all else putC all (puts F now s).1)
theorem getLastD_cons {A : Type} (x y : A) (l : List A) : (x :: l).getLastD y = l.getLastD x := by cases l <;> rfl
theorem lastC_cons {F : Cnf} {s : SpaceStep} {ss : List SpaceStep} {now : List (List Int)} (h : (nxt F now s).2 = true) : lastC F (s :: ss) now = lastC F ss (nxt F now s).1 := by
  unfold lastC; simp only [cfgs, h, cond_true, getLastD_cons]
theorem lastC_cfg {F : Cnf} (hF : cnfB F = true) : ∀ {ss : List SpaceStep} {now : List (List Int)} {n : Nat}, Cfg F.vars n now → (cfgs F ss now).2 = true → Cfg F.vars (n + ss.length) (lastC F ss now)
  | [], now, n, h, _ => h
  | s :: ss, now, n, h, ht => by
    simp only [cfgs] at ht
    cases h1 : (nxt F now s).2 with
    | false => rw [h1] at ht; cases ht
    | true =>
      rw [h1] at ht
      rw [lastC_cons h1, List.length_cons, show n + (ss.length + 1) = n + 1 + ss.length by omega]
      exact lastC_cfg hF (nxt_cfg hF h) ht
theorem puts_of_nxt {F : Cnf} {now : List (List Int)} {s : SpaceStep} (h : (nxt F now s).2 = true) (hk : s.kind ≠ 3) : (puts F now s).2 = true := by
  unfold nxt at h
  rw [show (s.kind == 3) = false by rw [beq_eq_false_iff_ne]; exact hk] at h
  simp only [cond_false] at h
  cases hp : (puts F now s).2 with
  | true => rfl
  | false => rw [hp] at h; cases h
theorem allC_cfg {F : Cnf} (hF : cnfB F = true) : ∀ {ss : List SpaceStep} {now all : List (List Int)} {n m : Nat}, Cfg F.vars n now → Cfg F.vars m all → (cfgs F ss now).2 = true → Cfg F.vars (m + ss.length) (allC F ss now all)
  | [], now, all, n, m, h, ha, _ => ha
  | s :: ss, now, all, n, m, h, ha, ht => by
    simp only [cfgs] at ht
    cases h1 : (nxt F now s).2 with
    | false => rw [h1] at ht; cases ht
    | true =>
      rw [h1] at ht
      simp only [allC]
      rw [List.length_cons, show m + (ss.length + 1) = m + 1 + ss.length by omega]
      refine allC_cfg hF (nxt_cfg hF h) ?_ ht
      cases hk : s.kind == 3 with
      | true => exact ⟨ha.srt, Nat.le_succ_of_le ha.len, ha.cl⟩
      | false => exact ha.put (puts_isC hF h (puts_of_nxt h1 (by simpa using hk)))
theorem run_loop {F : Cnf} (hF : cnfB F = true) {steps : List SpaceStep} (hS : okL okSpaceStep steps) (hn : steps.length ≤ 300)
    {body : List (List Int) × Int × List (List Int) × Bool × Int → Option (Lp (List (List Int) × Int × List (List Int) × Bool × Int) Empty)}
    (hb : ∀ now most all ok (i : Int), body (now, most, all, ok, i) = bif (bif decide (i < len steps) then ok else false) then bd (ix steps i) (fun x => bd (spec_l15Step F now x) fun r => bd (bif r.2.2 then bd (ix steps i) (fun x => some (!(x.kind == 3))) else some false) fun t =>
      bif t then bd (spec_l2Insert all r.2.1) (fun r2 => some (Lp.nx (r.1, spec_l1Most most (len r.1), r2, r.2.2, wr (i + 1)))) else some (Lp.nx (r.1, spec_l1Most most (len r.1), all, r.2.2, wr (i + 1)))) else some (Lp.bk (now, most, all, ok, i))) :
    ∀ (rest : List SpaceStep) (k : Nat) (now all : List (List Int)) (most : Int), k + rest.length = steps.length → (∀ i y, rest[i]? = some y → steps[k + i]? = some y) → Cfg F.vars k now → Cfg F.vars k all →
      ∃ w, iter body (now, most, all, true, (k : Int)) = some (.go w) ∧ w.2.2.2.1 = (cfgs F rest now).2 ∧ ((cfgs F rest now).2 = true → w.1 = lastC F rest now ∧ w.2.2.1 = allC F rest now all) := by
  intro rest
  induction rest with
  | nil =>
    intro k now all most hk _ hc ha
    simp only [List.length_nil, Nat.add_zero] at hk
    refine ⟨(now, most, all, true, (k : Int)), iter_bk ?_, rfl, fun _ => ⟨rfl, rfl⟩⟩
    rw [hb, show decide ((k : Int) < len steps) = false by rw [decide_eq_false_iff_not, len_eq]; omega]; rfl
  | cons s ss ih =>
    intro k now all most hk hm hc ha
    simp only [List.length_cons] at hk
    have hx : steps[k]? = some s := by have := hm 0 s rfl; simpa using this
    have hs : okSpaceStep s := hS.2 s (List.mem_of_getElem? hx)
    obtain ⟨r, r1, r2, r3⟩ := spec_l15Step_eq (s := s) hF hc (by omega) hs
    have w1 : wr ((k : Int) + 1) = ((k + 1 : Nat) : Int) := by rw [wr_of _ (by omega) (by omega)]; omega
    have hd : decide ((k : Int) < len steps) = true := by rw [decide_eq_true_eq, len_eq]; omega
    cases h1 : (nxt F now s).2 with
    | false =>
      rw [h1] at r2
      have e : body (now, most, all, true, (k : Int)) = some (.nx (r.1, spec_l1Most most (len r.1), all, false, ((k + 1 : Nat) : Int))) := by
        rw [hb, hd]
        simp only [cond_true, ix_get, hx, bd_some, r1, r2, cond_false, w1]
      have e2 : body (r.1, spec_l1Most most (len r.1), all, false, ((k + 1 : Nat) : Int)) = some (.bk (r.1, spec_l1Most most (len r.1), all, false, ((k + 1 : Nat) : Int))) := by
        rw [hb]
        cases decide (((k + 1 : Nat) : Int) < len steps) <;> rfl
      refine ⟨_, (iter_nx e).trans (iter_bk e2), ?_, ?_⟩
      · simp only [cfgs, h1, cond_false]
      · simp only [cfgs, h1, cond_false]; exact nofun
    | true =>
      rw [h1] at r2
      obtain ⟨q1, q2⟩ := r3 h1
      have hnc := nxt_cfg hF hc (s := s)
      have hac : Cfg F.vars (k + 1) (bif s.kind == 3 then all else putC all (puts F now s).1) := by
        cases hk3 : s.kind == 3 with
        | true => exact ⟨ha.srt, Nat.le_succ_of_le ha.len, ha.cl⟩
        | false => exact ha.put (puts_isC hF hc (puts_of_nxt h1 (by simpa using hk3)))
      have e : body (now, most, all, true, (k : Int)) = some (.nx ((nxt F now s).1, spec_l1Most most (len (nxt F now s).1), (bif s.kind == 3 then all else putC all (puts F now s).1), true, ((k + 1 : Nat) : Int))) := by
        rw [hb, hd]
        simp only [cond_true, ix_get, hx, bd_some, r1, r2, w1, q1]
        cases hk3 : s.kind == 3 with
        | true => simp only [Bool.not_true, cond_false, cond_true]
        | false =>
          have hne : s.kind ≠ 3 := by simpa using hk3
          have hcl := puts_isC hF hc (puts_of_nxt h1 hne)
          simp only [Bool.not_false, cond_true, cond_false, q2 hne, spec_l2Insert_eq ha (by omega) hcl.small, bd_some]
      obtain ⟨w, i1, i2, i3⟩ := ih (k + 1) (nxt F now s).1 (bif s.kind == 3 then all else putC all (puts F now s).1) (spec_l1Most most (len (nxt F now s).1)) (by omega)
        (fun i y hy => by have := hm (i + 1) y (by simpa using hy); rwa [show k + (i + 1) = k + 1 + i by omega] at this) hnc hac
      refine ⟨w, (iter_nx e).trans i1, ?_, ?_⟩
      · rw [i2]; simp only [cfgs, h1, cond_true]
      · intro ht
        simp only [cfgs, h1, cond_true] at ht
        rw [lastC_cons h1]
        exact i3 ht
def runB (F : Cnf) (steps : List SpaceStep) : Bool := decide (len steps ≤ 300) && (cfgs F steps []).2
theorem run_bdR {F : Cnf} (hF : cnfB F = true) {steps : List SpaceStep} (hS : okL okSpaceStep steps) (hn : steps.length ≤ 300) {lx : Empty → Option l15Work}
    {body : List (List Int) × Int × List (List Int) × Bool × Int → Option (Lp (List (List Int) × Int × List (List Int) × Bool × Int) Empty)}
    (hb : ∀ now most all ok (i : Int), body (now, most, all, ok, i) = bif (bif decide (i < len steps) then ok else false) then bd (ix steps i) (fun x => bd (spec_l15Step F now x) fun r => bd (bif r.2.2 then bd (ix steps i) (fun x => some (!(x.kind == 3))) else some false) fun t =>
      bif t then bd (spec_l2Insert all r.2.1) (fun r2 => some (Lp.nx (r.1, spec_l1Most most (len r.1), r2, r.2.2, wr (i + 1)))) else some (Lp.nx (r.1, spec_l1Most most (len r.1), all, r.2.2, wr (i + 1)))) else some (Lp.bk (now, most, all, ok, i))) :
    ∃ w, bdR (iter body ([], 0, [], true, 0)) (fun s => some (l15Work.mk s.1 s.2.1 s.2.2.1 s.2.2.2.1)) lx = some w ∧ w.ok = (cfgs F steps []).2 ∧ ((cfgs F steps []).2 = true → w.now = lastC F steps [] ∧ w.all = allC F steps [] []) := by
  obtain ⟨w, h1, h2, h3⟩ := run_loop hF hS (by omega) hb steps 0 [] [] 0 (by omega) (fun i y hy => by rw [Nat.zero_add]; exact hy) Cfg.nil Cfg.nil
  rw [show ((0 : Nat) : Int) = 0 from rfl] at h1
  rw [h1]
  exact ⟨_, rfl, h2, h3⟩
theorem spec_l15Run_eq {F : Cnf} (hF : cnfB F = true) {steps : List SpaceStep} (hS : okL okSpaceStep steps) :
    ∃ w, spec_l15Run F steps = some w ∧ w.ok = runB F steps ∧ (runB F steps = true → w.now = lastC F steps [] ∧ w.all = allC F steps [] []) := by
  unfold spec_l15Run runB
  by_cases hn : len steps ≤ 300
  · rw [show decide (len steps ≤ 300) = true from decide_eq_true hn]
    rw [len_eq] at hn
    exact run_bdR hF hS (by omega) (fun _ _ _ _ _ => by rfl)
  · rw [show decide (len steps ≤ 300) = false from decide_eq_false hn, iter_bk (s' := ([], 0, [], false, 0)) (by cases decide ((0 : Int) < len steps) <;> rfl)]
    exact ⟨_, rfl, rfl, nofun⟩
theorem impl_config_put_eq {F : Cnf} {now : List (List Int)} {n : Nat} {s : SpaceStep} (hF : cnfB F = true) (h : Cfg F.vars n now) (hn : n ≤ 100000) : impl_config_put now F s = some (puts F now s) := by
  have hF60 : F.clauses.length ≤ 60 := by
    unfold cnfB at hF
    rw [Bool.and_eq_true, Bool.and_eq_true, decide_eq_true_eq, len_eq] at hF
    omega
  have hl := h.len
  unfold impl_config_put
  rw [wr_len1 (xs := F.clauses) (by omega), wr_len1 (xs := now) (by omega)]
  simp only [impl_within_eq, impl_isVar_eq, bif_ff]
  cases h1 : s.kind == 1 with
  | true =>
    have h2 : (s.kind == 2) = false := by have : s.kind = 1 := by simpa using h1
                                          rw [this]; rfl
    have hpu : puts F now s = bif inB s.a 0 ((F.clauses.length : Int) - 1) && (s.b == 0 && s.pivot == 0) then ((F.clauses[s.a.toNat]?).getD [], true) else ([], false) := by unfold puts; rw [h1]; rfl
    rw [hpu, h2]
    simp only [Bool.true_and, Bool.false_and, cond_false]
    rw [Bool.and_assoc]
    cases hg : inB s.a 0 ((F.clauses.length : Int) - 1) && ((s.b == 0) && (s.pivot == 0)) with
    | false => rfl
    | true =>
      have hg1 := (Bool.and_eq_true _ _).mp hg
      have := inB_iff.1 hg1.1
      obtain ⟨c, c1, c2⟩ := ix_of (xs := F.clauses) (i := s.a) (by omega) (by omega)
      simp only [cond_true, c1, bd_some, c2, Option.getD_some]
  | false =>
    simp only [Bool.false_and, cond_false]
    have hpu : puts F now s = bif s.kind == 2 then bif inB s.a 0 ((now.length : Int) - 1) && (inB s.b 0 ((now.length : Int) - 1) && inB s.pivot 1 F.vars) then res ((now[s.a.toNat]?).getD []) ((now[s.b.toNat]?).getD []) s.pivot else ([], false) else ([], false) := by unfold puts; rw [h1]; rfl
    rw [hpu]
    cases h2 : s.kind == 2 with
    | false => rfl
    | true =>
      simp only [Bool.true_and, cond_true]
      rw [Bool.and_assoc]
      cases hg : inB s.a 0 ((now.length : Int) - 1) && (inB s.b 0 ((now.length : Int) - 1) && inB s.pivot 1 F.vars) with
      | false => rfl
      | true =>
        have hg1 := (Bool.and_eq_true _ _).mp hg
        have hg2 := (Bool.and_eq_true _ _).mp hg1.2
        obtain ⟨x, x1, x2, cx⟩ := h.at hg1.1
        obtain ⟨y, y1, y2, cy⟩ := h.at hg2.1
        simp only [cond_true, x1, y1, bd_some, x2, y2, Option.getD_some, impl_resolve_eq cx cy]
theorem impl_config_after_eq {F : Cnf} {now : List (List Int)} {n : Nat} {s : SpaceStep} (hF : cnfB F = true) (h : Cfg F.vars n now) (hn : n ≤ 100000) : impl_config_after now F s = some (nxt F now s) := by
  have hl := h.len
  unfold impl_config_after nxt
  rw [wr_len1 (xs := now) (by omega)]
  simp only [impl_within_eq]
  cases h3 : s.kind == 3 with
  | true =>
    simp only [cond_true]
    have e : (bif (bif !inB s.a 0 ((now.length : Int) - 1) then true else !(s.b == 0)) then true else !(s.pivot == 0)) = !gone now s := by
      unfold gone
      cases inB s.a 0 ((now.length : Int) - 1) <;> cases s.b == 0 <;> cases s.pivot == 0 <;> rfl
    rw [e]
    cases hg : gone now s with
    | false => rfl
    | true =>
      simp only [Bool.not_true, cond_false, cond_true]
      unfold gone at hg
      have hg1 := (Bool.and_eq_true _ _).mp hg
      have := inB_iff.1 hg1.1
      have hlim : lim = 4294967296 := rfl
      have w1 : wr (s.a + 1) = ((s.a.toNat + 1 : Nat) : Int) := by rw [wr_of _ (by omega) (by omega)]; omega
      unfold impl_without_int slices_Clone_LLint_Lint slices_Delete_LLint_Lint
      rw [app_ok (by simp; omega), bd_some, List.nil_append, bd_some, w1]
      unfold delL
      rw [if_pos (by omega), bd_some, bd_some, List.eraseIdx_eq_take_drop_succ]
      rfl
  | false =>
    simp only [cond_false]
    rw [impl_config_put_eq hF h hn, bd_some]
    cases hp : (puts F now s).2 with
    | false => rfl
    | true =>
      simp only [Bool.not_true, cond_false, Bool.true_and]
      rw [impl_config_with_eq h hn, bd_some]
      cases now.contains (puts F now s).1 <;> rfl
theorem configs_loop {F : Cnf} (hF : cnfB F = true) {body : Nat → SpaceStep → List (List (List Int)) → Option (Lp (List (List (List Int))) (List (List (List Int)) × Bool))}
    (hb : ∀ i y s, body i y s = bd (β := _) (bd (ix s (wr (len s - 1))) (fun x => some x) : Option (List (List Int))) fun now => bd (impl_config_after now F y) fun r => bif !r.2 then some (Lp.rt ([], false)) else bd (app s [r.1]) fun xs => some (Lp.nx xs)) :
    ∀ (ss : List SpaceStep) (i n : Nat) (pre : List (List (List Int))) (now : List (List Int)), Cfg F.vars n now → n + ss.length ≤ 1000 → pre.length + ss.length ≤ 1000 →
      forLFrom body ss i (pre ++ [now]) = some (bif (cfgs F ss now).2 then .go (pre ++ now :: (cfgs F ss now).1) else .rt ([], false)) := by
  intro ss
  induction ss with
  | nil => intro i n pre now _ _ _; rfl
  | cons s ss ih =>
    intro i n pre now hc hn hp
    simp only [List.length_cons] at hn hp
    have e : ix (pre ++ [now]) (wr (len (pre ++ [now]) - 1)) = some now := by
      rw [len_eq, List.length_append, List.length_singleton, wr_of _ (by omega) (by omega), show (((pre.length + 1 : Nat) : Int) - 1) = ((pre.length : Nat) : Int) by omega, ix_get]
      simp
    have hb2 : body i s (pre ++ [now]) = bif !(nxt F now s).2 then some (Lp.rt ([], false)) else some (Lp.nx (pre ++ [now] ++ [(nxt F now s).1])) := by
      rw [hb, e]
      simp only [bd_some, impl_config_after_eq hF hc (by omega : n ≤ 100000)]
      cases (nxt F now s).2 with
      | false => rfl
      | true =>
        simp only [Bool.not_true, cond_false]
        rw [app_ok (by have : lim = 4294967296 := rfl; simp; omega), bd_some]
    simp only [forLFrom, hb2, cfgs]
    cases h1 : (nxt F now s).2 with
    | false => rfl
    | true =>
      simp only [Bool.not_true, cond_false, cond_true]
      rw [ih (i + 1) (n + 1) (pre ++ [now]) (nxt F now s).1 (nxt_cfg hF hc) (by omega) (by simp; omega)]
      simp
theorem impl_configs_eq {F : Cnf} {steps : List SpaceStep} (hF : okCnf F) : impl_configs F steps = some (bif cnfB F && runB F steps then ([] :: (cfgs F steps []).1, true) else ([], false)) := by
  unfold impl_configs runB
  rw [impl_IsCnf_eq hF, bd_some]
  cases h1 : cnfB F with
  | false => rfl
  | true =>
    by_cases hn : len steps ≤ 300
    · rw [show decide (300 < len steps) = false by rw [decide_eq_false_iff_not]; omega, show decide (len steps ≤ 300) = true from decide_eq_true hn]
      rw [len_eq] at hn
      simp only [Bool.not_true, cond_false, Bool.true_and]
      have := configs_loop h1 (fun _ _ _ => rfl) steps 0 0 [] [] Cfg.nil (by omega) (by simp; omega)
      unfold forL
      rw [List.nil_append] at this
      rw [this]
      cases (cfgs F steps []).2 <;> rfl
    · rw [show decide (300 < len steps) = true by rw [decide_eq_true_eq]; omega, show decide (len steps ≤ 300) = false from decide_eq_false hn]
      rfl
theorem forL_copy {X : Type} {f : Nat → List Int → List (List Int) → Option (Lp (List (List Int)) X)} {g : List Int → Option (List Int)} {xs : List (List Int)} (hf : ∀ i y s, f i y s = bd (g y) fun r => bd (app s [r]) fun t => some (.nx t)) (hg : ∀ y ∈ xs, g y = some y) (hl : xs.length ≤ lim) : forL xs f [] = some (.go xs) := by
  have e : f = fun i y s => bd (g y) fun r => bd (app s [r]) fun t => some (.nx t) := by funext i y s; exact hf i y s
  subst e
  rw [forL_push (f := fun _ y => g y) (g := id) (fun i x hx => hg x (List.mem_of_getElem? hx)) (by simpa using hl)]
  simp
theorem spec_l10Copy_eq {xs : List (List Int)} (hl : xs.length ≤ lim) (hx : ∀ y ∈ xs, y.length ≤ lim) : spec_l10Copy xs = some xs := by
  unfold spec_l10Copy
  rw [forL_copy (fun _ _ _ => rfl) (fun y hy => spec_l1Own_eq (hx y hy)) hl]; rfl
theorem impl_cloneLists_eq {xs : List (List Int)} (hl : xs.length ≤ lim) (hx : ∀ y ∈ xs, y.length ≤ lim) : impl_cloneLists xs = some xs := by
  unfold impl_cloneLists
  rw [forL_copy (fun _ _ _ => rfl) (fun y hy => slices_Clone_int_int_eq (hx y hy)) hl]; rfl
theorem runB_len {F : Cnf} {steps : List SpaceStep} (h : runB F steps = true) : steps.length ≤ 300 ∧ (cfgs F steps []).2 = true := by
  unfold runB at h
  rw [Bool.and_eq_true, decide_eq_true_eq, len_eq] at h
  exact ⟨by omega, h.2⟩
/-! the frame, for steps in space -/
theorem sz_SpaceStepS {a : List SpaceStep} {s : Int} (ha : okL okSpaceStep a) (h0 : 0 ≤ s) (h1 : s ≤ 1048576) : laws_szSpaceStepS a s < 0 ∨ laws_szSpaceStepS a s + a.length = s := by
  have := ha.1
  unfold laws_szSpaceStepS
  rw [wr_of _ (by rw [len_eq]; omega) (by rw [len_eq]; omega)]
  by_cases h : s - len a < 0
  · left; simp [h]
  · right; simp only [h, decide_false, cond_false]; rw [len_eq]; omega
theorem to_SpaceStepS {a : List SpaceStep} (h : a.length ≤ lim) : laws_toSpaceStepS a = some a := by
  have := to_list (g := fun y => some (laws_toSpaceStep y)) (h := id) (z := SpaceStep.mk 0 0 0 0) (l := a) (f := fun i y s => bd (ix s (i : Int)) fun _ => bd (put s (i : Int) (laws_toSpaceStep y)) fun xs => some (.nx xs)) (fun _ _ _ => rfl) (fun y hy => rfl) h
  rw [List.map_id] at this; exact this
theorem eq_SpaceStep (a : SpaceStep) : laws_eqSpaceStep a a = true := by unfold laws_eqSpaceStep; simp
theorem eq_SpaceStepS (a : List SpaceStep) : laws_eqSpaceStepS a a = some true :=
  eq_list (eq := fun x y => some (laws_eqSpaceStep x y)) (fun _ _ _ => rfl) (fun y _ => by rw [eq_SpaceStep])
theorem tot_four {A : Type} (l : List A) : tot (fun _ => 4) l = 4 * l.length := by induction l with
  | nil => rfl
  | cons _ l ih => simp [tot, ih]; omega
theorem mark_SpaceStepS {a : List SpaceStep} {k : Int} (h0 : 0 ≤ k) (h1 : k + 4 * a.length ≤ 9223372036854775807) : (laws_markSpaceStepS a k).2 = k + 4 * a.length := by
  have := mark_end (F := fun (_ : SpaceStep) m => (SpaceStep.mk m (wr (m + 1)) (wr ((wr (m + 1)) + 1)) (wr ((wr ((wr (m + 1)) + 1)) + 1)), wr ((wr ((wr ((wr (m + 1)) + 1)) + 1)) + 1))) (wt := fun _ => 4) (l := a) (k := k) (fun y _ k h0 h1 => by
    have a1 : wr (k + 1) = k + 1 := wr_of _ (by omega) (by omega)
    have a2 : wr (k + 1 + 1) = k + 2 := by rw [wr_of _ (by omega) (by omega)]; omega
    have a3 : wr (k + 2 + 1) = k + 3 := by rw [wr_of _ (by omega) (by omega)]; omega
    have a4 : wr (k + 3 + 1) = k + 4 := by rw [wr_of _ (by omega) (by omega)]; omega
    simp only [a1, a2, a3, a4]; rfl) h0 (by rw [tot_four]; omega)
  rw [tot_four] at this
  unfold laws_markSpaceStepS
  rw [this]; omega
end Go.PF
