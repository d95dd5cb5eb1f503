/- RestrictSteps: the law. -/
import Derived.Test.YtcdphhfmkkdpfaaGreatPlDW
import Derived.Test.YtcdphhfmkkdpfaaGreatPl14
set_option linter.unusedVariables false
namespace Go.PF
open Go.Pu
/-- how many of the first clauses are left -/
def cnt (F : Cnf) (a : List Int) (k : Nat) : Int := (((F.clauses.take k).filter fun c => decide (clv c a < 1)).length : Int)
structure RvOk (F : Cnf) (i : Nat) (w : List Int × List ResStep) : Prop where
  len : w.1.length = i
  le : w.2.length ≤ i
  inr : ∀ k ∈ w.1, -1 ≤ k ∧ k < w.2.length
  isC : ∀ s ∈ w.2, IsC F.vars s.clause
theorem RvOk.to {F : Cnf} {i : Nat} {w : List Int × List ResStep} (h : RvOk F i w) {k : Int} (h0 : 0 ≤ k) (h1 : k < i) :
    ix w.1 k = some (toA w.1 k) ∧ -1 ≤ toA w.1 k ∧ toA w.1 k < w.2.length := by
  obtain ⟨x, hx, hg⟩ := ix_of (xs := w.1) h0 (by rw [h.len]; exact h1)
  have e : toA w.1 k = x := by unfold toA; rw [hg]; rfl
  rw [e]
  exact ⟨hx, h.inr x (List.mem_of_getElem? hg)⟩
theorem RvOk.st {F : Cnf} {i : Nat} {w : List Int × List ResStep} (h : RvOk F i w) {k : Int} (h0 : 0 ≤ k) (h1 : k < w.2.length) :
    ∃ y, ix w.2 k = some y ∧ y.clause = clAt w.2 k ∧ IsC F.vars (clAt w.2 k) := by
  obtain ⟨y, hy, hg⟩ := ix_of (xs := w.2) h0 h1
  have e : clAt w.2 k = y.clause := by unfold clAt; rw [hg]
  exact ⟨y, hy, e.symm, by rw [e]; exact h.isC y (List.mem_of_getElem? hg)⟩
theorem RvOk.copy {F : Cnf} {i : Nat} {w : List Int × List ResStep} (h : RvOk F i w) {k : Int} (hk : -1 ≤ k ∧ k < w.2.length) : RvOk F (i + 1) (w.1 ++ [k], w.2) :=
  ⟨by simp [h.len], by have := h.le; simp only; omega, fun z hz => by
    rcases List.mem_append.1 hz with hz | hz
    · exact h.inr z hz
    · rw [List.mem_singleton.1 hz]; exact hk, h.isC⟩
theorem RvOk.add {F : Cnf} {i : Nat} {w : List Int × List ResStep} (h : RvOk F i w) {s : ResStep} (hs : IsC F.vars s.clause) : RvOk F (i + 1) (w.1 ++ [Pu.len w.2], w.2 ++ [s]) :=
  ⟨by simp [h.len], by have := h.le; simp; omega, fun z hz => by
    simp only [List.length_append, List.length_singleton]
    rcases List.mem_append.1 hz with hz | hz
    · have := h.inr z hz; omega
    · rw [List.mem_singleton.1 hz, len_eq]; omega, fun z hz => by
    rcases List.mem_append.1 hz with hz | hz
    · exact h.isC z hz
    · rw [List.mem_singleton.1 hz]; exact hs⟩
def rv (F : Cnf) (a : List Int) (w : List Int × List ResStep) (x : ResStep) : List Int × List ResStep :=
  bif decide (0 < clv x.clause a) then (w.1 ++ [-1], w.2)
  else bif decide (x.left < 0) then (w.1 ++ [len w.2], w.2 ++ [⟨opn x.clause a, -1, cnt F a x.right.toNat, 0⟩])
  else bif decide (x.right < 0) then (w.1 ++ [toA w.1 x.left], w.2)
  else bif decide (toA w.1 x.left < 0) then (w.1 ++ [toA w.1 x.right], w.2)
  else bif decide (toA w.1 x.right < 0) then (w.1 ++ [toA w.1 x.left], w.2)
  else bif !(clAt w.2 (toA w.1 x.left)).contains x.pivot then (w.1 ++ [toA w.1 x.left], w.2)
  else bif !(clAt w.2 (toA w.1 x.right)).contains (wr (-x.pivot)) then (w.1 ++ [toA w.1 x.right], w.2)
  else (w.1 ++ [len w.2], w.2 ++ [⟨(res (clAt w.2 (toA w.1 x.left)) (clAt w.2 (toA w.1 x.right)) x.pivot).1, toA w.1 x.left, toA w.1 x.right, x.pivot⟩])
theorem rv_ok {F : Cnf} {S : List ResStep} {a : List Int} (h : IsD F S) {i : Nat} {x : ResStep} (hx : S[i]? = some x) {w : List Int × List ResStep} (hw : RvOk F i w) : RvOk F (i + 1) (rv F a w x) := by
  have hc := h.clause (List.mem_of_getElem? hx)
  unfold rv
  cases h0 : decide (0 < clv x.clause a) with
  | true => exact hw.copy ⟨by omega, by omega⟩
  | false =>
  simp only [cond_false]
  cases h1 : decide (x.left < 0) with
  | true => exact hw.add (opn_isC hc)
  | false =>
    have hl : 0 ≤ x.left := by have := of_decide_eq_false h1; omega
    have hb := h.before hx hl
    have t1 := hw.to hl hb.1
    simp only [cond_false]
    cases h2 : decide (x.right < 0) with
    | true => exact hw.copy t1.2
    | false =>
      have hr : 0 ≤ x.right := by have := of_decide_eq_false h2; omega
      have t2 := hw.to hr (hb.2 hr)
      simp only [cond_false]
      cases h3 : decide (toA w.1 x.left < 0) with
      | true => exact hw.copy t2.2
      | false =>
      simp only [cond_false]
      cases h4 : decide (toA w.1 x.right < 0) with
      | true => exact hw.copy t1.2
      | false =>
      have n1 := of_decide_eq_false h3; have n2 := of_decide_eq_false h4
      simp only [cond_false]
      cases !(clAt w.2 (toA w.1 x.left)).contains x.pivot with
      | true => exact hw.copy t1.2
      | false =>
        simp only [cond_false]
        cases !(clAt w.2 (toA w.1 x.right)).contains (wr (-x.pivot)) with
        | true => exact hw.copy t2.2
        | false =>
          obtain ⟨_, _, _, c1⟩ := hw.st (by omega) t1.2.2
          obtain ⟨_, _, _, c2⟩ := hw.st (by omega) t2.2.2
          exact hw.add (res_isC c1 c2)
def restrL (F : Cnf) (S : List ResStep) (a : List Int) : List ResStep := match (S.foldl (rv F a) ([], [])).1.getLast? with | some k => (S.foldl (rv F a) ([], [])).2.take (k + 1).toNat | none => []
theorem cut_lastR {w : List Int × List ResStep} {F : Cnf} {i : Nat} (hw : RvOk F i w) (hi : i ≤ 200) {k : Int} (hk : w.1.getLast? = some k) : cut w.2 0 (wr (k + 1)) = some (w.2.take (k + 1).toNat) := by
  have := hw.inr k (List.mem_of_getLast? hk); have := hw.le
  rw [wr_of _ (by omega) (by omega)]
  unfold cut
  rw [if_pos (by omega)]; simp
/-- the places of the clauses that are left -/
def plc (F : Cnf) (a : List Int) (s : List Int × Int) (c : List Int) : List Int × Int := (s.1 ++ [s.2], bif decide (clv c a < 1) then s.2 + 1 else s.2)
theorem plc_fold (F : Cnf) (a : List Int) : F.clauses.foldl (plc F a) ([], 0) = ((List.range F.clauses.length).map fun k => cnt F a k, cnt F a F.clauses.length) := by
  have key : ∀ n, n ≤ F.clauses.length → (F.clauses.take n).foldl (plc F a) ([], 0) = ((List.range n).map fun k => cnt F a k, cnt F a n) := by
    intro n
    induction n with
    | zero => intro _; simp [cnt]
    | succ n ih =>
      intro hn
      obtain ⟨x, hx⟩ : ∃ x, F.clauses[n]? = some x := ⟨_, List.getElem?_eq_getElem (by omega)⟩
      rw [List.take_add_one, hx, List.foldl_append, ih (by omega), List.range_succ, List.map_append]
      have e : cnt F a (n + 1) = bif decide (clv x a < 1) then cnt F a n + 1 else cnt F a n := by
        unfold cnt
        rw [filter_take hx]
        cases decide (clv x a < 1) <;> simp
      rw [e]; rfl
  have := key F.clauses.length (Nat.le_refl _)
  rwa [List.take_length] at this
theorem cnf_bounds {F : Cnf} (h : cnfB F = true) : F.clauses.length ≤ 60 ∧ ∀ c ∈ F.clauses, IsC F.vars c := by
  unfold cnfB at h
  rw [Bool.and_eq_true, Bool.and_eq_true, decide_eq_true_eq, List.all_eq_true, len_eq] at h
  exact ⟨by omega, fun c hc => clauseB_iff.1 (h.2 c hc)⟩
theorem spec_l7Restrict_eq {F : Cnf} {S : List ResStep} {a : List Int} (h : IsD F S) : spec_l7Restrict F S a = some (restrL F S a) := by
  have hS := h.le
  obtain ⟨b1, b2⟩ := cnf_bounds h.cnf
  unfold spec_l7Restrict
  refine bdR_mk (X := Empty) (fun (s : List Int × Int) i => (s.1, s.2, i)) (xs := F.clauses) (F := plc F a) (s0 := ([], 0)) (fun i s => s.1.length = i ∧ 0 ≤ s.2 ∧ s.2 ≤ i) rfl ⟨rfl, Int.le_refl _, Int.le_refl _⟩ (fun i x s hx hs => by
    have hi := (List.getElem?_eq_some_iff.1 hx).1
    have hlt : decide ((i : Int) < len F.clauses) = true := by rw [decide_eq_true_eq, len_eq]; omega
    have w1 : wr ((i : Int) + 1) = (i : Int) + 1 := wr_of _ (by omega) (by omega)
    have w2 : wr (s.2 + 1) = s.2 + 1 := wr_of _ (by omega) (by omega)
    have ap : app s.1 [s.2] = some (s.1 ++ [s.2]) := app_ok (by simp; unfold lim; omega)
    simp only [hlt, cond_true, ap, bd_some, ix_get, hx, spec_l3Value_eq, w1, w2]
    unfold plc
    cases decide (clv x a < 1) with
    | true => exact ⟨rfl, by simp [hs.1], by simp only [cond_true]; omega, by simp only [cond_true]; omega⟩
    | false => exact ⟨rfl, by simp [hs.1], by simp only [cond_false]; omega, by simp only [cond_false]; omega⟩) (fun s hs => by
    have hlt : decide ((F.clauses.length : Int) < len F.clauses) = false := by rw [decide_eq_false_iff_not, len_eq]; omega
    simp only [hlt, cond_false]) (fun _ => ?_)
  rw [plc_fold]
  refine bdR_foldI (X := Empty) (rv F a) (l := S) (s := ([], []))
    (fun i w => RvOk F i w) ⟨rfl, Nat.le_refl _, nofun, nofun⟩ (fun i x w hx hw => by
      refine ⟨?_, rv_ok h hx hw⟩
      have hi := (List.getElem?_eq_some_iff.1 hx).1
      have hc := (h.clause (List.mem_of_getElem? hx)).len
      have l1 := hw.len; have l2 := hw.le
      have ap1 : ∀ k, app w.1 [k] = some (w.1 ++ [k]) := fun k => app_ok (by simp; unfold lim; omega)
      have ap2 : ∀ s, app w.2 [s] = some (w.2 ++ [s]) := fun s => app_ok (by simp; unfold lim; omega)
      have e0 : (clv x.clause a == 1) = decide (0 < clv x.clause a) := by rcases clv_cases x.clause a with e | e | e <;> rw [e] <;> rfl
      unfold rv
      simp only [spec_l3Value_eq, bd_some, e0, ap1, ap2]
      cases h0 : decide (0 < clv x.clause a) with
      | true => rfl
      | false =>
      simp only [cond_false]
      cases h1 : decide (x.left < 0) with
      | true =>
        have hl : (x.left == -1) = true := by rw [beq_iff_eq]; have := of_decide_eq_true h1; have := h.nums hx; omega
        have hr := (h.nums hx); rw [beq_iff_eq] at hl
        have hr : 0 ≤ x.right ∧ x.right < len F.clauses := by rcases hr with hr | hr | hr <;> first | exact ⟨hr.2.2.1, hr.2.2.2⟩ | omega
        rw [len_eq] at hr
        have hix : ix ((List.range F.clauses.length).map fun k => cnt F a k) x.right = some (cnt F a x.right.toNat) := by
          unfold ix; rw [if_pos hr.1, List.getElem?_map, List.getElem?_range (by omega)]; rfl
        simp only [hl, BEq.rfl, cond_true, spec_l3Left_eq (show x.clause.length ≤ lim by unfold lim; omega), bd_some, hix]
      | false =>
        have hl0 : 0 ≤ x.left := by have := of_decide_eq_false h1; omega
        have hl : (x.left == -1) = false := by rw [beq_eq_false_iff_ne]; omega
        have hb := h.before hx hl0
        have t1 := hw.to hl0 hb.1
        cases h2 : decide (x.right < 0) with
        | true =>
          have hr : (x.right == -1) = true := by rw [beq_iff_eq]; have := of_decide_eq_true h2; have := h.nums hx; omega
          simp only [hl, hr, cond_true, cond_false, t1.1, bd_some]
        | false =>
          have hr0 : 0 ≤ x.right := by have := of_decide_eq_false h2; omega
          have hr : (x.right == -1) = false := by rw [beq_eq_false_iff_ne]; omega
          have t2 := hw.to hr0 (hb.2 hr0)
          simp only [hl, hr, cond_false, t1.1, t2.1, bd_some]
          cases h3 : decide (toA w.1 x.left < 0) with
          | true => rfl
          | false =>
          simp only [cond_false]
          cases h4 : decide (toA w.1 x.right < 0) with
          | true => rfl
          | false =>
          have m1 := of_decide_eq_false h3; have m2 := of_decide_eq_false h4
          obtain ⟨y1, g1, g2, c1⟩ := hw.st (k := toA w.1 x.left) (by omega) t1.2.2
          obtain ⟨y2, k1, k2, c2⟩ := hw.st (k := toA w.1 x.right) (by omega) t2.2.2
          have n1 := c1.len; have n2 := c2.len
          simp only [cond_false, bd_some, g1, k1, g2, k2, spec_l2Has_eq]
          cases !(clAt w.2 (toA w.1 x.left)).contains x.pivot with
          | true => simp only [cond_true, bd_some]
          | false =>
            cases !(clAt w.2 (toA w.1 x.right)).contains (wr (-x.pivot)) with
            | true => simp only [cond_true, cond_false, bd_some]
            | false => simp only [cond_false, spec_l2Resolve_eq (show (clAt w.2 (toA w.1 x.left)).length + (clAt w.2 (toA w.1 x.right)).length ≤ lim by unfold lim; omega), bd_some]) (fun e2 => ?_)
  unfold restrL spec_l7End
  generalize S.foldl (rv F a) ([], []) = w at e2
  cases hk : w.1.getLast? with
  | none =>
    rw [List.getLast?_eq_none_iff] at hk
    simp [hk, len_eq]
  | some k =>
    have h0 : (len w.1 == 0) = false := by rw [beq_eq_false_iff_ne, len_eq]; intro h; have e : w.1 = [] := List.eq_nil_of_length_eq_zero (by omega); rw [e] at hk; cases hk
    simp only [h0, cond_false]
    rw [last_ix (by rw [e2.len]; omega) hk, bd_some, cut_lastR e2 hS hk, bd_some, bd_some]
def restrV (F : Cnf) (S : List ResStep) (a : List Int) : List ResStep × Bool := bif derB F S && clauseB F.vars a then (restrL F S a, true) else ([], false)
theorem spec_RestrictSteps_eq {F : Cnf} {S : List ResStep} {a : List Int} (hF : okCnf F) (hS : okL okResStep S) (ha : okL okI a) : spec_RestrictSteps F S a = some (restrV F S a) := by
  unfold spec_RestrictSteps restrV spec_l3Good
  rw [spec_l7Good_eq hF hS, bd_some, spec_l2Clause_eq ha, bd_some]
  cases h : derB F S with
  | false => rfl
  | true =>
    cases hc : clauseB F.vars a with
    | false => rfl
    | true =>
      simp only [Bool.not_true, cond_false, cond_true, bd_some, Bool.and_self]
      rw [spec_l7Restrict_eq (derB_iff.1 h), bd_some]
theorem impl_RestrictSteps_eq {F : Cnf} {S : List ResStep} {a : List Int} (hF : okCnf F) (hS : okL okResStep S) (ha : okL okI a) : impl_RestrictSteps F S a = some (restrV F S a) := by
  unfold impl_RestrictSteps restrV impl_IsAssignment
  rw [impl_IsDerivation_eq hF hS, bd_some, impl_IsClause_eq ha, bd_some]
  cases h : derB F S with
  | false => rfl
  | true =>
  cases hc : clauseB F.vars a with
  | false => rfl
  | true =>
  simp only [Bool.not_true, cond_false, cond_true, bd_some, Bool.and_self]
  have h := derB_iff.1 h
  have hS := h.le
  obtain ⟨b1, b2⟩ := cnf_bounds h.cnf
  refine bdR_foldI (X := Empty) (rv F a) (l := S) (s := ([], []))
    (fun i w => RvOk F i w) ⟨rfl, Nat.le_refl _, nofun, nofun⟩ (fun i x w hx hw => by
      refine ⟨?_, rv_ok h hx hw⟩
      have hi := (List.getElem?_eq_some_iff.1 hx).1
      have hc := (h.clause (List.mem_of_getElem? hx)).len
      have l1 := hw.len; have l2 := hw.le
      have ap1 : ∀ k, app w.1 [k] = some (w.1 ++ [k]) := fun k => app_ok (by simp; unfold lim; omega)
      have ap2 : ∀ s, app w.2 [s] = some (w.2 ++ [s]) := fun s => app_ok (by simp; unfold lim; omega)
      have ln : ∀ s, wr (len (w.2 ++ [s]) - 1) = len w.2 := fun s => by rw [wrap_len (by simp; omega), len_eq, len_eq]; simp
      unfold rv impl_ResStep_isAxiom impl_ResStep_isWeakening
      simp only [impl_clauseValue_eq, bd_some, ap1, ap2, ln]
      cases h0 : decide (0 < clv x.clause a) with
      | true => simp only [cond_true, bd_some]
      | false =>
      simp only [cond_false]
      cases h1 : decide (x.left < 0) with
      | true =>
        have hl : x.left < 0 := of_decide_eq_true h1
        have hr : 0 ≤ x.right ∧ x.right < len F.clauses := by rcases h.nums hx with hr | hr | hr <;> first | exact ⟨hr.2.2.1, hr.2.2.2⟩ | omega
        rw [len_eq] at hr
        have hcut : cut F.clauses 0 x.right = some (F.clauses.take x.right.toNat) := by unfold cut; rw [if_pos (by omega)]; simp
        have hu : len (under (F.clauses.take x.right.toNat) a) = cnt F a x.right.toNat := by unfold under cnt; rw [len_eq, List.length_map]
        simp only [cond_true, impl_openPart_eq (show x.clause.length ≤ lim by unfold lim; omega), bd_some, hcut,
          impl_restrict_eq (cs := F.clauses.take x.right.toNat) (a := a) (by simp; unfold lim; omega) (fun c hc => by have := (b2 c (List.mem_of_mem_take hc)).len; unfold lim; omega), hu]
      | false =>
        have hl0 : 0 ≤ x.left := by have := of_decide_eq_false h1; omega
        have hl : decide (0 ≤ x.left) = true := decide_eq_true hl0
        have hb := h.before hx hl0
        have t1 := hw.to hl0 hb.1
        cases h2 : decide (x.right < 0) with
        | true => simp only [hl, cond_true, cond_false, t1.1, bd_some]
        | false =>
          have hr0 : 0 ≤ x.right := by have := of_decide_eq_false h2; omega
          have t2 := hw.to hr0 (hb.2 hr0)
          simp only [hl, cond_true, cond_false, t1.1, t2.1, bd_some]
          cases h3 : decide (toA w.1 x.left < 0) with
          | true => simp only [cond_true, bd_some]
          | false =>
          simp only [cond_false]
          cases h4 : decide (toA w.1 x.right < 0) with
          | true => simp only [cond_true, bd_some]
          | false =>
          have m1 := of_decide_eq_false h3; have m2 := of_decide_eq_false h4
          obtain ⟨y1, g1, g2, c1⟩ := hw.st (k := toA w.1 x.left) (by omega) t1.2.2
          obtain ⟨y2, k1, k2, c2⟩ := hw.st (k := toA w.1 x.right) (by omega) t2.2.2
          simp only [cond_false, bd_some, g1, k1, g2, k2, slices_Contains_int_int_eq]
          cases !(clAt w.2 (toA w.1 x.left)).contains x.pivot with
          | true => simp only [cond_true, bd_some]
          | false =>
            cases !(clAt w.2 (toA w.1 x.right)).contains (wr (-x.pivot)) with
            | true => simp only [cond_true, cond_false, bd_some]
            | false => simp only [cond_false, impl_resolve_eq c1 c2, bd_some]) (fun e2 => ?_)
  unfold restrL impl_last_int
  generalize S.foldl (rv F a) ([], []) = w at e2
  cases hk : w.1.getLast? with
  | none =>
    rw [List.getLast?_eq_none_iff] at hk
    simp [hk, len_eq]
  | some k =>
    have h0 : (len w.1 == 0) = false := by rw [beq_eq_false_iff_ne, len_eq]; intro h; have e : w.1 = [] := List.eq_nil_of_length_eq_zero (by omega); rw [e] at hk; cases hk
    simp only [h0, cond_false]
    rw [last_ix (by rw [e2.len]; omega) hk, bd_some, bd_some, cut_lastR e2 hS hk, bd_some, bd_some]
theorem rv_fold {F : Cnf} {S : List ResStep} {a : List Int} (h : IsD F S) : RvOk F S.length (S.foldl (rv F a) ([], [])) := by
  have key : ∀ n, n ≤ S.length → RvOk F n ((S.take n).foldl (rv F a) ([], [])) := by
    intro n
    induction n with
    | zero => intro _; exact ⟨rfl, Nat.le_refl _, nofun, nofun⟩
    | succ n ih =>
      intro hn
      obtain ⟨x, hx⟩ : ∃ x, S[n]? = some x := ⟨_, List.getElem?_eq_getElem (by omega)⟩
      rw [List.take_add_one, hx, List.foldl_append]
      exact rv_ok h hx (ih (by omega))
  have := key S.length (Nat.le_refl _)
  rwa [List.take_length] at this
theorem restrV_small {F : Cnf} {S : List ResStep} {a : List Int} : tot mResStep (restrV F S a).1 ≤ 100000 := by
  unfold restrV
  cases h : derB F S && clauseB F.vars a with
  | false => simp [tot]
  | true =>
    rw [Bool.and_eq_true] at h
    have hD := derB_iff.1 h.1
    have hSl := hD.le
    have hw := rv_fold hD (a := a)
    simp only [cond_true]
    unfold restrL
    split
    · rename_i k hk
      have := tot_leD (wt := mResStep) (n := 30) (l := (S.foldl (rv F a) ([], [])).2.take (k + 1).toNat) fun y hy => by
        have := (hw.isC y (List.mem_of_mem_take hy)).len
        unfold mResStep; omega
      have hl := hw.le
      have h2 : ((S.foldl (rv F a) ([], [])).2.take (k + 1).toNat).length ≤ (S.foldl (rv F a) ([], [])).2.length := by simp; omega
      omega
    · simp [tot]
theorem plain_RestrictSteps (a0 : Cnf) (a1 : List ResStep) (a2 : List Int) (o0 : okCnf a0) (o1 : okL okResStep a1) (o2 : okL okI a2) : laws_FnExactRestrictSteps a0 a1 a2 = some true := by
  unfold laws_FnExactRestrictSteps
  by_cases n2 : 1048576 < len a2
  · simp [n2]
  rw [len_eq] at n2
  simp only [len_eq, n2, decide_false, cond_false]
  obtain ⟨r0, q0, z0⟩ := sz_Cnf o0 (s := 1048576) (by omega) (by omega)
  rw [q0, bd_some]
  by_cases n0 : r0 < 0
  · simp [n0]
  obtain ⟨r1, q1, z1⟩ := sz_ResStepS o1 (s := r0) (by omega) (by omega)
  simp only [n0, decide_false, cond_false]
  rw [q1, bd_some]
  by_cases n1 : r1 < 0
  · simp [n1]
  simp only [n1, decide_false, cond_false]
  have t0 := to_Cnf (a := a0) (by unfold lim; omega)
  have t1 := to_ResStepS (a := a1) (by unfold lim; omega)
  have t2 := to_IntS (a := a2) (by unfold wIntS lim; omega)
  have hs := spec_RestrictSteps_eq o0 o1 o2
  have hi := impl_RestrictSteps_eq o0 o1 o2
  have hm := restrV_small (F := a0) (S := a1) (a := a2)
  generalize restrV a0 a1 a2 = g at hs hi hm
  have w0 : tot wIntS a0.clauses ≤ 1048576 := by unfold wCnf wIntSS at z0; omega
  have w1 := mResStep_le (a := a1) (by omega)
  have m0 := mark_Cnf (a := a0) (k := 1) (by omega) (by unfold big; omega)
  have m1 := mark_ResStepS (a := a1) (k := (laws_markCnf a0 1).2) (by omega) (by unfold big; omega)
  have m2 := mark_IntS (a := a2) (k := (laws_markResStepS a1 (laws_markCnf a0 1).2).2) (by omega) (by unfold big; omega)
  have mg := mark_ResStepS (a := g.1) (k := 1) (by omega) (by unfold big; omega)
  have hg := held_ResStepS (a := g.1) (k := 1) (by omega) (by unfold big; omega)
  have d1 : decide ((laws_markIntS a2 (laws_markResStepS a1 (laws_markCnf a0 1).2).2).2 < 0) = false := by rw [decide_eq_false_iff_not]; omega
  have d2 : decide ((laws_markResStepS g.1 1).2 < 0) = false := by rw [decide_eq_false_iff_not]; omega
  simp only [t0, t1, t2, hs, hi, hg, d1, d2, bd_some, eq_ResStepS, eq_Cnf, eq_IntS, BEq.rfl, Bool.not_true, cond_false, bif_tt, Bool.or_false]
end Go.PF
