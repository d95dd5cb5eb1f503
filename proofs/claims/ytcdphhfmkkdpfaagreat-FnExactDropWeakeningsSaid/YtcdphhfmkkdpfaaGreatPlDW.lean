/- DropWeakenings: the law. -/
import Derived.Test.YtcdphhfmkkdpfaaGreatPl8
set_option linter.unusedVariables false
namespace Go.PF
open Go.Pu
theorem wrap_len {A : Type} {xs : List A} (h : xs.length ≤ 1000000) : wr (len xs - 1) = len xs - 1 := wr_of _ (by rw [len_eq]; omega) (by rw [len_eq]; omega)
theorem res_isC {V : Int} {a b : List Int} {v : Int} (ha : IsC V a) (hb : IsC V b) : IsC V (res a b v).1 := by
  have hnil : IsC V [] := ⟨ha.lo, ha.hi, nofun, .nil⟩
  unfold res
  cases !a.contains v || !b.contains (wr (-v)) with
  | true => exact hnil
  | false =>
    simp only [cond_false]
    have key : ∀ c, IsC V c → IsC V (without c v) := fun c hc => ⟨hc.lo, hc.hi, fun l hl => hc.lit l (List.mem_filter.1 hl).1, hc.srt.filter _⟩
    have wa := key a ha; have wb := key b hb
    have h := joinL_spec (b := without b v) (s := without a v) wa.srt wa.sm wb.srt wb.sm
    unfold joined
    by_cases hx : ∃ y ∈ without b v, -y ∈ without a v
    · rw [if_pos hx] at h; rw [h]; exact hnil
    · rw [if_neg hx] at h
      obtain ⟨t, ht, hs, hm⟩ := h
      rw [ht]
      exact ⟨ha.lo, ha.hi, fun l hl => by rcases (hm l).1 hl with h | h; · exact wa.lit l h
                                          · exact wb.lit l h, hs⟩
theorem bdR_foldI {S X α β : Type} {body : Nat → α → S → Option (Lp S X)} {k : S → Option β} {lx : X → Option β} {r : Option β} (g : S → α → S) {l : List α} {s : S} (I : Nat → S → Prop) (h0 : I 0 s)
    (h : ∀ i x t, l[i]? = some x → I i t → body i x t = some (.nx (g t x)) ∧ I (i + 1) (g t x)) (hk : I l.length (l.foldl g s) → k (l.foldl g s) = r) : bdR (forL l body s) k lx = r := by
  obtain ⟨h1, h2⟩ := forL_foldI g I h0 h
  rw [h1, bdR_go]; exact hk h2
def toA (to : List Int) (k : Int) : Int := (to[k.toNat]?).getD 0
structure WvOk (F : Cnf) (i : Nat) (w : List Int × List ResStep) : Prop where
  len : w.1.length = i
  le : w.2.length ≤ i
  inr : ∀ k ∈ w.1, 0 ≤ k ∧ k < w.2.length
  isC : ∀ s ∈ w.2, IsC F.vars s.clause
theorem WvOk.to {F : Cnf} {i : Nat} {w : List Int × List ResStep} (h : WvOk F i w) {k : Int} (h0 : 0 ≤ k) (h1 : k < i) :
    ix w.1 k = some (toA w.1 k) ∧ 0 ≤ toA w.1 k ∧ toA w.1 k < w.2.length := by
  obtain ⟨x, hx, hg⟩ := ix_of (xs := w.1) h0 (by rw [h.len]; exact h1)
  have e : toA w.1 k = x := by unfold toA; rw [hg]; rfl
  rw [e]
  exact ⟨hx, h.inr x (List.mem_of_getElem? hg)⟩
theorem WvOk.st {F : Cnf} {i : Nat} {w : List Int × List ResStep} (h : WvOk F i w) {k : Int} (h0 : 0 ≤ k) (h1 : k < w.2.length) :
    ∃ y, ix w.2 k = some y ∧ y.clause = clAt w.2 k ∧ IsC F.vars (clAt w.2 k) := by
  obtain ⟨y, hy, hg⟩ := ix_of (xs := w.2) h0 h1
  have e : clAt w.2 k = y.clause := by unfold clAt; rw [hg]
  exact ⟨y, hy, e.symm, by rw [e]; exact h.isC y (List.mem_of_getElem? hg)⟩
theorem WvOk.copy {F : Cnf} {i : Nat} {w : List Int × List ResStep} (h : WvOk F i w) {k : Int} (hk : 0 ≤ k ∧ k < w.2.length) : WvOk F (i + 1) (w.1 ++ [k], w.2) :=
  ⟨by simp [h.len], by have := h.le; simp only; omega, fun z hz => by
    rcases List.mem_append.1 hz with hz | hz
    · exact h.inr z hz
    · rw [List.mem_singleton.1 hz]; exact hk, h.isC⟩
theorem WvOk.add {F : Cnf} {i : Nat} {w : List Int × List ResStep} (h : WvOk F i w) {s : ResStep} (hs : IsC F.vars s.clause) : WvOk F (i + 1) (w.1 ++ [Pu.len w.2], w.2 ++ [s]) :=
  ⟨by simp [h.len], by have := h.le; simp; omega, fun z hz => by
    simp only [List.length_append, List.length_singleton]
    rcases List.mem_append.1 hz with hz | hz
    · have := h.inr z hz; omega
    · rw [List.mem_singleton.1 hz, len_eq]; omega, fun z hz => by
    rcases List.mem_append.1 hz with hz | hz
    · exact h.isC z hz
    · rw [List.mem_singleton.1 hz]; exact hs⟩
def wv (w : List Int × List ResStep) (x : ResStep) : List Int × List ResStep :=
  bif decide (x.left < 0) then (w.1 ++ [len w.2], w.2 ++ [x])
  else bif decide (x.right < 0) then (w.1 ++ [toA w.1 x.left], w.2)
  else bif !(clAt w.2 (toA w.1 x.left)).contains x.pivot then (w.1 ++ [toA w.1 x.left], w.2)
  else bif !(clAt w.2 (toA w.1 x.right)).contains (wr (-x.pivot)) then (w.1 ++ [toA w.1 x.right], w.2)
  else (w.1 ++ [len w.2], w.2 ++ [⟨(res (clAt w.2 (toA w.1 x.left)) (clAt w.2 (toA w.1 x.right)) x.pivot).1, toA w.1 x.left, toA w.1 x.right, x.pivot⟩])
theorem wv_ok {F : Cnf} {S : List ResStep} (h : IsD F S) {i : Nat} {x : ResStep} (hx : S[i]? = some x) {w : List Int × List ResStep} (hw : WvOk F i w) : WvOk F (i + 1) (wv w x) := by
  have hc := h.clause (List.mem_of_getElem? hx)
  unfold wv
  cases h1 : decide (x.left < 0) with
  | true => exact hw.add hc
  | false =>
    have hl : 0 ≤ x.left := by have := of_decide_eq_false h1; omega
    have hb := h.before hx hl
    have t1 := hw.to hl hb.1
    simp only [cond_false]
    cases h2 : decide (x.right < 0) with
    | true => exact hw.copy t1.2
    | false =>
      have hr : 0 ≤ x.right := by have := of_decide_eq_false h2; omega
      have t2 := hw.to hr (hb.2 hr)
      simp only [cond_false]
      cases !(clAt w.2 (toA w.1 x.left)).contains x.pivot with
      | true => exact hw.copy t1.2
      | false =>
        simp only [cond_false]
        cases !(clAt w.2 (toA w.1 x.right)).contains (wr (-x.pivot)) with
        | true => exact hw.copy t2.2
        | false =>
          obtain ⟨_, _, _, c1⟩ := hw.st t1.2.1 t1.2.2
          obtain ⟨_, _, _, c2⟩ := hw.st t2.2.1 t2.2.2
          exact hw.add (res_isC c1 c2)
theorem spec_moved_ax {F : Cnf} {S : List ResStep} (h : IsD F S) {i : Nat} {x : ResStep} (hx : S[i]? = some x) (hl : x.left < 0) : spec_l7Moved x [] = some x := by
  have hc := (h.clause (List.mem_of_getElem? hx)).len
  unfold spec_l7Moved
  rw [spec_l1Own_eq (by unfold lim; omega), bd_some, show decide (0 ≤ x.left) = false by simp; omega]; rfl
theorem impl_moved_ax {F : Cnf} {S : List ResStep} (h : IsD F S) {i : Nat} {x : ResStep} (hx : S[i]? = some x) (hl : x.left < 0) : impl_ResStep_moved x (fun _ => none) = some x := by
  have hc := (h.clause (List.mem_of_getElem? hx)).len
  have hl2 : ¬ 0 ≤ x.left := by omega
  unfold impl_ResStep_moved impl_ResStep_isResolvent impl_ResStep_isAxiom
  rw [slices_Clone_int_int_eq (by unfold lim; omega), bd_some]
  simp only [hl, hl2, decide_true, decide_false, cond_false, Bool.not_true, bdR_go]
def dropL (S : List ResStep) : List ResStep := match (S.foldl wv ([], [])).1.getLast? with | some k => (S.foldl wv ([], [])).2.take (k.toNat + 1) | none => []
theorem cut_last {w : List Int × List ResStep} {F : Cnf} {i : Nat} (hw : WvOk F i w) (hi : i ≤ 200) {k : Int} (hk : w.1.getLast? = some k) : cut w.2 0 (wr (k + 1)) = some (w.2.take (k.toNat + 1)) := by
  have := hw.inr k (List.mem_of_getLast? hk); have := hw.le
  rw [wr_of _ (by omega) (by omega)]
  unfold cut
  rw [if_pos (by omega), show (k + 1).toNat = k.toNat + 1 by omega]; simp
theorem last_ix {w : List Int} (hl : w.length ≤ 1000000) {k : Int} (hk : w.getLast? = some k) : ix w (wr (len w - 1)) = some k := by
  rw [wrap_len hl]
  rw [List.getLast?_eq_getElem?] at hk
  have h0 : w.length ≠ 0 := fun h => by rw [List.eq_nil_of_length_eq_zero h] at hk; cases hk
  unfold ix
  rw [if_pos (by rw [len_eq]; omega), show (len w - 1).toNat = w.length - 1 by rw [len_eq]; omega]; exact hk
theorem spec_l7Drop_eq {F : Cnf} {S : List ResStep} (h : IsD F S) : spec_l7Drop S = some (dropL S) := by
  have hS := h.le
  unfold spec_l7Drop
  refine bdR_foldI (X := Empty) wv (l := S) (s := ([], []))
    (fun i w => WvOk F i w) ⟨rfl, Nat.le_refl _, nofun, nofun⟩ (fun i x w hx hw => by
      refine ⟨?_, wv_ok h hx hw⟩
      have hi := (List.getElem?_eq_some_iff.1 hx).1
      have hc := (h.clause (List.mem_of_getElem? hx)).len
      have l1 := hw.len; have l2 := hw.le
      have ap1 : ∀ k, app w.1 [k] = some (w.1 ++ [k]) := fun k => app_ok (by simp; unfold lim; omega)
      have ap2 : ∀ s, app w.2 [s] = some (w.2 ++ [s]) := fun s => app_ok (by simp; unfold lim; omega)
      unfold wv
      cases h1 : decide (x.left < 0) with
      | true =>
        have hl : (x.left == -1) = true := by rw [beq_iff_eq]; have := of_decide_eq_true h1; have := h.nums hx; omega
        simp only [hl, cond_true, spec_moved_ax h hx (of_decide_eq_true h1), bd_some, ap1, ap2]
      | false =>
        have hl0 : 0 ≤ x.left := by have := of_decide_eq_false h1; omega
        have hl : (x.left == -1) = false := by rw [beq_eq_false_iff_ne]; omega
        have hb := h.before hx hl0
        have t1 := hw.to hl0 hb.1
        cases h2 : decide (x.right < 0) with
        | true =>
          have hr : (x.right == -1) = true := by rw [beq_iff_eq]; have := of_decide_eq_true h2; have := h.nums hx; omega
          simp only [hl, hr, cond_true, cond_false, t1.1, bd_some, ap1]
        | false =>
          have hr0 : 0 ≤ x.right := by have := of_decide_eq_false h2; omega
          have hr : (x.right == -1) = false := by rw [beq_eq_false_iff_ne]; omega
          have t2 := hw.to hr0 (hb.2 hr0)
          obtain ⟨y1, g1, g2, c1⟩ := hw.st t1.2.1 t1.2.2
          obtain ⟨y2, k1, k2, c2⟩ := hw.st t2.2.1 t2.2.2
          have n1 := c1.len; have n2 := c2.len
          simp only [hl, hr, cond_false, t1.1, t2.1, bd_some, g1, k1, g2, k2, spec_l2Has_eq]
          cases !(clAt w.2 (toA w.1 x.left)).contains x.pivot with
          | true => simp only [cond_true, ap1, bd_some]
          | false =>
            cases !(clAt w.2 (toA w.1 x.right)).contains (wr (-x.pivot)) with
            | true => simp only [cond_true, cond_false, ap1, bd_some]
            | false => simp only [cond_false, spec_l2Resolve_eq (show (clAt w.2 (toA w.1 x.left)).length + (clAt w.2 (toA w.1 x.right)).length ≤ lim by unfold lim; omega), bd_some, ap1, ap2]) (fun e2 => ?_)
  unfold dropL spec_l7End
  generalize S.foldl wv ([], []) = w at e2
  cases hk : w.1.getLast? with
  | none =>
    rw [List.getLast?_eq_none_iff] at hk
    simp [hk, len_eq]
  | some k =>
    have h0 : (len w.1 == 0) = false := by rw [beq_eq_false_iff_ne, len_eq]; intro h; have e : w.1 = [] := List.eq_nil_of_length_eq_zero (by omega); rw [e] at hk; cases hk
    simp only [h0, cond_false]
    rw [last_ix (by rw [e2.len]; omega) hk, bd_some, cut_last e2 hS hk, bd_some, bd_some]
theorem impl_dropWeakenings_eq {F : Cnf} {S : List ResStep} (h : IsD F S) : impl_dropWeakenings S = some (dropL S) := by
  have hS := h.le
  unfold impl_dropWeakenings
  refine bdR_foldI (X := Empty) wv (l := S) (s := ([], []))
    (fun i w => WvOk F i w) ⟨rfl, Nat.le_refl _, nofun, nofun⟩ (fun i x w hx hw => by
      refine ⟨?_, wv_ok h hx hw⟩
      have hi := (List.getElem?_eq_some_iff.1 hx).1
      have hc := (h.clause (List.mem_of_getElem? hx)).len
      have l1 := hw.len; have l2 := hw.le
      have ap1 : ∀ k, app w.1 [k] = some (w.1 ++ [k]) := fun k => app_ok (by simp; unfold lim; omega)
      have ap2 : ∀ s, app w.2 [s] = some (w.2 ++ [s]) := fun s => app_ok (by simp; unfold lim; omega)
      have ln : ∀ s, wr (len (w.2 ++ [s]) - 1) = len w.2 := fun s => by rw [wrap_len (by simp; omega), len_eq, len_eq]; simp
      unfold wv impl_ResStep_isAxiom impl_ResStep_isWeakening
      cases h1 : decide (x.left < 0) with
      | true => simp only [cond_true, impl_moved_ax h hx (of_decide_eq_true h1), bd_some, bdR_go, ap1, ap2, ln]
      | false =>
        have hl0 : 0 ≤ x.left := by have := of_decide_eq_false h1; omega
        have hl : decide (0 ≤ x.left) = true := decide_eq_true hl0
        have hb := h.before hx hl0
        have t1 := hw.to hl0 hb.1
        cases h2 : decide (x.right < 0) with
        | true => simp only [hl, cond_true, cond_false, t1.1, bd_some, bdR_go, ap1]
        | false =>
          have hr0 : 0 ≤ x.right := by have := of_decide_eq_false h2; omega
          have t2 := hw.to hr0 (hb.2 hr0)
          obtain ⟨y1, g1, g2, c1⟩ := hw.st t1.2.1 t1.2.2
          obtain ⟨y2, k1, k2, c2⟩ := hw.st t2.2.1 t2.2.2
          simp only [hl, cond_true, cond_false, t1.1, t2.1, bd_some, g1, k1, g2, k2, slices_Contains_int_int_eq]
          cases !(clAt w.2 (toA w.1 x.left)).contains x.pivot with
          | true => simp only [cond_true, bd_some, bdR_go, ap1]
          | false =>
            cases !(clAt w.2 (toA w.1 x.right)).contains (wr (-x.pivot)) with
            | true => simp only [cond_true, cond_false, bd_some, bdR_go, ap1]
            | false => simp only [cond_false, impl_resolve_eq c1 c2, bd_some, bdR_go, ap1, ap2, ln]) (fun e2 => ?_)
  unfold dropL impl_last_int
  generalize S.foldl wv ([], []) = w at e2
  cases hk : w.1.getLast? with
  | none =>
    rw [List.getLast?_eq_none_iff] at hk
    simp [hk, len_eq]
  | some k =>
    have h0 : (len w.1 == 0) = false := by rw [beq_eq_false_iff_ne, len_eq]; intro h; have e : w.1 = [] := List.eq_nil_of_length_eq_zero (by omega); rw [e] at hk; cases hk
    simp only [h0, cond_false]
    rw [last_ix (by rw [e2.len]; omega) hk, bd_some, bd_some, cut_last e2 hS hk, bd_some, bd_some]
theorem wv_fold {F : Cnf} {S : List ResStep} (h : IsD F S) : WvOk F S.length (S.foldl wv ([], [])) := by
  have key : ∀ n, n ≤ S.length → WvOk F n ((S.take n).foldl wv ([], [])) := by
    intro n
    induction n with
    | zero => intro _; exact ⟨rfl, Nat.le_refl _, nofun, nofun⟩
    | succ n ih =>
      intro hn
      obtain ⟨x, hx⟩ : ∃ x, S[n]? = some x := ⟨_, List.getElem?_eq_getElem (by omega)⟩
      rw [List.take_add_one, hx, List.foldl_append]
      exact wv_ok h hx (ih (by omega))
  have := key S.length (Nat.le_refl _)
  rwa [List.take_length] at this
def dropV (F : Cnf) (S : List ResStep) : List ResStep × Bool := bif derB F S then (dropL S, true) else ([], false)
theorem spec_DropWeakenings_eq {F : Cnf} {S : List ResStep} (hF : okCnf F) (hS : okL okResStep S) : spec_DropWeakenings F S = some (dropV F S) := by
  unfold spec_DropWeakenings dropV
  rw [spec_l7Good_eq hF hS, bd_some]
  cases h : derB F S with
  | false => rfl
  | true =>
    simp only [Bool.not_true, cond_false, cond_true]
    rw [spec_l7Drop_eq (derB_iff.1 h), bd_some]
theorem impl_DropWeakenings_eq {F : Cnf} {S : List ResStep} (hF : okCnf F) (hS : okL okResStep S) : impl_DropWeakenings F S = some (dropV F S) := by
  unfold impl_DropWeakenings dropV
  rw [impl_IsDerivation_eq hF hS, bd_some]
  cases h : derB F S with
  | false => rfl
  | true =>
    simp only [Bool.not_true, cond_false, cond_true]
    rw [impl_dropWeakenings_eq (derB_iff.1 h), bd_some]
theorem tot_leD {A : Type} {wt : A → Nat} {n : Nat} : ∀ {l : List A}, (∀ x ∈ l, wt x ≤ n) → tot wt l ≤ n * l.length := by
  intro l
  induction l with
  | nil => intro _; simp [tot]
  | cons x l ih =>
    intro h
    have h1 := h x (by simp); have h2 := ih fun y hy => h y (by simp [hy])
    simp only [tot, List.length_cons, Nat.mul_add, Nat.mul_one]; omega
theorem dropV_small {F : Cnf} {S : List ResStep} : tot mResStep (dropV F S).1 ≤ 100000 := by
  unfold dropV
  cases h : derB F S with
  | false => simp [tot]
  | true =>
    have hD := derB_iff.1 h
    have hSl := hD.le
    have hw := wv_fold hD
    simp only [cond_true]
    unfold dropL
    split
    · rename_i k hk
      have := tot_leD (wt := mResStep) (n := 30) (l := (S.foldl wv ([], [])).2.take (k.toNat + 1)) fun y hy => by
        have := (hw.isC y (List.mem_of_mem_take hy)).len
        unfold mResStep; omega
      have hl := hw.le
      have h2 : ((S.foldl wv ([], [])).2.take (k.toNat + 1)).length ≤ (S.foldl wv ([], [])).2.length := by simp; omega
      omega
    · simp [tot]
theorem plain_DropWeakenings (a0 : Cnf) (a1 : List ResStep) (o0 : okCnf a0) (o1 : okL okResStep a1) : laws_FnExactDropWeakenings a0 a1 = some true := by
  unfold laws_FnExactDropWeakenings
  obtain ⟨r0, q0, z0⟩ := sz_Cnf o0 (s := 1048576) (by omega) (by omega)
  rw [q0, bd_some]
  by_cases n0 : r0 < 0
  · simp [n0]
  obtain ⟨r1, q1, z1⟩ := sz_ResStepS o1 (s := r0) (by omega) (by omega)
  simp only [n0, decide_false, cond_false]
  rw [q1, bd_some]
  by_cases n1 : r1 < 0
  · simp [n1]
  simp only [n1, decide_false, cond_false]
  have t0 := to_Cnf (a := a0) (by unfold lim; omega)
  have t1 := to_ResStepS (a := a1) (by unfold lim; omega)
  have hs := spec_DropWeakenings_eq o0 o1
  have hi := impl_DropWeakenings_eq o0 o1
  have hm := dropV_small (F := a0) (S := a1)
  generalize dropV a0 a1 = g at hs hi hm
  have w0 : tot wIntS a0.clauses ≤ 1048576 := by unfold wCnf wIntSS at z0; omega
  have w1 := mResStep_le (a := a1) (by omega)
  have m0 := mark_Cnf (a := a0) (k := 1) (by omega) (by unfold big; omega)
  have m1 := mark_ResStepS (a := a1) (k := (laws_markCnf a0 1).2) (by omega) (by unfold big; omega)
  have mg := mark_ResStepS (a := g.1) (k := 1) (by omega) (by unfold big; omega)
  have hg := held_ResStepS (a := g.1) (k := 1) (by omega) (by unfold big; omega)
  have d1 : decide ((laws_markResStepS a1 (laws_markCnf a0 1).2).2 < 0) = false := by rw [decide_eq_false_iff_not]; omega
  have d2 : decide ((laws_markResStepS g.1 1).2 < 0) = false := by rw [decide_eq_false_iff_not]; omega
  simp only [t0, t1, hs, hi, hg, d1, d2, bd_some, eq_ResStepS, eq_Cnf, BEq.rfl, Bool.not_true, cond_false, bif_tt, Bool.or_false]
end Go.PF
