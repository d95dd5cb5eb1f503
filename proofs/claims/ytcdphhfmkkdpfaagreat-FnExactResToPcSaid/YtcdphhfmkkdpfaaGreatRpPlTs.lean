/- The translation of a derivation: the reference. -/
import Derived.Test.YtcdphhfmkkdpfaaGreatRpPlTr
set_option linter.unusedVariables false
namespace Go.PF
open Go.Pu
open Go.La (vadd co)
def trL (p v : Int) (S : List ResStep) : TS := S.foldl (trS p v S) ([], [], [])
theorem To.nil {p v : Int} : To p v 0 ([], [], []) := ⟨rfl, ⟨rfl, nofun, fun j s q h => by cases h⟩, Nat.le_refl _, nofun⟩
theorem filter_more {V : Int} {c fr : List Int} (hc : IsC V c) (hV : V ≤ 12) : (c.filter fun y => !(bif fr.contains y then true else (vr y == 0))) = more c fr := by
  unfold more
  refine List.filter_congr fun y hy => ?_
  have hl := hc.lits y hy
  have hv := vr_nat (l := y) (by omega) (by omega)
  have hz : (vr y == 0) = false := by
    rw [beq_eq_false_iff_ne, hv]
    cases hd : decide (y < 0) <;> simp only [cond_true, cond_false] <;> omega
  rw [hz]
  cases fr.contains y <;> rfl
theorem filter_without {c fr : List Int} {u : Int} : (c.filter fun y => !(bif fr.contains y then true else (vr y == u))) = without (more c fr) u := by
  unfold more without
  rw [List.filter_filter]
  refine List.filter_congr fun y hy => ?_
  cases fr.contains y <;> cases vr y == u <;> rfl
theorem pc_ln {st : List PcStep} {s : PcStep} (h : st.length ≤ 100000) : wr (len (st ++ [s]) - 1) = len st := by
  have e : len (st ++ [s]) = len st + 1 := by rw [len_eq, len_eq, List.length_append]; rfl
  have := len_eq st
  rw [e, wr_sm (by omega) (by omega)]; omega
theorem Wo.ge {p : Int} {N L n : Nat} {s : WS} (h : Wo p N L n s) (hn : n ≠ 0) : (L : Int) ≤ s.2.2 := h.ex.resolve_left hn
theorem spec_l21Translate_eq {p : Int} {F : Cnf} {S : List ResStep} (h : PV p F.vars) (hD : IsD F S) : spec_l21Translate p F S = some ⟨(trL p F.vars S).2.2, (trL p F.vars S).1⟩ := by
  have hS := hD.le; have hp := h.pos; have h6 := h.v6
  unfold spec_l21Translate
  refine bdR_sim (X := Empty) (F := trS p F.vars S) (t0 := ([], [], [])) (fun i t s => s = (t.1, t.2.2) ∧ To p F.vars i t) ⟨rfl, To.nil⟩ (fun i x t s hx hs => ?_) (fun s' hs' => ?_)
  · obtain ⟨rfl, hw⟩ := hs
    refine ⟨((trS p F.vars S t x).1, (trS p F.vars S t x).2.2), ?_, rfl, trS_ok h hD hx hw⟩
    have hi := (List.getElem?_eq_some_iff.1 hx).1
    have hc := hD.clause (List.mem_of_getElem? hx)
    have hcl := hc.len
    have l1 := hw.len; have l2 := hw.le
    have ap1 : ∀ k, app t.1 [k] = some (t.1 ++ [k]) := fun k => app_ok (by simp; unfold lim; omega)
    have apn : ∀ (st : List PcStep) s, st.length ≤ 100000 → app st [s] = some (st ++ [s]) := fun st s h => app_ok (by simp; unfold lim; omega)
    unfold trS
    cases h1 : decide (x.left < 0) with
    | true =>
      have hl : (x.left == -1) = true := by rw [beq_iff_eq]; have := of_decide_eq_true h1; have := hD.nums hx; omega
      simp only [hl, cond_true, spec_l18Clause_eq h hc, bd_some, apn t.2.2 _ (by omega), pc_ln (show t.2.2.length ≤ 100000 by omega), ap1]
    | false =>
      have hl0 : 0 ≤ x.left := by have := of_decide_eq_false h1; omega
      have hl : (x.left == -1) = false := by rw [beq_eq_false_iff_ne]; omega
      have hb := hD.before hx hl0
      have t1 := hw.to hl0 hb.1
      obtain ⟨y1, g1, g2, c1⟩ := clAt_isC hD hl0 (by have := hb.1; omega)
      cases h2 : decide (x.right < 0) with
      | true =>
        have hr : (x.right == -1) = true := by rw [beq_iff_eq]; have := of_decide_eq_true h2; have := hD.nums hx; omega
        simp only [hl, hr, cond_true, cond_false, t1.1, bd_some, g1]
        have wo := hw.wo t1.2.1 t1.2.2
        refine bd_of ((more x.clause (clAt S x.left)).foldl (wid p (nN F.vars)) (t.2.1, t.2.2, toA t.1 x.left)).2 ?_ ?_
        · refine spec_wid_loop h (L := t.2.2.length) (by omega) (fr := y1.clause) (but := 0) (s0 := (t.2.1, t.2.2, toA t.1 x.left)) hc wo (fun i y s => by rw [spec_l2Has_eq, bd_some]; rfl) (fun _ => ?_)
          rw [filter_more hc (by omega), g2]
        · have hr2 := wids h (ls := more x.clause (clAt S x.left)) wo
          cases hm : more x.clause (clAt S x.left) with
          | nil =>
            have l0 : (len ([] : List Int) == 0) = true := rfl
            simp only [List.foldl_nil, BEq.rfl, cond_true, l0]
            obtain ⟨_, ha, s, hs, hsp⟩ := hw.ps.at t1.2.1 t1.2.2
            have e : sumD p (nN F.vars) (gp t.2.1 (toA t.1 x.left)) 1 (gp t.2.1 (toA t.1 x.left)) 0 = gp t.2.1 (toA t.1 x.left) := by
              unfold sumD
              generalize gp t.2.1 (toA t.1 x.left) = a at ha
              have e1 : vadd p 1 (zs (nN F.vars)) a = a := by
                apply List.ext_getElem?
                intro j
                unfold vadd zs
                rw [List.getElem?_zipWith, List.getElem?_replicate]
                by_cases hj : j < nN F.vars
                · rw [if_pos hj, List.getElem?_eq_getElem (by rw [ha.len]; exact hj)]
                  have := ha.bd _ (List.getElem_mem (l := a) (n := j) (by rw [ha.len]; exact hj))
                  simp only [Int.zero_add, Int.one_mul, Int.emod_eq_of_lt this.1 this.2]
                · rw [if_neg hj, List.getElem?_eq_none (by rw [ha.len]; omega)]
              rw [e1]
              apply List.ext_getElem?
              intro j
              unfold vadd
              rw [List.getElem?_zipWith]
              cases hj : a[j]? with
              | none => rfl
              | some y =>
                have := ha.bd y (List.mem_of_getElem? hj)
                simp only [Int.zero_mul, Int.add_zero, Int.emod_eq_of_lt this.1 this.2]
            have hal : sp (gp t.2.1 (toA t.1 x.left)) = s.poly := hsp.symm
            have hsl : s.poly.length ≤ 64 := by
              rw [hsp]
              have : (sp (gp t.2.1 (toA t.1 x.left))).length ≤ (gp t.2.1 (toA t.1 x.left)).length := by
                unfold sp; rw [spF_filter]
                refine Nat.le_trans (List.length_filter_le _ _) (Nat.le_of_eq ?_)
                have : ∀ (a : List Int) (i : Nat), (fuF i a).length = a.length := by
                  intro a; induction a with
                  | nil => intro i; rfl
                  | cons z a ih => intro i; simp [fuF, ih]
                exact this _ _
              rw [ha.len] at this; have := nN_le h6; omega
            have hcp : spec_l20Terms s.poly = some s.poly := by unfold spec_l20Terms; rw [app_ok (by simp; unfold lim; omega)]; rfl
            simp only [hs, bd_some, hcp, apn t.2.2 _ (by omega), pc_ln (show t.2.2.length ≤ 100000 by omega), ap1, e, hal]
          | cons z zs_ =>
            rw [hm] at hr2
            have hge := hr2.ge (by simp)
            have hne : ((List.foldl (wid p (nN F.vars)) (t.2.1, t.2.2, toA t.1 x.left) (z :: zs_)).2.2 == toA t.1 x.left) = false := by rw [beq_eq_false_iff_ne]; have := t1.2.2; omega
            have hlz : (len (z :: zs_) == 0) = false := by rw [beq_eq_false_iff_ne, len_eq]; simp; omega
            simp only [hne, hlz, cond_false, ap1, bd_some]
      | false =>
        have hr0 : 0 ≤ x.right := by have := of_decide_eq_false h2; omega
        have hr : (x.right == -1) = false := by rw [beq_eq_false_iff_ne]; omega
        have t2 := hw.to hr0 (hb.2 hr0)
        obtain ⟨y2, k1, k2, c2⟩ := clAt_isC hD hr0 (by have := hb.2 hr0; omega)
        have n1 := c1.len; have n2 := c2.len
        simp only [hl, hr, cond_false, t1.1, t2.1, bd_some, g1, k1]
        have wo := hw.wo t1.2.1 t1.2.2
        have r1 := wids h (ls := without (more (clAt S x.right) (clAt S x.left)) x.pivot) wo
        have wo2 := r1.re t2.2.1 t2.2.2
        have r2 := wids h (ls := without (more (clAt S x.left) (clAt S x.right)) x.pivot) wo2
        have m1 := without_le (more (clAt S x.right) (clAt S x.left)) x.pivot; have m2 := more_le (clAt S x.right) (clAt S x.left)
        have m3 := without_le (more (clAt S x.left) (clAt S x.right)) x.pivot; have m4 := more_le (clAt S x.left) (clAt S x.right)
        refine bd_of ((without (more (clAt S x.right) (clAt S x.left)) x.pivot).foldl (wid p (nN F.vars)) (t.2.1, t.2.2, toA t.1 x.left)).2 ?_ ?_
        · refine spec_wid_loop h (L := t.2.2.length) (by omega) (fr := y1.clause) (but := x.pivot) (s0 := (t.2.1, t.2.2, toA t.1 x.left)) (by rw [k2]; exact c2) wo (fun i y s => by rw [spec_l2Has_eq, bd_some]; rfl) (fun _ => ?_)
          rw [filter_without, g2, k2]
        · generalize (without (more (clAt S x.right) (clAt S x.left)) x.pivot).foldl (wid p (nN F.vars)) (t.2.1, t.2.2, toA t.1 x.left) = q1 at r1 wo2 r2 ⊢
          have l3 := r1.lo; have l4 := r1.hi
          refine bd_of ((without (more (clAt S x.left) (clAt S x.right)) x.pivot).foldl (wid p (nN F.vars)) (q1.1, q1.2.1, toA t.1 x.right)).2 ?_ ?_
          · refine spec_wid_loop h (L := q1.2.1.length) (by omega) (fr := y2.clause) (but := x.pivot) (s0 := (q1.1, q1.2.1, toA t.1 x.right)) (by rw [g2]; exact c1) wo2 (fun i y s => by rw [spec_l2Has_eq, bd_some]; rfl) (fun _ => ?_)
            rw [filter_without, g2, k2]
          · generalize (without (more (clAt S x.left) (clAt S x.right)) x.pivot).foldl (wid p (nN F.vars)) (q1.1, q1.2.1, toA t.1 x.right) = q2 at r2 ⊢
            have l5 := r2.lo; have l6 := r2.hi
            obtain ⟨_, a1, s1, e1, p1⟩ := r2.ps.at r1.now0 (by have := r1.now1; omega)
            obtain ⟨_, a2, s2, e2, p2⟩ := r2.ps.at r2.now0 r2.now1
            simp only [e1, e2, bd_some, p1, p2, spec_l20Sum_eq h (x := 1) (y := 1) ⟨by omega, by omega⟩ ⟨by omega, by omega⟩ a1 a2, apn q2.2.1 _ (by omega), pc_ln (show q2.2.1.length ≤ 100000 by omega), ap1]
  · rw [hs'.1]; rfl
end Go.PF
