/- UnfoldProof: the law. -/
import Derived.Test.YtbbdfaegfiepeaaGreatUqPl6
set_option linter.unusedVariables false
namespace Go.PF
open Go.Pu
/-- how many steps an unfolded step has -/
def tsz (S : List ResStep) (i : Nat) : Nat :=
  match S[i]? with
  | none => 1
  | some x => 1 + (if h : 0 ≤ x.left ∧ x.left.toNat < i then tsz S x.left.toNat else 0) + (if h : 0 ≤ x.left ∧ 0 ≤ x.right ∧ x.right.toNat < i then tsz S x.right.toNat else 0)
termination_by i
decreasing_by
  · exact h.2
  · exact h.2.2
/-- the unfolded steps of a step, behind others -/
def uf (S : List ResStep) (i : Nat) (out : List ResStep) : List ResStep :=
  match S[i]? with
  | none => out
  | some x =>
    if h : 0 ≤ x.left ∧ x.left.toNat < i then
      if h2 : 0 ≤ x.right ∧ x.right.toNat < i then
        uf S x.right.toNat (uf S x.left.toNat out) ++ [⟨x.clause, ((uf S x.left.toNat out).length : Int) - 1, ((uf S x.right.toNat (uf S x.left.toNat out)).length : Int) - 1, x.pivot⟩]
      else uf S x.left.toNat out ++ [⟨x.clause, ((uf S x.left.toNat out).length : Int) - 1, x.right, x.pivot⟩]
    else out ++ [x]
termination_by i
decreasing_by
  all_goals first | exact h.2 | exact h2.2
theorem mn_nat {a b : Nat} : mn (a : Int) (b : Int) = ((min a b : Nat) : Int) := by unfold mn; split <;> omega
section
variable {F : Cnf} {S : List ResStep} (hD : IsD F S)
include hD
theorem up_cases {i : Nat} {x : ResStep} (hx : S[i]? = some x) :
    (x.left < 0 ∧ tsz S i = 1 ∧ ∀ out, uf S i out = out ++ [x]) ∨
    (0 ≤ x.left ∧ x.right < 0 ∧ x.left.toNat < i ∧ tsz S i = 1 + tsz S x.left.toNat ∧ ∀ out, uf S i out = uf S x.left.toNat out ++ [⟨x.clause, ((uf S x.left.toNat out).length : Int) - 1, x.right, x.pivot⟩]) ∨
    (0 ≤ x.left ∧ 0 ≤ x.right ∧ x.left.toNat < i ∧ x.right.toNat < i ∧ tsz S i = 1 + tsz S x.left.toNat + tsz S x.right.toNat ∧
      ∀ out, uf S i out = uf S x.right.toNat (uf S x.left.toNat out) ++ [⟨x.clause, ((uf S x.left.toNat out).length : Int) - 1, ((uf S x.right.toNat (uf S x.left.toNat out)).length : Int) - 1, x.pivot⟩]) := by
  rcases hD.nums hx with ⟨h1, h2, h3, h4⟩ | ⟨h1, h2, h3, h4⟩ | ⟨h1, h2, h3, h4, h5, h6⟩
  · refine .inl ⟨by omega, ?_, fun out => ?_⟩
    · rw [tsz, hx]; simp only; rw [dif_neg (by omega), dif_neg (by omega)]
    · rw [uf, hx]; simp only; rw [dif_neg (by omega)]
  · refine .inr (.inl ⟨h1, by omega, by omega, ?_, fun out => ?_⟩)
    · rw [tsz, hx]; simp only; rw [dif_pos (by omega), dif_neg (by omega)]; rfl
    · rw [uf, hx]; simp only; rw [dif_pos (by omega), dif_neg (by omega)]
  · refine .inr (.inr ⟨h1, h3, by omega, by omega, ?_, fun out => ?_⟩)
    · rw [tsz, hx]; simp only; rw [dif_pos (by omega), dif_pos (by omega)]
    · rw [uf, hx]; simp only; rw [dif_pos (by omega), dif_pos (by omega)]
theorem uf_len : ∀ (i : Nat) (out : List ResStep), i < S.length → (uf S i out).length = out.length + tsz S i := by
  intro i
  induction i using Nat.strongRecOn with
  | ind i ih =>
    intro out hi
    have hx : S[i]? = some S[i] := List.getElem?_eq_getElem hi
    rcases up_cases hD hx with ⟨h1, h2, h3⟩ | ⟨h1, h2, h3, h4, h5⟩ | ⟨h1, h2, h3, h4, h5, h6⟩
    · rw [h3, h2]; simp
    · rw [h5, h4, List.length_append, ih _ h3 out (by omega)]; simp; omega
    · rw [h6, h5, List.length_append, ih _ h4 _ (by omega), ih _ h3 out (by omega)]; simp; omega
theorem uf_small : ∀ (i : Nat) (out : List ResStep), i < S.length → (∀ y ∈ out, y.clause.length ≤ 12) → ∀ y ∈ uf S i out, y.clause.length ≤ 12 := by
  intro i
  induction i using Nat.strongRecOn with
  | ind i ih =>
    intro out hi ho y hy
    have hx : S[i]? = some S[i] := List.getElem?_eq_getElem hi
    have hc := (hD.clause (List.getElem_mem hi)).len
    rcases up_cases hD hx with ⟨h1, h2, h3⟩ | ⟨h1, h2, h3, h4, h5⟩ | ⟨h1, h2, h3, h4, h5, h6⟩
    · rw [h3] at hy
      rcases List.mem_append.1 hy with hy | hy
      · exact ho y hy
      · rw [List.mem_singleton.1 hy]; exact hc
    · rw [h5] at hy
      rcases List.mem_append.1 hy with hy | hy
      · exact ih _ h3 out (by omega) ho y hy
      · rw [List.mem_singleton.1 hy]; exact hc
    · rw [h6] at hy
      rcases List.mem_append.1 hy with hy | hy
      · exact ih _ h4 _ (by omega) (ih _ h3 out (by omega) ho) y hy
      · rw [List.mem_singleton.1 hy]; exact hc
theorem tsz_pos {i : Nat} (hi : i < S.length) : 1 ≤ tsz S i := by
  have hx : S[i]? = some S[i] := List.getElem?_eq_getElem hi
  rcases up_cases hD hx with ⟨h1, h2, h3⟩ | ⟨h1, h2, h3, h4, h5⟩ | ⟨h1, h2, h3, h4, h5, h6⟩ <;> omega
theorem spec_unfold_F : ∀ (i n : Nat) (out : List ResStep), i < n → i < S.length → out.length ≤ 200 →
    ∃ r, spec_l8Unfold_F n S (i : Int) out = some r ∧ r.length ≤ 201 ∧ (out.length + tsz S i ≤ 200 → r = uf S i out) ∧ (200 < out.length + tsz S i → 200 < r.length) := by
  intro i
  induction i using Nat.strongRecOn with
  | ind i ih =>
    intro n out hn hi ho
    have hlim : lim = 4294967296 := rfl
    obtain ⟨n, rfl⟩ : ∃ m, n = m + 1 := ⟨n - 1, by omega⟩
    have hx : S[i]? = some S[i] := List.getElem?_eq_getElem hi
    generalize S[i] = x at hx
    have hc := (hD.clause (List.mem_of_getElem? hx)).len
    have e0 : spec_l8Copy x = some x := by
      unfold spec_l8Copy; rw [app_ok (by simp; omega), bd_some]; rfl
    show ∃ r, spec_l8Unfold_B (spec_l8Unfold_F n) S (i : Int) out = some r ∧ _
    unfold spec_l8Unfold_B
    rw [ix_get, hx, bd_some, e0, bd_some]
    rcases up_cases hD hx with ⟨h1, h2, h3⟩ | ⟨h1, h2, h3, h4, h5⟩ | ⟨h1, h2, h3, h4, h5, h6⟩
    · have a1 : spec_l8Axiom x = true := by unfold spec_l8Axiom; simpa using h1
      have a2 : spec_l8Resolvent (ResStep.mk x.clause x.left x.right x.pivot) = false := by unfold spec_l8Resolvent; simp; omega
      simp only [a1, a2, Bool.not_true, cond_false, bdR_go]
      rw [app_ok (by simp; omega), bd_some]
      refine ⟨_, rfl, by simp; omega, fun _ => (h3 out).symm, fun h => ?_⟩
      rw [h2] at h; simp; omega
    · have a1 : spec_l8Axiom x = false := by unfold spec_l8Axiom; simpa using h1
      obtain ⟨r, r1, r2, r3, r4⟩ := ih _ h3 n out (by omega) (by omega) ho
      have el : ((x.left.toNat : Nat) : Int) = x.left := by omega
      rw [el] at r1
      simp only [a1, Bool.not_false, cond_true, r1, bd_some]
      by_cases hr : 200 < r.length
      · rw [show decide (200 < len r) = true by rw [decide_eq_true_eq, len_eq]; omega]
        simp only [cond_true, bdR_rt]
        refine ⟨_, rfl, r2, fun h => ?_, fun _ => hr⟩
        have := r3 (by omega)
        rw [this, uf_len hD _ _ (by omega)] at hr
        omega
      · rw [show decide (200 < len r) = false by rw [decide_eq_false_iff_not, len_eq]; omega]
        have hre := r3 (by omega)
        have hrl := uf_len hD x.left.toNat out (by omega)
        rw [← hre] at hrl
        have a2 : ∀ a, spec_l8Resolvent (ResStep.mk x.clause a x.right x.pivot) = false := fun a => by unfold spec_l8Resolvent; simp; omega
        simp only [cond_false, bdR_go, a2]
        rw [app_ok (by simp; omega), bd_some, len_eq, wr_of _ (by omega) (by omega)]
        refine ⟨_, rfl, by simp; omega, fun _ => by rw [h5, ← hre], fun h => ?_⟩
        simp; omega
    · have a1 : spec_l8Axiom x = false := by unfold spec_l8Axiom; simpa using h1
      obtain ⟨r, r1, r2, r3, r4⟩ := ih _ h3 n out (by omega) (by omega) ho
      have el : ((x.left.toNat : Nat) : Int) = x.left := by omega
      rw [el] at r1
      simp only [a1, Bool.not_false, cond_true, r1, bd_some]
      by_cases hr : 200 < r.length
      · rw [show decide (200 < len r) = true by rw [decide_eq_true_eq, len_eq]; omega]
        simp only [cond_true, bdR_rt]
        refine ⟨_, rfl, r2, fun h => ?_, fun _ => hr⟩
        have := r3 (by omega)
        rw [this, uf_len hD _ _ (by omega)] at hr
        omega
      · rw [show decide (200 < len r) = false by rw [decide_eq_false_iff_not, len_eq]; omega]
        have hre := r3 (by omega)
        have hrl := uf_len hD x.left.toNat out (by omega)
        rw [← hre] at hrl
        obtain ⟨q, q1, q2, q3, q4⟩ := ih _ h4 n r (by omega) (by omega) (by omega)
        have er : ((x.right.toNat : Nat) : Int) = x.right := by omega
        rw [er] at q1
        have a2 : spec_l8Resolvent (ResStep.mk x.clause (wr (len r - 1)) x.right x.pivot) = true := by
          unfold spec_l8Resolvent
          have := tsz_pos hD (i := x.left.toNat) (by omega)
          rw [len_eq, wr_of _ (by omega) (by omega)]; simp; omega
        simp only [cond_false, bdR_go, a2, cond_true, q1, bd_some]
        by_cases hq : 200 < q.length
        · rw [show decide (200 < len q) = true by rw [decide_eq_true_eq, len_eq]; omega]
          refine ⟨_, rfl, q2, fun h => ?_, fun _ => hq⟩
          have := q3 (by omega)
          rw [this, uf_len hD _ _ (by omega)] at hq
          omega
        · rw [show decide (200 < len q) = false by rw [decide_eq_false_iff_not, len_eq]; omega]
          have hqe := q3 (by omega)
          have hql := uf_len hD x.right.toNat r (by omega)
          rw [← hqe] at hql
          simp only [cond_false]
          rw [app_ok (by simp; omega), bd_some, len_eq, len_eq, wr_of _ (by omega) (by omega), wr_of _ (by omega) (by omega)]
          refine ⟨_, rfl, by simp; omega, fun _ => by rw [h6, ← hre, ← hqe], fun h => ?_⟩
          simp; omega
theorem impl_unfold_F_eq : ∀ (i n : Nat) (out : List ResStep), i < n → i < S.length → out.length + tsz S i ≤ 100000 → impl_unfold_F n out S (i : Int) = some (uf S i out) := by
  intro i
  induction i using Nat.strongRecOn with
  | ind i ih =>
    intro n out hn hi ho
    have hlim : lim = 4294967296 := rfl
    obtain ⟨n, rfl⟩ : ∃ m, n = m + 1 := ⟨n - 1, by omega⟩
    have hx : S[i]? = some S[i] := List.getElem?_eq_getElem hi
    generalize S[i] = x at hx
    have hc := (hD.clause (List.mem_of_getElem? hx)).len
    show impl_unfold_B (impl_unfold_F n) out S (i : Int) = _
    unfold impl_unfold_B
    rw [ix_get, hx, bd_some]
    rcases up_cases hD hx with ⟨h1, h2, h3⟩ | ⟨h1, h2, h3, h4, h5⟩ | ⟨h1, h2, h3, h4, h5, h6⟩
    · have a1 : ∀ a c d, impl_ResStep_isAxiom (ResStep.mk a x.left c d) = true := fun a c d => by unfold impl_ResStep_isAxiom; simpa using h1
      have a0 : impl_ResStep_isAxiom x = true := a1 _ _ _
      have a2 : ∀ a c d, impl_ResStep_isResolvent (ResStep.mk a x.left c d) = false := fun a c d => by unfold impl_ResStep_isResolvent; simp; omega
      have a3 : impl_ResStep_isResolvent x = false := a2 _ _ _
      simp only [a0, a3, Bool.not_true, cond_false, bdR_go, slices_Clone_int_int_eq (c := x.clause) (by omega), bd_some, a2, a1]
      rw [app_ok (by simp; omega), bd_some, h3]
    · have a1 : ∀ a c d, impl_ResStep_isAxiom (ResStep.mk a x.left c d) = false := fun a c d => by unfold impl_ResStep_isAxiom; simpa using h1
      have a0 : impl_ResStep_isAxiom x = false := a1 _ _ _
      have a2 : ∀ a c d, impl_ResStep_isResolvent (ResStep.mk a c x.right d) = false := fun a c d => by unfold impl_ResStep_isResolvent; simp; omega
      have a3 : impl_ResStep_isResolvent x = false := a2 _ _ _
      have r1 := ih _ h3 n out (by omega) (by omega) (by omega)
      have el : ((x.left.toNat : Nat) : Int) = x.left := by omega
      rw [el] at r1
      have hrl := uf_len hD x.left.toNat out (by omega)
      have hp := tsz_pos hD (i := x.left.toNat) (by omega)
      simp only [a0, a3, Bool.not_false, cond_true, cond_false, bdR_go, slices_Clone_int_int_eq (c := x.clause) (by omega), bd_some, a2, a1, r1]
      rw [app_ok (by simp; omega), bd_some, h5, len_eq, wr_of _ (by omega) (by omega)]
      rfl
    · have a1 : ∀ a c d, impl_ResStep_isAxiom (ResStep.mk a x.left c d) = false := fun a c d => by unfold impl_ResStep_isAxiom; simpa using h1
      have a0 : impl_ResStep_isAxiom x = false := a1 _ _ _
      have a2 : ∀ a d, impl_ResStep_isResolvent (ResStep.mk a x.left x.right d) = true := fun a d => by unfold impl_ResStep_isResolvent; simp; omega
      have a3 : impl_ResStep_isResolvent x = true := a2 _ _
      have r1 := ih _ h3 n out (by omega) (by omega) (by omega)
      have hrl := uf_len hD x.left.toNat out (by omega)
      have q1 := ih _ h4 n (uf S x.left.toNat out) (by omega) (by omega) (by omega)
      have hql := uf_len hD x.right.toNat (uf S x.left.toNat out) (by omega)
      have el : ((x.left.toNat : Nat) : Int) = x.left := by omega
      have er : ((x.right.toNat : Nat) : Int) = x.right := by omega
      rw [el] at r1
      rw [er] at q1
      have hp := tsz_pos hD (i := x.left.toNat) (by omega)
      have hp2 := tsz_pos hD (i := x.right.toNat) (by omega)
      simp only [a0, a3, Bool.not_false, cond_true, bdR_go, slices_Clone_int_int_eq (c := x.clause) (by omega), bd_some, a2, a1, r1, q1]
      rw [app_ok (by simp; omega), bd_some, h6, len_eq, len_eq, wr_of _ (by omega) (by omega), wr_of _ (by omega) (by omega)]
      rfl
/-! the sums, up to a limit -/
theorem sums_bdR {lx : Empty → Option (List Int)} {l2 : Empty → Option (Lp (List Int) Empty)} {body : Nat → ResStep → List Int → Option (Lp (List Int) Empty)}
    (hb : ∀ i y s, body i y s = bd (some (impl_UnfoldProof_1 y)) fun r => bd (ix s ((i : Nat) : Int)) fun _ => bd (put s ((i : Nat) : Int) r) fun xs => bd (chk (len (impl_ResStep_premises y))) fun m =>
      bdR (forR (S := List Int) (X := Empty) 0 m (fun j s => bd (ix (impl_ResStep_premises y) ((j : Nat) : Int)) fun x => bd (ix s ((i : Nat) : Int)) fun a => bd (ix s x) fun b => bd (ix s ((i : Nat) : Int)) fun _ => bd (put s ((i : Nat) : Int) (mn (wr (a + b)) (wr (200 + 1)))) fun t => some (Lp.nx t)) xs) (fun s => some (Lp.nx s)) l2) :
    ∃ r, bdR (forL (S := List Int) (X := Empty) S body (List.replicate S.length 0)) (fun s => some s) lx = some r ∧ r.length = S.length ∧ ∀ i, i < S.length → r[i]? = some ((min (tsz S i) 201 : Nat) : Int) := by
  obtain ⟨s, h1, h2, h3⟩ := forL_inv (X := Empty) (body := body) (l := S) (s := List.replicate S.length 0) (fun i t => t.length = S.length ∧ ∀ j, j < i → t[j]? = some ((min (tsz S j) 201 : Nat) : Int)) ⟨by simp, nofun⟩ (fun i x t hx ht => by
    obtain ⟨t1, t2⟩ := ht
    have hi := (List.getElem?_eq_some_iff.1 hx).1
    obtain ⟨u, hu⟩ : ∃ u, t[i]? = some u := ⟨_, List.getElem?_eq_getElem (by omega)⟩
    have hset : ∀ (v : Int), ∃ s', (t.set i v) = s' ∧ s'.length = S.length ∧ s'[i]? = some v ∧ ∀ j, j < i → s'[j]? = t[j]? := fun v => ⟨_, rfl, by simp [t1], by simp [t1, hi], fun j hj => by rw [List.getElem?_set_ne (by omega)]⟩
    rw [hb, bd_some, ix_get, hu, bd_some, put_ok (by omega), bd_some]
    obtain ⟨s1, e1, l1, g1, k1⟩ := hset (impl_UnfoldProof_1 x)
    rw [e1]
    have fin : ∀ (s' : List Int) (v : Int), s'.length = S.length → s'[i]? = some v → (∀ j, j < i → s'[j]? = t[j]?) → v = ((min (tsz S i) 201 : Nat) : Int) → s'.length = S.length ∧ ∀ j, j < i + 1 → s'[j]? = some ((min (tsz S j) 201 : Nat) : Int) := fun s' v a b c d => ⟨a, fun j hj => by
      by_cases hji : j = i
      · subst hji; rw [b, d]
      · rw [c j (by omega)]; exact t2 j (by omega)⟩
    rcases up_cases hD hx with ⟨h1, h2, h3⟩ | ⟨h1, h2, h3, h4, h5⟩ | ⟨h1, h2, h3, h4, h5, h6⟩
    · have p0 : impl_ResStep_premises x = [] := by unfold impl_ResStep_premises impl_ResStep_isAxiom; simp [h1]
      rw [p0]
      refine ⟨s1, rfl, fin s1 _ l1 g1 k1 ?_⟩
      rw [h2]; rfl
    · have p0 : impl_ResStep_premises x = [x.left] := by
        unfold impl_ResStep_premises impl_ResStep_isAxiom impl_ResStep_isWeakening
        rw [show decide (x.left < 0) = false by rw [decide_eq_false_iff_not]; omega, show decide (0 ≤ x.left) = true by rw [decide_eq_true_eq]; omega, show decide (x.right < 0) = true by rw [decide_eq_true_eq]; omega]; rfl
      rw [p0]
      have hk := t2 _ h3
      obtain ⟨s2, e2, l2, g2, k2⟩ : ∃ s', (s1.set i (min (1 + min (tsz S x.left.toNat) 201) 201 : Nat)) = s' ∧ s'.length = S.length ∧ s'[i]? = some ((min (1 + min (tsz S x.left.toNat) 201) 201 : Nat) : Int) ∧ ∀ j, j < i → s'[j]? = t[j]? := ⟨_, rfl, by simp [l1], by simp [l1, hi], fun j hj => by rw [List.getElem?_set_ne (by omega)]; exact k1 j hj⟩
      refine ⟨s2, ?_, fin s2 _ l2 g2 k2 (by rw [h4]; omega)⟩
      have el : x.left = ((x.left.toNat : Nat) : Int) := by omega
      have hb : ix s1 x.left = some ((min (tsz S x.left.toNat) 201 : Nat) : Int) := by rw [el, ix_get, k1 _ h3]; exact hk
      have hput : put s1 (i : Int) (mn (wr (impl_UnfoldProof_1 x + ((min (tsz S x.left.toNat) 201 : Nat) : Int))) (wr (200 + 1))) = some s2 := by
        rw [put_ok (by omega), ← e2]
        refine congrArg (fun v => some (s1.set i v)) ?_
        unfold impl_UnfoldProof_1
        rw [wr_of _ (by omega) (by omega), show wr (200 + 1) = ((201 : Nat) : Int) from rfl, show (1 : Int) + ((min (tsz S x.left.toNat) 201 : Nat) : Int) = ((1 + min (tsz S x.left.toNat) 201 : Nat) : Int) by omega, mn_nat]
      rw [show chk (len [x.left]) = some 1 by unfold chk; rw [if_pos (by rw [len_eq, List.length_singleton]; omega)]; rfl, bd_some]
      unfold forR
      simp only [Nat.sub_zero, forFrom]
      rw [show ix [x.left] (((0 : Nat)) : Int) = some x.left from rfl, bd_some, ix_get, g1, bd_some, hb, bd_some, bd_some, hput, bd_some]
      rfl
    · have p0 : impl_ResStep_premises x = [x.left, x.right] := by
        unfold impl_ResStep_premises impl_ResStep_isAxiom impl_ResStep_isWeakening
        rw [show decide (x.left < 0) = false by rw [decide_eq_false_iff_not]; omega, show decide (0 ≤ x.left) = true by rw [decide_eq_true_eq]; omega, show decide (x.right < 0) = false by rw [decide_eq_false_iff_not]; omega]; rfl
      rw [p0]
      have hk := t2 _ h3
      have hk2 := t2 _ h4
      obtain ⟨s2, e2, l2, g2, k2⟩ : ∃ s', (s1.set i (min (1 + min (tsz S x.left.toNat) 201) 201 : Nat)) = s' ∧ s'.length = S.length ∧ s'[i]? = some ((min (1 + min (tsz S x.left.toNat) 201) 201 : Nat) : Int) ∧ ∀ j, j < i → s'[j]? = t[j]? := ⟨_, rfl, by simp [l1], by simp [l1, hi], fun j hj => by rw [List.getElem?_set_ne (by omega)]; exact k1 j hj⟩
      obtain ⟨s3, e3, l3, g3, k3⟩ : ∃ s', (s2.set i (min (min (1 + min (tsz S x.left.toNat) 201) 201 + min (tsz S x.right.toNat) 201) 201 : Nat)) = s' ∧ s'.length = S.length ∧ s'[i]? = some ((min (min (1 + min (tsz S x.left.toNat) 201) 201 + min (tsz S x.right.toNat) 201) 201 : Nat) : Int) ∧ ∀ j, j < i → s'[j]? = t[j]? := ⟨_, rfl, by simp [l2], by simp [l2, hi], fun j hj => by rw [List.getElem?_set_ne (by omega)]; exact k2 j hj⟩
      refine ⟨s3, ?_, fin s3 _ l3 g3 k3 (by rw [h5]; omega)⟩
      have el : x.left = ((x.left.toNat : Nat) : Int) := by omega
      have er : x.right = ((x.right.toNat : Nat) : Int) := by omega
      have hb : ix s1 x.left = some ((min (tsz S x.left.toNat) 201 : Nat) : Int) := by rw [el, ix_get, k1 _ h3]; exact hk
      have hb2 : ix s2 x.right = some ((min (tsz S x.right.toNat) 201 : Nat) : Int) := by rw [er, ix_get, k2 _ h4]; exact hk2
      have hput : put s1 (i : Int) (mn (wr (impl_UnfoldProof_1 x + ((min (tsz S x.left.toNat) 201 : Nat) : Int))) (wr (200 + 1))) = some s2 := by
        rw [put_ok (by omega), ← e2]
        refine congrArg (fun v => some (s1.set i v)) ?_
        unfold impl_UnfoldProof_1
        rw [wr_of _ (by omega) (by omega), show wr (200 + 1) = ((201 : Nat) : Int) from rfl, show (1 : Int) + ((min (tsz S x.left.toNat) 201 : Nat) : Int) = ((1 + min (tsz S x.left.toNat) 201 : Nat) : Int) by omega, mn_nat]
      have hput2 : put s2 (i : Int) (mn (wr (((min (1 + min (tsz S x.left.toNat) 201) 201 : Nat) : Int) + ((min (tsz S x.right.toNat) 201 : Nat) : Int))) (wr (200 + 1))) = some s3 := by
        rw [put_ok (by omega), ← e3]
        refine congrArg (fun v => some (s2.set i v)) ?_
        rw [wr_of _ (by omega) (by omega), show wr (200 + 1) = ((201 : Nat) : Int) from rfl, ← Int.natCast_add, mn_nat]
      rw [show chk (len [x.left, x.right]) = some 2 by unfold chk; rw [if_pos (by rw [len_eq]; simp)]; rfl, bd_some]
      unfold forR
      simp only [Nat.sub_zero, forFrom]
      rw [show ix [x.left, x.right] (((0 : Nat)) : Int) = some x.left from rfl, bd_some, ix_get, g1, bd_some, hb, bd_some, bd_some, hput, bd_some]
      simp only
      rw [show ix [x.left, x.right] (((0 + 1 : Nat)) : Int) = some x.right from rfl, bd_some, ix_get, g2, bd_some, hb2, bd_some, bd_some, hput2, bd_some]
      rfl)
  rw [h1, bdR_go]
  exact ⟨s, rfl, h2, h3⟩
theorem sums_eq : ∃ r, impl_sums S 200 (fun x => some (impl_UnfoldProof_1 x)) = some r ∧ r.length = S.length ∧ ∀ i, i < S.length → r[i]? = some ((min (tsz S i) 201 : Nat) : Int) := by
  have hlim : lim = 4294967296 := rfl
  have hl := hD.le
  unfold impl_sums
  rw [len_eq, mk2_ok (by omega), bd_some]
  exact sums_bdR hD (fun _ _ _ => by rfl)
end
def upV (F : Cnf) (S : List ResStep) : List ResStep × Bool :=
  bif derB F S && decide (0 < len S) then (bif decide (tsz S (S.length - 1) ≤ 200) then (uf S (S.length - 1) [], true) else ([], false)) else ([], false)
theorem spec_UnfoldProof_eq {F : Cnf} {S : List ResStep} (hF : okCnf F) (hS : okL okResStep S) : spec_UnfoldProof F S = some (upV F S) := by
  unfold spec_UnfoldProof upV spec_l8Takes
  cases h0 : decide (0 < len S) with
  | false => simp
  | true =>
    have hl := of_decide_eq_true h0
    rw [len_eq] at hl
    simp only [cond_true, spec_l7Good_eq hF hS, bd_some, Bool.and_true]
    cases hd : derB F S with
    | false => rfl
    | true =>
      have hD := derB_iff.1 hd
      have hl2 := hD.le
      simp only [Bool.not_true, cond_false, cond_true]
      rw [len_eq, wr_of _ (by omega) (by omega), show ((S.length : Int) - 1) = ((S.length - 1 : Nat) : Int) by omega]
      obtain ⟨r, r1, r2, r3, r4⟩ := spec_unfold_F hD (S.length - 1) deep [] (by rw [deep_eq]; omega) (by omega) (by simp)
      unfold spec_l8Unfold
      rw [r1, bd_some]
      simp only [List.length_nil, Nat.zero_add] at r3 r4
      by_cases ht : tsz S (S.length - 1) ≤ 200
      · have hlen := uf_len hD (S.length - 1) [] (by omega)
        rw [r3 ht, show decide (tsz S (S.length - 1) ≤ 200) = true from decide_eq_true ht, show decide (200 < len (uf S (S.length - 1) [])) = false by rw [decide_eq_false_iff_not, len_eq, hlen]; simp; omega]; rfl
      · have := r4 (by omega)
        rw [show decide (tsz S (S.length - 1) ≤ 200) = false from decide_eq_false ht, show decide (200 < len r) = true by rw [decide_eq_true_eq, len_eq]; omega]; rfl
theorem impl_UnfoldProof_eq {F : Cnf} {S : List ResStep} (hF : okCnf F) (hS : okL okResStep S) : impl_UnfoldProof F S = some (upV F S) := by
  unfold impl_UnfoldProof upV impl_isProof
  rw [impl_IsDerivation_eq hF hS, bd_some, bd_some]
  cases hd : derB F S with
  | false => rfl
  | true =>
    cases h0 : decide (0 < len S) with
    | false => rfl
    | true =>
      have hl := of_decide_eq_true h0
      rw [len_eq] at hl
      have hD := derB_iff.1 hd
      have hl2 := hD.le
      obtain ⟨r, r1, r2, r3⟩ := sums_eq hD
      simp only [Bool.not_true, cond_false, cond_true, Bool.and_true]
      rw [r1, bd_some]
      unfold impl_last_int
      rw [len_eq r, r2, wr_of _ (by omega) (by omega), show ((S.length : Int) - 1) = ((S.length - 1 : Nat) : Int) by omega, ix_get, r3 _ (by omega), bd_some, bd_some, bd_some, len_eq, wr_of _ (by omega) (by omega),
        show ((S.length : Int) - 1) = ((S.length - 1 : Nat) : Int) by omega]
      by_cases ht : tsz S (S.length - 1) ≤ 200
      · rw [show decide (tsz S (S.length - 1) ≤ 200) = true from decide_eq_true ht, show decide (200 < ((min (tsz S (S.length - 1)) 201 : Nat) : Int)) = false by rw [decide_eq_false_iff_not]; omega]
        unfold impl_unfold
        rw [cond_false, impl_unfold_F_eq hD _ _ _ (by rw [deep_eq]; omega) (by omega) (by simp; omega), bd_some]; rfl
      · rw [show decide (tsz S (S.length - 1) ≤ 200) = false from decide_eq_false ht, show decide (200 < ((min (tsz S (S.length - 1)) 201 : Nat) : Int)) = true by rw [decide_eq_true_eq]; omega]; rfl
theorem upV_small {F : Cnf} {S : List ResStep} : tot mResStep (upV F S).1 ≤ 3000 := by
  unfold upV
  cases h0 : derB F S && decide (0 < len S) with
  | false => exact Nat.zero_le _
  | true =>
    have h1 := (Bool.and_eq_true _ _).mp h0
    have hD := derB_iff.1 h1.1
    have hl := of_decide_eq_true h1.2
    rw [len_eq] at hl
    simp only [cond_true]
    cases ht : decide (tsz S (S.length - 1) ≤ 200) with
    | false => exact Nat.zero_le _
    | true =>
      have ht := of_decide_eq_true ht
      have key : ∀ l : List ResStep, (∀ c ∈ l, c.clause.length ≤ 12) → tot mResStep l ≤ 15 * l.length := by
        intro l
        induction l with
        | nil => intro _; exact Nat.le_refl _
        | cons c l ih =>
          intro h
          have := h c (by simp); have := ih fun d hd => h d (by simp [hd])
          simp only [tot, mResStep, List.length_cons]; omega
      have := key _ (uf_small hD (S.length - 1) [] (by omega) nofun)
      have hlen := uf_len hD (S.length - 1) [] (by omega)
      simp only [List.length_nil, Nat.zero_add] at hlen
      simp only [cond_true]; omega
theorem plain_UnfoldProof (a0 : Cnf) (a1 : List ResStep) (o0 : okCnf a0) (o1 : okL okResStep a1) : laws_FnExactUnfoldProof a0 a1 = some true := by
  unfold laws_FnExactUnfoldProof
  obtain ⟨r0, q0, z0⟩ := sz_Cnf o0 (s := 1048576) (by omega) (by omega)
  rw [q0, bd_some]
  by_cases n0 : r0 < 0
  · simp [n0]
  obtain ⟨r1, q1, z1⟩ := sz_ResStepS o1 (s := r0) (by omega) (by omega)
  simp only [n0, decide_false, cond_false]
  rw [q1, bd_some]
  by_cases n1 : r1 < 0
  · simp [n1]
  simp only [n1, decide_false, cond_false]
  have hlim : lim = 4294967296 := rfl
  have t0 := to_Cnf (a := a0) (by omega)
  have t1 := to_ResStepS (a := a1) (by omega)
  have hs := spec_UnfoldProof_eq (F := a0) o0 o1
  have hi := impl_UnfoldProof_eq (F := a0) o0 o1
  have hm := upV_small (F := a0) (S := a1)
  generalize upV a0 a1 = g at hs hi hm
  have w0 : tot wIntS a0.clauses ≤ 1048576 := by unfold wCnf wIntSS at z0; omega
  have w1 := mResStep_le (a := a1) (by omega)
  have m0 := mark_Cnf (a := a0) (k := 1) (by omega) (by unfold big; omega)
  have m1 := mark_ResStepS (a := a1) (k := (laws_markCnf a0 1).2) (by omega) (by unfold big; omega)
  have mg := mark_ResStepS (a := g.1) (k := 1) (by omega) (by unfold big; omega)
  have hg := held_ResStepS (a := g.1) (k := 1) (by omega) (by unfold big; omega)
  have d1 : decide ((laws_markResStepS a1 (laws_markCnf a0 1).2).2 < 0) = false := by rw [decide_eq_false_iff_not]; omega
  have d2 : decide ((laws_markResStepS g.1 1).2 < 0) = false := by rw [decide_eq_false_iff_not]; omega
  simp only [t0, t1, hs, hi, hg, d1, d2, bd_some, eq_ResStepS, eq_Cnf, BEq.rfl, Bool.not_true, cond_false, bif_tt, Bool.or_false]
end Go.PF
