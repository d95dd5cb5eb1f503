/- DagOfProof: the law. -/
import Derived.Test.YtgkmebdjookgnaaGreatPl8
set_option linter.unusedVariables false
namespace Go.PF
open Go.Pu

def dagL (S : List ResStep) : List (List Int) := S.map fun x => setI (prem x)
def dagV (F : Cnf) (S : List ResStep) : Dag × Bool := bif derB F S && inB (len S) 1 10 then (⟨dagL S⟩, true) else (⟨[]⟩, false)
theorem uses_eq {F : Cnf} {S : List ResStep} (h : IsD F S) {i : Nat} {x : ResStep} (hx : S[i]? = some x) : spec_l7Uses x = prem x := by
  unfold spec_l7Uses prem
  rcases h.nums hx with h | h | h
  · simp [h.1]
  · have h1 : (x.left == -1) = false := beq_eq_false_iff_ne.2 (by omega)
    have h2 : ¬ x.left < 0 := by omega
    simp [h1, h2, h.2.2.1]
  · have h1 : (x.left == -1) = false := beq_eq_false_iff_ne.2 (by omega)
    have h2 : ¬ x.left < 0 := by omega
    have h3 : (x.right == -1) = false := beq_eq_false_iff_ne.2 (by omega)
    simp [h1, h2, h3, h.1, h.2.2.1]
theorem spec_dag_loop {F : Cnf} {S : List ResStep} (h : IsD F S) {f : Nat → ResStep → List (List Int) → Option (Lp (List (List Int)) Empty)}
    (hf : ∀ i38 y37 s38, f i38 y37 s38 = bdR (iter (S := ((List Int) × Int)) (X := Empty) (fun s330 => (bif (decide (s330.2 < (len (PF.spec_l7Uses y37)))) then bd (ix (PF.spec_l7Uses y37) s330.2) (fun x381 => bd (PF.spec_l1Put s330.1 x381) (fun r383 => some (Lp.nx (r383, (wr (s330.2 + 1)))))) else some (Lp.bk (s330.1, s330.2)))) ([], 0)) (fun s330 => bd (app s38 [s330.1]) (fun xs407 => some (Lp.nx xs407))) (fun x330 => nomatch x330)) :
    forL S f [] = some (.go (dagL S)) := by
  have hS := h.le
  obtain ⟨s', h1, h2⟩ := forL_inv (X := Empty) (body := f) (fun i t => t = (S.take i).map fun x => setI (prem x)) (l := S) (s := []) (by simp) (fun i x t hx ht => by
    have hi := (List.getElem?_eq_some_iff.1 hx).1
    refine ⟨t ++ [setI (prem x)], ?_, by rw [ht, List.take_add_one, hx]; simp⟩
    rw [hf, uses_eq h hx]
    have hp := prem_len x
    rw [put_loop (xs := prem x) (c := []) (by simp) (by unfold lim; simp; omega) (fun m y s hy => by
      have hm := (List.getElem?_eq_some_iff.1 hy).1
      have hd : decide ((m : Int) < len (prem x)) = true := by rw [len_eq]; simp; omega
      simp only [hd, cond_true, ix_get, hy, bd_some]) (fun s => by
      have hd : decide (((prem x).length : Int) < len (prem x)) = false := by rw [len_eq]; simp
      simp only [hd, cond_false]), bdR_go, putI_set]
    have htl : t.length ≤ 200 := by rw [ht]; simp; omega
    simp only
    rw [app_ok (by unfold lim; simp; omega), bd_some])
  rw [h1, h2, List.take_length]; rfl
theorem spec_l15Dag_eq {F : Cnf} {S : List ResStep} (h : IsD F S) : spec_l15Dag S = some ⟨dagL S⟩ := by
  unfold spec_l15Dag
  rw [spec_dag_loop h (fun _ _ _ => by rfl), bdR_go]
theorem impl_dag_loop {F : Cnf} {S : List ResStep} (h : IsD F S) {f : Nat → ResStep → List (List Int) → Option (Lp (List (List Int)) Empty)}
    (hf : ∀ i75 y74 s75, f i75 y74 s75 = bd (PF.slices_Sort_int_int (PF.impl_ResStep_premises y74)) (fun r8240 => bd (PF.slices_Compact_int_int r8240) (fun r9848 => bd (app s75 [r9848]) (fun xs10648 => some (Lp.nx xs10648))))) :
    forL S f [] = some (.go (dagL S)) := by
  have hS := h.le
  obtain ⟨s', h1, h2⟩ := forL_inv (X := Empty) (body := f) (fun i t => t = (S.take i).map fun x => setI (prem x)) (l := S) (s := []) (by simp) (fun i x t hx ht => by
    have hi := (List.getElem?_eq_some_iff.1 hx).1
    refine ⟨t ++ [setI (prem x)], ?_, by rw [ht, List.take_add_one, hx]; simp⟩
    have hp := prem_len x
    have htl : t.length ≤ 200 := by rw [ht]; simp; omega
    rw [hf, impl_premises_eq, slices_Sort_eq (by unfold lim; omega), bd_some]
    show bd (app t [setI (prem x)]) _ = _
    rw [app_ok (by unfold lim; simp; omega), bd_some])
  rw [h1, h2, List.take_length]; rfl
theorem spec_DagOfProof_eq {F : Cnf} {S : List ResStep} (hF : okCnf F) (hS : okL okResStep S) : spec_DagOfProof F S = some (dagV F S) := by
  unfold spec_DagOfProof spec_l15Proof dagV
  rw [spec_l1In_eq, spec_l7Good_eq hF hS]
  cases h2 : inB (len S) 1 10 with
  | false => simp
  | true =>
    cases h : derB F S with
    | false => rfl
    | true =>
      simp only [cond_true, bd_some, Bool.not_true, cond_false, Bool.and_true]
      rw [spec_l15Dag_eq (derB_iff.1 h), bd_some]
theorem impl_DagOfProof_eq {F : Cnf} {S : List ResStep} (hF : okCnf F) (hS : okL okResStep S) : impl_DagOfProof F S = some (dagV F S) := by
  unfold impl_DagOfProof dagV
  rw [impl_IsDerivation_eq hF hS, bd_some, impl_within_eq]
  cases h : derB F S with
  | false => rfl
  | true =>
    cases h2 : inB (len S) 1 10 with
    | false => rfl
    | true =>
      simp only [cond_true, Bool.not_true, cond_false, Bool.and_true]
      rw [impl_dag_loop (derB_iff.1 h) (fun _ _ _ => by rfl), bdR_go]
theorem tot_le {A : Type} {wt : A → Nat} {n : Nat} : ∀ {l : List A}, (∀ x ∈ l, wt x ≤ n) → tot wt l ≤ n * l.length := by
  intro l
  induction l with
  | nil => intro _; simp [tot]
  | cons x l ih =>
    intro h
    have h1 := h x (by simp); have h2 := ih fun y hy => h y (by simp [hy])
    simp only [tot, List.length_cons, Nat.mul_add, Nat.mul_one]; omega
theorem dagV_small {F : Cnf} {S : List ResStep} : tot wIntS (dagV F S).1.preds ≤ 10000 := by
  unfold dagV
  cases h : derB F S && inB (len S) 1 10 with
  | false => simp [tot]
  | true =>
    rw [Bool.and_eq_true] at h
    have hS := (derB_iff.1 h.1).le
    have := tot_le (wt := wIntS) (n := 2) (l := dagL S) fun y hy => by
      obtain ⟨x, _, rfl⟩ := List.mem_map.1 hy
      have hp := prem_len x
      have h3 := (putI_fold (ys := prem x) (c := []) (by simp)).2.2
      rw [putI_set] at h3
      unfold wIntS; simp at h3; omega
    simp only [cond_true]
    unfold dagL at this ⊢
    rw [List.length_map] at this; omega

theorem plain_DagOfProof (a0 : Cnf) (a1 : List ResStep) (o0 : okCnf a0) (o1 : okL okResStep a1) : laws_FnExactDagOfProof a0 a1 = some true := by
  unfold laws_FnExactDagOfProof
  obtain ⟨r0, q0, z0⟩ := sz_Cnf o0 (s := 1048576) (by omega) (by omega)
  rw [q0, bd_some]
  by_cases n0 : r0 < 0
  · simp [n0]
  obtain ⟨r1, q1, z1⟩ := sz_ResStepS o1 (s := r0) (by omega) (by omega)
  simp only [n0, decide_false, cond_false]
  rw [q1, bd_some]
  by_cases n1 : r1 < 0
  · simp [n1]
  simp only [n1, decide_false, cond_false]
  have t0 := to_Cnf (a := a0) (by unfold lim; omega)
  have t1 := to_ResStepS (a := a1) (by unfold lim; omega)
  have hs := spec_DagOfProof_eq o0 o1
  have hi := impl_DagOfProof_eq o0 o1
  have hm := dagV_small (F := a0) (S := a1)
  generalize dagV a0 a1 = g at hs hi hm
  have w0 : tot wIntS a0.clauses ≤ 1048576 := by unfold wCnf wIntSS at z0; omega
  have w1 := mResStep_le (a := a1) (by omega)
  have m0 := mark_Cnf (a := a0) (k := 1) (by omega) (by unfold big; omega)
  have m1 := mark_ResStepS (a := a1) (k := (laws_markCnf a0 1).2) (by omega) (by unfold big; omega)
  have mg := mark_Dag (a := g.1) (k := 1) (by omega) (by unfold big; omega)
  have hg := held_Dag (a := g.1) (k := 1) (by omega) (by unfold big; omega)
  have d1 : decide ((laws_markResStepS a1 (laws_markCnf a0 1).2).2 < 0) = false := by rw [decide_eq_false_iff_not]; omega
  have d2 : decide ((laws_markDag g.1 1).2 < 0) = false := by rw [decide_eq_false_iff_not]; omega
  simp only [t0, t1, hs, hi, hg, d1, d2, bd_some, eq_ResStepS, eq_Cnf, eq_Dag, BEq.rfl, Bool.not_true, cond_false, bif_tt, Bool.or_false]
end Go.PF
