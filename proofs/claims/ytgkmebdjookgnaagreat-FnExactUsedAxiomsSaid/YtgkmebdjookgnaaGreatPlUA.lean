/- UsedAxioms: the law. -/
import Derived.Test.YtgkmebdjookgnaaGreatPl13
set_option linter.unusedVariables false
namespace Go.PF
open Go.Pu
def axOf (S : List ResStep) (i : Nat) : List Int := match S[i]? with | some x => (bif decide (x.left < 0) then [x.right] else []) | none => []
theorem axOf_len (S : List ResStep) (i : Nat) : (axOf S i).length ≤ 1 := by
  unfold axOf
  split
  · rename_i x _; cases decide (x.left < 0) <;> simp
  · simp
theorem axR_len (S : List ResStep) : ∀ l : List Nat, (l.flatMap (axOf S)).length ≤ l.length := by
  intro l
  induction l with
  | nil => simp
  | cons x l ih => have := axOf_len S x; rw [List.flatMap_cons, List.length_append, List.length_cons]; omega
theorem setI_len (ys : List Int) : (setI ys).length ≤ ys.length := by
  have := (putI_fold (ys := ys) (c := []) List.Pairwise.nil).2.2
  rw [putI_set] at this; simpa using this
theorem putI_setI (ys : List Int) (r : Int) : putI (setI ys) r = setI (ys ++ [r]) := by
  rw [← putI_set (ys ++ [r]), List.foldl_append, putI_set]; rfl
def usedV (F : Cnf) (S : List ResStep) : List Int × Bool := bif derB F S then (setI ((need S).flatMap (axOf S)), true) else ([], false)
theorem spec_UsedAxioms_eq {F : Cnf} {S : List ResStep} (hF : okCnf F) (hS : okL okResStep S) : spec_UsedAxioms F S = some (usedV F S) := by
  unfold spec_UsedAxioms usedV
  rw [spec_l7Good_eq hF hS, bd_some]
  cases h : derB F S with
  | false => rfl
  | true =>
    have hD := derB_iff.1 h
    have hSl := hD.le
    simp only [Bool.not_true, cond_false, cond_true]
    rw [spec_l7Needed_eq hD, bd_some]
    obtain ⟨s, h1, h2⟩ := forL_inv (X := Empty) (l := S) (s := []) (body := fun i61 y55 s61 => bd (ix (mask S) ((i61 : Nat) : Int)) (fun x141 => (bif (bif x141 then (y55.left == (-1)) else false) then bd (PF.spec_l1Put s61 y55.right) (fun r180 => some (Lp.nx r180)) else some (Lp.nx s61))))
      (fun i s => s = setI ((needTo S i).flatMap (axOf S))) (by unfold needTo; simp [setI, compactL]) (fun i x s hx hs => by
        subst hs
        have hi := (List.getElem?_eq_some_iff.1 hx).1
        rw [mask_ix hx, bd_some, needTo_succ]
        have hax : axOf S i = bif decide (x.left < 0) then [x.right] else [] := by unfold axOf; rw [hx]
        have hl : (x.left == -1) = decide (x.left < 0) := by
          rw [Bool.eq_iff_iff, beq_iff_eq, decide_eq_true_eq]
          have := hD.nums hx; omega
        cases hm : bAt (mask S) i with
        | false => exact ⟨_, rfl, rfl⟩
        | true =>
          simp only [cond_true, hl, List.flatMap_append, List.flatMap_cons, List.flatMap_nil, List.append_nil, hax]
          cases decide (x.left < 0) with
          | false => simp only [cond_false, List.append_nil]; exact ⟨_, rfl, rfl⟩
          | true =>
            have a1 := axR_len S (needTo S i); have a2 := needTo_le S i; have a3 := setI_len ((needTo S i).flatMap (axOf S))
            simp only [cond_true]
            rw [spec_l1Put_eq (setI_asc _) (by unfold lim; omega), bd_some, putI_setI]
            exact ⟨_, rfl, rfl⟩)
    rw [h1, bdR_go, h2]; rfl
theorem impl_UsedAxioms_eq {F : Cnf} {S : List ResStep} (hF : okCnf F) (hS : okL okResStep S) : impl_UsedAxioms F S = some (usedV F S) := by
  unfold impl_UsedAxioms usedV
  rw [impl_IsDerivation_eq hF hS, bd_some]
  cases h : derB F S with
  | false => rfl
  | true =>
    have hD := derB_iff.1 h
    have hSl := hD.le
    have hn := need_le S
    simp only [Bool.not_true, cond_false, cond_true]
    rw [impl_neededSteps_eq hD, bd_some, chk_lem (by rw [needI_length]; omega), bd_some]
    rw [forR_fold (X := Empty) (xs := needI S) (F := fun s k => s ++ axOf S k.toNat) (s0 := []) (fun j s => s.length ≤ j) (by simp) (fun j k s hj hs => by
      obtain ⟨i, x, h1, rfl, hx, hm⟩ := needI_at hj
      have hjl := (List.getElem?_eq_some_iff.1 hj).1
      rw [needI_length] at hjl
      have hax : axOf S ((i : Nat) : Int).toNat = bif decide (x.left < 0) then [x.right] else [] := by unfold axOf; simp [hx]
      rw [hax]
      simp only [ix_get, hj, hx, bd_some, impl_ResStep_isAxiom]
      cases decide (x.left < 0) with
      | false => simp only [cond_false, List.append_nil]; exact ⟨trivial, by omega⟩
      | true =>
        simp only [cond_true]
        rw [app_ok (by simp; unfold lim; omega), bd_some]
        exact ⟨rfl, by simp; omega⟩), bdR_go]
    have e : (needI S).foldl (fun s k => s ++ axOf S k.toNat) [] = (need S).flatMap (axOf S) := by
      rw [foldl_flat, List.nil_append]; unfold needI; rw [List.flatMap_map]; simp
    rw [e]
    have a1 := axR_len S (need S)
    rw [slices_Sort_eq (by unfold lim; omega), bd_some]
    unfold slices_Compact_int_int
    rfl
theorem plain_UsedAxioms (a0 : Cnf) (a1 : List ResStep) (o0 : okCnf a0) (o1 : okL okResStep a1) : laws_FnExactUsedAxioms a0 a1 = some true := by
  unfold laws_FnExactUsedAxioms
  obtain ⟨r0, q0, z0⟩ := sz_Cnf o0 (s := 1048576) (by omega) (by omega)
  rw [q0, bd_some]
  by_cases n0 : r0 < 0
  · simp [n0]
  obtain ⟨r1, q1, z1⟩ := sz_ResStepS o1 (s := r0) (by omega) (by omega)
  simp only [n0, decide_false, cond_false]
  rw [q1, bd_some]
  by_cases n1 : r1 < 0
  · simp [n1]
  simp only [n1, decide_false, cond_false]
  have t0 := to_Cnf (a := a0) (by unfold lim; omega)
  have t1 := to_ResStepS (a := a1) (by unfold lim; omega)
  have hs := spec_UsedAxioms_eq o0 o1
  have hi := impl_UsedAxioms_eq o0 o1
  have hm : (usedV a0 a1).1.length ≤ 1000 := by
    unfold usedV
    cases h : derB a0 a1 with
    | false => simp
    | true =>
      have := (derB_iff.1 h).le
      have b1 := axR_len a1 (need a1); have b2 := need_le a1; have b3 := setI_len ((need a1).flatMap (axOf a1))
      simp only [cond_true]; omega
  generalize usedV a0 a1 = g at hs hi hm
  have w0 : tot wIntS a0.clauses ≤ 1048576 := by unfold wCnf wIntSS at z0; omega
  have w1 := mResStep_le (a := a1) (by omega)
  have m0 := mark_Cnf (a := a0) (k := 1) (by omega) (by unfold big; omega)
  have m1 := mark_ResStepS (a := a1) (k := (laws_markCnf a0 1).2) (by omega) (by unfold big; omega)
  have mg := mark_IntS (a := g.1) (k := 1) (by omega) (by unfold big; omega)
  have hg := held_IntS (a := g.1) (k := 1) (by omega) (by unfold big; omega)
  have d1 : decide ((laws_markResStepS a1 (laws_markCnf a0 1).2).2 < 0) = false := by rw [decide_eq_false_iff_not]; omega
  have d2 : decide ((laws_markIntS g.1 1).2 < 0) = false := by rw [decide_eq_false_iff_not]; omega
  simp only [t0, t1, hs, hi, hg, d1, d2, bd_some, eq_ResStepS, eq_Cnf, eq_IntS, BEq.rfl, Bool.not_true, cond_false, bif_tt, Bool.or_false]
end Go.PF
