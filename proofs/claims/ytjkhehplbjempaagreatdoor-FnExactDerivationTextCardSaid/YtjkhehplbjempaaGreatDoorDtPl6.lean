/- Derivations: both packages accept the same ones. -/
import Derived.Test.YtjkhehplbjempaaGreatDoorDtPl5
namespace Go.PF
open Go.Pu

def clAt (S : List ResStep) (k : Int) : List Int := match S[k.toNat]? with | some y => y.clause | none => []
def earlierB (F : Cnf) (S : List ResStep) (i : Nat) (k : Int) : Bool := inB k 0 ((i : Int) - 1) && clauseB F.vars (clAt S k)
def axB (F : Cnf) (x : ResStep) : Bool := inB x.right 0 (len F.clauses - 1) && match F.clauses[x.right.toNat]? with | some c => c == x.clause | none => false
/-- one step is right -/
def stepB (F : Cnf) (S : List ResStep) (i : Nat) (x : ResStep) : Bool :=
  clauseB F.vars x.clause &&
  bif x.left == -1 then x.pivot == 0 && axB F x
  else earlierB F S i x.left &&
    bif x.right == -1 then x.pivot == 0 && partB (clAt S x.left) x.clause
    else earlierB F S i x.right && (inB x.pivot 1 F.vars && ((res (clAt S x.left) (clAt S x.right) x.pivot).2 && (res (clAt S x.left) (clAt S x.right) x.pivot).1 == x.clause))

theorem earlier_at {S : List ResStep} {i : Nat} {k : Int} (hi : i < S.length) (h : inB k 0 ((i : Int) - 1) = true) : ∃ y, ix S k = some y ∧ clAt S k = y.clause ∧ y ∈ S := by
  rw [inB_iff] at h
  obtain ⟨y, h1, h2⟩ := ix_of (xs := S) (i := k) h.1 (by omega)
  exact ⟨y, h1, by unfold clAt; rw [h2], List.mem_of_getElem? h2⟩
theorem wr_lt {i n : Nat} (h : i < n) (hn : n ≤ 9223372036854775807) : wr ((i : Int) - 1) = (i : Int) - 1 := wr_of _ (by omega) (by omega)

theorem spec_l7Clause_eq {F : Cnf} {S : List ResStep} {i : Nat} {k : Int} (hS : okL okResStep S) (hi : i < S.length) : spec_l7Clause F S (i : Int) k = some (earlierB F S i k) := by
  unfold spec_l7Clause earlierB
  rw [wr_lt hi hS.1, spec_l1In_eq]
  cases h : inB k 0 ((i : Int) - 1) with
  | false => rfl
  | true =>
    obtain ⟨y, h1, h2, h3⟩ := earlier_at hi h
    simp only [cond_true, Bool.true_and]
    rw [h1, bd_some, spec_l2Clause_eq (hS.2 y h3).1, bd_some, bd_some, h2]
theorem impl_earlier_eq {F : Cnf} {S : List ResStep} {i : Nat} {k : Int} (hS : okL okResStep S) (hi : i < S.length) : impl_earlier F S (i : Int) k = some (bif earlierB F S i k then (clAt S k, true) else ([], false)) := by
  unfold impl_earlier earlierB
  rw [wr_lt hi hS.1, impl_within_eq]
  cases h : inB k 0 ((i : Int) - 1) with
  | false => rfl
  | true =>
    obtain ⟨y, h1, h2, h3⟩ := earlier_at hi h
    simp only [Bool.not_true, cond_false, Bool.true_and]
    rw [h1, bd_some, impl_IsClause_eq (hS.2 y h3).1, bd_some, bd_some, h2]
    cases clauseB F.vars y.clause <;> rfl
theorem ax_at {F : Cnf} {x : ResStep} (h : inB x.right 0 (len F.clauses - 1) = true) : ∃ c, ix F.clauses x.right = some c ∧ axB F x = (c == x.clause) := by
  have h' := inB_iff.1 h
  obtain ⟨c, h1, h2⟩ := ix_of (xs := F.clauses) (i := x.right) h'.1 (by rw [len_eq] at h'; omega)
  exact ⟨c, h1, by unfold axB; rw [h, h2]; rfl⟩
theorem wr_len {A : Type} {l : List A} (h : l.length ≤ 9223372036854775807) : wr (len l - 1) = len l - 1 := wr_of _ (by rw [len_eq]; omega) (by rw [len_eq]; omega)

theorem spec_l7Correct_eq {F : Cnf} {S : List ResStep} {i : Nat} {x : ResStep} (hF : okCnf F) (hS : okL okResStep S) (hx : S[i]? = some x) : spec_l7Correct F S (i : Int) = some (stepB F S i x) := by
  have hi := (List.getElem?_eq_some_iff.1 hx).1
  have hm := List.mem_of_getElem? hx
  unfold spec_l7Correct stepB
  rw [ix_get, hx, bd_some, spec_l2Clause_eq (hS.2 x hm).1, bd_some]
  cases hc : clauseB F.vars x.clause with
  | false => rfl
  | true =>
    simp only [Bool.not_true, cond_false, Bool.true_and]
    cases hl : x.left == -1 with
    | true =>
      simp only [cond_true]
      cases hp : x.pivot == 0 with
      | false => rfl
      | true =>
        simp only [cond_true, Bool.true_and, spec_l1In_eq, wr_len hF.2.1]
        cases hr : inB x.right 0 (len F.clauses - 1) with
        | false => unfold axB; rw [hr]; rfl
        | true =>
          obtain ⟨c, h1, h2⟩ := ax_at hr
          simp only [cond_true]
          rw [h1, bd_some, spec_l1Same_eq, bd_some, bd_some, h2]
    | false =>
      simp only [cond_false]
      rw [spec_l7Clause_eq hS hi, bd_some]
      cases he : earlierB F S i x.left with
      | false => rfl
      | true =>
        simp only [Bool.not_true, cond_false, Bool.true_and]
        have he' : inB x.left 0 ((i : Int) - 1) = true ∧ clauseB F.vars (clAt S x.left) = true := by unfold earlierB at he; simpa using he
        obtain ⟨y, y1, y2, y3⟩ := earlier_at hi he'.1
        cases hr : x.right == -1 with
        | true =>
          simp only [cond_true]
          cases hp : x.pivot == 0 with
          | false => rfl
          | true =>
            simp only [cond_true, Bool.true_and]
            rw [y1, bd_some, spec_l2Sub_eq, bd_some, bd_some, y2]
        | false =>
          simp only [cond_false]
          rw [spec_l7Clause_eq hS hi, bd_some]
          cases hq : earlierB F S i x.right with
          | false => rfl
          | true =>
            simp only [Bool.not_true, cond_false, Bool.true_and, spec_l1In_eq]
            have hq' : inB x.right 0 ((i : Int) - 1) = true ∧ clauseB F.vars (clAt S x.right) = true := by unfold earlierB at hq; simpa using hq
            obtain ⟨z, z1, z2, z3⟩ := earlier_at hi hq'.1
            cases hv : inB x.pivot 1 F.vars with
            | false => rfl
            | true =>
              simp only [Bool.not_true, cond_false, Bool.true_and]
              have cy := (clauseB_iff.1 he'.2).len; have cz := (clauseB_iff.1 hq'.2).len
              rw [y2] at cy; rw [z2] at cz
              rw [y1, bd_some, z1, bd_some, spec_l2Resolve_eq (by unfold lim; omega), bd_some, y2, z2]
              cases (res y.clause z.clause x.pivot).2 with
              | false => rfl
              | true =>
                simp only [cond_true, Bool.true_and]
                rw [spec_l1Same_eq, bd_some, bd_some]
theorem impl_correct_eq {F : Cnf} {S : List ResStep} {i : Nat} {x : ResStep} (hF : okCnf F) (hS : okL okResStep S) (hx : S[i]? = some x) : impl_correct F S (i : Int) = some (stepB F S i x) := by
  have hi := (List.getElem?_eq_some_iff.1 hx).1
  have hm := List.mem_of_getElem? hx
  unfold impl_correct stepB
  rw [ix_get, hx, bd_some, impl_IsClause_eq (hS.2 x hm).1, bd_some]
  cases hc : clauseB F.vars x.clause with
  | false => rfl
  | true =>
    simp only [Bool.not_true, cond_false, Bool.true_and]
    cases hl : x.left == -1 with
    | true =>
      simp only [cond_true]
      cases hp : x.pivot == 0 with
      | false => rfl
      | true =>
        simp only [cond_true, Bool.true_and, impl_within_eq, wr_len hF.2.1]
        cases hr : inB x.right 0 (len F.clauses - 1) with
        | false => unfold axB; rw [hr]; rfl
        | true =>
          obtain ⟨c, h1, h2⟩ := ax_at hr
          simp only [cond_true]
          rw [h1, bd_some, slices_Equal_int_int_eq, bd_some, bd_some, h2]
    | false =>
      simp only [cond_false]
      rw [impl_earlier_eq hS hi, bd_some]
      cases he : earlierB F S i x.left with
      | false => rfl
      | true =>
        simp only [cond_true, Bool.not_true, cond_false, Bool.true_and]
        have he' : inB x.left 0 ((i : Int) - 1) = true ∧ clauseB F.vars (clAt S x.left) = true := by unfold earlierB at he; simpa using he
        cases hr : x.right == -1 with
        | true =>
          simp only [cond_true]
          cases hp : x.pivot == 0 with
          | false => rfl
          | true =>
            simp only [cond_true, Bool.true_and]
            rw [impl_part_eq, bd_some, bd_some]
        | false =>
          simp only [cond_false]
          rw [impl_earlier_eq hS hi, bd_some]
          cases hq : earlierB F S i x.right with
          | false => rfl
          | true =>
            simp only [cond_true, Bool.not_true, cond_false, Bool.true_and, impl_isVar_eq]
            have hq' : inB x.right 0 ((i : Int) - 1) = true ∧ clauseB F.vars (clAt S x.right) = true := by unfold earlierB at hq; simpa using hq
            cases hv : inB x.pivot 1 F.vars with
            | false => rfl
            | true =>
              simp only [Bool.not_true, cond_false, Bool.true_and]
              rw [impl_resolve_eq (clauseB_iff.1 he'.2) (clauseB_iff.1 hq'.2), bd_some]
              cases (res (clAt S x.left) (clAt S x.right) x.pivot).2 with
              | false => rfl
              | true =>
                simp only [cond_true, Bool.true_and]
                rw [slices_Equal_int_int_eq, bd_some, bd_some]

/-- a derivation -/
def derB (F : Cnf) (S : List ResStep) : Bool := cnfB F && (decide (len S ≤ 200) && !anyI (fun i x => !stepB F S i x) S 0)
theorem spec_l7Wrong_eq {F : Cnf} {S : List ResStep} (hF : okCnf F) (hS : okL okResStep S) : ∃ r, spec_l7Wrong F S = some r ∧ decide (r < 0) = !anyI (fun i x => !stepB F S i x) S 0 := by
  unfold spec_l7Wrong
  rw [forL_find (p := fun i x => !stepB F S i x) (v := fun i _ => (i : Int)) (fun i x hx => by rw [spec_l7Correct_eq hF hS hx, bd_some])]
  cases h : findI (fun i x => !stepB F S i x) S 0 with
  | none => exact ⟨-1, rfl, by rw [findI_none.1 h]; rfl⟩
  | some z => obtain ⟨_, _, _, h4⟩ := findI_some h; exact ⟨_, rfl, by rw [h4]; simp⟩
theorem impl_firstWrong_eq {F : Cnf} {S : List ResStep} (hF : okCnf F) (hS : okL okResStep S) : ∃ r, impl_firstWrong F S = some r ∧ decide (r < 0) = !anyI (fun i x => !stepB F S i x) S 0 := by
  unfold impl_firstWrong
  rw [forL_find (p := fun i x => !stepB F S i x) (v := fun i _ => (i : Int)) (fun i x hx => by rw [impl_correct_eq hF hS hx, bd_some])]
  cases h : findI (fun i x => !stepB F S i x) S 0 with
  | none => exact ⟨-1, rfl, by rw [findI_none.1 h]; rfl⟩
  | some z => obtain ⟨_, _, _, h4⟩ := findI_some h; exact ⟨_, rfl, by rw [h4]; simp⟩
theorem spec_l7Good_eq {F : Cnf} {S : List ResStep} (hF : okCnf F) (hS : okL okResStep S) : spec_l7Good F S = some (derB F S) := by
  obtain ⟨r, h1, h2⟩ := spec_l7Wrong_eq hF hS
  unfold spec_l7Good spec_l7Asked derB
  rw [spec_l2Good_eq hF, h1]
  cases cnfB F <;> cases decide (len S ≤ 200) <;> simp [h2]
theorem impl_IsDerivation_eq {F : Cnf} {S : List ResStep} (hF : okCnf F) (hS : okL okResStep S) : impl_IsDerivation F S = some (derB F S) := by
  obtain ⟨r, h1, h2⟩ := impl_firstWrong_eq hF hS
  unfold impl_IsDerivation derB
  rw [impl_IsCnf_eq hF, h1]
  cases cnfB F <;> cases decide (len S ≤ 200) <;> simp [h2]

/-- what a derivation is made of -/
structure IsD (F : Cnf) (S : List ResStep) : Prop where
  cnf : cnfB F = true
  le : S.length ≤ 200
  step : ∀ i x, S[i]? = some x → stepB F S i x = true
theorem derB_iff {F : Cnf} {S : List ResStep} : derB F S = true ↔ IsD F S := by
  unfold derB
  rw [Bool.and_eq_true, Bool.and_eq_true, Bool.not_eq_true', anyI_false, decide_eq_true_eq, len_eq]
  constructor
  · rintro ⟨h1, h2, h3⟩; exact ⟨h1, by omega, fun i x hx => by have := h3 i x hx; simpa using this⟩
  · rintro ⟨h1, h2, h3⟩; exact ⟨h1, by omega, fun i x hx => by simp [h3 i x hx]⟩
theorem IsD.clause {F : Cnf} {S : List ResStep} (h : IsD F S) {x : ResStep} (hx : x ∈ S) : IsC F.vars x.clause := by
  obtain ⟨i, hi⟩ := List.mem_iff_getElem?.1 hx
  have := h.step i x hi
  unfold stepB at this
  rw [Bool.and_eq_true] at this
  exact clauseB_iff.1 this.1
/-- the numbers of a step -/
theorem IsD.nums {F : Cnf} {S : List ResStep} (h : IsD F S) {i : Nat} {x : ResStep} (hx : S[i]? = some x) :
    (x.left = -1 ∧ x.pivot = 0 ∧ 0 ≤ x.right ∧ x.right < len F.clauses) ∨ (0 ≤ x.left ∧ x.left < i ∧ x.right = -1 ∧ x.pivot = 0) ∨ (0 ≤ x.left ∧ x.left < i ∧ 0 ≤ x.right ∧ x.right < i ∧ 1 ≤ x.pivot ∧ x.pivot ≤ F.vars) := by
  have := h.step i x hx
  unfold stepB at this
  rw [Bool.and_eq_true] at this
  obtain ⟨_, this⟩ := this
  cases hl : x.left == -1 with
  | true =>
    rw [hl] at this
    simp only [cond_true, Bool.and_eq_true, beq_iff_eq] at this
    unfold axB at this
    rw [Bool.and_eq_true, inB_iff] at this
    have := beq_iff_eq.1 hl
    left; omega
  | false =>
    rw [hl] at this
    simp only [cond_false, Bool.and_eq_true] at this
    obtain ⟨h1, this⟩ := this
    unfold earlierB at h1
    rw [Bool.and_eq_true, inB_iff] at h1
    cases hr : x.right == -1 with
    | true =>
      rw [hr] at this
      simp only [cond_true, Bool.and_eq_true, beq_iff_eq] at this
      have := beq_iff_eq.1 hr
      right; left; omega
    | false =>
      rw [hr] at this
      simp only [cond_false, Bool.and_eq_true] at this
      obtain ⟨h2, h3, _⟩ := this
      unfold earlierB at h2
      rw [Bool.and_eq_true, inB_iff] at h2
      rw [inB_iff] at h3
      right; right; omega
theorem IsD.before {F : Cnf} {S : List ResStep} (h : IsD F S) {i : Nat} {x : ResStep} (hx : S[i]? = some x) (hl : 0 ≤ x.left) : x.left < i ∧ (0 ≤ x.right → x.right < i) := by
  rcases h.nums hx with h | h | h <;> omega
end Go.PF
