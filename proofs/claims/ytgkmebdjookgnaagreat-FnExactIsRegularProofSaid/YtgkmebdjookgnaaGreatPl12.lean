/- The first resolvent that repeats a pivot: both sides find the same one. -/
import Derived.Test.YtgkmebdjookgnaaGreatPl11
set_option linter.unusedVariables false
namespace Go.PF
open Go.Pu

theorem forL_idx {α X : Type} {body : Nat → α → Unit → Option (Lp Unit X)} {q : Nat → Bool} {v : Nat → X} {l : List α} {u : Unit} (h : ∀ i y, l[i]? = some y → body i y () = (bif q i then some (.rt (v i)) else some (.nx ()))) :
    forL l body u = some (match (List.range l.length).find? q with | some i => .rt (v i) | none => .go ()) := by
  have key : ∀ (m : List α) (k : Nat), (∀ i y, m[i]? = some y → body (k + i) y () = (bif q (k + i) then some (.rt (v (k + i))) else some (.nx ()))) → forLFrom body m k () = some (match (List.range' k m.length).find? q with | some i => .rt (v i) | none => .go ()) := by
    intro m
    induction m with
    | nil => intro k _; rfl
    | cons y m ih =>
      intro k h
      have h0 := h 0 y rfl
      rw [Nat.add_zero] at h0
      rw [List.length_cons, List.range'_succ, List.find?_cons]
      unfold forLFrom
      rw [h0]
      cases q k with
      | true => rfl
      | false => exact ih (k + 1) fun i z hz => by have := h (i + 1) z (by simpa using hz); rwa [show k + (i + 1) = k + 1 + i by omega] at this
  rw [List.range_eq_range']
  exact key l 0 fun i y hy => by rw [Nat.zero_add]; exact h i y hy
theorem forR_idx {α X : Type} {body : Nat → Unit → Option (Lp Unit X)} {q : α → Bool} {v : α → X} {l : List α} {u : Unit} (h : ∀ i y, l[i]? = some y → body i () = (bif q y then some (.rt (v y)) else some (.nx ()))) :
    forR 0 l.length body u = some (match l.find? q with | some y => .rt (v y) | none => .go ()) := by
  have key : ∀ (m : List α) (k : Nat), (∀ i y, m[i]? = some y → body (k + i) () = (bif q y then some (.rt (v y)) else some (.nx ()))) → forFrom body m.length k () = some (match m.find? q with | some y => .rt (v y) | none => .go ()) := by
    intro m
    induction m with
    | nil => intro k _; rfl
    | cons y m ih =>
      intro k h
      have h0 := h 0 y rfl
      rw [Nat.add_zero] at h0
      rw [List.length_cons, List.find?_cons]
      unfold forFrom
      rw [h0]
      cases q y with
      | true => rfl
      | false => exact ih (k + 1) fun i z hz => by have := h (i + 1) z (by simpa using hz); rwa [show k + (i + 1) = k + 1 + i by omega] at this
  unfold forR
  exact key l 0 fun i y hy => by rw [Nat.zero_add]; exact h i y hy

def irrB (S : List ResStep) (x : ResStep) : Bool := isRes x && ((atL (pivL S) x.left).contains x.pivot || (atL (pivL S) x.right).contains x.pivot)
def irrAt (S : List ResStep) (i : Nat) : Bool := match S[i]? with | some x => irrB S x | none => false
def irrV (S : List ResStep) : Int := match (need S).find? (irrAt S) with | some i => ((i : Nat) : Int) | none => -1
theorem irr_range (S : List ResStep) : (need S).find? (irrAt S) = (List.range S.length).find? fun i => bAt (mask S) i && irrAt S i := by
  unfold need; rw [List.find?_filter]
  congr 1
  funext a
  cases bAt (mask S) a <;> cases irrAt S a <;> rfl
theorem pv_ix {F : Cnf} {S : List ResStep} (h : IsD F S) {i : Nat} {x : ResStep} (hx : S[i]? = some x) (hr : isRes x = true) :
    ix (pivL S) x.left = some (atL (pivL S) x.left) ∧ ix (pivL S) x.right = some (atL (pivL S) x.right) := by
  have hP := (spec_l8Pivots_eq h).2
  have hi := (List.getElem?_eq_some_iff.1 hx).1
  unfold isRes at hr
  rw [Bool.and_eq_true, decide_eq_true_eq, decide_eq_true_eq] at hr
  have := h.before hx hr.1
  exact ⟨atL_ix hr.1 (by rw [hP.len]; omega), atL_ix hr.2 (by rw [hP.len]; have := this.2 hr.2; omega)⟩
theorem spec_l8Irregular_eq {F : Cnf} {S : List ResStep} (h : IsD F S) (h0 : 0 < S.length) : spec_l8Irregular S = some (irrV S) := by
  unfold spec_l8Irregular
  rw [(spec_l8Pivots_eq h).1, bd_some, spec_l8Needed_eq h h0, bd_some]
  rw [forL_idx (X := Int) (q := fun i => bAt (mask S) i && irrAt S i) (v := fun i => ((i : Nat) : Int)) (fun i x hx => by
    have hi := (List.getElem?_eq_some_iff.1 hx).1
    have hm : ix (mask S) (i : Int) = some (bAt (mask S) i) := by rw [ix_get]; unfold bAt; rw [List.getElem?_eq_getElem (by rw [mask_len]; exact hi)]; rfl
    have hir : irrAt S i = irrB S x := by unfold irrAt; rw [hx]
    rw [hm, bd_some, spec_isRes, hir]
    unfold irrB
    cases hb : bAt (mask S) i with
    | false => simp
    | true =>
      cases hr : isRes x with
      | false => simp
      | true =>
        obtain ⟨h1, h2⟩ := pv_ix h hx hr
        simp only [cond_true, h1, h2, bd_some, spec_l1Has_eq, Bool.true_and]
        cases (atL (pivL S) x.left).contains x.pivot <;> simp)]
  unfold irrV
  rw [irr_range]
  cases (List.range S.length).find? fun i => bAt (mask S) i && irrAt S i <;> rfl
theorem chk_le2 {A : Type} {xs : List A} (h : xs.length ≤ 1000000) : chk (len xs) = some xs.length := by
  unfold chk; rw [if_pos (by rw [len_eq]; omega), len_eq]; simp
theorem needI_get {S : List ResStep} {j : Nat} {k : Int} (hj : (needI S)[j]? = some k) : ∃ i x, (need S)[j]? = some i ∧ k = ((i : Nat) : Int) ∧ S[i]? = some x ∧ bAt (mask S) i = true := by
  unfold needI at hj
  rw [List.getElem?_map] at hj
  cases hn : (need S)[j]? with
  | none => rw [hn] at hj; cases hj
  | some i =>
    rw [hn] at hj
    have hm := List.mem_of_getElem? hn
    unfold need at hm
    rw [List.mem_filter, List.mem_range] at hm
    exact ⟨i, S[i], rfl, by simpa using hj.symm, List.getElem?_eq_getElem hm.1, hm.2⟩
theorem needI_len (S : List ResStep) : (needI S).length = (need S).length := by unfold needI; simp
theorem impl_firstIrregular_eq {F : Cnf} {S : List ResStep} (h : IsD F S) : impl_firstIrregular S = some (irrV S) := by
  have hS := h.le
  have hl := need_le S
  unfold impl_firstIrregular
  rw [impl_stepPivots_eq h, bd_some, impl_neededSteps_eq h, bd_some, chk_le2 (by rw [needI_len]; omega), bd_some]
  rw [forR_idx (X := Int) (l := needI S) (q := fun k => irrAt S k.toNat) (v := fun k => k) (fun j k hj => by
    obtain ⟨i, x, h1, rfl, hx, hm⟩ := needI_get hj
    have hir : irrAt S ((i : Nat) : Int).toNat = irrB S x := by unfold irrAt; simp [hx]
    rw [hir]
    simp only [ix_get, hj, hx, bd_some, impl_isRes]
    unfold irrB
    cases hr : isRes x with
    | false => simp
    | true =>
      obtain ⟨h1, h2⟩ := pv_ix h hx hr
      simp only [cond_true, h1, h2, bd_some, slices_Contains_int_int_eq, Bool.true_and]
      cases (atL (pivL S) x.left).contains x.pivot <;> simp)]
  unfold irrV needI
  rw [List.find?_map]
  have e : ((fun k : Int => irrAt S k.toNat) ∘ fun i : Nat => (i : Int)) = irrAt S := by funext i; simp
  rw [e]
  cases (need S).find? (irrAt S) <;> rfl
theorem proofB_iff {F : Cnf} {S : List ResStep} (h : proofB F S = true) : IsD F S ∧ 0 < S.length := by
  unfold proofB at h
  rw [Bool.and_eq_true, decide_eq_true_eq, len_eq] at h
  exact ⟨derB_iff.1 h.1, by omega⟩
end Go.PF
