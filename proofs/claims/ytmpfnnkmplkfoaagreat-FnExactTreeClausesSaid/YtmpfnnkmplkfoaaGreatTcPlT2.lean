/- Search trees: what the program's walk from the root sees, against the count of parents. -/
import Derived.Test.YtmpfnnkmplkfoaaGreatTcPlT1
set_option linter.unusedVariables false
namespace Go.PF
open Go.Pu
def istep (s : List Bool × List (List Int)) (y : TreeNode) (i : Nat) : Option (List Bool × List (List Int)) :=
  bif !bAt s.1 i then none else bif !inn y then some s else bif bAt s.1 y.low.toNat || bAt s.1 y.high.toNat then none else
    match pstep s.2 y i with
    | none => none
    | some P => some ((s.1.set y.low.toNat true).set y.high.toNat true, P)
def impR (N : List TreeNode) : Nat → List Bool × List (List Int) → Option (List Bool × List (List Int))
  | 0, s => some s
  | k + 1, s => match N[k]? with
    | none => none
    | some y => match istep s y k with
      | none => none
      | some s' => impR N k s'
structure NsOk (F : Cnf) (N : List TreeNode) : Prop where
  ok : ∀ (i : Nat) y, N[i]? = some y → NOk F i y
structure SI (N : List TreeNode) (k : Nat) (M : List Bool) : Prop where
  len : M.length = N.length
  at_ : ∀ x, x < N.length → bAt M x = (decide (x = N.length - 1) || (N.drop k).any (chB x))
theorem drop_at {α : Type} {xs : List α} {k : Nat} {x : α} (hx : xs[k]? = some x) : xs.drop k = x :: xs.drop (k + 1) := by
  obtain ⟨h, rfl⟩ := List.getElem?_eq_some_iff.1 hx
  exact List.drop_eq_getElem_cons h
theorem bAt_set {M : List Bool} {i j : Nat} (hi : i < M.length) : bAt (M.set i true) j = (decide (j = i) || bAt M j) := by
  unfold bAt
  by_cases e : j = i
  · subst e; rw [List.getElem?_set_self hi]; simp
  · rw [List.getElem?_set_ne (by omega)]; simp [e]
theorem chB_of {y : TreeNode} {x : Nat} (hn : inn y = true) (h0 : 0 ≤ y.low) (h1 : 0 ≤ y.high) : chB x y = (decide (x = y.high.toNat) || decide (x = y.low.toNat)) := by
  unfold chB
  rw [hn, Bool.true_and, Bool.eq_iff_iff]
  simp only [Bool.or_eq_true, beq_iff_eq, decide_eq_true_eq]
  omega
theorem SI.leaf {N : List TreeNode} {k : Nat} {M : List Bool} {y : TreeNode} (h : SI N (k + 1) M) (hy : N[k]? = some y) (hn : inn y = false) : SI N k M := by
  refine ⟨h.len, fun x hx => ?_⟩
  rw [h.at_ x hx, drop_at hy, List.any_cons]
  have : chB x y = false := by unfold chB; rw [hn]; rfl
  rw [this, Bool.false_or]
theorem SI.inner {N : List TreeNode} {k : Nat} {M : List Bool} {y : TreeNode} (h : SI N (k + 1) M) (hy : N[k]? = some y) (hn : inn y = true) (h0 : 0 ≤ y.low) (h1 : 0 ≤ y.high) (h2 : y.low < k) (h3 : y.high < k) : SI N k ((M.set y.low.toNat true).set y.high.toNat true) := by
  have hk := (List.getElem?_eq_some_iff.1 hy).1
  have hl := h.len
  refine ⟨by simp [hl], fun x hx => ?_⟩
  rw [bAt_set (by simp; omega), bAt_set (by omega), h.at_ x hx, drop_at hy, List.any_cons, chB_of hn h0 h1]
  cases decide (x = y.high.toNat) <;> cases decide (x = y.low.toNat) <;> cases decide (x = N.length - 1) <;> simp
theorem any_count {α : Type} {p : α → Bool} {l : List α} : l.any p = false ↔ l.countP p = 0 := by
  rw [List.countP_eq_zero, List.any_eq_false]
theorem count_split {α : Type} {p : α → Bool} {N : List α} {k : Nat} {y : α} (hy : N[k]? = some y) : N.countP p = (N.take k).countP p + ((if p y then 1 else 0) + (N.drop (k + 1)).countP p) := by
  have h : N = N.take k ++ N.drop k := (List.take_append_drop k N).symm
  conv => lhs; rw [h]
  rw [List.countP_append, drop_at hy, List.countP_cons]; omega
theorem usesOk_at {N : List TreeNode} (h : usesOk N = true) {x : Nat} (hx : x < N.length - 1) : N.countP (chB x) = 1 := by
  unfold usesOk at h
  have := List.all_eq_true.1 h x (List.mem_range.2 hx)
  exact beq_iff_eq.1 this
/-- each node below has one parent: the walk from the root sees each node once -/
theorem imp_of_uses {F : Cnf} {N : List TreeNode} (hN : NsOk F N) (hU : usesOk N = true) : ∀ {k : Nat} {M : List Bool} {P : List (List Int)}, k ≤ N.length → SI N k M → (impR N k (M, P)).map (·.2) = pathR N k P := by
  intro k
  induction k with
  | zero => intro M P _ _; rfl
  | succ k ih =>
    intro M P hk hM
    obtain ⟨y, hy⟩ : ∃ y, N[k]? = some y := ⟨_, List.getElem?_eq_getElem (by omega)⟩
    have hok := hN.ok k y hy
    have hseen : bAt M k = true := by
      rw [hM.at_ k (by omega)]
      by_cases e : k = N.length - 1
      · simp [e]
      · have h1 := usesOk_at hU (x := k) (by omega)
        cases ha : (N.drop (k + 1)).any (chB k) with
        | true => simp
        | false =>
          exfalso
          have h2 := any_count.1 ha
          rw [count_split hy] at h1
          have h3 : (N.take k).countP (chB k) = 0 := by
            rw [List.countP_eq_zero]
            intro z hz hc
            obtain ⟨j, hj, rfl⟩ := List.mem_iff_getElem.1 hz
            rw [List.length_take] at hj
            rw [List.getElem_take] at hc
            have hjo := hN.ok j N[j] (List.getElem?_eq_getElem (by omega))
            unfold chB at hc
            rw [Bool.and_eq_true] at hc
            obtain ⟨_, _, g1, g2, g3, g4, _⟩ := hjo.inner hc.1
            rcases Bool.or_eq_true _ _ ▸ hc.2 with h | h
            · have := beq_iff_eq.1 h; omega
            · have := beq_iff_eq.1 h; omega
          have h4 : chB k y = false := by
            cases hn : inn y with
            | false => unfold chB; rw [hn]; rfl
            | true =>
              obtain ⟨_, _, g1, g2, g3, g4, _⟩ := hok.inner hn
              rw [chB_of hn g1 g3]
              simp; omega
          rw [h3, h2, h4] at h1
          simp at h1
    unfold impR pathR
    rw [hy]
    simp only
    unfold istep
    simp only [hseen, Bool.not_true, cond_false]
    cases hn : inn y with
    | false =>
      have e : pstep P y k = some P := by unfold pstep; rw [hn]; rfl
      simp only [Bool.not_false, cond_true, e]
      exact ih (by omega) (hM.leaf hy hn)
    | true =>
      obtain ⟨_, _, g1, g2, g3, g4, g5⟩ := hok.inner hn
      have hz : ∀ x : Nat, x < k → chB x y = true → bAt M x = false := fun x hx hc => by
        rw [hM.at_ x (by omega)]
        have h1 := usesOk_at hU (x := x) (by omega)
        rw [count_split hy, if_pos hc] at h1
        have h2 := any_count.2 (show (N.drop (k + 1)).countP (chB x) = 0 by omega)
        rw [h2]; simp; omega
      have z1 := hz y.low.toNat (by omega) (by rw [chB_of hn g1 g3]; simp)
      have z2 := hz y.high.toNat (by omega) (by rw [chB_of hn g1 g3]; simp)
      simp only [Bool.not_true, cond_false, z1, z2, Bool.or_false]
      cases pstep P y k with
      | none => rfl
      | some P' => exact ih (by omega) (hM.inner hy hn g1 g3 g2 g4)
/-- and the other way -/
theorem uses_of_imp {F : Cnf} {N : List TreeNode} (hN : NsOk F N) : ∀ {k : Nat} {s r : List Bool × List (List Int)}, k ≤ N.length → SI N k s.1 → (∀ x, x < N.length → (N.drop k).countP (chB x) ≤ 1) → impR N k s = some r →
    (∀ x, x < N.length → N.countP (chB x) ≤ 1) ∧ ∀ x, x < k → x = N.length - 1 ∨ N.any (chB x) = true := by
  intro k
  induction k with
  | zero => intro s r _ _ hc _; exact ⟨fun x hx => by have := hc x hx; rwa [List.drop_zero] at this, fun x hx => by omega⟩
  | succ k ih =>
    intro s r hk hM hc hr
    obtain ⟨y, hy⟩ : ∃ y, N[k]? = some y := ⟨_, List.getElem?_eq_getElem (by omega)⟩
    have hok := hN.ok k y hy
    unfold impR at hr
    rw [hy] at hr
    simp only at hr
    unfold istep at hr
    cases hs : bAt s.1 k with
    | false => rw [hs] at hr; cases hr
    | true =>
      rw [hs] at hr
      have hk2 : k = N.length - 1 ∨ N.any (chB k) = true := by
        rw [hM.at_ k (by omega), Bool.or_eq_true, decide_eq_true_eq] at hs
        refine hs.imp_right fun h => ?_
        obtain ⟨z, hz, hc⟩ := List.any_eq_true.1 h
        exact List.any_eq_true.2 ⟨z, List.mem_of_mem_drop hz, hc⟩
      have fin : ((∀ x, x < N.length → N.countP (chB x) ≤ 1) ∧ ∀ x, x < k → x = N.length - 1 ∨ N.any (chB x) = true) → (∀ x, x < N.length → N.countP (chB x) ≤ 1) ∧ ∀ x, x < k + 1 → x = N.length - 1 ∨ N.any (chB x) = true := fun h => ⟨h.1, fun x hx => by
        by_cases e : x = k
        · rw [e]; exact hk2
        · exact h.2 x (by omega)⟩
      simp only [Bool.not_true, cond_false] at hr
      cases hn : inn y with
      | false =>
        rw [hn] at hr
        simp only [Bool.not_false, cond_true] at hr
        refine fin (ih (by omega) (hM.leaf hy hn) (fun x hx => ?_) hr)
        rw [drop_at hy, List.countP_cons]
        have : chB x y = false := by unfold chB; rw [hn]; rfl
        rw [this]; simpa using hc x hx
      | true =>
        rw [hn] at hr
        obtain ⟨_, _, g1, g2, g3, g4, g5⟩ := hok.inner hn
        simp only [Bool.not_true, cond_false] at hr
        cases hb : bAt s.1 y.low.toNat || bAt s.1 y.high.toNat with
        | true => rw [hb] at hr; cases hr
        | false =>
          rw [hb] at hr
          simp only [cond_false] at hr
          rw [Bool.or_eq_false_iff] at hb
          cases hp : pstep s.2 y k with
          | none => rw [hp] at hr; cases hr
          | some P' =>
            rw [hp] at hr
            refine fin (ih (by omega) (hM.inner hy hn g1 g3 g2 g4) (fun x hx => ?_) hr)
            rw [drop_at hy, List.countP_cons]
            cases hcx : chB x y with
            | false => simpa using hc x hx
            | true =>
              have : bAt s.1 x = false := by
                have e := hcx
                rw [chB_of hn g1 g3, Bool.or_eq_true, decide_eq_true_eq, decide_eq_true_eq] at e
                rcases e with rfl | rfl
                · exact hb.2
                · exact hb.1
              rw [hM.at_ x hx, Bool.or_eq_false_iff] at this
              rw [any_count.1 this.2]; simp
theorem usesOk_of {N : List TreeNode} (h1 : ∀ x, x < N.length → N.countP (chB x) ≤ 1) (h2 : ∀ x, x < N.length → x = N.length - 1 ∨ N.any (chB x) = true) : usesOk N = true := by
  unfold usesOk
  rw [List.all_eq_true]
  intro x hx
  have hx := List.mem_range.1 hx
  rw [beq_iff_eq]
  have h3 := h1 x (by omega)
  rcases h2 x (by omega) with h | h
  · omega
  · have h4 : N.countP (chB x) ≠ 0 := fun e => by rw [any_count.2 e] at h; cases h
    omega
def M0 (N : List TreeNode) : List Bool := (List.replicate N.length false).set (N.length - 1) true
theorem si0 {N : List TreeNode} (hpos : 0 < N.length) : SI N N.length (M0 N) := by
  refine ⟨by simp [M0], fun x hx => ?_⟩
  unfold M0
  rw [bAt_set (by simp; omega), List.drop_length]
  unfold bAt
  rw [List.getElem?_replicate, if_pos hx]; rfl
/-- the walk from the root comes to its end just if each node has one parent and no variable is twice on a path -/
theorem imp_iff {F : Cnf} {N : List TreeNode} (hN : NsOk F N) (hpos : 0 < N.length) (P : List (List Int)) : (impR N N.length (M0 N, P)).map (·.2) = bif usesOk N then pathR N N.length P else none := by
  cases hU : usesOk N with
  | true => exact imp_of_uses hN hU (Nat.le_refl _) (si0 hpos)
  | false =>
    simp only [cond_false]
    cases hr : impR N N.length (M0 N, P) with
    | none => rfl
    | some r =>
      exfalso
      obtain ⟨a, b⟩ := uses_of_imp hN (Nat.le_refl _) (s := (M0 N, P)) (si0 hpos) (fun x _ => by rw [List.drop_length]; simp) hr
      rw [usesOk_of a b] at hU; cases hU
end Go.PF
