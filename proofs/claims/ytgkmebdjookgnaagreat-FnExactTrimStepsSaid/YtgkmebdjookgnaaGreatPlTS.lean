/- TrimSteps: the law. -/
import Derived.Test.YtgkmebdjookgnaaGreatPl13
set_option linter.unusedVariables false
namespace Go.PF
open Go.Pu
theorem index_at {v : Int} : ∀ {a b : List Int}, v ∉ a → slices_Index_int_int (a ++ v :: b) v = some ((a.length : Nat) : Int) := by
  intro a b hv
  unfold slices_Index_int_int
  have key : ∀ (a : List Int) (k : Nat), v ∉ a → forLFrom (S := Unit) (X := Int) (fun i22 y21 s22 => (bif (v == y21) then some (Lp.rt ((i22 : Nat) : Int)) else some (Lp.nx ()))) (a ++ v :: b) k () = some (.rt (((k + a.length : Nat) : Nat) : Int)) := by
    intro a
    induction a with
    | nil => intro k _; simp [forLFrom]
    | cons x a ih =>
      intro k h
      rw [List.mem_cons, not_or] at h
      rw [List.cons_append]
      unfold forLFrom
      rw [show (v == x) = false by rw [beq_eq_false_iff_ne]; exact h.1]
      simp only [cond_false]
      rw [ih (k + 1) h.2]
      simp; omega
  unfold forL
  rw [key a 0 hv]
  simp
def posN (S : List ResStep) (k : Int) : Int := (((needTo S k.toNat).length : Nat) : Int)
def trimX (S : List ResStep) (x : ResStep) : ResStep := bif decide (0 ≤ x.left) then (bif decide (0 ≤ x.right) then ⟨x.clause, posN S x.left, posN S x.right, x.pivot⟩ else ⟨x.clause, posN S x.left, x.right, x.pivot⟩) else x
def trimAt (S : List ResStep) (i : Nat) : Option ResStep := (S[i]?).map (trimX S)
def trimL (S : List ResStep) (l : List Nat) : List ResStep := l.filterMap (trimAt S)
theorem trimL_len {S : List ResStep} : ∀ {l : List Nat}, (∀ i ∈ l, i < S.length) → (trimL S l).length = l.length := by
  intro l
  induction l with
  | nil => intro _; rfl
  | cons i l ih =>
    intro h
    have hi := h i (by simp)
    have := ih fun j hj => h j (by simp [hj])
    unfold trimL at this ⊢
    have e : trimAt S i = some (trimX S S[i]) := by unfold trimAt; rw [List.getElem?_eq_getElem hi]; rfl
    rw [List.filterMap_cons_some e, List.length_cons, List.length_cons, this]
theorem needTo_lt {S : List ResStep} {k : Nat} : ∀ i ∈ needTo S k, i < k := fun i hi => by
  unfold needTo at hi; rw [List.mem_filter, List.mem_range] at hi; exact hi.1
theorem need_split {S : List ResStep} {k : Nat} (hk : k < S.length) (hm : bAt (mask S) k = true) : ∃ r, need S = needTo S k ++ k :: r := by
  refine ⟨(List.range' (k + 1) (S.length - (k + 1))).filter (bAt (mask S)), ?_⟩
  unfold need needTo
  have e : List.range S.length = List.range k ++ k :: List.range' (k + 1) (S.length - (k + 1)) := by
    have h1 := List.range'_append_1 (s := 0) (m := k) (n := S.length - k)
    rw [Nat.zero_add, show k + (S.length - k) = S.length by omega] at h1
    rw [List.range_eq_range', List.range_eq_range', ← List.range'_succ, show S.length - (k + 1) + 1 = S.length - k by omega]
    exact h1.symm
  rw [e, List.filter_append, List.filter_cons, if_pos hm]
theorem index_need {S : List ResStep} {k : Int} (h0 : 0 ≤ k) (hk : k < S.length) (hm : bAt (mask S) k.toNat = true) : slices_Index_int_int (needI S) k = some (posN S k) := by
  obtain ⟨r, hr⟩ := need_split (S := S) (k := k.toNat) (by omega) hm
  unfold needI
  rw [hr, List.map_append, List.map_cons, show ((k.toNat : Nat) : Int) = k by omega, index_at, List.length_map]
  · rfl
  · intro hc
    obtain ⟨i, hi, he⟩ := List.mem_map.1 hc
    have := needTo_lt i hi; omega
theorem prem_left {x : ResStep} (h : 0 ≤ x.left) : x.left ∈ prem x := by
  unfold prem
  have e : decide (x.left < 0) = false := by simp; omega
  rw [e]; simp only [cond_false]
  cases decide (0 ≤ x.left) && decide (0 ≤ x.right) <;> simp
theorem prem_right {x : ResStep} (h : 0 ≤ x.left) (h2 : 0 ≤ x.right) : x.right ∈ prem x := by
  unfold prem
  have e : decide (x.left < 0) = false := by simp; omega
  rw [e]; simp [h, h2]
theorem spec_moved_trim {F : Cnf} {S : List ResStep} (h : IsD F S) {i : Nat} {x : ResStep} (hx : S[i]? = some x) {to : List Int} (ht : ∀ k : Int, k ∈ prem x → ix to k = some (posN S k)) : spec_l7Moved x to = some (trimX S x) := by
  have hc := (h.clause (List.mem_of_getElem? hx)).len
  unfold spec_l7Moved trimX
  rw [spec_l1Own_eq (by unfold lim; omega), bd_some]
  cases hl : decide (0 ≤ x.left) with
  | false => rfl
  | true =>
    have h0 := of_decide_eq_true hl
    simp only [cond_true]
    rw [ht _ (prem_left h0), bd_some]
    cases hr : decide (0 ≤ x.right) with
    | false => rfl
    | true =>
      simp only [cond_true]
      rw [ht _ (prem_right h0 (of_decide_eq_true hr)), bd_some]
theorem impl_moved_trim {F : Cnf} {S : List ResStep} (h : IsD F S) {i : Nat} {x : ResStep} (hx : S[i]? = some x) {f : Int → Option Int} (ht : ∀ k : Int, k ∈ prem x → f k = some (posN S k)) : impl_ResStep_moved x f = some (trimX S x) := by
  have hc := (h.clause (List.mem_of_getElem? hx)).len
  unfold impl_ResStep_moved trimX impl_ResStep_isResolvent impl_ResStep_isAxiom
  rw [slices_Clone_int_int_eq (by unfold lim; omega), bd_some]
  by_cases hl : 0 ≤ x.left
  · have hl' : ¬ x.left < 0 := by omega
    have e1 := ht _ (prem_left hl)
    by_cases hr : 0 ≤ x.right
    · have e2 := ht _ (prem_right hl hr)
      simp only [hl, hr, hl', decide_true, decide_false, cond_true, Bool.not_false, bd_some, bdR_go, e1, e2]
    · simp only [hl, hr, hl', decide_true, decide_false, cond_true, cond_false, Bool.not_false, bd_some, bdR_go, e1]
  · have hl' : x.left < 0 := by omega
    simp only [hl, hl', decide_true, decide_false, cond_false, Bool.not_true, bdR_go]
def trimV (F : Cnf) (S : List ResStep) : List ResStep × Bool := bif derB F S then (trimL S (need S), true) else ([], false)
theorem spec_l7Trim_eq {F : Cnf} {S : List ResStep} (hD : IsD F S) : spec_l7Trim S = some (trimL S (need S)) := by
  have hSl := hD.le
  unfold spec_l7Trim
  rw [spec_l7Needed_eq hD, bd_some, show len S = ((S.length : Nat) : Int) from rfl, mk2_ok (by unfold lim; omega), bd_some]
  obtain ⟨⟨out, to⟩, h1, h2, h3⟩ := forL_inv (X := Empty) (l := S) (s := ([], List.replicate S.length 0)) (body := fun i4445 y4444 s4445 => bd (ix (mask S) ((i4445 : Nat) : Int)) (fun x4630 => (bif x4630 then bd (ix s4445.2 ((i4445 : Nat) : Int)) (fun x4639 => bd (put s4445.2 ((i4445 : Nat) : Int) (len s4445.1)) (fun xs4644 => bd (PF.spec_l7Moved y4444 xs4644) (fun r4662 => bd (app s4445.1 [r4662]) (fun xs4679 => some (Lp.nx (xs4679, xs4644)))))) else some (Lp.nx (s4445.1, s4445.2)))))
    (fun i s => s.1 = trimL S (needTo S i) ∧ s.2.length = S.length ∧ ∀ k, k < i → bAt (mask S) k = true → s.2[k]? = some (((needTo S k).length : Nat) : Int)) ⟨rfl, by simp, fun k hk => by omega⟩ (fun i x s hx ⟨hs, hl, ht⟩ => by
      obtain ⟨out, to⟩ := s
      dsimp only at hs hl ht ⊢
      subst hs
      have hi := (List.getElem?_eq_some_iff.1 hx).1
      rw [mask_ix hx, bd_some, needTo_succ]
      cases hm : bAt (mask S) i with
      | false =>
        refine ⟨_, rfl, rfl, hl, fun k hk hmk => ht k ?_ hmk⟩
        rcases Nat.lt_or_ge k i with h | h
        · exact h
        · have : k = i := by omega
          subst this; rw [hm] at hmk; cases hmk
      | true =>
        obtain ⟨y, hy⟩ := ix_len (M := to) (i := i) (by omega)
        have hlen : len (trimL S (needTo S i)) = (((needTo S i).length : Nat) : Int) := by rw [len_eq, trimL_len (fun j hj => by have := needTo_lt j hj; omega)]
        have hto : ∀ k, k < i + 1 → bAt (mask S) k = true → (to.set i (((needTo S i).length : Nat) : Int))[k]? = some (((needTo S k).length : Nat) : Int) := fun k hk hmk => by
          by_cases e : k = i
          · subst e; rw [List.getElem?_set_self (by omega)]
          · rw [List.getElem?_set_ne (by omega)]; exact ht k (by omega) hmk
        simp only [cond_true, hy, bd_some, put_ok (show i < to.length by omega), hlen]
        rw [spec_moved_trim hD hx (fun k hk => by
          have hb := hD.prem hx k hk
          have hmk := mask_prem hD hx hm k hk
          have := hto k.toNat (by omega) hmk
          unfold ix
          rw [if_pos hb.1, this]; rfl), bd_some]
        have hle := needTo_le S i
        rw [app_ok (by rw [trimL_len (fun j hj => by have := needTo_lt j hj; omega)]; simp; unfold lim; omega), bd_some]
        refine ⟨_, rfl, ?_, by simpa using hl, hto⟩
        show _ = trimL S (needTo S i ++ [i])
        unfold trimL
        rw [List.filterMap_append]
        have e : trimAt S i = some (trimX S x) := by unfold trimAt; rw [hx]; rfl
        rw [List.filterMap_cons_some e]; rfl)
  rw [h1, bdR_go]
  exact congrArg some h2
theorem impl_trimSteps_eq {F : Cnf} {S : List ResStep} (hD : IsD F S) : impl_trimSteps S = some (trimL S (need S)) := by
  have hSl := hD.le
  have hn := need_le S
  unfold impl_trimSteps
  rw [impl_neededSteps_eq hD, bd_some]
  obtain ⟨s, h1, h2⟩ := forL_inv (X := Empty) (l := needI S) (s := []) (body := fun i50 y49 s50 => bd (ix S y49) (fun x133 => bd (PF.impl_ResStep_moved x133 (fun x0 => PF.impl_trimSteps_1 x0 (needI S))) (fun r137 => bd (app s50 [r137]) (fun xs152 => some (Lp.nx xs152)))))
    (fun j s => s = trimL S ((need S).take j)) rfl (fun j k s hj hs => by
      subst hs
      obtain ⟨i, x, g1, rfl, hx, hm⟩ := needI_at hj
      have hjl := (List.getElem?_eq_some_iff.1 g1).1
      simp only [ix_get, hx, bd_some]
      rw [impl_moved_trim hD hx (fun k hk => by
        have hb := hD.prem hx k hk
        have hi := (List.getElem?_eq_some_iff.1 hx).1
        unfold impl_trimSteps_1
        rw [index_need hb.1 (by omega) (mask_prem hD hx hm k hk), bd_some]), bd_some]
      have hlt : ∀ i ∈ (need S).take j, i < S.length := fun i hi => needTo_lt (S := S) i (by rw [needTo_all]; exact List.mem_of_mem_take hi)
      rw [app_ok (by rw [trimL_len hlt]; simp; unfold lim; omega), bd_some]
      refine ⟨_, rfl, ?_⟩
      rw [List.take_add_one, g1]
      unfold trimL
      rw [List.filterMap_append]
      have e : trimAt S i = some (trimX S x) := by unfold trimAt; rw [hx]; rfl
      show _ = _ ++ List.filterMap _ [i]
      rw [List.filterMap_cons_some e]; rfl)
  rw [h1, bdR_go, h2, needI_length, List.take_length]
theorem spec_TrimSteps_eq {F : Cnf} {S : List ResStep} (hF : okCnf F) (hS : okL okResStep S) : spec_TrimSteps F S = some (trimV F S) := by
  unfold spec_TrimSteps trimV
  rw [spec_l7Good_eq hF hS, bd_some]
  cases h : derB F S with
  | false => rfl
  | true =>
    simp only [Bool.not_true, cond_false, cond_true]
    rw [spec_l7Trim_eq (derB_iff.1 h), bd_some]
theorem impl_TrimSteps_eq {F : Cnf} {S : List ResStep} (hF : okCnf F) (hS : okL okResStep S) : impl_TrimSteps F S = some (trimV F S) := by
  unfold impl_TrimSteps trimV
  rw [impl_IsDerivation_eq hF hS, bd_some]
  cases h : derB F S with
  | false => rfl
  | true =>
    simp only [Bool.not_true, cond_false, cond_true]
    rw [impl_trimSteps_eq (derB_iff.1 h), bd_some]
theorem trimX_clause (S : List ResStep) (x : ResStep) : (trimX S x).clause = x.clause := by
  unfold trimX; cases decide (0 ≤ x.left) <;> cases decide (0 ≤ x.right) <;> rfl
theorem tot_leT {A : Type} {wt : A → Nat} {n : Nat} : ∀ {l : List A}, (∀ x ∈ l, wt x ≤ n) → tot wt l ≤ n * l.length := by
  intro l
  induction l with
  | nil => intro _; simp [tot]
  | cons x l ih =>
    intro h
    have h1 := h x (by simp); have h2 := ih fun y hy => h y (by simp [hy])
    simp only [tot, List.length_cons, Nat.mul_add, Nat.mul_one]; omega
theorem trimV_small {F : Cnf} {S : List ResStep} : tot mResStep (trimV F S).1 ≤ 100000 := by
  unfold trimV
  cases h : derB F S with
  | false => simp [tot]
  | true =>
    have hD := derB_iff.1 h
    have hSl := hD.le
    have hn := need_le S
    simp only [cond_true]
    have := tot_leT (wt := mResStep) (n := 30) (l := trimL S (need S)) fun y hy => by
      unfold trimL at hy
      obtain ⟨i, hi, he⟩ := List.mem_filterMap.1 hy
      unfold trimAt at he
      cases hx : S[i]? with
      | none => rw [hx] at he; cases he
      | some x =>
        rw [hx] at he
        cases he
        have := (hD.clause (List.mem_of_getElem? hx)).len
        unfold mResStep; rw [trimX_clause]; omega
    have hl : (trimL S (need S)).length ≤ (need S).length := List.length_filterMap_le _ _
    omega
theorem plain_TrimSteps (a0 : Cnf) (a1 : List ResStep) (o0 : okCnf a0) (o1 : okL okResStep a1) : laws_FnExactTrimSteps a0 a1 = some true := by
  unfold laws_FnExactTrimSteps
  obtain ⟨r0, q0, z0⟩ := sz_Cnf o0 (s := 1048576) (by omega) (by omega)
  rw [q0, bd_some]
  by_cases n0 : r0 < 0
  · simp [n0]
  obtain ⟨r1, q1, z1⟩ := sz_ResStepS o1 (s := r0) (by omega) (by omega)
  simp only [n0, decide_false, cond_false]
  rw [q1, bd_some]
  by_cases n1 : r1 < 0
  · simp [n1]
  simp only [n1, decide_false, cond_false]
  have t0 := to_Cnf (a := a0) (by unfold lim; omega)
  have t1 := to_ResStepS (a := a1) (by unfold lim; omega)
  have hs := spec_TrimSteps_eq o0 o1
  have hi := impl_TrimSteps_eq o0 o1
  have hm := trimV_small (F := a0) (S := a1)
  generalize trimV a0 a1 = g at hs hi hm
  have w0 : tot wIntS a0.clauses ≤ 1048576 := by unfold wCnf wIntSS at z0; omega
  have w1 := mResStep_le (a := a1) (by omega)
  have m0 := mark_Cnf (a := a0) (k := 1) (by omega) (by unfold big; omega)
  have m1 := mark_ResStepS (a := a1) (k := (laws_markCnf a0 1).2) (by omega) (by unfold big; omega)
  have mg := mark_ResStepS (a := g.1) (k := 1) (by omega) (by unfold big; omega)
  have hg := held_ResStepS (a := g.1) (k := 1) (by omega) (by unfold big; omega)
  have d1 : decide ((laws_markResStepS a1 (laws_markCnf a0 1).2).2 < 0) = false := by rw [decide_eq_false_iff_not]; omega
  have d2 : decide ((laws_markResStepS g.1 1).2 < 0) = false := by rw [decide_eq_false_iff_not]; omega
  simp only [t0, t1, hs, hi, hg, d1, d2, bd_some, eq_ResStepS, eq_Cnf, BEq.rfl, Bool.not_true, cond_false, bif_tt, Bool.or_false]
end Go.PF
