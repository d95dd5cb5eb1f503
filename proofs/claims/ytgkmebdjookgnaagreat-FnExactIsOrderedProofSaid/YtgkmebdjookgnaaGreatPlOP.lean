/- IsOrderedProof: the law. -/
import Derived.Test.YtgkmebdjookgnaaGreatPl9
set_option linter.unusedVariables false
namespace Go.PF
open Go.Pu

/-! counting up -/
def upF : Nat → Nat → List Int
  | _, 0 => []
  | k, m + 1 => (k : Int) :: upF (k + 1) m
theorem upF_mem : ∀ {m k : Nat} {x : Int}, x ∈ upF k m ↔ (k : Int) ≤ x ∧ x < k + m := by
  intro m
  induction m with
  | zero => intro k x; simp only [upF, List.not_mem_nil, false_iff]; omega
  | succ m ih => intro k x; simp only [upF, List.mem_cons, ih]; omega
theorem upF_asc : ∀ {m k : Nat}, Asc (upF k m) := by
  intro m
  induction m with
  | zero => intro k; simp [upF]
  | succ m ih => intro k; simp only [upF, List.pairwise_cons]; exact ⟨fun x hx => by rw [upF_mem] at hx; omega, ih⟩
theorem upF_len : ∀ {m k : Nat}, (upF k m).length = m := by
  intro m
  induction m with
  | zero => intro k; rfl
  | succ m ih => intro k; simp [upF, ih]
theorem iter_upAny {X : Type} {body : Int → Option (Lp Int X)} {p : Int → Bool} {v : X} : ∀ {m k : Nat}, (∀ i : Nat, k ≤ i → i < k + m → body (i : Int) = (bif p i then some (.rt v) else some (.nx ((i : Int) + 1)))) → body ((k + m : Nat) : Int) = some (.bk ((k + m : Nat) : Int)) →
    iter body (k : Int) = some (bif (upF k m).any p then .rt v else .go ((k + m : Nat) : Int)) := by
  intro m
  induction m with
  | zero => intro k _ he; rw [Nat.add_zero] at he ⊢; rw [iter_bk he]; rfl
  | succ m ih =>
    intro k h he
    have h0 := h k (by omega) (by omega)
    simp only [upF, List.any_cons]
    cases hp : p k with
    | true => rw [hp] at h0; rw [iter_rt h0]; rfl
    | false =>
      rw [hp] at h0
      rw [iter_nx h0, show ((k : Int) + 1) = ((k + 1 : Nat) : Int) by omega, ih (fun i h1 h2 => h i (by omega) (by omega)) (by rw [show k + 1 + m = k + (m + 1) by omega]; exact he)]
      rw [show k + 1 + m = k + (m + 1) by omega]; rfl
theorem iter_upPush {X : Type} {body : List Int × Int → Option (Lp (List Int × Int) X)} : ∀ {m k : Nat} {s : List Int}, (∀ (i : Nat) (t : List Int), k ≤ i → i < k + m → t.length + k = s.length + i → body (t, (i : Int)) = some (.nx (t ++ [(i : Int)], (i : Int) + 1))) → (∀ t, body (t, ((k + m : Nat) : Int)) = some (.bk (t, ((k + m : Nat) : Int)))) →
    iter body (s, (k : Int)) = some (.go (s ++ upF k m, ((k + m : Nat) : Int))) := by
  intro m
  induction m with
  | zero => intro k s _ he; have := he s; rw [Nat.add_zero] at this ⊢; rw [iter_bk this]; simp [upF]
  | succ m ih =>
    intro k s h he
    rw [iter_nx (h k s (by omega) (by omega) (by omega)), show ((k : Int) + 1) = ((k + 1 : Nat) : Int) by omega, ih (fun i t h1 h2 h3 => h i t (by omega) (by omega) (by simp at h3; omega)) (fun t => by rw [show k + 1 + m = k + (m + 1) by omega]; exact he t)]
    rw [show k + 1 + m = k + (m + 1) by omega]
    simp [upF]

/-! an order of the variables -/
def orderB (V : Int) (o : List Int) : Bool := (len o == V) && !(upF 1 V.toNat).any fun x => !o.contains x
theorem spec_l8Order_eq {V : Int} {o : List Int} (h0 : 0 ≤ V) (h1 : V ≤ 12) : spec_l8Order V o = some (orderB V o) := by
  unfold spec_l8Order orderB
  cases len o == V with
  | false => rfl
  | true =>
    simp only [Bool.not_true, cond_false, Bool.true_and]
    have := iter_upAny (X := Bool) (body := fun s23 => (bif (decide (s23 ≤ V)) then bd (PF.spec_l1Has o s23) (fun r48 => (bif (!r48) then some (Lp.rt false) else some (Lp.nx (wr (s23 + 1))))) else some (Lp.bk s23))) (p := fun x => !o.contains x) (v := false) (m := V.toNat) (k := 1) (fun i hi1 hi2 => by
      have hd : decide ((i : Int) ≤ V) = true := by simp; omega
      simp only [hd, cond_true, spec_l1Has_eq, bd_some]
      rw [wr_of _ (by omega) (by omega)]) (by
      have hd : decide (((1 + V.toNat : Nat) : Int) ≤ V) = false := by simp; omega
      simp only [hd, cond_false])
    rw [show (((1 : Nat)) : Int) = (1 : Int) from rfl] at this
    rw [this]
    cases (upF 1 V.toNat).any fun x => !o.contains x <;> rfl
theorem impl_upTo_eq {V : Int} (h0 : 0 ≤ V) (h1 : V ≤ 12) : impl_upTo V = some (upF 1 V.toNat) := by
  unfold impl_upTo
  have := iter_upPush (X := Empty) (body := fun s22 => (bif (decide (s22.2 ≤ V)) then bd (app s22.1 [s22.2]) (fun xs66 => some (Lp.nx (xs66, (wr (s22.2 + 1))))) else some (Lp.bk (s22.1, s22.2)))) (m := V.toNat) (k := 1) (s := []) (fun i t hi1 hi2 ht => by
      have hd : decide ((i : Int) ≤ V) = true := by simp; omega
      simp only [List.length_nil] at ht
      simp only [hd, cond_true]
      rw [app_ok (by unfold lim; simp; omega), bd_some, wr_of _ (by omega) (by omega)]) (fun t => by
      have hd : decide (((1 + V.toNat : Nat) : Int) ≤ V) = false := by simp; omega
      simp only [hd, cond_false])
  rw [show (((1 : Nat)) : Int) = (1 : Int) from rfl] at this
  rw [this, bdR_go]; rfl
theorem perm_of_sub : ∀ {l m : List Int}, l.Nodup → (∀ x ∈ l, x ∈ m) → m.length ≤ l.length → l.Perm m := by
  intro l
  induction l with
  | nil => intro m _ _ h; cases m with | nil => exact .nil | cons _ _ => simp at h
  | cons a l ih =>
    intro m hn hs hl
    obtain ⟨n1, n2⟩ := List.nodup_cons.1 hn
    have ha : a ∈ m := hs a (by simp)
    refine .trans ?_ (List.perm_cons_erase ha).symm
    refine .cons a (ih n2 (fun x hx => ?_) ?_)
    · have hxa : x ≠ a := fun e => n1 (e ▸ hx)
      exact (List.mem_erase_of_ne hxa).2 (hs x (by simp [hx]))
    · rw [List.length_erase_of_mem ha]; simp at hl; omega
theorem asc_nodup {c : List Int} (h : Asc c) : c.Nodup := h.imp fun h => by omega
theorem sort_le (xs : List Int) : (xs.mergeSort fun x y => decide (x ≤ y)).Pairwise fun a b => a ≤ b := by
  have h := List.pairwise_mergeSort (le := fun x y : Int => decide (x ≤ y)) (fun a b c h1 h2 => by simp only [decide_eq_true_eq] at *; omega) (fun a b => by simp only [Bool.or_eq_true, decide_eq_true_eq]; omega) xs
  exact h.imp fun h => of_decide_eq_true h
theorem asc_of_le : ∀ {c : List Int}, c.Pairwise (fun a b => a ≤ b) → c.Nodup → Asc c := by
  intro c
  induction c with
  | nil => intro _ _; simp
  | cons a c ih =>
    intro h hn
    obtain ⟨h1, h2⟩ := List.pairwise_cons.1 h
    obtain ⟨n1, n2⟩ := List.nodup_cons.1 hn
    exact List.pairwise_cons.2 ⟨fun x hx => by have := h1 x hx; have : a ≠ x := fun e => n1 (e ▸ hx); omega, ih h2 n2⟩
theorem impl_orderOk_eq {V : Int} {o : List Int} (h0 : 0 ≤ V) (h1 : V ≤ 12) (hl : o.length ≤ lim) : impl_orderOk V o = some (orderB V o) := by
  unfold impl_orderOk
  rw [slices_Clone_int_int_eq hl, bd_some, slices_Sort_eq hl, bd_some, impl_upTo_eq h0 h1, bd_some, slices_Equal_int_int_eq, bd_some]
  congr 1
  rw [Bool.eq_iff_iff, beq_iff_eq]
  unfold orderB
  rw [Bool.and_eq_true, beq_iff_eq, Bool.not_eq_true', len_eq]
  have hp : (o.mergeSort fun x y => decide (x ≤ y)).Perm o := List.mergeSort_perm _ _
  constructor
  · intro e
    rw [e] at hp
    refine ⟨?_, ?_⟩
    · have := hp.length_eq; rw [upF_len] at this; omega
    · rw [List.any_eq_false]
      intro x hx
      have := hp.mem_iff.1 hx
      simp [this]
  · rintro ⟨e1, e2⟩
    rw [List.any_eq_false] at e2
    have hq : (upF 1 V.toNat).Perm o := perm_of_sub (asc_nodup upF_asc) (fun x hx => by have := e2 x hx; simpa using this) (by rw [upF_len]; omega)
    have hn : (o.mergeSort fun x y => decide (x ≤ y)).Nodup := (hq.trans hp.symm).nodup_iff.1 (asc_nodup upF_asc)
    refine asc_unique (asc_of_le (sort_le o) hn) upF_asc fun x => ?_
    rw [hp.mem_iff, hq.mem_iff]

/-! places -/
def placeI (o : List Int) (l : Int) : Int := match findI (fun _ y => y == l) o 0 with | some z => (z.1 : Int) | none => -1
theorem spec_l8Place_eq (o : List Int) (l : Int) : spec_l8Place o l = some (placeI o l) := by
  unfold spec_l8Place placeI
  rw [forL_find (p := fun _ y => y == l) (v := fun i _ => (i : Int)) (fun i y _ => rfl)]
  cases findI (fun _ y => y == l) o 0 <;> rfl
theorem slices_Index_eq (o : List Int) (l : Int) : slices_Index_int_int o l = some (placeI o l) := by
  unfold slices_Index_int_int placeI
  rw [forL_find (p := fun _ y => y == l) (v := fun i _ => (i : Int)) (fun i y _ => by rw [show (l == y) = (y == l) by rw [Bool.eq_iff_iff, beq_iff_eq, beq_iff_eq]; exact eq_comm])]
  cases findI (fun _ y => y == l) o 0 <;> rfl

/-! the steps -/
def badX (P : List (List Int)) (o : List Int) (x : ResStep) : Bool := isRes x && (srcs P x).any fun z => decide (placeI o x.pivot ≤ placeI o z)
def ordV (F : Cnf) (S : List ResStep) (o : List Int) : Bool × Bool :=
  bif proofB F S && orderB F.vars o then (bif S.any (badX (pivL S) o) then (false, true) else (true, true)) else (false, false)
theorem isRes_prem {x : ResStep} (h : isRes x = true) : prem x = [x.left, x.right] := by
  unfold isRes at h
  unfold prem
  rw [h]
  simp only [Bool.and_eq_true, decide_eq_true_eq] at h
  have : ¬ x.left < 0 := by omega
  simp [this]
theorem spec_ord_loop {F : Cnf} {S : List ResStep} {o : List Int} (h : IsD F S) {P : List (List Int)} (hP : IsPv S.length P) {f : Nat → ResStep → Unit → Option (Lp Unit (Bool × Bool))}
    (hf : ∀ i66 y65 s66, f i66 y65 s66 = bdR (iter (S := Int) (X := (Lp Unit (Bool × Bool))) (fun s546 => (bif (bif (decide (s546 < (len (PF.spec_l8Premises y65)))) then (PF.spec_l8Resolvent y65) else false) then bdR (iter (S := Int) (X := (Lp Int (Lp Unit (Bool × Bool)))) (fun s804 => bd (ix (PF.spec_l8Premises y65) s546) (fun x897 => bd (ix P x897) (fun x905 => (bif (decide (s804 < (len x905))) then bd (ix (PF.spec_l8Premises y65) s546) (fun x917 => bd (ix P x917) (fun x925 => bd (ix x925 s804) (fun x935 => bd (PF.spec_l8Place o x935) (fun r937 => bd (PF.spec_l8Place o y65.pivot) (fun r947 => (bif (decide (r947 ≤ r937)) then some (Lp.rt (Lp.rt (Lp.rt (false, true)))) else some (Lp.nx (wr (s804 + 1))))))))) else some (Lp.bk s804))))) 0) (fun s804 => some (Lp.nx (wr (s546 + 1)))) (fun x804 => some x804) else some (Lp.bk s546))) 0) (fun s546 => some (Lp.nx ())) (fun x546 => some x546)) :
    forL S f () = some (bif S.any (badX P o) then .rt (false, true) else .go ()) := by
  have hS := h.le
  rw [forL_any (p := fun _ x => badX P o x) (v := (false, true)) (fun i x hx => ?_), anyI_any]
  have hi := (List.getElem?_eq_some_iff.1 hx).1
  have hk := h.prem hx
  have hp := prem_len x
  rw [hf]
  simp only [spec_premises_eq, spec_isRes, spec_l8Place_eq, bd_some]
  unfold badX
  cases hr : isRes x with
  | false =>
    rw [iter_bk (s' := 0) (by cases decide ((0 : Int) < len (prem x)) <;> rfl), bdR_go]; rfl
  | true =>
    rw [iter_any (xs := prem x) (p := fun _ k => (atL P k).any fun z => decide (placeI o x.pivot ≤ placeI o z)) (v := Lp.rt (false, true)) (fun j k hj => by
      have hjl := (List.getElem?_eq_some_iff.1 hj).1
      have hkb := hk k (List.mem_of_getElem? hj)
      have ha := hP.at k
      have hix : ix P k = some (atL P k) := atL_ix hkb.1 (by rw [hP.len]; omega)
      have hd : decide ((j : Int) < len (prem x)) = true := by rw [len_eq]; simp; omega
      simp only [hd, cond_true, ix_get, hj, bd_some, hix]
      rw [iter_any (xs := atL P k) (p := fun _ z => decide (placeI o x.pivot ≤ placeI o z)) (v := Lp.rt (Lp.rt (false, true))) (fun m z hz => by
        have hm := (List.getElem?_eq_some_iff.1 hz).1
        have hd : decide ((m : Int) < len (atL P k)) = true := by rw [len_eq]; simp; omega
        simp only [hd, cond_true, ix_get, hz, bd_some]
        rw [wr_succ hm (by omega)]) (by
        have hd : decide (((atL P k).length : Int) < len (atL P k)) = false := by rw [len_eq]; simp
        simp only [hd, cond_false]), anyI_any]
      cases (atL P k).any fun z => decide (placeI o x.pivot ≤ placeI o z) with
      | true => rfl
      | false => simp only [cond_false, bdR_go]; rw [wr_succ hjl (by omega)]) (by
      have hd : decide (((prem x).length : Int) < len (prem x)) = false := by rw [len_eq]; simp
      simp only [hd, cond_false]), anyI_any]
    have e : ((prem x).any fun k => (atL P k).any fun z => decide (placeI o x.pivot ≤ placeI o z)) = (srcs P x).any fun z => decide (placeI o x.pivot ≤ placeI o z) := by
      unfold srcs; rw [List.any_flatMap]
    rw [e]
    cases (srcs P x).any fun z => decide (placeI o x.pivot ≤ placeI o z) <;> rfl
theorem spec_IsOrderedProof_eq {F : Cnf} {S : List ResStep} {o : List Int} (hF : okCnf F) (hS : okL okResStep S) : spec_IsOrderedProof F S o = some (ordV F S o) := by
  unfold spec_IsOrderedProof ordV
  rw [spec_l8Takes_eq hF hS, bd_some]
  cases h : proofB F S with
  | false => rfl
  | true =>
    have hD : IsD F S := derB_iff.1 (by unfold proofB at h; rw [Bool.and_eq_true] at h; exact h.1)
    have hv := hD.vars_le
    have hq := spec_l8Pivots_eq hD
    simp only [Bool.not_true, cond_false, Bool.true_and]
    rw [spec_l8Order_eq hv.1 hv.2]
    cases orderB F.vars o with
    | false => rfl
    | true =>
      simp only [bd_some, Bool.not_true, cond_false, cond_true]
      rw [hq.1, bd_some, spec_ord_loop hD hq.2 (fun _ _ _ => by rfl)]
      cases S.any (badX (pivL S) o) <;> rfl
theorem impl_ord_loop {F : Cnf} {S : List ResStep} {o : List Int} (h : IsD F S) {P : List (List Int)} (hP : IsPv S.length P) {f : Nat → ResStep → Unit → Option (Lp Unit (Bool × Bool))}
    (hf : ∀ i76 y75 s76, f i76 y75 s76 = (bif (!(PF.impl_ResStep_isResolvent y75)) then some (Lp.nx ()) else bd (PF.slices_Index_int_int o y75.pivot) (fun r6572 => bd (ix P y75.left) (fun x8194 => bd (ix P y75.right) (fun x10194 => bd (PF.slices_Concat_int_int [x8194, x10194]) (fun r11393 => bd (PF.slices_ContainsFunc_int_int r11393 (fun x0 => PF.impl_IsOrderedProof_1 x0 o r6572)) (fun r12193 => (bif r12193 then some (Lp.rt (false, true)) else some (Lp.nx ()))))))))) :
    forL S f () = some (bif S.any (badX P o) then .rt (false, true) else .go ()) := by
  have hS := h.le
  rw [forL_any (p := fun _ x => badX P o x) (v := (false, true)) (fun i x hx => ?_), anyI_any]
  have hi := (List.getElem?_eq_some_iff.1 hx).1
  have hk := h.prem hx
  rw [hf, impl_isRes]
  unfold badX
  cases hr : isRes x with
  | false => rfl
  | true =>
    have hpr := isRes_prem hr
    rw [hpr] at hk
    have k1 := hk x.left (by simp); have k2 := hk x.right (by simp)
    have a1 := (hP.at x.left).1; have a2 := (hP.at x.right).1
    simp only [Bool.not_true, cond_false, Bool.true_and]
    rw [slices_Index_eq, bd_some, atL_ix k1.1 (by rw [hP.len]; omega), bd_some, atL_ix k2.1 (by rw [hP.len]; omega), bd_some, slices_Concat2 (by unfold lim; omega), bd_some,
      slices_ContainsFunc_int_int_eq (g := fun z => decide (placeI o x.pivot ≤ placeI o z)) (fun z _ => by unfold impl_IsOrderedProof_1; rw [slices_Index_eq, bd_some]), bd_some]
    have e : srcs P x = atL P x.left ++ atL P x.right := by unfold srcs; rw [hpr]; simp
    rw [e]
theorem impl_IsOrderedProof_eq {F : Cnf} {S : List ResStep} {o : List Int} (hF : okCnf F) (hS : okL okResStep S) (ho : o.length ≤ lim) : impl_IsOrderedProof F S o = some (ordV F S o) := by
  unfold impl_IsOrderedProof ordV
  rw [impl_isProof_eq hF hS, bd_some]
  cases h : proofB F S with
  | false => rfl
  | true =>
    have hD : IsD F S := derB_iff.1 (by unfold proofB at h; rw [Bool.and_eq_true] at h; exact h.1)
    have hv := hD.vars_le
    have hq := spec_l8Pivots_eq hD
    simp only [Bool.not_true, cond_false, Bool.true_and]
    rw [impl_orderOk_eq hv.1 hv.2 ho]
    cases orderB F.vars o with
    | false => rfl
    | true =>
      simp only [bd_some, Bool.not_true, cond_false, cond_true]
      rw [impl_stepPivots_eq hD, bd_some, impl_ord_loop hD hq.2 (fun _ _ _ => by rfl)]
      cases S.any (badX (pivL S) o) <;> rfl

theorem plain_IsOrderedProof (a0 : Cnf) (a1 : List ResStep) (a2 : List Int) (o0 : okCnf a0) (o1 : okL okResStep a1) (o2 : okL okI a2) : laws_FnExactIsOrderedProof a0 a1 a2 = some true := by
  unfold laws_FnExactIsOrderedProof
  by_cases nl : 1048576 < len a2
  · simp [nl]
  simp only [nl, decide_false, cond_false]
  rw [len_eq] at nl
  obtain ⟨r0, q0, z0⟩ := sz_Cnf o0 (s := 1048576) (by omega) (by omega)
  rw [q0, bd_some]
  by_cases n0 : r0 < 0
  · simp [n0]
  obtain ⟨r1, q1, z1⟩ := sz_ResStepS o1 (s := r0) (by omega) (by omega)
  simp only [n0, decide_false, cond_false]
  rw [q1, bd_some]
  by_cases n1 : r1 < 0
  · simp [n1]
  simp only [n1, decide_false, cond_false]
  have t0 := to_Cnf (a := a0) (by unfold lim; omega)
  have t1 := to_ResStepS (a := a1) (by unfold lim; omega)
  have t2 := to_IntS (a := a2) (by unfold lim wIntS; omega)
  have hs := spec_IsOrderedProof_eq (o := a2) o0 o1
  have hi := impl_IsOrderedProof_eq (o := a2) o0 o1 (by unfold lim; omega)
  simp only [t0, t1, t2, hs, hi, bd_some, eq_ResStepS, eq_Cnf, eq_IntS, BEq.rfl, Bool.not_true, cond_false, bif_tt, Bool.or_false]
end Go.PF
