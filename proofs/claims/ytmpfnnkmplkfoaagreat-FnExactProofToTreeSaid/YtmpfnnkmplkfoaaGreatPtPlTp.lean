/- ProofToTree: the law. -/
import Derived.Test.YtmpfnnkmplkfoaaGreatPtPlT1
import Derived.Test.YtmpfnnkmplkfoaaGreatPtPlRf
set_option linter.unusedVariables false
namespace Go.PF
open Go.Pu
theorem held_TreeNodeS {a : List TreeNode} {k : Int} (h0 : 0 ≤ k) (h1 : k + tot mTreeNode a ≤ big) : laws_heldTreeNodeS (laws_markTreeNodeS a k).1 k = some (laws_markTreeNodeS a k).2 := by
  unfold laws_heldTreeNodeS laws_markTreeNodeS
  have := held_list (F := fun (y : TreeNode) m => ((TreeNode.mk m (wr (m + 1)) (wr ((wr (m + 1)) + 1)) (wr ((wr ((wr (m + 1)) + 1)) + 1))), (wr ((wr ((wr ((wr (m + 1)) + 1)) + 1)) + 1)))) (wt := mTreeNode) (l := a) (k := k) (i := 0)
    (f := fun i22 y21 s22 => (bif (!(y21.var == s22)) then some (Lp.rt (-1)) else (bif (!(y21.low == (wr (s22 + 1)))) then some (Lp.rt (-1)) else (bif (!(y21.high == (wr ((wr (s22 + 1)) + 1)))) then some (Lp.rt (-1)) else (bif (!(y21.clause == (wr ((wr ((wr (s22 + 1)) + 1)) + 1)))) then some (Lp.rt (-1)) else some (Lp.nx (wr ((wr ((wr ((wr (s22 + 1)) + 1)) + 1)) + 1))))))))
    (fun y _ k h0 h1 => by
      unfold mTreeNode at *
      obtain ⟨e1, e2, e3⟩ := wr3 (k := k) h0 (by unfold big; omega)
      have e4 : wr (k + 3 + 1) = k + 4 := by rw [wr_of _ (by omega) (by omega)]; omega
      simp only [e1, e2, e3, e4]
      first | exact ⟨rfl, fun i => by simp⟩ | simp) h0 h1
  unfold forL
  rw [this, bdR_go]
/-! the recursion, with a bound -/
def mkT (S : List ResStep) : Nat → Int → List Int → List TreeNode → List TreeNode
  | 0, _, _, N => N
  | n + 1, i, a, N => match ix S i with
    | none => N
    | some s => bif decide (199 < len N) then N else bif decide (s.left < 0) then N ++ [⟨0, 0, 0, s.right⟩] else bif decide (s.right < 0) then mkT S n s.left a N
      else bif a.contains (wr (-s.pivot)) then mkT S n s.left a N else bif a.contains s.pivot then mkT S n s.right a N
      else mkT S n s.right (putL a s.pivot) (mkT S n s.left (putL a (wr (-s.pivot))) N) ++ [⟨s.pivot, wr (len (mkT S n s.left (putL a (wr (-s.pivot))) N) - 1), wr (len (mkT S n s.right (putL a s.pivot) (mkT S n s.left (putL a (wr (-s.pivot))) N)) - 1), 0⟩]
theorem mkT_len {S : List ResStep} : ∀ {n : Nat} {i : Int} {a : List Int} {N : List TreeNode}, (N.length ≤ 199 → (mkT S n i a N).length ≤ 200 + n) ∧ (199 < N.length → mkT S n i a N = N ∨ ix S i = none ∨ n = 0 ∨ mkT S n i a N = N) := by
  intro n
  induction n with
  | zero => intro i a N; exact ⟨fun h => by unfold mkT; omega, fun _ => .inl rfl⟩
  | succ n ih =>
    intro i a N
    unfold mkT
    cases ix S i with
    | none => exact ⟨fun h => by simp only; omega, fun _ => .inl rfl⟩
    | some s =>
      simp only
      cases hd : decide (199 < len N) with
      | true => exact ⟨fun h => by simp only [cond_true]; omega, fun _ => .inl rfl⟩
      | false =>
        have hN : N.length ≤ 199 := by have := of_decide_eq_false hd; rw [len_eq] at this; omega
        refine ⟨fun _ => ?_, fun h => by omega⟩
        simp only [cond_false]
        cases decide (s.left < 0) with
        | true => simp; omega
        | false =>
          simp only [cond_false]
          have h1 := fun i a => (ih (i := i) (a := a) (N := N)).1 hN
          cases decide (s.right < 0) with
          | true => have := h1 s.left a; simp only [cond_true]; omega
          | false =>
            simp only [cond_false]
            cases a.contains (wr (-s.pivot)) with
            | true => have := h1 s.left a; simp only [cond_true]; omega
            | false =>
              simp only [cond_false]
              cases a.contains s.pivot with
              | true => have := h1 s.right a; simp only [cond_true]; omega
              | false =>
                simp only [cond_false]
                have h2 := h1 s.left (putL a (wr (-s.pivot)))
                generalize mkT S n s.left (putL a (wr (-s.pivot))) N = N1 at h2 ⊢
                have h3 : (mkT S n s.right (putL a s.pivot) N1).length ≤ 200 + n := by
                  by_cases h4 : N1.length ≤ 199
                  · exact (ih (i := s.right) (a := putL a s.pivot) (N := N1)).1 h4
                  · have : mkT S n s.right (putL a s.pivot) N1 = N1 := by
                      cases n with
                      | zero => rfl
                      | succ n =>
                        unfold mkT
                        cases ix S s.right with
                        | none => rfl
                        | some s2 => simp only; rw [decide_eq_true (by rw [len_eq]; omega)]; rfl
                    rw [this]; omega
                rw [List.length_append, List.length_singleton]; omega
theorem mkT_stuck {S : List ResStep} {n : Nat} {i : Int} {a : List Int} {N : List TreeNode} (h : ¬ N.length ≤ 199) : mkT S n i a N = N := by
  cases n with
  | zero => rfl
  | succ n =>
    unfold mkT
    cases ix S i with
    | none => rfl
    | some s => simp only; rw [decide_eq_true (by rw [len_eq]; omega)]; rfl
theorem spec_make {F : Cnf} {S : List ResStep} (hD : IsD F S) : ∀ {n : Nat} {i : Int} {a : List Int} {N : List TreeNode}, 0 ≤ i → i < S.length → i < n → n ≤ 201 → IsC F.vars a → N.length ≤ 500 → spec_l9Make_F n S i a N = some (mkT S n i a N) := by
  intro n
  induction n with
  | zero => intro i a N h0 _ h1; omega
  | succ n ih =>
    intro i a N h0 hi hn hn2 ha hN
    obtain ⟨x, hx, hx2⟩ := ix_of (xs := S) h0 hi
    have hal := ha.len
    show spec_l9Make_B (spec_l9Make_F n) S i a N = _
    unfold spec_l9Make_B mkT
    rw [hx, bd_some]
    simp only
    cases hd : decide (199 < len N) with
    | true => rfl
    | false =>
      have hN9 : N.length ≤ 199 := by have := of_decide_eq_false hd; rw [len_eq] at this; omega
      simp only [cond_false]
      unfold spec_l8Axiom spec_l8Resolvent
      cases hl : decide (x.left < 0) with
      | true => simp only [cond_true]; rw [app_ok (by simp; unfold lim; omega), bd_some]
      | false =>
        have hl0 : 0 ≤ x.left := by have := of_decide_eq_false hl; omega
        have hb := hD.before hx2 hl0
        have e1 : decide (0 ≤ x.left) = true := decide_eq_true hl0
        simp only [cond_false, e1, cond_true]
        have hi2 : ((i.toNat : Nat) : Int) = i := by omega
        cases hr : decide (x.right < 0) with
        | true =>
          have e2 : decide (0 ≤ x.right) = false := by have := of_decide_eq_true hr; rw [decide_eq_false_iff_not]; omega
          simp only [e2, Bool.not_false, cond_true]
          rw [ih hl0 (by omega) (by omega) (by omega) ha hN, bd_some]
        | false =>
          have hr0 : 0 ≤ x.right := by have := of_decide_eq_false hr; omega
          have hb2 := hb.2 hr0
          have e2 : decide (0 ≤ x.right) = true := decide_eq_true hr0
          simp only [e2, Bool.not_true, cond_false]
          have hres : isRes x = true := by unfold isRes; rw [e1, e2]; rfl
          have hpv := hD.pivot hx2 hres
          have hvl := hD.vars_le
          have hpF : x.pivot ≤ F.vars := by rcases hD.nums hx2 with h | h | h <;> omega
          rw [spec_l2Has_eq, bd_some]
          cases hc1 : a.contains (wr (-x.pivot)) with
          | true => simp only [cond_true]; rw [ih hl0 (by omega) (by omega) (by omega) ha hN, bd_some]
          | false =>
            simp only [cond_false]
            rw [spec_l2Has_eq, bd_some]
            cases hc2 : a.contains x.pivot with
            | true => simp only [cond_true]; rw [ih hr0 (by omega) (by omega) (by omega) ha hN, bd_some]
            | false =>
              simp only [cond_false]
              have hm := hasV_mem ha (v := x.pivot) hpv (by unfold hasV; rw [hc1, hc2]; rfl)
              have hw : wr (-x.pivot) = -x.pivot := wr_of _ (by omega) (by omega)
              have i1 : IsC F.vars (putL a (wr (-x.pivot))) := by rw [hw]; exact putL_isC ha (by omega) (fun y hy => by have := hm y hy; omega)
              have i2 : IsC F.vars (putL a x.pivot) := putL_isC ha (by omega) hm
              clear hw
              have l1 := (mkT_len (S := S) (n := n) (i := x.left) (a := putL a (wr (-x.pivot))) (N := N)).1 hN9
              rw [spec_l2Put_eq (by unfold lim; omega), bd_some, ih hl0 (by omega) (by omega) (by omega) i1 hN, bd_some, spec_l2Put_eq (by unfold lim; omega), bd_some]
              rw [ih hr0 (by omega) (by omega) (by omega) i2 (by omega), bd_some]
              have l2 : (mkT S n x.right (putL a x.pivot) (mkT S n x.left (putL a (wr (-x.pivot))) N)).length ≤ 500 := by
                by_cases h4 : (mkT S n x.left (putL a (wr (-x.pivot))) N).length ≤ 199
                · have := (mkT_len (S := S) (n := n) (i := x.right) (a := putL a x.pivot) (N := mkT S n x.left (putL a (wr (-x.pivot))) N)).1 h4; omega
                · rw [mkT_stuck h4]; omega
              rw [app_ok (by simp; unfold lim; omega), bd_some]
structure GrOk (F : Cnf) (r : Option (Bool × grower)) (N : List TreeNode) : Prop where
  yes : N.length ≤ 199 → r = some (true, grower.mk F N fun _ => none)
  no : ¬ N.length ≤ 199 → ∃ g, r = some (false, g)
theorem impl_make {F : Cnf} {S : List ResStep} (hD : IsD F S) : ∀ {n : Nat} {i : Int} {a : List Int} {N : List TreeNode}, 0 ≤ i → i < S.length → i < n → n ≤ 201 → IsC F.vars a → N.length ≤ 199 → GrOk F (impl_grower_fromProof_F n (grower.mk F N fun _ => none) S i a) (mkT S n i a N) := by
  intro n
  induction n with
  | zero => intro i a N h0 _ h1; omega
  | succ n ih =>
    intro i a N h0 hi hn hn2 ha hN
    obtain ⟨x, hx, hx2⟩ := ix_of (xs := S) h0 hi
    have hal := ha.len
    show GrOk F (impl_grower_fromProof_B (impl_grower_fromProof_F n) (grower.mk F N fun _ => none) S i a) _
    unfold impl_grower_fromProof_B mkT
    rw [hx, bd_some]
    simp only
    have hd : decide (199 < len N) = false := by rw [decide_eq_false_iff_not, len_eq]; omega
    rw [hd]
    simp only [cond_false]
    have pass : ∀ {r : Option (Bool × grower)} {M : List TreeNode}, GrOk F r M → GrOk F (bd r fun r64 => some (r64.1, (grower.mk r64.2.f r64.2.nodes (fun _ => none)))) M := fun {r M} h => by
      refine ⟨fun hM => by rw [h.yes hM, bd_some], fun hM => ?_⟩
      obtain ⟨g, hg⟩ := h.no hM
      exact ⟨_, by rw [hg, bd_some]⟩
    have addl : ∀ {M : List TreeNode} {y : TreeNode}, M.length ≤ 500 → GrOk F (bd (PF.impl_grower_add (grower.mk F M (fun _ => none)) y) (fun r46 => some (r46.1, (grower.mk r46.2.f r46.2.nodes (fun _ => none))))) (M ++ [y]) := fun {M y} hM => by
      unfold impl_grower_add
      simp only
      rw [app_ok (by simp; unfold lim; omega), bd_some, bd_some]
      refine ⟨fun h => by rw [len_eq, decide_eq_true (by omega)], fun h => ⟨_, by rw [len_eq, decide_eq_false (by omega)]⟩⟩
    unfold impl_ResStep_isAxiom impl_ResStep_isWeakening
    cases hl : decide (x.left < 0) with
    | true => simp only [cond_true]; exact addl (by omega)
    | false =>
      have hl0 : 0 ≤ x.left := by have := of_decide_eq_false hl; omega
      have hb := hD.before hx2 hl0
      have e1 : decide (0 ≤ x.left) = true := decide_eq_true hl0
      simp only [cond_false, e1, cond_true]
      have hi2 : ((i.toNat : Nat) : Int) = i := by omega
      cases hr : decide (x.right < 0) with
      | true => simp only [cond_true]; exact pass (ih hl0 (by omega) (by omega) (by omega) ha hN)
      | false =>
        have hr0 : 0 ≤ x.right := by have := of_decide_eq_false hr; omega
        have hb2 := hb.2 hr0
        simp only [cond_false]
        have hres : isRes x = true := by unfold isRes; rw [e1, decide_eq_true hr0]; rfl
        have hpv := hD.pivot hx2 hres
        have hvl := hD.vars_le
        have hpF : x.pivot ≤ F.vars := by rcases hD.nums hx2 with h | h | h <;> omega
        rw [slices_Contains_int_int_eq, bd_some]
        cases hc1 : a.contains (wr (-x.pivot)) with
        | true => simp only [cond_true]; exact pass (ih hl0 (by omega) (by omega) (by omega) ha hN)
        | false =>
          simp only [cond_false]
          rw [slices_Contains_int_int_eq, bd_some]
          cases hc2 : a.contains x.pivot with
          | true => simp only [cond_true]; exact pass (ih hr0 (by omega) (by omega) (by omega) ha hN)
          | false =>
            simp only [cond_false]
            have hm := hasV_mem ha (v := x.pivot) hpv (by unfold hasV; rw [hc1, hc2]; rfl)
            have hw : wr (-x.pivot) = -x.pivot := wr_of _ (by omega) (by omega)
            have i1 : IsC F.vars (putL a (wr (-x.pivot))) := by rw [hw]; exact putL_isC ha (by omega) (fun y hy => by have := hm y hy; omega)
            have i2 : IsC F.vars (putL a x.pivot) := putL_isC ha (by omega) hm
            have s1 : impl_set a (wr (-x.pivot)) = some (putL a (wr (-x.pivot))) := by
              rw [hw, impl_set_eq ha (by omega), setA_put ha (by omega) (fun y hy => by have := hm y hy; omega)]
            have s2 : impl_set a x.pivot = some (putL a x.pivot) := by
              rw [impl_set_eq ha (by omega), setA_put ha (by omega) hm]
            clear hw
            rw [s1, bd_some]
            have g1 := ih (N := N) hl0 (by omega) (by omega) (by omega) i1 hN
            have l1 := (mkT_len (S := S) (n := n) (i := x.left) (a := putL a (wr (-x.pivot))) (N := N)).1 hN
            generalize mkT S n x.left (putL a (wr (-x.pivot))) N = N1 at g1 l1 ⊢
            by_cases h4 : N1.length ≤ 199
            · rw [g1.yes h4, bd_some]
              simp only [Bool.not_true, cond_false]
              rw [s2, bd_some]
              have g2 := ih (N := N1) hr0 (by omega) (by omega) (by omega) i2 h4
              have l2 := (mkT_len (S := S) (n := n) (i := x.right) (a := putL a x.pivot) (N := N1)).1 h4
              generalize mkT S n x.right (putL a x.pivot) N1 = N2 at g2 l2 ⊢
              by_cases h5 : N2.length ≤ 199
              · rw [g2.yes h5, bd_some]
                simp only [Bool.not_true, cond_false]
                exact addl (by omega)
              · obtain ⟨g, hg⟩ := g2.no h5
                rw [hg, bd_some]
                exact ⟨fun h => by simp at h; omega, fun _ => ⟨_, rfl⟩⟩
            · obtain ⟨g, hg⟩ := g1.no h4
              rw [hg, bd_some, mkT_stuck h4]
              exact ⟨fun h => by simp at h; omega, fun _ => ⟨_, rfl⟩⟩
theorem spec_up {S : List ResStep} : ∀ {n : Nat} {i : Int} {a : List Int} {N M : List TreeNode}, spec_l9Make_F n S i a N = some M → spec_l9Make_F (n + 1) S i a N = some M := by
  have mono : ∀ {f g : List ResStep → Int → List Int → List TreeNode → Option (List TreeNode)}, (∀ i a N M, f S i a N = some M → g S i a N = some M) → ∀ i a N M, spec_l9Make_B f S i a N = some M → spec_l9Make_B g S i a N = some M := by
    intro f g hfg i a N M h
    unfold spec_l9Make_B at h ⊢
    cases hx : ix S i with
    | none => rw [hx] at h; cases h
    | some x =>
      rw [hx, bd_some] at h
      rw [bd_some]
      cases hd : decide (199 < len N) with
      | true => rw [hd] at h; exact h
      | false =>
        rw [hd] at h
        simp only [cond_false] at h ⊢
        cases hA : spec_l8Axiom x with
        | true => rw [hA] at h; exact h
        | false =>
          rw [hA] at h
          simp only [cond_false] at h ⊢
          have one : ∀ {i a}, bd (f S i a N) (fun r => some r) = some M → bd (g S i a N) (fun r => some r) = some M := fun {i a} h => by
            cases hf : f S i a N with
            | none => rw [hf] at h; cases h
            | some r => rw [hf, bd_some] at h; rw [hfg _ _ _ _ hf, bd_some]; exact h
          cases hR : spec_l8Resolvent x with
          | false => rw [hR] at h; exact one h
          | true =>
            rw [hR] at h
            simp only [Bool.not_true, cond_false] at h ⊢
            rw [spec_l2Has_eq, bd_some] at h ⊢
            cases hc : a.contains (wr (-x.pivot)) with
            | true => rw [hc] at h; exact one h
            | false =>
              rw [hc] at h
              simp only [cond_false] at h ⊢
              rw [spec_l2Has_eq, bd_some] at h ⊢
              cases hc2 : a.contains x.pivot with
              | true => rw [hc2] at h; exact one h
              | false =>
                rw [hc2] at h
                simp only [cond_false] at h ⊢
                cases hp : spec_l2Put a (wr (-x.pivot)) with
                | none => rw [hp] at h; cases h
                | some a1 =>
                  rw [hp, bd_some] at h
                  rw [bd_some]
                  cases hf : f S x.left a1 N with
                  | none => rw [hf] at h; cases h
                  | some N1 =>
                    rw [hf, bd_some] at h
                    rw [hfg _ _ _ _ hf, bd_some]
                    cases hp2 : spec_l2Put a x.pivot with
                    | none => rw [hp2] at h; cases h
                    | some a2 =>
                      rw [hp2, bd_some] at h
                      rw [bd_some]
                      cases hf2 : f S x.right a2 N1 with
                      | none => rw [hf2] at h; cases h
                      | some N2 =>
                        rw [hf2, bd_some] at h
                        rw [hfg _ _ _ _ hf2, bd_some]; exact h
  intro n
  induction n with
  | zero => intro i a N M h; cases h
  | succ n ih => intro i a N M h; exact mono (fun i a N M h => ih h) i a N M h
theorem spec_ups {S : List ResStep} {n : Nat} {i : Int} {a : List Int} {N M : List TreeNode} (h : spec_l9Make_F n S i a N = some M) : ∀ {k : Nat}, n ≤ k → spec_l9Make_F k S i a N = some M := by
  intro k hk
  induction hk with
  | refl => exact h
  | step _ ih => exact spec_up ih
theorem impl_up {S : List ResStep} : ∀ {n : Nat} {g : grower} {i : Int} {a : List Int} {M : Bool × grower}, impl_grower_fromProof_F n g S i a = some M → impl_grower_fromProof_F (n + 1) g S i a = some M := by
  have mono : ∀ {f h : grower → List ResStep → Int → List Int → Option (Bool × grower)}, (∀ g i a M, f g S i a = some M → h g S i a = some M) → ∀ g i a M, impl_grower_fromProof_B f g S i a = some M → impl_grower_fromProof_B h g S i a = some M := by
    intro f h hfg g i a M e
    unfold impl_grower_fromProof_B at e ⊢
    cases hx : ix S i with
    | none => rw [hx] at e; cases e
    | some x =>
      rw [hx, bd_some] at e
      rw [bd_some]
      cases hA : impl_ResStep_isAxiom x with
      | true => rw [hA] at e; exact e
      | false =>
        rw [hA] at e
        simp only [cond_false] at e ⊢
        have one : ∀ {g i a} {k : Bool × grower → Option (Bool × grower)}, bd (f g S i a) k = some M → bd (h g S i a) k = some M := fun {g i a k} e => by
          cases hf : f g S i a with
          | none => rw [hf] at e; cases e
          | some r => rw [hf, bd_some] at e; rw [hfg _ _ _ _ hf, bd_some]; exact e
        cases hW : impl_ResStep_isWeakening x with
        | true => rw [hW] at e; exact one e
        | false =>
          rw [hW] at e
          simp only [cond_false] at e ⊢
          rw [slices_Contains_int_int_eq, bd_some] at e ⊢
          cases hc : a.contains (wr (-x.pivot)) with
          | true => rw [hc] at e; exact one e
          | false =>
            rw [hc] at e
            simp only [cond_false] at e ⊢
            rw [slices_Contains_int_int_eq, bd_some] at e ⊢
            cases hc2 : a.contains x.pivot with
            | true => rw [hc2] at e; exact one e
            | false =>
              rw [hc2] at e
              simp only [cond_false] at e ⊢
              cases hp : impl_set a (wr (-x.pivot)) with
              | none => rw [hp] at e; cases e
              | some a1 =>
                rw [hp, bd_some] at e
                rw [bd_some]
                cases hf : f (grower.mk g.f g.nodes fun _ => none) S x.left a1 with
                | none => rw [hf] at e; cases e
                | some r1 =>
                  rw [hf, bd_some] at e
                  rw [hfg _ _ _ _ hf, bd_some]
                  cases hb : r1.1 with
                  | false => rw [hb] at e; exact e
                  | true =>
                    rw [hb] at e
                    simp only [Bool.not_true, cond_false] at e ⊢
                    cases hp2 : impl_set a x.pivot with
                    | none => rw [hp2] at e; cases e
                    | some a2 =>
                      rw [hp2, bd_some] at e
                      rw [bd_some]; exact one e
  intro n
  induction n with
  | zero => intro g i a M h; cases h
  | succ n ih => intro g i a M h; exact mono (fun g i a M h => ih h) g i a M h
theorem impl_ups {S : List ResStep} {n : Nat} {g : grower} {i : Int} {a : List Int} {M : Bool × grower} (h : impl_grower_fromProof_F n g S i a = some M) : ∀ {k : Nat}, n ≤ k → impl_grower_fromProof_F k g S i a = some M := by
  intro k hk
  induction hk with
  | refl => exact h
  | step _ ih => exact impl_up ih
def growT (S : List ResStep) : List TreeNode := mkT S 201 ((S.length - 1 : Nat) : Int) [] []
def growV (F : Cnf) (S : List ResStep) : List TreeNode × Bool := bif !refB F S then ([], false) else bif decide (199 < len (growT S)) then ([], false) else (growT S, true)
theorem ref_ok {F : Cnf} {S : List ResStep} (h : refB F S = true) : IsD F S ∧ 0 < S.length := by
  unfold refB at h
  simp only [Bool.and_eq_true, decide_eq_true_eq] at h
  exact ⟨derB_iff.1 h.1, by have := h.2.1; rw [len_eq] at this; omega⟩
theorem nil_isC {F : Cnf} {S : List ResStep} (h : IsD F S) : IsC F.vars [] := by
  have hv := h.vars_le
  exact ⟨hv.1, hv.2, (fun l hl => by cases hl), .nil⟩
theorem spec_ProofToTree_eq {F : Cnf} {S : List ResStep} (hF : okCnf F) (hS : okL okResStep S) : spec_ProofToTree F S = some (growV F S) := by
  unfold spec_ProofToTree growV
  rw [spec_ref hF hS, bd_some]
  cases hr : refB F S with
  | false => rfl
  | true =>
    obtain ⟨hD, hpos⟩ := ref_ok hr
    have hle := hD.le
    have hw : wr (len S - 1) = ((S.length - 1 : Nat) : Int) := by rw [len_eq, wr_of _ (by omega) (by omega)]; omega
    simp only [Bool.not_true, cond_false]
    have e : spec_l9Make S ((S.length - 1 : Nat) : Int) [] [] = some (growT S) :=
      spec_ups (spec_make hD (n := 201) (Int.natCast_nonneg _) (by omega) (by omega) (Nat.le_refl _) (nil_isC hD) (by simp)) (by rw [deep_eq]; decide)
    rw [hw, e, bd_some]
    cases decide (199 < len (growT S)) <;> rfl
theorem impl_ProofToTree_eq {F : Cnf} {S : List ResStep} (hF : okCnf F) (hS : okL okResStep S) : impl_ProofToTree F S = some (growV F S) := by
  unfold impl_ProofToTree growV
  rw [impl_ref hF hS, bd_some]
  cases hr : refB F S with
  | false => rfl
  | true =>
    obtain ⟨hD, hpos⟩ := ref_ok hr
    have hle := hD.le
    have hw : wr (len S - 1) = ((S.length - 1 : Nat) : Int) := by rw [len_eq, wr_of _ (by omega) (by omega)]; omega
    simp only [Bool.not_true, cond_false]
    have g := impl_make hD (n := 201) (i := ((S.length - 1 : Nat) : Int)) (a := []) (N := []) (Int.natCast_nonneg _) (by omega) (by omega) (Nat.le_refl _) (nil_isC hD) (by simp)
    rw [hw]
    by_cases h : (growT S).length ≤ 199
    · have e : impl_grower_fromProof (grower.mk F [] fun _ => none) S ((S.length - 1 : Nat) : Int) [] = some (true, grower.mk F (growT S) fun _ => none) := impl_ups (g.yes h) (by rw [deep_eq]; decide)
      rw [e, bd_some, decide_eq_false (show ¬ 199 < len (growT S) by rw [len_eq]; omega)]; rfl
    · obtain ⟨g2, hg⟩ := g.no h
      have e : impl_grower_fromProof (grower.mk F [] fun _ => none) S ((S.length - 1 : Nat) : Int) [] = some (false, g2) := impl_ups hg (by rw [deep_eq]; decide)
      rw [e, bd_some, decide_eq_true (show 199 < len (growT S) by rw [len_eq]; omega)]; rfl
theorem growV_small {F : Cnf} {S : List ResStep} : tot mTreeNode (growV F S).1 ≤ 10000 := by
  rw [tot_four]
  unfold growV
  cases hr : refB F S with
  | false => simp
  | true =>
    cases hd : decide (199 < len (growT S)) with
    | true => simp
    | false => have := of_decide_eq_false hd; rw [len_eq] at this; simp only [Bool.not_true, cond_false]; omega
theorem plain_ProofToTree (a0 : Cnf) (a1 : List ResStep) (o0 : okCnf a0) (o1 : okL okResStep a1) : laws_FnExactProofToTree a0 a1 = some true := by
  unfold laws_FnExactProofToTree
  obtain ⟨r0, q0, z0⟩ := sz_Cnf o0 (s := 1048576) (by omega) (by omega)
  rw [q0, bd_some]
  by_cases n0 : r0 < 0
  · simp [n0]
  obtain ⟨r1, q1, z1⟩ := sz_ResStepS o1 (s := r0) (by omega) (by omega)
  simp only [n0, decide_false, cond_false]
  rw [q1, bd_some]
  by_cases n1 : r1 < 0
  · simp [n1]
  simp only [n1, decide_false, cond_false]
  have t0 := to_Cnf (a := a0) (by unfold lim; omega)
  have t1 := to_ResStepS (a := a1) (by unfold lim; omega)
  have hs := spec_ProofToTree_eq o0 o1
  have hi := impl_ProofToTree_eq o0 o1
  have hm := growV_small (F := a0) (S := a1)
  generalize growV a0 a1 = g at hs hi hm
  have w0 : tot wIntS a0.clauses ≤ 1048576 := by unfold wCnf wIntSS at z0; omega
  have w1 := mResStep_le (a := a1) (by omega)
  have m0 := mark_Cnf (a := a0) (k := 1) (by omega) (by unfold big; omega)
  have m1 := mark_ResStepS (a := a1) (k := (laws_markCnf a0 1).2) (by omega) (by unfold big; omega)
  have mg := mark_TreeNodeS (a := g.1) (k := 1) (by omega) (by unfold big; omega)
  have hg := held_TreeNodeS (a := g.1) (k := 1) (by omega) (by unfold big; omega)
  have d1 : decide ((laws_markResStepS a1 (laws_markCnf a0 1).2).2 < 0) = false := by rw [decide_eq_false_iff_not]; omega
  have d2 : decide ((laws_markTreeNodeS g.1 1).2 < 0) = false := by rw [decide_eq_false_iff_not]; omega
  simp only [t0, t1, hs, hi, hg, d1, d2, bd_some, eq_ResStepS, eq_TreeNodeS, eq_Cnf, BEq.rfl, Bool.not_true, cond_false, bif_tt, Bool.or_false]
end Go.PF
