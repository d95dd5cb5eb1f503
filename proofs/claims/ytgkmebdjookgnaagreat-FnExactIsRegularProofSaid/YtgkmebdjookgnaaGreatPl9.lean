/- The pivots of the steps of a proof; the reference and the program answer alike; the law. -/
import Derived.Test.YtgkmebdjookgnaaGreatPl8
set_option linter.unusedVariables false
namespace Go.PF
open Go.Pu

theorem forR_fold {S X : Type} {α : Type} {xs : List α} {body : Nat → S → Option (Lp S X)} {F : S → α → S} (I : Nat → S → Prop) {s0 : S} (h0 : I 0 s0)
    (h : ∀ i x s, xs[i]? = some x → I i s → body i s = some (.nx (F s x)) ∧ I (i + 1) (F s x)) : forR 0 xs.length body s0 = some (.go (xs.foldl F s0)) := by
  have key : ∀ (m : List α) (k : Nat) (s : S), (∀ i y, m[i]? = some y → xs[k + i]? = some y) → I k s → forFrom body m.length k s = some (.go (m.foldl F s)) := by
    intro m
    induction m with
    | nil => intro k s _ _; rfl
    | cons y m ih =>
      intro k s hm hI
      obtain ⟨h1, h2⟩ := h k y s (by have := hm 0 y rfl; simpa using this) hI
      simp only [List.length_cons, forFrom, h1, List.foldl_cons]
      exact ih (k + 1) (F s y) (fun i z hz => by have := hm (i + 1) z (by simpa using hz); rwa [show k + (i + 1) = k + 1 + i by omega] at this) h2
  unfold forR
  exact key xs 0 s0 (by simp) h0
theorem chk_len {A : Type} {xs : List A} (h : xs.length ≤ 2) : chk (len xs) = some xs.length := by
  unfold chk; rw [if_pos (by rw [len_eq]; omega), len_eq]; simp

/-! what a proof is -/
def proofB (F : Cnf) (S : List ResStep) : Bool := derB F S && decide (0 < len S)
theorem spec_l8Takes_eq {F : Cnf} {S : List ResStep} (hF : okCnf F) (hS : okL okResStep S) : spec_l8Takes F S = some (proofB F S) := by
  unfold spec_l8Takes proofB
  cases h : decide (0 < len S) with
  | false => simp
  | true => simp only [cond_true]; rw [spec_l7Good_eq hF hS, bd_some, bd_some, Bool.and_true]
theorem impl_isProof_eq {F : Cnf} {S : List ResStep} (hF : okCnf F) (hS : okL okResStep S) : impl_isProof F S = some (proofB F S) := by
  unfold impl_isProof proofB
  rw [impl_IsDerivation_eq hF hS, bd_some]
  cases derB F S <;> simp

/-! the pivots so far -/
def isRes (x : ResStep) : Bool := decide (0 ≤ x.left) && decide (0 ≤ x.right)
theorem spec_isRes (x : ResStep) : spec_l8Resolvent x = isRes x := by unfold spec_l8Resolvent isRes; rw [bif_ff]
theorem impl_isRes (x : ResStep) : impl_ResStep_isResolvent x = isRes x := by unfold impl_ResStep_isResolvent isRes; rw [bif_ff]
def atL (out : List (List Int)) (k : Int) : List Int := (out[k.toNat]?).getD []
theorem atL_ix {out : List (List Int)} {k : Int} (h0 : 0 ≤ k) (h1 : k < out.length) : ix out k = some (atL out k) := by
  obtain ⟨y, h2, h3⟩ := ix_of (xs := out) h0 h1
  rw [h2]; unfold atL; rw [h3]; rfl
def srcs (out : List (List Int)) (x : ResStep) : List Int := (prem x).flatMap (atL out)
def pivX (out : List (List Int)) (x : ResStep) : List Int := setI (bif isRes x then srcs out x ++ [x.pivot] else srcs out x)
def pivL (S : List ResStep) : List (List Int) := S.foldl (fun out x => out ++ [pivX out x]) []
/-- what holds of them -/
structure IsPv (n : Nat) (out : List (List Int)) : Prop where
  len : out.length = n
  asc : ∀ y ∈ out, Asc y
  sm : ∀ y ∈ out, ∀ z ∈ y, 1 ≤ z ∧ z ≤ 12
theorem IsPv.at {n : Nat} {out : List (List Int)} (h : IsPv n out) (k : Int) : (atL out k).length ≤ 12 ∧ ∀ z ∈ atL out k, 1 ≤ z ∧ z ≤ 12 := by
  unfold atL
  cases hk : out[k.toNat]? with
  | none => simp
  | some y =>
    have hy := List.mem_of_getElem? hk
    simp only [Option.getD_some]
    have := asc_len (lo := 0) (hi := 12) (h.asc y hy) fun x hx => by have := h.sm y hy x hx; omega
    exact ⟨by omega, h.sm y hy⟩
theorem flatMap_le {α β : Type} {f : α → List β} {n : Nat} : ∀ {l : List α}, (∀ x ∈ l, (f x).length ≤ n) → (l.flatMap f).length ≤ n * l.length := by
  intro l
  induction l with
  | nil => intro _; simp
  | cons x l ih =>
    intro h
    have h1 := h x (by simp); have h2 := ih fun y hy => h y (by simp [hy])
    simp only [List.flatMap_cons, List.length_append, List.length_cons, Nat.mul_add, Nat.mul_one]; omega
theorem IsPv.srcs {n : Nat} {out : List (List Int)} (h : IsPv n out) (x : ResStep) : (PF.srcs out x).length ≤ 24 ∧ ∀ z ∈ PF.srcs out x, 1 ≤ z ∧ z ≤ 12 := by
  have hp := prem_len x
  refine ⟨?_, ?_⟩
  · have := flatMap_le (f := atL out) (n := 12) (l := prem x) fun k _ => (h.at k).1
    unfold PF.srcs; omega
  · intro z hz
    unfold PF.srcs at hz
    obtain ⟨k, _, hk⟩ := List.mem_flatMap.1 hz
    exact (h.at k).2 z hk
theorem IsD.vars_le {F : Cnf} {S : List ResStep} (h : IsD F S) : 0 ≤ F.vars ∧ F.vars ≤ 12 := by
  have := h.cnf
  unfold cnfB at this
  simp only [Bool.and_eq_true] at this
  exact varsB_iff.1 this.1.1
theorem IsD.pivot {F : Cnf} {S : List ResStep} (h : IsD F S) {i : Nat} {x : ResStep} (hx : S[i]? = some x) (hr : isRes x = true) : 1 ≤ x.pivot ∧ x.pivot ≤ 12 := by
  have hv := h.vars_le
  unfold isRes at hr
  simp only [Bool.and_eq_true, decide_eq_true_eq] at hr
  rcases h.nums hx with h | h | h <;> omega
theorem IsPv.next {F : Cnf} {S : List ResStep} (hD : IsD F S) {i : Nat} {x : ResStep} (hx : S[i]? = some x) {out : List (List Int)} (h : IsPv i out) : IsPv (i + 1) (out ++ [pivX out x]) := by
  have hs := (h.srcs x).2
  refine ⟨by simp [h.len], ?_, ?_⟩
  · intro y hy
    rcases List.mem_append.1 hy with hy | hy
    · exact h.asc y hy
    · rw [List.mem_singleton.1 hy]; exact setI_asc _
  · intro y hy z hz
    rcases List.mem_append.1 hy with hy | hy
    · exact h.sm y hy z hz
    · rw [List.mem_singleton.1 hy] at hz
      unfold pivX at hz
      rw [setI_mem] at hz
      cases hr : isRes x with
      | false => rw [hr, cond_false] at hz; exact hs z hz
      | true =>
        rw [hr, cond_true] at hz
        rcases List.mem_append.1 hz with hz | hz
        · exact hs z hz
        · rw [List.mem_singleton.1 hz]; exact hD.pivot hx hr

/-! the reference -/
theorem spec_pivots_loop {F : Cnf} {S : List ResStep} (h : IsD F S) {f : Nat → ResStep → List (List Int) → Option (Lp (List (List Int)) Empty)}
    (hf : ∀ i26 y26 s27, f i26 y26 s27 = bdR (iter (S := ((List Int) × Int)) (X := Empty) (fun s487 => (bif (decide (s487.2 < (len (PF.spec_l8Premises y26)))) then bdR (iter (S := ((List Int) × Int)) (X := Empty) (fun s659 => bd (ix (PF.spec_l8Premises y26) s487.2) (fun x745 => bd (ix s27 x745) (fun x753 => (bif (decide (s659.2 < (len x753))) then bd (ix (PF.spec_l8Premises y26) s487.2) (fun x764 => bd (ix s27 x764) (fun x772 => bd (ix x772 s659.2) (fun x782 => bd (PF.spec_l1Put s659.1 x782) (fun r784 => some (Lp.nx (r784, (wr (s659.2 + 1)))))))) else some (Lp.bk (s659.1, s659.2)))))) (s487.1, 0)) (fun s659 => some (Lp.nx (s659.1, (wr (s487.2 + 1))))) (fun x659 => nomatch x659) else some (Lp.bk (s487.1, s487.2)))) ([], 0)) (fun s487 => (bif (PF.spec_l8Resolvent y26) then bd (PF.spec_l1Put s487.1 y26.pivot) (fun r834 => bd (app s27 [r834]) (fun xs847 => some (Lp.nx xs847))) else bd (app s27 [s487.1]) (fun xs863 => some (Lp.nx xs863)))) (fun x487 => nomatch x487)) :
    forL S f [] = some (.go (pivL S)) ∧ IsPv S.length (pivL S) := by
  have hS := h.le
  unfold pivL
  refine forL_foldI (X := Empty) (fun out x => out ++ [pivX out x]) (l := S) (s := []) (fun i t => IsPv i t) ⟨rfl, by simp, by simp⟩ (fun i x t hx hI => by
    have hi := (List.getElem?_eq_some_iff.1 hx).1
    refine ⟨?_, hI.next h hx⟩
    have hp := prem_len x
    have hk := h.prem hx
    rw [hf]
    simp only [spec_premises_eq, spec_isRes]
    have inner := iter_foldI (X := Empty) (xs := prem x) (F := fun s k => (atL t k).foldl putI s)
      (body := fun s487 => (bif (decide (s487.2 < (len (prem x)))) then bdR (iter (S := ((List Int) × Int)) (X := Empty) (fun s659 => bd (ix (prem x) s487.2) (fun x745 => bd (ix t x745) (fun x753 => (bif (decide (s659.2 < (len x753))) then bd (ix (prem x) s487.2) (fun x764 => bd (ix t x764) (fun x772 => bd (ix x772 s659.2) (fun x782 => bd (PF.spec_l1Put s659.1 x782) (fun r784 => some (Lp.nx (r784, (wr (s659.2 + 1)))))))) else some (Lp.bk (s659.1, s659.2)))))) (s487.1, 0)) (fun s659 => some (Lp.nx (s659.1, (wr (s487.2 + 1))))) (fun x659 => nomatch x659) else some (Lp.bk (s487.1, s487.2))))
      (s0 := []) (fun j s => Asc s ∧ s.length ≤ 12 * j) ⟨by simp, by simp⟩ (fun j k s hj hs => by
        have hjl := (List.getElem?_eq_some_iff.1 hj).1
        have hkb := hk k (List.mem_of_getElem? hj)
        have ha := hI.at k
        have hix : ix t k = some (atL t k) := atL_ix hkb.1 (by rw [hI.len]; exact hkb.2)
        obtain ⟨f1, f2, f3⟩ := putI_fold (ys := atL t k) (c := s) hs.1
        refine ⟨?_, f1, by omega⟩
        have hd : decide ((j : Int) < len (prem x)) = true := by rw [len_eq]; simp; omega
        simp only [hd, cond_true, ix_get, hj, bd_some, hix]
        rw [put_loop (xs := atL t k) hs.1 (by unfold lim; omega) (fun m y s hy => by
          have hm := (List.getElem?_eq_some_iff.1 hy).1
          have hd : decide ((m : Int) < len (atL t k)) = true := by rw [len_eq]; simp; omega
          simp only [hd, cond_true, ix_get, hy, bd_some]) (fun s => by
          have hd : decide (((atL t k).length : Int) < len (atL t k)) = false := by rw [len_eq]; simp
          simp only [hd, cond_false]), bdR_go]
        rw [wr_succ hjl (by omega)]) (fun s => by
        have hd : decide (((prem x).length : Int) < len (prem x)) = false := by rw [len_eq]; simp
        simp only [hd, cond_false])
    have e : (prem x).foldl (fun s k => (atL t k).foldl putI s) [] = setI (srcs t x) := by
      rw [← putI_set]; unfold srcs; rw [List.foldl_flatMap]
    rw [inner.1, bdR_go, e]
    have hl : (setI (srcs t x)).length ≤ 24 := by rw [← e]; have := inner.2.2; omega
    have htl := hI.len
    unfold pivX
    cases isRes x with
    | true =>
      simp only [cond_true]
      rw [spec_l1Put_eq (setI_asc _) (by unfold lim; omega), bd_some, app_ok (by unfold lim; simp; omega), bd_some, ← putI_set (srcs t x ++ [x.pivot]), List.foldl_append, putI_set]
      rfl
    | false =>
      simp only [cond_false]
      rw [app_ok (by unfold lim; simp; omega), bd_some])
theorem spec_l8Pivots_eq {F : Cnf} {S : List ResStep} (h : IsD F S) : spec_l8Pivots S = some (pivL S) ∧ IsPv S.length (pivL S) := by
  unfold spec_l8Pivots
  rw [(spec_pivots_loop h (fun _ _ _ => by rfl)).1, bdR_go]
  exact ⟨rfl, (spec_pivots_loop h (fun _ _ _ => rfl)).2⟩

/-! the program -/
theorem impl_varsOf_eq {xs : List Int} (h : ∀ z ∈ xs, 1 ≤ z ∧ z ≤ 12) (hl : xs.length ≤ lim) : impl_varsOf [xs] = some (setI xs) := by
  unfold impl_varsOf forL
  have hp : forLFrom (X := Empty) (fun i164 y163 s164 => bd (app s164 [(PF.impl_abs y163)]) (fun xs232 => some (Lp.nx xs232))) xs 0 [] = some (.go xs) := by
    have := forL_push (X := Empty) (f := fun _ y => some (impl_abs y)) (g := id) (l := xs) (s := []) (fun i y hy => by
      have := h y (List.mem_of_getElem? hy)
      rw [impl_abs_eq ⟨by omega, by omega⟩, vr_abs (by omega) (by omega)]
      simp only [id, Option.some.injEq]; omega) (by simpa using hl)
    simp only [bd_some, List.map_id, List.nil_append, forL] at this
    exact this
  rw [forLFrom_nx (s' := xs) (by rw [hp, bdR_go]), forLFrom_nil, bdR_go, sort_compact hl]
theorem set_mid {A : Type} {out : List A} {z r : A} {m : Nat} : (out ++ List.replicate (m + 1) z).set out.length r = out ++ [r] ++ List.replicate m z := by
  rw [List.set_append_right _ _ (Nat.le_refl _), Nat.sub_self, List.replicate_succ, List.set_cons_zero]; simp
theorem impl_pivots_loop {F : Cnf} {S : List ResStep} (h : IsD F S) {f : Nat → ResStep → List (List Int) → Option (Lp (List (List Int)) Empty)}
    (hf : ∀ i33 y32 s33, f i33 y32 s33 = bd (chk (len (PF.impl_ResStep_premises y32))) (fun m639 => bdR (forR (S := (List Int)) (X := Empty) 0 m639 (fun i640 s640 => bd (ix (PF.impl_ResStep_premises y32) ((i640 : Nat) : Int)) (fun x709 => bd (ix s33 x709) (fun x717 => bd (app s640 x717) (fun xs721 => some (Lp.nx xs721))))) []) (fun s640 => (bif (PF.impl_ResStep_isResolvent y32) then bd (app s640 [y32.pivot]) (fun xs753 => bd (PF.impl_varsOf [xs753]) (fun r781 => bd (ix s33 ((i33 : Nat) : Int)) (fun x799 => bd (put s33 ((i33 : Nat) : Int) r781) (fun xs811 => some (Lp.nx xs811))))) else bd (PF.impl_varsOf [s640]) (fun r834 => bd (ix s33 ((i33 : Nat) : Int)) (fun x852 => bd (put s33 ((i33 : Nat) : Int) r834) (fun xs864 => some (Lp.nx xs864)))))) (fun x640 => nomatch x640))) :
    forL S f (List.replicate S.length []) = some (.go (pivL S)) := by
  have hS := h.le
  obtain ⟨s', h1, h2⟩ := forL_inv (X := Empty) (body := f)
    (fun i t => i ≤ S.length ∧ t = (S.take i).foldl (fun out x => out ++ [pivX out x]) [] ++ List.replicate (S.length - i) [] ∧ IsPv i ((S.take i).foldl (fun out x => out ++ [pivX out x]) [])) (l := S) (s := List.replicate S.length [])
    ⟨by omega, by simp, ⟨rfl, by simp, by simp⟩⟩ (fun i x t hx ht => by
      obtain ⟨hi', rfl, hI⟩ := ht
      have hi := (List.getElem?_eq_some_iff.1 hx).1
      have ht : (S.take (i + 1)).foldl (fun out x => out ++ [pivX out x]) [] = (S.take i).foldl (fun out x => out ++ [pivX out x]) [] ++ [pivX ((S.take i).foldl (fun out x => out ++ [pivX out x]) []) x] := by
        rw [List.take_add_one, hx]; simp
      generalize (S.take i).foldl (fun out x => out ++ [pivX out x]) [] = out at hI ht ⊢
      have hp := prem_len x
      have hk := h.prem hx
      have hs := hI.srcs x
      have hol := hI.len
      refine ⟨out ++ [pivX out x] ++ List.replicate (S.length - (i + 1)) [], ?_, by omega, by rw [ht], by rw [ht]; exact hI.next h hx⟩
      rw [hf]
      simp only [impl_premises_eq, impl_isRes, chk_len hp, bd_some]
      rw [forR_fold (xs := prem x) (F := fun s k => s ++ atL out k) (fun j s => s.length ≤ 12 * j) (by simp) (fun j k s hj hs => by
        have hkb := hk k (List.mem_of_getElem? hj)
        have hjl := (List.getElem?_eq_some_iff.1 hj).1
        have ha := (hI.at k).1
        have hix : ix (out ++ List.replicate (S.length - i) []) k = some (atL out k) := by
          rw [← atL_ix (out := out) hkb.1 (by omega)]
          unfold ix
          rw [if_pos hkb.1, if_pos hkb.1, List.getElem?_append_left (by omega)]
        refine ⟨?_, by simp only [List.length_append]; omega⟩
        rw [ix_get, hj, bd_some, hix, bd_some, app_ok (by unfold lim; omega), bd_some]), bdR_go]
      have e : (prem x).foldl (fun s k => s ++ atL out k) [] = srcs out x := by
        unfold srcs
        have key : ∀ (l : List Int) (s : List Int), l.foldl (fun s k => s ++ atL out k) s = s ++ l.flatMap (atL out) := by
          intro l
          induction l with
          | nil => intro s; simp
          | cons a l ih => intro s; simp only [List.foldl_cons, List.flatMap_cons]; rw [ih]; simp
        rw [key]; simp
      rw [e]
      have hw : ∀ r : List Int, bd (ix (out ++ List.replicate (S.length - i) []) (i : Int)) (fun _ => bd (put (out ++ List.replicate (S.length - i) []) (i : Int) r) (fun xs => some (Lp.nx (X := Empty) xs))) = some (Lp.nx (out ++ [r] ++ List.replicate (S.length - (i + 1)) [])) := by
        intro r
        rw [ix_get, List.getElem?_eq_getElem (by simp; omega), bd_some, put_ok (by simp; omega), bd_some]
        have := set_mid (out := out) (z := ([] : List Int)) (r := r) (m := S.length - (i + 1))
        rw [hol, show S.length - (i + 1) + 1 = S.length - i by omega] at this
        rw [this]
      unfold pivX
      cases hr : isRes x with
      | true =>
        have hpv := h.pivot hx hr
        simp only [cond_true]
        rw [app_ok (by unfold lim; simp; omega), bd_some, impl_varsOf_eq (fun z hz => by
          rcases List.mem_append.1 hz with hz | hz
          · exact hs.2 z hz
          · rw [List.mem_singleton.1 hz]; exact hpv) (by unfold lim; simp; omega), bd_some, hw]
      | false =>
        simp only [cond_false]
        rw [impl_varsOf_eq hs.2 (by unfold lim; omega), bd_some, hw])
  rw [h1, h2.2.1, Nat.sub_self, List.take_length]
  simp [pivL]
theorem impl_stepPivots_eq {F : Cnf} {S : List ResStep} (h : IsD F S) : impl_stepPivots S = some (pivL S) := by
  have hS := h.le
  unfold impl_stepPivots
  rw [len_eq, mk2_ok (by unfold lim; omega), bd_some, impl_pivots_loop h (fun _ _ _ => by rfl), bdR_go]
end Go.PF
