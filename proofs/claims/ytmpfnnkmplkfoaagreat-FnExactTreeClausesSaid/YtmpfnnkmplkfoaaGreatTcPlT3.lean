/- Search trees: the paths, told by both sides. -/
import Derived.Test.YtmpfnnkmplkfoaaGreatTcPlT2
set_option linter.unusedVariables false
namespace Go.PF
open Go.Pu
def runD {σ α : Type} (st : σ → α → Nat → Option σ) (xs : List α) : Nat → σ → Option σ
  | 0, s => some s
  | k + 1, s => match xs[k]? with
    | none => none
    | some y => match st s y k with
      | none => none
      | some s' => runD st xs k s'
theorem pathR_run {N : List TreeNode} : ∀ {k : Nat} {P : List (List Int)}, pathR N k P = runD pstep N k P := by
  intro k
  induction k with
  | zero => intro P; rfl
  | succ k ih =>
    intro P
    unfold pathR runD
    cases N[k]? with
    | none => rfl
    | some y =>
      simp only
      cases pstep P y k with
      | none => rfl
      | some P' => exact ih
theorem impR_run {N : List TreeNode} : ∀ {k : Nat} {s : List Bool × List (List Int)}, impR N k s = runD istep N k s := by
  intro k
  induction k with
  | zero => intro P; rfl
  | succ k ih =>
    intro P
    unfold impR runD
    cases N[k]? with
    | none => rfl
    | some y =>
      simp only
      cases istep P y k with
      | none => rfl
      | some P' => exact ih
theorem forB_opt {S α X : Type} {xs : List α} {body : α → Nat → S → Option (Lp S X)} {st : S → α → Nat → Option S} {v : X} (I : Nat → S → Prop) {s0 : S} (h0 : I xs.length s0)
    (h : ∀ (i : Nat) x s, xs[i]? = some x → I (i + 1) s → (st s x i = none → body x i s = some (.rt v)) ∧ ∀ s', st s x i = some s' → body x i s = some (.nx s') ∧ I i s') :
    (runD st xs xs.length s0 = none → forB xs body s0 = some (.rt v)) ∧ ∀ s', runD st xs xs.length s0 = some s' → forB xs body s0 = some (.go s') ∧ I 0 s' := by
  have key : ∀ (k j : Nat) (s : S), k ≤ xs.length → I k s → (runD st xs k s = none → forLFrom (fun _ p s => body p.1 p.2 s) (xs.take k).zipIdx.reverse j s = some (.rt v)) ∧ ∀ s', runD st xs k s = some s' → forLFrom (fun _ p s => body p.1 p.2 s) (xs.take k).zipIdx.reverse j s = some (.go s') ∧ I 0 s' := by
    intro k
    induction k with
    | zero => intro j s _ hI; exact ⟨(fun h => nomatch h), fun s' h => by cases h; exact ⟨rfl, hI⟩⟩
    | succ k ih =>
      intro j s hk hI
      obtain ⟨x, hx⟩ : ∃ x, xs[k]? = some x := ⟨_, List.getElem?_eq_getElem (by omega)⟩
      obtain ⟨h1, h2⟩ := h k x s hx hI
      unfold runD
      rw [hx, take_rev hx]
      simp only
      cases hs : st s x k with
      | none => exact ⟨fun _ => by unfold forLFrom; rw [h1 hs], fun s' h => nomatch h⟩
      | some s1 =>
        obtain ⟨h3, h4⟩ := h2 s1 hs
        rw [forLFrom_nx h3]
        exact ih _ _ (by omega) h4
  have := key xs.length 0 s0 (Nat.le_refl _) h0
  rwa [List.take_length] at this
theorem iter_down_opt {σ α X : Type} {xs : List α} {body : σ × Int → Option (Lp (σ × Int) X)} {st : σ → α → Nat → Option σ} {v : X} (I : Nat → σ → Prop) {s0 : σ} (h0 : I xs.length s0)
    (h : ∀ (i : Nat) x s, xs[i]? = some x → I (i + 1) s → (st s x i = none → body (s, (i : Int)) = some (.rt v)) ∧ ∀ s', st s x i = some s' → body (s, (i : Int)) = some (.nx (s', (i : Int) - 1)) ∧ I i s') (he : ∀ s, body (s, -1) = some (.bk (s, -1))) :
    (runD st xs xs.length s0 = none → iter body (s0, len xs - 1) = some (.rt v)) ∧ ∀ s', runD st xs xs.length s0 = some s' → iter body (s0, len xs - 1) = some (.go (s', -1)) ∧ I 0 s' := by
  have key : ∀ (k : Nat) (s : σ), k ≤ xs.length → I k s → (runD st xs k s = none → iter body (s, (k : Int) - 1) = some (.rt v)) ∧ ∀ s', runD st xs k s = some s' → iter body (s, (k : Int) - 1) = some (.go (s', -1)) ∧ I 0 s' := by
    intro k
    induction k with
    | zero => intro s _ hI; exact ⟨(fun h => nomatch h), fun s' h => by cases h; exact ⟨iter_bk (he _), hI⟩⟩
    | succ k ih =>
      intro s hk hI
      obtain ⟨x, hx⟩ : ∃ x, xs[k]? = some x := ⟨_, List.getElem?_eq_getElem (by omega)⟩
      obtain ⟨h1, h2⟩ := h k x s hx hI
      unfold runD
      rw [hx, show ((k + 1 : Nat) : Int) - 1 = (k : Int) by omega]
      simp only
      cases hs : st s x k with
      | none => exact ⟨fun _ => iter_rt (h1 hs), fun s' h => nomatch h⟩
      | some s1 =>
        obtain ⟨h3, h4⟩ := h2 s1 hs
        rw [iter_nx h3]
        exact ih _ (by omega) h4
  exact key xs.length s0 (Nat.le_refl _) h0
theorem forL_chk {S α X : Type} {xs : List α} {body : Nat → α → S → Option (Lp S X)} {p : Nat → α → Bool} {v : X} {F : S → α → S} (I : Nat → S → Prop) {s : S} (h0 : I 0 s)
    (h : ∀ (i : Nat) x s, xs[i]? = some x → I i s → (p i x = true → body i x s = some (.rt v)) ∧ (p i x = false → body i x s = some (.nx (F s x)) ∧ I (i + 1) (F s x))) :
    (anyI p xs 0 = true → forL xs body s = some (.rt v)) ∧ (anyI p xs 0 = false → forL xs body s = some (.go (xs.foldl F s)) ∧ I xs.length (xs.foldl F s)) := by
  have key : ∀ (m : List α) (k : Nat) (s : S), k + m.length = xs.length → (∀ i y, m[i]? = some y → xs[k + i]? = some y) → I k s →
      (anyI p m k = true → forLFrom body m k s = some (.rt v)) ∧ (anyI p m k = false → forLFrom body m k s = some (.go (m.foldl F s)) ∧ I xs.length (m.foldl F s)) := by
    intro m
    induction m with
    | nil =>
      intro k s hk _ hI
      simp only [List.length_nil, Nat.add_zero] at hk
      subst hk
      exact ⟨(fun h => nomatch h), fun _ => ⟨rfl, hI⟩⟩
    | cons y m ih =>
      intro k s hk hm hI
      obtain ⟨h1, h2⟩ := h k y s (by have := hm 0 y rfl; simpa using this) hI
      simp only [anyI]
      cases hp : p k y with
      | true => exact ⟨fun _ => by unfold forLFrom; rw [h1 hp], fun h => nomatch h⟩
      | false =>
        obtain ⟨h3, h4⟩ := h2 hp
        rw [Bool.false_or, forLFrom_nx h3, List.foldl_cons]
        exact ih (k + 1) _ (by simp at hk; omega) (fun i z hz => by have := hm (i + 1) z (by simpa using hz); rwa [show k + (i + 1) = k + 1 + i by omega] at this) h4
  exact key xs 0 s (by simp) (by simp) h0
/-! the reference's counts -/
def useU (U : List Int) (y : TreeNode) : List Int :=
  bif !inn y then U else ((U.set y.low.toNat (wr ((U[y.low.toNat]?).getD 0 + 1))).set y.high.toNat (wr (((U.set y.low.toNat (wr ((U[y.low.toNat]?).getD 0 + 1)))[y.high.toNat]?).getD 0 + 1)))
structure UI (N : List TreeNode) (i : Nat) (U : List Int) : Prop where
  len : U.length = N.length
  at_ : ∀ x, x < N.length → U[x]? = some (((N.take i).countP (chB x) : Nat) : Int)
theorem UI.step {F : Cnf} {N : List TreeNode} (hl : N.length ≤ 1000) {i : Nat} {U : List Int} {y : TreeNode} (h : UI N i U) (hy : N[i]? = some y) (hok : NOk F i y) : UI N (i + 1) (useU U y) := by
  have hi := (List.getElem?_eq_some_iff.1 hy).1
  have hlen := h.len
  have ht : N.take (i + 1) = N.take i ++ [y] := by rw [List.take_add_one, hy]; rfl
  have hc : ∀ x, (N.take (i + 1)).countP (chB x) = (N.take i).countP (chB x) + if chB x y then 1 else 0 := fun x => by rw [ht, List.countP_append, List.countP_singleton]
  have hb : ∀ x, (N.take i).countP (chB x) ≤ 1000 := fun x => by have := List.countP_le_length (p := chB x) (l := N.take i); rw [List.length_take] at this; omega
  unfold useU
  cases hn : inn y with
  | false =>
    refine ⟨hlen, fun x hx => ?_⟩
    have : chB x y = false := by unfold chB; rw [hn]; rfl
    rw [hc, this]; exact h.at_ x hx
  | true =>
    obtain ⟨_, _, g1, g2, g3, g4, g5⟩ := hok.inner hn
    have hlo := h.at_ y.low.toNat (by omega)
    have hhi := h.at_ y.high.toNat (by omega)
    have hne : y.low.toNat ≠ y.high.toNat := by omega
    have hw : ∀ x, wr (((((N.take i).countP (chB x) : Nat) : Int)) + 1) = (((N.take i).countP (chB x) + 1 : Nat) : Int) := fun x => by have := hb x; rw [wr_of _ (by omega) (by omega)]; omega
    simp only [Bool.not_true, cond_false]
    refine ⟨by simp [hlen], fun x hx => ?_⟩
    rw [List.getElem?_set_ne hne, hlo, hhi, Option.getD_some, Option.getD_some, hw, hw, hc, chB_of hn g1 g3]
    by_cases e1 : x = y.high.toNat
    · subst e1
      rw [List.getElem?_set_self (by simp; omega)]
      simp
    · rw [List.getElem?_set_ne (by omega)]
      by_cases e2 : x = y.low.toNat
      · subst e2
        rw [List.getElem?_set_self (by omega)]
        simp
      · rw [List.getElem?_set_ne (by omega), h.at_ x hx]
        simp [e1, e2]
def nodesB (F : Cnf) (N : List TreeNode) : Bool := !anyI (fun i y => !nodeB F i y) N 0
def P0 (N : List TreeNode) : List (List Int) := List.replicate N.length []
def sizeB (N : List TreeNode) : Bool := inB (len N) 1 199
def treeB (F : Cnf) (N : List TreeNode) : Bool := cnfB F && sizeB N && nodesB F N
def treeP (F : Cnf) (N : List TreeNode) : Option (List (List Int)) := bif treeB F N then (bif usesOk N then pathR N N.length (P0 N) else none) else none
structure TOk (F : Cnf) (N : List TreeNode) : Prop where
  v : 0 ≤ F.vars ∧ F.vars ≤ 12
  fl : F.clauses.length ≤ 60
  f : ∀ c ∈ F.clauses, IsC F.vars c
  pos : 0 < N.length
  le : N.length ≤ 199
  n : NsOk F N
theorem treeB_ok {F : Cnf} {N : List TreeNode} (h : treeB F N = true) : TOk F N := by
  unfold treeB cnfB sizeB nodesB at h
  simp only [Bool.and_eq_true, decide_eq_true_eq, List.all_eq_true, Bool.not_eq_true'] at h
  obtain ⟨⟨⟨⟨h1, h2⟩, h3⟩, h4⟩, h5⟩ := h
  have h6 := inB_iff.1 h4
  rw [len_eq] at h2 h6
  exact ⟨varsB_iff.1 h1, by omega, fun c hc => clauseB_iff.1 (h3 c hc), by omega, by omega, ⟨fun i y hy => by
    have hi := (List.getElem?_eq_some_iff.1 hy).1
    have := anyI_false.1 h5 i y hy
    rw [Nat.zero_add] at this
    exact nodeB_ok (by omega) (by omega) (by simpa using this)⟩⟩
theorem p0_ok {F : Cnf} {N : List TreeNode} (h : TOk F N) : POk F.vars N.length (P0 N) := ⟨by simp [P0], fun p hp => by
  rw [(List.mem_replicate.1 hp).2]
  exact ⟨h.v.1, h.v.2, (fun l hl => by cases hl), .nil⟩⟩
theorem p0_set (N : List TreeNode) : (P0 N).set (N.length - 1) [] = P0 N := by
  unfold P0
  apply List.ext_getElem?
  intro i
  rw [List.getElem?_set]
  split
  · rename_i e; subst e
    split
    · rename_i h; rw [List.getElem?_replicate, if_pos (by simpa using h)]
    · rename_i h; rw [List.getElem?_replicate, if_neg (by simpa using h)]
  · rfl
theorem put_nat {α : Type} {xs : List α} {i : Int} {x : α} (h0 : 0 ≤ i) (h1 : i < xs.length) : put xs i x = some (xs.set i.toNat x) := by
  have := put_ok (xs := xs) (i := i.toNat) (x := x) (by omega)
  rwa [show ((i.toNat : Nat) : Int) = i by omega] at this
theorem ix_ex {α : Type} {xs : List α} {i : Int} (h0 : 0 ≤ i) (h1 : i < xs.length) : ∃ x, ix xs i = some x := let ⟨x, hx, _⟩ := ix_of (xs := xs) h0 h1; ⟨x, hx⟩
theorem ix_getD {xs : List Int} {i : Int} (h0 : 0 ≤ i) (h1 : i < xs.length) : ix xs i = some ((xs[i.toNat]?).getD 0) := by
  obtain ⟨x, hx, h2⟩ := ix_of (xs := xs) h0 h1
  rw [hx, h2]; rfl
theorem spec_path_step {F : Cnf} {N : List TreeNode} (hT : TOk F N) {f : List (List Int) × Int → Option (Lp (List (List Int) × Int) (List (List Int) × Bool))}
    (hf : ∀ P i, f (P, i) = (bif (decide (0 ≤ i)) then bd (ix N i) (fun x516614 => (bif (PF.spec_l9Leaf x516614) then some (Lp.nx (P, (wr (i - 1)))) else bd (ix P i) (fun x516638 => bd (PF.spec_l2Has x516638 x516614.var) (fun r516642 => bd (bif r516642 then some true else bd (ix P i) (fun x516669 => bd (PF.spec_l2Has x516669 (wr (-x516614.var))) (fun r516673 => some r516673))) (fun t516656 => (bif t516656 then some (Lp.rt ([], false)) else bd (ix P i) (fun x534695 => bd (PF.spec_l2Put x534695 (wr (-x516614.var))) (fun r549689 => bd (ix P x516614.low) (fun x552695 => bd (put P x516614.low r549689) (fun xs555697 => bd (ix xs555697 i) (fun x579710 => bd (PF.spec_l2Put x579710 x516614.var) (fun r591704 => bd (ix xs555697 x516614.high) (fun x594710 => bd (put xs555697 x516614.high r591704) (fun xs597712 => some (Lp.nx (xs597712, (wr (i - 1)))))))))))))))))) else some (Lp.bk (P, i)))) :
    (runD pstep N N.length (P0 N) = none → iter f (P0 N, len N - 1) = some (.rt ([], false))) ∧ ∀ P, runD pstep N N.length (P0 N) = some P → iter f (P0 N, len N - 1) = some (.go (P, -1)) ∧ POk F.vars N.length P := by
  have hle := hT.le
  refine iter_down_opt (fun _ P => POk F.vars N.length P) (p0_ok hT) (fun i y P hy hP => ?_) (fun P => by rw [hf]; rfl)
  have hi := (List.getElem?_eq_some_iff.1 hy).1
  have hok := hT.n.ok i y hy
  obtain ⟨e1, hc⟩ := hP.at hi
  have hpl := hc.len
  have hl := hP.len
  have hix : ix P (i : Int) = some (pAt P i) := by rw [ix_get]; exact e1
  have hst := fun P' => pstep_ok (P' := P') hP rfl hi hok
  rw [hf, decide_eq_true (by omega), cond_true, ix_get, hy, bd_some, wr_down hi (by omega)]
  unfold pstep at hst ⊢
  unfold spec_l9Leaf
  cases hn : y.var == 0 with
  | true =>
    have hin : inn y = false := by unfold inn; rw [hn]; rfl
    simp only [hin, Bool.not_false, cond_true] at hst ⊢
    exact ⟨(fun h => nomatch h), fun s' h => by cases h; exact ⟨rfl, hP⟩⟩
  | false =>
    have hin : inn y = true := by unfold inn; rw [hn]; rfl
    obtain ⟨_, _, g1, g2, g3, g4, g5⟩ := hok.inner hin
    simp only [hin, Bool.not_true, cond_false] at hst ⊢
    rw [hix, bd_some, spec_l2Has_eq, bd_some]
    have hcond : (bif (pAt P i).contains y.var then some true else bd (some (pAt P i)) (fun x516669 => bd (PF.spec_l2Has x516669 (wr (-y.var))) (fun r516673 => some r516673))) = some (hasV (pAt P i) y.var) := by
      unfold hasV
      cases (pAt P i).contains y.var with
      | true => rfl
      | false => rw [cond_false, bd_some, spec_l2Has_eq, bd_some, Bool.false_or]
    rw [hcond, bd_some]
    cases hh : hasV (pAt P i) y.var with
    | true => exact ⟨fun _ => rfl, fun s' h => by cases h⟩
    | false =>
      rw [hh] at hst
      simp only [cond_false] at hst ⊢
      refine ⟨(fun h => nomatch h), fun s' h => ?_⟩
      have h5 := hst s' h
      cases h
      refine ⟨?_, h5⟩
      obtain ⟨x1, hx1⟩ := ix_ex (xs := P) g1 (by omega)
      have hi2 : ix (P.set y.low.toNat (putL (pAt P i) (wr (-y.var)))) (i : Int) = some (pAt P i) := by rw [ix_get, List.getElem?_set_ne (by omega)]; exact e1
      obtain ⟨x2, hx2⟩ := ix_ex (xs := P.set y.low.toNat (putL (pAt P i) (wr (-y.var)))) g3 (by simp; omega)
      rw [bd_some, spec_l2Put_eq (by unfold lim; omega), bd_some, hx1, bd_some, put_nat g1 (by omega), bd_some, hi2, bd_some, spec_l2Put_eq (by unfold lim; omega), bd_some, hx2, bd_some, put_nat g3 (by simp; omega), bd_some]
def pathsV (F : Cnf) (N : List TreeNode) : List (List Int) × Bool := match treeP F N with | some P => (P, true) | none => ([], false)
end Go.PF
