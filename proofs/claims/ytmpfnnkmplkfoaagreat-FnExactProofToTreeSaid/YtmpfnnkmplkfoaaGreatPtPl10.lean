/- The steps that a derivation needs: both sides tell the same ones. -/
import Derived.Test.YtmpfnnkmplkfoaaGreatPtPl9
set_option linter.unusedVariables false
namespace Go.PF
open Go.Pu

/-! loops that count down -/
theorem take_rev {α : Type} {xs : List α} {k : Nat} {x : α} (hx : xs[k]? = some x) : (xs.take (k + 1)).zipIdx.reverse = (x, k) :: (xs.take k).zipIdx.reverse := by
  obtain ⟨hk, he⟩ := List.getElem?_eq_some_iff.1 hx
  rw [← he, List.take_succ_eq_append_getElem hk, List.zipIdx_append]
  simp [Nat.min_eq_left (Nat.le_of_lt hk)]
theorem iter_down {σ α X : Type} {xs : List α} {body : σ × Int → Option (Lp (σ × Int) X)} {F : σ → α × Nat → σ} (I : Nat → σ → Prop) {s0 : σ} (h0 : I xs.length s0)
    (h : ∀ (i : Nat) x s, xs[i]? = some x → I (i + 1) s → body (s, (i : Int)) = some (.nx (F s (x, i), (i : Int) - 1)) ∧ I i (F s (x, i))) (he : ∀ s, body (s, -1) = some (.bk (s, -1))) :
    iter body (s0, len xs - 1) = some (.go (xs.zipIdx.reverse.foldl F s0, -1)) ∧ I 0 (xs.zipIdx.reverse.foldl F s0) := by
  have key : ∀ (k : Nat) (s : σ), k ≤ xs.length → I k s → iter body (s, (k : Int) - 1) = some (.go ((xs.take k).zipIdx.reverse.foldl F s, -1)) ∧ I 0 ((xs.take k).zipIdx.reverse.foldl F s) := by
    intro k
    induction k with
    | zero => intro s _ hI; exact ⟨iter_bk (he s), hI⟩
    | succ k ih =>
      intro s hk hI
      obtain ⟨x, hx⟩ : ∃ x, xs[k]? = some x := ⟨_, List.getElem?_eq_getElem (by omega)⟩
      obtain ⟨h1, h2⟩ := h k x s hx hI
      rw [take_rev hx, List.foldl_cons, show ((k + 1 : Nat) : Int) - 1 = (k : Int) by omega, iter_nx h1]
      exact ih _ (by omega) h2
  have := key xs.length s0 (Nat.le_refl _) h0
  rwa [List.take_length] at this
theorem bdR_down {σ α X β : Type} {xs : List α} {body : σ × Int → Option (Lp (σ × Int) X)} {k : σ × Int → Option β} {l : X → Option β} {r : Option β} (F : σ → α × Nat → σ) (I : Nat → σ → Prop) {s0 : σ} (h0 : I xs.length s0)
    (h : ∀ (i : Nat) x s, xs[i]? = some x → I (i + 1) s → body (s, (i : Int)) = some (.nx (F s (x, i), (i : Int) - 1)) ∧ I i (F s (x, i))) (he : ∀ s, body (s, -1) = some (.bk (s, -1)))
    (hk : ∀ s, I 0 s → k (s, -1) = r) : bdR (iter body (s0, len xs - 1)) k l = r := by
  obtain ⟨h1, h2⟩ := iter_down I h0 h he
  rw [h1, bdR_go]; exact hk _ h2
theorem forB_foldI {S α X : Type} {xs : List α} {body : α → Nat → S → Option (Lp S X)} (F : S → α × Nat → S) (I : Nat → S → Prop) {s0 : S} (h0 : I xs.length s0)
    (h : ∀ (i : Nat) x s, xs[i]? = some x → I (i + 1) s → body x i s = some (.nx (F s (x, i))) ∧ I i (F s (x, i))) :
    forB xs body s0 = some (.go (xs.zipIdx.reverse.foldl F s0)) ∧ I 0 (xs.zipIdx.reverse.foldl F s0) := by
  have key : ∀ (k j : Nat) (s : S), k ≤ xs.length → I k s → forLFrom (fun _ p s => body p.1 p.2 s) (xs.take k).zipIdx.reverse j s = some (.go ((xs.take k).zipIdx.reverse.foldl F s)) ∧ I 0 ((xs.take k).zipIdx.reverse.foldl F s) := by
    intro k
    induction k with
    | zero => intro j s _ hI; exact ⟨rfl, hI⟩
    | succ k ih =>
      intro j s hk hI
      obtain ⟨x, hx⟩ : ∃ x, xs[k]? = some x := ⟨_, List.getElem?_eq_getElem (by omega)⟩
      obtain ⟨h1, h2⟩ := h k x s hx hI
      rw [take_rev hx, List.foldl_cons, forLFrom_nx h1]
      exact ih _ _ (by omega) h2
  have := key xs.length 0 s0 (Nat.le_refl _) h0
  rwa [List.take_length] at this

/-! the mask -/
def bAt (M : List Bool) (i : Nat) : Bool := (M[i]?).getD false
def setT (M : List Bool) (ks : List Int) : List Bool := ks.foldl (fun M k => M.set k.toNat true) M
theorem setT_len : ∀ {ks : List Int} {M : List Bool}, (setT M ks).length = M.length := by
  intro ks
  induction ks with
  | nil => intro M; rfl
  | cons k ks ih => intro M; unfold setT at ih ⊢; rw [List.foldl_cons, ih]; simp
theorem setT_out : ∀ {ks : List Int} {M : List Bool} {i j : Nat}, (∀ k ∈ ks, 0 ≤ k ∧ k < j) → j ≤ i → (setT M ks)[i]? = M[i]? := by
  intro ks
  induction ks with
  | nil => intro M i j _ _; rfl
  | cons k ks ih =>
    intro M i j h hi
    have h1 := h k (by simp)
    have := ih (M := M.set k.toNat true) (i := i) (fun z hz => h z (by simp [hz])) hi
    unfold setT at this ⊢
    rw [List.foldl_cons, this, List.getElem?_set_ne (by omega)]
theorem setT_in : ∀ {ks : List Int} {M : List Bool} {k : Int}, (∀ k ∈ ks, 0 ≤ k ∧ k < M.length) → (k ∈ ks ∨ bAt M k.toNat = true) → bAt (setT M ks) k.toNat = true := by
  intro ks
  induction ks with
  | nil => intro M k _ hk; rcases hk with h | h; · cases h
           · exact h
  | cons z ks ih =>
    intro M k h hk
    have h1 := h z (by simp)
    have h2 := ih (M := M.set z.toNat true) (k := k) (fun y hy => by have := h y (by simp [hy]); simpa using this) (by
      rcases hk with hk | hk
      · rcases List.mem_cons.1 hk with rfl | hk
        · right; unfold bAt; rw [List.getElem?_set_self (by omega)]; rfl
        · exact .inl hk
      · right
        unfold bAt at hk ⊢
        rw [List.getElem?_set]
        split
        · rw [if_pos (by omega)]; rfl
        · exact hk)
    unfold setT at h2 ⊢
    rw [List.foldl_cons]; exact h2
theorem setT_set {ks : List Int} : ∀ {M : List Bool} {j : Nat}, (∀ k ∈ ks, 0 ≤ k ∧ k < j) → (setT M ks).set j true = setT (M.set j true) ks := by
  induction ks with
  | nil => intro M j _; rfl
  | cons k ks ih =>
    intro M j h
    have h1 := h k (by simp)
    have := ih (M := M.set k.toNat true) (j := j) (fun z hz => h z (by simp [hz]))
    unfold setT at this ⊢
    rw [List.foldl_cons, List.foldl_cons, this, List.set_comm _ _ (by omega)]

def nst (M : List Bool) (p : ResStep × Nat) : List Bool := bif bAt M p.2 then setT M (prem p.1) else M
theorem nst_len {M : List Bool} {p : ResStep × Nat} : (nst M p).length = M.length := by unfold nst; cases bAt M p.2 <;> simp [setT_len]
def rem (S : List ResStep) (k : Nat) (M : List Bool) : List Bool := (S.take k).zipIdx.reverse.foldl nst M
def mask (S : List ResStep) : List Bool := rem S S.length ((List.replicate S.length false).set (S.length - 1) true)
theorem rem_succ {S : List ResStep} {k : Nat} {x : ResStep} (hx : S[k]? = some x) (M : List Bool) : rem S (k + 1) M = rem S k (nst M (x, k)) := by
  unfold rem; rw [take_rev hx, List.foldl_cons]
theorem rem_out {F : Cnf} {S : List ResStep} (h : IsD F S) : ∀ {k i : Nat} {M : List Bool}, k ≤ S.length → k ≤ i + 1 → (rem S k M)[i]? = M[i]? := by
  intro k
  induction k with
  | zero => intro i M _ _; rfl
  | succ k ih =>
    intro i M hk hi
    obtain ⟨x, hx⟩ : ∃ x, S[k]? = some x := ⟨_, List.getElem?_eq_getElem (by omega)⟩
    rw [rem_succ hx, ih (by omega) (by omega)]
    unfold nst
    cases bAt M k with
    | true => exact setT_out (h.prem hx) (by omega)
    | false => rfl
theorem rem_len {S : List ResStep} : ∀ {k : Nat} {M : List Bool}, k ≤ S.length → (rem S k M).length = M.length := by
  intro k
  induction k with
  | zero => intro M _; rfl
  | succ k ih =>
    intro M hk
    obtain ⟨x, hx⟩ : ∃ x, S[k]? = some x := ⟨_, List.getElem?_eq_getElem (by omega)⟩
    rw [rem_succ hx, ih (by omega), nst_len]
theorem mask_len (S : List ResStep) : (mask S).length = S.length := by unfold mask; rw [rem_len (Nat.le_refl _)]; simp
/-- a needed step's premises are needed -/
theorem mask_prem {F : Cnf} {S : List ResStep} (h : IsD F S) {i : Nat} {x : ResStep} (hx : S[i]? = some x) (hm : bAt (mask S) i = true) : ∀ k ∈ prem x, bAt (mask S) k.toNat = true := by
  intro k hk
  have hi := (List.getElem?_eq_some_iff.1 hx).1
  have key : ∀ (m : Nat) (M : List Bool), M.length = S.length → m ≤ S.length → (i < m ∨ bAt M k.toNat = true) → bAt (rem S m M) i = true → bAt (rem S m M) k.toNat = true := by
    intro m
    induction m with
    | zero => intro M hM _ h1 _; rcases h1 with h1 | h1; · omega
              · exact h1
    | succ m ih =>
      intro M hM hm' h1 h2
      obtain ⟨y, hy⟩ : ∃ y, S[m]? = some y := ⟨_, List.getElem?_eq_getElem (by omega)⟩
      rw [rem_succ hy] at h2 ⊢
      refine ih _ (by rw [nst_len, hM]) (by omega) ?_ h2
      by_cases e : i = m
      · subst e
        rw [hx] at hy; cases hy
        right
        have h3 : bAt M i = true := by
          have := rem_out h (k := i) (i := i) (M := nst M (x, i)) (by omega) (by omega)
          unfold bAt at h2 ⊢
          rw [this] at h2
          unfold nst at h2
          cases hb : bAt M i with
          | true => exact hb
          | false => rw [hb] at h2; exact h2
        unfold nst
        simp only [h3, cond_true]
        exact setT_in (fun z hz => by have := h.prem hx z hz; omega) (.inl hk)
      · rcases h1 with h1 | h1
        · exact .inl (by omega)
        · right
          unfold nst
          cases bAt M m with
          | true => exact setT_in (fun z hz => by have := h.prem hy z hz; omega) (.inr h1)
          | false => exact h1
  have hk1 := h.prem hx k hk
  exact key _ _ (by simp) (Nat.le_refl _) (.inl hi) hm

theorem uses_loop {us : List Int} {M : List Bool} {i : Nat} (hi : i < M.length) (hu : ∀ k ∈ us, 0 ≤ k ∧ k < i) (hl : us.length ≤ 2) {f : List Bool × Int → Option (Lp (List Bool × Int) Empty)}
    (hf : ∀ s, f s = bd (bif decide (s.2 < len us) then bd (ix s.1 (i : Int)) (fun x => some x) else some false) (fun t => bif t then bd (ix us s.2) (fun x => bd (ix s.1 x) (fun _ => bd (put s.1 x true) (fun xs => some (.nx (xs, wr (s.2 + 1)))))) else some (.bk (s.1, s.2)))) :
    ∃ k, iter f (M, 0) = some (.go (bif bAt M i then setT M us else M, k)) := by
  have hat : ∀ {M : List Bool}, i < M.length → ix M (i : Int) = some (bAt M i) := fun {M} h => by rw [ix_get]; unfold bAt; rw [List.getElem?_eq_getElem h]; rfl
  cases hb : bAt M i with
  | false =>
    refine ⟨0, iter_bk ?_⟩
    rw [hf]
    simp only [hat hi, hb]
    cases decide ((0 : Int) < len us) <;> rfl
  | true =>
    refine ⟨us.length, ?_⟩
    have := iter_foldI (X := Empty) (xs := us) (body := f) (F := fun M k => M.set k.toNat true) (s0 := M) (fun _ N => N.length = M.length ∧ bAt N i = true) ⟨rfl, hb⟩ (fun j k N hk hN => by
      have hj := (List.getElem?_eq_some_iff.1 hk).1
      have hkb := hu k (List.mem_of_getElem? hk)
      rw [hf]
      have hd : decide ((j : Int) < len us) = true := by rw [len_eq]; simp; omega
      obtain ⟨y, hy, _⟩ := ix_of (xs := N) hkb.1 (by omega)
      have hp : put N k true = some (N.set k.toNat true) := by
        have := put_ok (xs := N) (i := k.toNat) (x := true) (by omega)
        rwa [show ((k.toNat : Nat) : Int) = k by omega] at this
      simp only [hd, cond_true, hat (show i < N.length by omega), hN.2, bd_some, ix_get, hk, hy, hp]
      rw [wr_succ hj (by omega)]
      refine ⟨rfl, by simpa using hN.1, ?_⟩
      have h2 := hN.2
      unfold bAt at h2 ⊢
      rw [List.getElem?_set_ne (by omega)]; exact h2) (fun N => by
      rw [hf]
      have hd : decide ((us.length : Int) < len us) = false := by rw [len_eq]; simp
      simp only [hd, cond_false, bd_some])
    simp only [cond_true]
    exact this.1
theorem wr_down {i n : Nat} (h : i < n) (hn : n ≤ 9223372036854775807) : wr ((i : Int) - 1) = (i : Int) - 1 := wr_of _ (by omega) (by omega)
theorem ix_len {A : Type} {M : List A} {i : Nat} (h : i < M.length) : ∃ y, ix M (i : Int) = some y := ⟨_, by rw [ix_get, List.getElem?_eq_getElem h]⟩

end Go.PF
