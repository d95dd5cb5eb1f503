/- The needed steps, told by the program; the reference's second mask. -/
import Derived.Test.YtgkmebdjookgnaaGreatPl10
set_option linter.unusedVariables false
namespace Go.PF
open Go.Pu

theorem bdR_forB {S α X β : Type} {xs : List α} {body : α → Nat → S → Option (Lp S X)} {k : S → Option β} {l : X → Option β} {r : Option β} (F : S → α × Nat → S) (I : Nat → S → Prop) {s0 : S} (h0 : I xs.length s0)
    (h : ∀ (i : Nat) x s, xs[i]? = some x → I (i + 1) s → body x i s = some (.nx (F s (x, i))) ∧ I i (F s (x, i)))
    (hk : ∀ s, I 0 s → k s = r) : bdR (forB xs body s0) k l = r := by
  obtain ⟨h1, h2⟩ := forB_foldI F I h0 h
  rw [h1, bdR_go]; exact hk _ h2

/-! slices.Reverse -/
structure Rv (xs : List Int) (i : Nat) (ys : List Int) : Prop where
  len : ys.length = xs.length
  at_ : ∀ m, m < xs.length → ys[m]? = if m < i ∨ xs.length ≤ m + i then xs[xs.length - 1 - m]? else xs[m]?
theorem Rv.step {xs ys : List Int} {i : Nat} (h : Rv xs i ys) (hi : i + i + 1 < xs.length) {a b : Int} (ha : ys[i]? = some a) (hb : ys[xs.length - 1 - i]? = some b) :
    Rv xs (i + 1) ((ys.set i b).set (xs.length - 1 - i) a) := by
  have hl := h.len
  refine ⟨by simp [hl], fun m hm => ?_⟩
  have h1 := h.at_ i (by omega); rw [ha, if_neg (by omega)] at h1
  have h2 := h.at_ (xs.length - 1 - i) (by omega); rw [hb, if_neg (by omega)] at h2
  rw [List.getElem?_set]
  by_cases e : xs.length - 1 - i = m
  · rw [if_pos e, if_pos (by simp [hl]; omega), if_pos (by omega), show xs.length - 1 - m = i by omega]; exact h1
  · rw [if_neg e, List.getElem?_set]
    by_cases e2 : i = m
    · subst e2; rw [if_pos rfl, if_pos (by omega), if_pos (by omega)]; exact h2
    · rw [if_neg e2, h.at_ m hm]
      by_cases c : m < i ∨ xs.length ≤ m + i
      · rw [if_pos c, if_pos (by omega)]
      · rw [if_neg c, if_neg (by omega)]
theorem Rv.fin {xs ys : List Int} {i : Nat} (h : Rv xs i ys) (hi : ¬ i + i + 1 < xs.length) : ys = xs.reverse := by
  have hl := h.len
  apply List.ext_getElem?
  intro m
  by_cases hm : m < xs.length
  · rw [h.at_ m hm, List.getElem?_reverse hm]
    split
    · rfl
    · congr 1; omega
  · rw [List.getElem?_eq_none (by omega), List.getElem?_eq_none (by simp; omega)]
theorem bdR_rev {β : Type} {xs : List Int} {body : List Int × Int × Int → Option (Lp (List Int × Int × Int) Empty)} {k : List Int × Int × Int → Option β} {l : Empty → Option β} {r : Option β}
    (h1 : ∀ (i : Nat) ys a b, i + i + 1 < xs.length → ys.length = xs.length → ys[i]? = some a → ys[xs.length - 1 - i]? = some b → body (ys, (i : Int), len xs - 1 - i) = some (.nx ((ys.set i b).set (xs.length - 1 - i) a, ((i + 1 : Nat) : Int), len xs - 1 - ((i + 1 : Nat) : Int))))
    (h2 : ∀ (i : Nat) ys, ¬ i + i + 1 < xs.length → ∃ p, body (ys, (i : Int), len xs - 1 - i) = some (.bk (ys, p))) (hk : ∀ p, k (xs.reverse, p) = r) : bdR (iter body (xs, 0, len xs - 1)) k l = r := by
  have key : ∀ (k i : Nat) ys, xs.length - i - i ≤ k → Rv xs i ys → ∃ p, iter body (ys, (i : Int), len xs - 1 - i) = some (.go (xs.reverse, p)) := by
    intro k
    induction k with
    | zero =>
      intro i ys hk hR
      obtain ⟨p, hp⟩ := h2 i ys (by omega)
      refine ⟨p, ?_⟩
      rw [iter_bk hp, hR.fin (by omega)]
    | succ k ih =>
      intro i ys hk hR
      by_cases hi : i + i + 1 < xs.length
      · obtain ⟨a, ha⟩ : ∃ a, ys[i]? = some a := ⟨_, List.getElem?_eq_getElem (by rw [hR.len]; omega)⟩
        obtain ⟨b, hb⟩ : ∃ b, ys[xs.length - 1 - i]? = some b := ⟨_, List.getElem?_eq_getElem (by rw [hR.len]; omega)⟩
        rw [iter_nx (h1 i ys a b hi hR.len ha hb)]
        exact ih _ _ (by omega) (hR.step hi ha hb)
      · obtain ⟨p, hp⟩ := h2 i ys hi
        exact ⟨p, by rw [iter_bk hp, hR.fin hi]⟩
  obtain ⟨p, hp⟩ := key xs.length 0 xs (by omega) ⟨rfl, fun m hm => by rw [if_neg (by omega)]⟩
  rw [show len xs - 1 - ((0 : Nat) : Int) = len xs - 1 by omega, show ((0 : Nat) : Int) = 0 from rfl] at hp
  rw [hp, bdR_go]; exact hk p
theorem slices_Reverse_eq {xs : List Int} (hl : xs.length ≤ lim) : slices_Reverse_int_int xs = some xs.reverse := by
  unfold slices_Reverse_int_int
  rw [wr_len (by unfold lim at hl; omega)]
  refine bdR_rev ?ha ?hb (fun p => rfl)
  case ha =>
    intro i ys a b hi hy h1 h2
    have hc : decide ((i : Int) < len xs - 1 - i) = true := by rw [len_eq]; simp; omega
    have hj : len xs - 1 - (i : Int) = ((xs.length - 1 - i : Nat) : Int) := by rw [len_eq]; omega
    have h3 : (ys.set i b)[xs.length - 1 - i]? = some b := by rw [List.getElem?_set_ne (by omega)]; exact h2
    unfold lim at hl
    simp only [hc, cond_true]
    rw [hj]
    simp only [ix_get, h1, h2, bd_some, put_ok (show i < ys.length by omega), h3, put_ok (show xs.length - 1 - i < (ys.set i b).length by simp; omega)]
    rw [wr_of _ (by omega) (by omega), wr_of _ (by omega) (by omega)]
    have e1 : ((xs.length - 1 - i : Nat) : Int) - 1 = len xs - 1 - ((i + 1 : Nat) : Int) := by rw [len_eq]; omega
    rw [e1]; rfl
  case hb =>
    intro i ys hi
    have hc : decide ((i : Int) < len xs - 1 - i) = false := by rw [len_eq]; simp; omega
    simp only [hc, cond_false]
    exact ⟨_, rfl⟩

/-! the program -/
def need (S : List ResStep) : List Nat := (List.range S.length).filter (bAt (mask S))
def needI (S : List ResStep) : List Int := (need S).map fun i => ((i : Nat) : Int)
theorem need_le (S : List ResStep) : (need S).length ≤ S.length := by
  have := List.length_filter_le (bAt (mask S)) (List.range S.length); unfold need; simpa using this
def tailN (S : List ResStep) (k : Nat) : List Int := (((List.range' k (S.length - k)).filter (bAt (mask S))).reverse).map fun i => ((i : Nat) : Int)
theorem tailN_step {S : List ResStep} {k : Nat} (hk : k < S.length) : tailN S k = bif bAt (mask S) k then tailN S (k + 1) ++ [((k : Nat) : Int)] else tailN S (k + 1) := by
  unfold tailN
  rw [show S.length - k = (S.length - (k + 1)) + 1 by omega, List.range'_succ, List.filter_cons]
  cases bAt (mask S) k <;> simp
theorem impl_neededSteps_eq {F : Cnf} {S : List ResStep} (h : IsD F S) : impl_neededSteps S = some (needI S) := by
  have hS := h.le
  unfold impl_neededSteps
  rw [show len S = ((S.length : Nat) : Int) from rfl, mk2_ok (by unfold lim; omega), bd_some]
  rw [show wr (((S.length : Nat) : Int) - 1) = len S - 1 from wr_len (by omega)]
  refine bdR_forB (X := Empty) (xs := S) (fun s p => bif bAt (mask S) p.2 then (s.1 ++ [((p.2 : Nat) : Int)], setT s.2 (prem p.1)) else s) (s0 := ([], List.replicate S.length false))
    (fun k s => s.2.length = S.length ∧ rem S k (s.2.set (S.length - 1) true) = mask S ∧ s.1 = tailN S k) ⟨by simp, by simp [mask], by simp [tailN]⟩ ?hh ?hk
  case hk =>
    rintro ⟨out, M⟩ ⟨_, _, rfl⟩
    have e : tailN S 0 = (needI S).reverse := by unfold tailN needI need; rw [List.map_reverse, List.range_eq_range']; simp
    have hl := need_le S
    show bd (slices_Reverse_int_int (tailN S 0)) _ = _
    rw [e, slices_Reverse_eq (by unfold needI; simp; unfold lim; omega), bd_some, List.reverse_reverse]
  case hh =>
    rintro i x ⟨out, M⟩ hx ⟨hM, hr, rfl⟩
    have hi := (List.getElem?_eq_some_iff.1 hx).1
    dsimp only at hM hr ⊢
    have hp := prem_len x
    have hb := h.prem hx
    -- whether it is needed
    have hn : bAt (mask S) i = bAt (M.set (S.length - 1) true) i := by
      rw [← hr]; unfold bAt; rw [rem_out h (by omega) (by omega)]
    have hMi : ix M (i : Int) = some (bAt M i) := by rw [ix_get]; unfold bAt; rw [List.getElem?_eq_getElem (by omega)]; rfl
    have hc : (bif !bAt M i then decide ((i : Int) < len S - 1) else false) = !bAt (mask S) i := by
      rw [hn]
      unfold bAt
      by_cases e : i = S.length - 1
      · have e1 : decide ((i : Int) < len S - 1) = false := by rw [len_eq]; simp; omega
        rw [e1, ← e, List.getElem?_set_self (by omega)]; simp
      · have e1 : decide ((i : Int) < len S - 1) = true := by rw [len_eq]; simp; omega
        rw [e1, List.getElem?_set_ne (by omega)]; simp
    have hr2 := hr
    rw [rem_succ hx] at hr2
    have ht := tailN_step hi
    simp only [hMi, bd_some, hc]
    cases hm : bAt (mask S) i with
    | false =>
      rw [hm] at ht hn
      simp only [Bool.not_false, cond_true, cond_false] at ht ⊢
      refine ⟨trivial, hM, ?_, ht.symm⟩
      rw [← hr2]
      unfold nst
      dsimp only
      rw [← hn]; rfl
    | true =>
      rw [hm] at ht hn
      simp only [Bool.not_true, cond_true, cond_false] at ht ⊢
      have hl : (tailN S (i + 1)).length ≤ S.length := by
        unfold tailN; simp
        have := List.length_filter_le (bAt (mask S)) (List.range' (i + 1) (S.length - (i + 1)))
        simp at this; omega
      rw [app_ok (by simp; unfold lim; omega), bd_some]
      simp only [impl_premises_eq]
      rw [chk_len hp, bd_some]
      rw [forR_fold (X := Empty) (xs := prem x) (F := fun M k => M.set k.toNat true) (s0 := M) (fun _ N => N.length = S.length) hM (fun j k N hk hN => by
        have hkb := hb k (List.mem_of_getElem? hk)
        obtain ⟨y, hy, _⟩ := ix_of (xs := N) hkb.1 (by omega)
        have hput : put N k true = some (N.set k.toNat true) := by
          have := put_ok (xs := N) (i := k.toNat) (x := true) (by omega)
          rwa [show ((k.toNat : Nat) : Int) = k by omega] at this
        simp only [ix_get, hk, bd_some, hy, hput]
        exact ⟨trivial, by simpa using hN⟩), bdR_go]
      refine ⟨rfl, ?_, ?_, ht.symm⟩
      · exact (setT_len (ks := prem x) (M := M)).trans hM
      · rw [← hr2]
        unfold nst
        dsimp only
        rw [← hn]
        simp only [cond_true]
        exact congrArg (rem S i) (setT_set (fun k hk => by have := hb k hk; omega))

/-! the reference's other mask -/
end Go.PF
