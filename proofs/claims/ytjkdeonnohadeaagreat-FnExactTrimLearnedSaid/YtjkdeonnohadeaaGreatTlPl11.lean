/- The needed steps, told by the program; the reference's second mask. -/
import Derived.Test.YtjkdeonnohadeaaGreatTlPl10
set_option linter.unusedVariables false
namespace Go.PF
open Go.Pu

theorem bdR_forB {S α X β : Type} {xs : List α} {body : α → Nat → S → Option (Lp S X)} {k : S → Option β} {l : X → Option β} {r : Option β} (F : S → α × Nat → S) (I : Nat → S → Prop) {s0 : S} (h0 : I xs.length s0)
    (h : ∀ (i : Nat) x s, xs[i]? = some x → I (i + 1) s → body x i s = some (.nx (F s (x, i))) ∧ I i (F s (x, i)))
    (hk : ∀ s, I 0 s → k s = r) : bdR (forB xs body s0) k l = r := by
  obtain ⟨h1, h2⟩ := forB_foldI F I h0 h
  rw [h1, bdR_go]; exact hk _ h2

/-! slices.Reverse -/
structure Rv (xs : List Int) (i : Nat) (ys : List Int) : Prop where
  len : ys.length = xs.length
  at_ : ∀ m, m < xs.length → ys[m]? = if m < i ∨ xs.length ≤ m + i then xs[xs.length - 1 - m]? else xs[m]?
theorem Rv.step {xs ys : List Int} {i : Nat} (h : Rv xs i ys) (hi : i + i + 1 < xs.length) {a b : Int} (ha : ys[i]? = some a) (hb : ys[xs.length - 1 - i]? = some b) :
    Rv xs (i + 1) ((ys.set i b).set (xs.length - 1 - i) a) := by
  have hl := h.len
  refine ⟨by simp [hl], fun m hm => ?_⟩
  have h1 := h.at_ i (by omega); rw [ha, if_neg (by omega)] at h1
  have h2 := h.at_ (xs.length - 1 - i) (by omega); rw [hb, if_neg (by omega)] at h2
  rw [List.getElem?_set]
  by_cases e : xs.length - 1 - i = m
  · rw [if_pos e, if_pos (by simp [hl]; omega), if_pos (by omega), show xs.length - 1 - m = i by omega]; exact h1
  · rw [if_neg e, List.getElem?_set]
    by_cases e2 : i = m
    · subst e2; rw [if_pos rfl, if_pos (by omega), if_pos (by omega)]; exact h2
    · rw [if_neg e2, h.at_ m hm]
      by_cases c : m < i ∨ xs.length ≤ m + i
      · rw [if_pos c, if_pos (by omega)]
      · rw [if_neg c, if_neg (by omega)]
theorem Rv.fin {xs ys : List Int} {i : Nat} (h : Rv xs i ys) (hi : ¬ i + i + 1 < xs.length) : ys = xs.reverse := by
  have hl := h.len
  apply List.ext_getElem?
  intro m
  by_cases hm : m < xs.length
  · rw [h.at_ m hm, List.getElem?_reverse hm]
    split
    · rfl
    · congr 1; omega
  · rw [List.getElem?_eq_none (by omega), List.getElem?_eq_none (by simp; omega)]
theorem bdR_rev {β : Type} {xs : List Int} {body : List Int × Int × Int → Option (Lp (List Int × Int × Int) Empty)} {k : List Int × Int × Int → Option β} {l : Empty → Option β} {r : Option β}
    (h1 : ∀ (i : Nat) ys a b, i + i + 1 < xs.length → ys.length = xs.length → ys[i]? = some a → ys[xs.length - 1 - i]? = some b → body (ys, (i : Int), len xs - 1 - i) = some (.nx ((ys.set i b).set (xs.length - 1 - i) a, ((i + 1 : Nat) : Int), len xs - 1 - ((i + 1 : Nat) : Int))))
    (h2 : ∀ (i : Nat) ys, ¬ i + i + 1 < xs.length → ∃ p, body (ys, (i : Int), len xs - 1 - i) = some (.bk (ys, p))) (hk : ∀ p, k (xs.reverse, p) = r) : bdR (iter body (xs, 0, len xs - 1)) k l = r := by
  have key : ∀ (k i : Nat) ys, xs.length - i - i ≤ k → Rv xs i ys → ∃ p, iter body (ys, (i : Int), len xs - 1 - i) = some (.go (xs.reverse, p)) := by
    intro k
    induction k with
    | zero =>
      intro i ys hk hR
      obtain ⟨p, hp⟩ := h2 i ys (by omega)
      refine ⟨p, ?_⟩
      rw [iter_bk hp, hR.fin (by omega)]
    | succ k ih =>
      intro i ys hk hR
      by_cases hi : i + i + 1 < xs.length
      · obtain ⟨a, ha⟩ : ∃ a, ys[i]? = some a := ⟨_, List.getElem?_eq_getElem (by rw [hR.len]; omega)⟩
        obtain ⟨b, hb⟩ : ∃ b, ys[xs.length - 1 - i]? = some b := ⟨_, List.getElem?_eq_getElem (by rw [hR.len]; omega)⟩
        rw [iter_nx (h1 i ys a b hi hR.len ha hb)]
        exact ih _ _ (by omega) (hR.step hi ha hb)
      · obtain ⟨p, hp⟩ := h2 i ys hi
        exact ⟨p, by rw [iter_bk hp, hR.fin hi]⟩
  obtain ⟨p, hp⟩ := key xs.length 0 xs (by omega) ⟨rfl, fun m hm => by rw [if_neg (by omega)]⟩
  rw [show len xs - 1 - ((0 : Nat) : Int) = len xs - 1 by omega, show ((0 : Nat) : Int) = 0 from rfl] at hp
  rw [hp, bdR_go]; exact hk p
def need (S : List ResStep) : List Nat := (List.range S.length).filter (bAt (mask S))
def needI (S : List ResStep) : List Int := (need S).map fun i => ((i : Nat) : Int)
theorem need_le (S : List ResStep) : (need S).length ≤ S.length := by
  have := List.length_filter_le (bAt (mask S)) (List.range S.length); unfold need; simpa using this
def tailN (S : List ResStep) (k : Nat) : List Int := (((List.range' k (S.length - k)).filter (bAt (mask S))).reverse).map fun i => ((i : Nat) : Int)
theorem tailN_step {S : List ResStep} {k : Nat} (hk : k < S.length) : tailN S k = bif bAt (mask S) k then tailN S (k + 1) ++ [((k : Nat) : Int)] else tailN S (k + 1) := by
  unfold tailN
  rw [show S.length - k = (S.length - (k + 1)) + 1 by omega, List.range'_succ, List.filter_cons]
  cases bAt (mask S) k <;> simp
end Go.PF
