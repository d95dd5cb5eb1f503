/- Clauses under an assignment; loops that count up, whatever the order of their state. -/
import Derived.Test.YtjpjbfbloplacaaGreatItPl8
set_option linter.unusedVariables false
namespace Go.PF
open Go.Pu
theorem iter_mk {T σ α X : Type} (mk : σ → Int → T) {xs : List α} {body : T → Option (Lp T X)} {F : σ → α → σ} (I : Nat → σ → Prop) {s0 : σ} (h0 : I 0 s0)
    (h : ∀ (i : Nat) x s, xs[i]? = some x → I i s → body (mk s (i : Int)) = some (.nx (mk (F s x) ((i : Int) + 1))) ∧ I (i + 1) (F s x)) (he : ∀ s, I xs.length s → body (mk s (xs.length : Int)) = some (.bk (mk s (xs.length : Int)))) :
    iter body (mk s0 0) = some (.go (mk (xs.foldl F s0) (xs.length : Int))) ∧ I xs.length (xs.foldl F s0) := by
  have key : ∀ (m : List α) (k : Nat) (s : σ), k + m.length = xs.length → (∀ i y, m[i]? = some y → xs[k + i]? = some y) → I k s → iter body (mk s (k : Int)) = some (.go (mk (m.foldl F s) (xs.length : Int))) ∧ I xs.length (m.foldl F s) := by
    intro m
    induction m with
    | nil =>
      intro k s hk _ hI
      simp only [List.length_nil, Nat.add_zero] at hk
      subst hk
      exact ⟨iter_bk (he s hI), hI⟩
    | cons y m ih =>
      intro k s hk hm hI
      obtain ⟨h1, h2⟩ := h k y s (by have := hm 0 y rfl; simpa using this) hI
      rw [iter_nx h1]
      exact ih (k + 1) (F s y) (by simp at hk; omega) (fun i z hz => by have := hm (i + 1) z (by simpa using hz); rwa [show k + (i + 1) = k + 1 + i by omega] at this) h2
  have := key xs 0 s0 (by simp) (by simp) h0
  simpa using this
theorem bdR_mk {T σ α X β : Type} (mk : σ → Int → T) {xs : List α} {body : T → Option (Lp T X)} {k : T → Option β} {lx : X → Option β} {r : Option β} {F : σ → α → σ} (I : Nat → σ → Prop) {s0 : σ} {t0 : T} (ht : t0 = mk s0 0) (h0 : I 0 s0)
    (h : ∀ (i : Nat) x s, xs[i]? = some x → I i s → body (mk s (i : Int)) = some (.nx (mk (F s x) ((i : Int) + 1))) ∧ I (i + 1) (F s x)) (he : ∀ s, I xs.length s → body (mk s (xs.length : Int)) = some (.bk (mk s (xs.length : Int))))
    (hk : I xs.length (xs.foldl F s0) → k (mk (xs.foldl F s0) (xs.length : Int)) = r) : bdR (iter body t0) k lx = r := by
  subst ht
  obtain ⟨h1, h2⟩ := iter_mk mk I h0 h he
  rw [h1, bdR_go]; exact hk h2
/-! values of clauses -/
end Go.PF
