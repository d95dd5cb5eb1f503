/- Clauses under an assignment; loops that count up, whatever the order of their state. -/
import Derived.Test.YtjkhehplbjempaaGreatDoorBtPl8
set_option linter.unusedVariables false
namespace Go.PF
open Go.Pu
theorem iter_mk {T σ α X : Type} (mk : σ → Int → T) {xs : List α} {body : T → Option (Lp T X)} {F : σ → α → σ} (I : Nat → σ → Prop) {s0 : σ} (h0 : I 0 s0)
    (h : ∀ (i : Nat) x s, xs[i]? = some x → I i s → body (mk s (i : Int)) = some (.nx (mk (F s x) ((i : Int) + 1))) ∧ I (i + 1) (F s x)) (he : ∀ s, I xs.length s → body (mk s (xs.length : Int)) = some (.bk (mk s (xs.length : Int)))) :
    iter body (mk s0 0) = some (.go (mk (xs.foldl F s0) (xs.length : Int))) ∧ I xs.length (xs.foldl F s0) := by
  have key : ∀ (m : List α) (k : Nat) (s : σ), k + m.length = xs.length → (∀ i y, m[i]? = some y → xs[k + i]? = some y) → I k s → iter body (mk s (k : Int)) = some (.go (mk (m.foldl F s) (xs.length : Int))) ∧ I xs.length (m.foldl F s) := by
    intro m
    induction m with
    | nil =>
      intro k s hk _ hI
      simp only [List.length_nil, Nat.add_zero] at hk
      subst hk
      exact ⟨iter_bk (he s hI), hI⟩
    | cons y m ih =>
      intro k s hk hm hI
      obtain ⟨h1, h2⟩ := h k y s (by have := hm 0 y rfl; simpa using this) hI
      rw [iter_nx h1]
      exact ih (k + 1) (F s y) (by simp at hk; omega) (fun i z hz => by have := hm (i + 1) z (by simpa using hz); rwa [show k + (i + 1) = k + 1 + i by omega] at this) h2
  have := key xs 0 s0 (by simp) (by simp) h0
  simpa using this
/-- the same, met on the way -/
theorem bdR_mk {T σ α X β : Type} (mk : σ → Int → T) {xs : List α} {body : T → Option (Lp T X)} {k : T → Option β} {lx : X → Option β} {r : Option β} {F : σ → α → σ} (I : Nat → σ → Prop) {s0 : σ} {t0 : T} (ht : t0 = mk s0 0) (h0 : I 0 s0)
    (h : ∀ (i : Nat) x s, xs[i]? = some x → I i s → body (mk s (i : Int)) = some (.nx (mk (F s x) ((i : Int) + 1))) ∧ I (i + 1) (F s x)) (he : ∀ s, I xs.length s → body (mk s (xs.length : Int)) = some (.bk (mk s (xs.length : Int))))
    (hk : I xs.length (xs.foldl F s0) → k (mk (xs.foldl F s0) (xs.length : Int)) = r) : bdR (iter body t0) k lx = r := by
  subst ht
  obtain ⟨h1, h2⟩ := iter_mk mk I h0 h he
  rw [h1, bdR_go]; exact hk h2
/-! values of clauses -/
def clv (c a : List Int) : Int := bif c.any (fun l => a.contains l) then 1 else bif c.any (fun l => !a.contains (wr (-l))) then 0 else -1
theorem clv_loop {a : List Int} {f : Nat → Int → Int → Option (Lp Int Int)} (hf : ∀ i y s, f i y s = bif a.contains y then some (.rt 1) else bif !a.contains (wr (-y)) then some (.nx 0) else some (.nx s)) :
    ∀ {c : List Int} {i : Nat} {s : Int}, forLFrom f c i s = some (bif c.any (fun l => a.contains l) then .rt 1 else .go (bif c.any (fun l => !a.contains (wr (-l))) then 0 else s)) := by
  intro c
  induction c with
  | nil => intro i s; rfl
  | cons y c ih =>
    intro i s
    simp only [forLFrom, List.any_cons]
    rw [hf]
    cases h1 : a.contains y with
    | true => simp
    | false =>
      cases h2 : !a.contains (wr (-y)) with
      | true => simp only [cond_false, cond_true, Bool.false_or, Bool.true_or]; rw [ih]; cases c.any (fun l => a.contains l) <;> cases c.any (fun l => !a.contains (wr (-l))) <;> rfl
      | false => simp only [cond_false, Bool.false_or]; rw [ih]
theorem clv_cases (c a : List Int) : clv c a = 1 ∨ clv c a = 0 ∨ clv c a = -1 := by
  unfold clv; cases c.any (fun l => a.contains l) <;> cases c.any (fun l => !a.contains (wr (-l))) <;> simp
/-- what is left of a clause -/
def opn (c a : List Int) : List Int := c.filter fun l => !a.contains (wr (-l))
theorem opn_isC {V : Int} {c a : List Int} (h : IsC V c) : IsC V (opn c a) := ⟨h.lo, h.hi, fun l hl => h.lit l (List.mem_filter.1 hl).1, h.srt.filter _⟩
def under (cs : List (List Int)) (a : List Int) : List (List Int) := (cs.filter fun c => decide (clv c a < 1)).map fun c => opn c a
theorem foldl_filter_map {α β : Type} {p : α → Bool} {g : α → β} : ∀ {l : List α} {s : List β}, l.foldl (fun s y => bif p y then s ++ [g y] else s) s = s ++ (l.filter p).map g := by
  intro l
  induction l with
  | nil => intro s; simp
  | cons y l ih =>
    intro s
    rw [List.foldl_cons, ih]
    cases h : p y <;> simp [h]
end Go.PF
