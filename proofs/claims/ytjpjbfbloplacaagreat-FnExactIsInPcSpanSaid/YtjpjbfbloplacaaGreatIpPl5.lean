/- Resolvents and derivations: both packages answer alike. -/
import Derived.Test.YtjpjbfbloplacaaGreatIpPl4
namespace Go.PF
open Go.Pu

theorem srt_unique : ∀ {a b : List Int}, Srt a → Srt b → (∀ x, x ∈ a ↔ x ∈ b) → a = b := by
  intro a
  induction a with
  | nil =>
    intro b _ _ h
    cases b with
    | nil => rfl
    | cons y b => exact absurd ((h y).2 (by simp)) (by simp)
  | cons x a ih =>
    intro b ha hb h
    cases b with
    | nil => exact absurd ((h x).1 (by simp)) (by simp)
    | cons y b =>
      obtain ⟨a1, a2⟩ := List.pairwise_cons.1 ha
      obtain ⟨b1, b2⟩ := List.pairwise_cons.1 hb
      have hxy : x = y := by
        rcases List.mem_cons.1 ((h x).1 (by simp)) with e | e
        · exact e
        · rcases List.mem_cons.1 ((h y).2 (by simp)) with e' | e'
          · exact e'.symm
          · have := b1 x e; have := a1 y e'; omega
      subst hxy
      rw [ih a2 b2 fun z => ?_]
      constructor
      · intro hz
        rcases List.mem_cons.1 ((h z).1 (by simp [hz])) with e | e
        · subst e; have := a1 z hz; omega
        · exact e
      · intro hz
        rcases List.mem_cons.1 ((h z).2 (by simp [hz])) with e | e
        · subst e; have := b1 z hz; omega
        · exact e

theorem compactL_mem {A : Type} [DecidableEq A] : ∀ {l : List A} {x : A}, x ∈ compactL l ↔ x ∈ l
  | [], x => by simp [compactL]
  | [y], x => by simp [compactL]
  | y :: z :: r, x => by
    rw [compactL]
    split
    · rename_i h; subst h
      rw [compactL_mem]; simp
    · rw [List.mem_cons, compactL_mem]; simp
theorem compactL_strict {A : Type} [DecidableEq A] {R : A → A → Prop} (ha : ∀ a b, R a b → R b a → a = b) : ∀ {l : List A}, l.Pairwise R → (compactL l).Pairwise fun a b => R a b ∧ a ≠ b
  | [], _ => by simp [compactL]
  | [y], _ => by simp [compactL]
  | y :: z :: r, h => by
    obtain ⟨h1, h2⟩ := List.pairwise_cons.1 h
    rw [compactL]
    split
    · exact compactL_strict ha h2
    · rename_i hne
      refine List.pairwise_cons.2 ⟨fun x hx => ?_, compactL_strict ha h2⟩
      have hx' := compactL_mem.1 hx
      refine ⟨h1 x hx', fun e => ?_⟩
      subst e
      rcases List.mem_cons.1 hx' with e | e
      · exact hne e
      · exact hne (ha _ _ (h1 z (by simp)) ((List.pairwise_cons.1 h2).1 y e))

/-- the order of literals -/
def litLe (x y : Int) : Prop := impl_abs x < impl_abs y ∨ (impl_abs x = impl_abs y ∧ y ≤ x)
def cmpL (x y : Int) : Int := if impl_abs x < impl_abs y then -1 else if impl_abs y < impl_abs x then 1 else if y < x then -1 else if x < y then 1 else 0
theorem cmpL_neg {x y : Int} : cmpL x y < 0 ↔ impl_abs x < impl_abs y ∨ (impl_abs x = impl_abs y ∧ y < x) := by
  unfold cmpL
  split
  · omega
  · split
    · omega
    · split
      · omega
      · split <;> omega
def noComp (t : List Int) : Bool := adj (fun a b => !(b == wr (-a))) t
/-- what comes of two merged clauses -/
def joined (a b : List Int) : List Int × Bool := match joinL a b with | some s => (s, true) | none => ([], false)
def res (a b : List Int) (v : Int) : List Int × Bool := bif !a.contains v || !b.contains (wr (-v)) then ([], false) else joined (without a v) (without b v)
theorem without_len (c : List Int) (v : Int) : (without c v).length ≤ c.length := List.length_filter_le _ _
theorem IsC.sm {V : Int} {c : List Int} (h : IsC V c) : Sm c := fun l hl => by have := h.lit l hl; have := h.hi; omega
end Go.PF
