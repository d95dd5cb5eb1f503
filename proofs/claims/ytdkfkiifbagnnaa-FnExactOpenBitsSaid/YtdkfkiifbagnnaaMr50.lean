/- What a row's inner blocks come from: blocks that it had, and new ones. -/
import Derived.Test.YtdkfkiifbagnnaaMr12
import Derived.Test.YtdkfkiifbagnnaaMr14
namespace Go.Mr
open Go.RowKit Go.Pu
/-- each inner block is one of c0's, or H does not have it -/
def Gr (H : GH) (c0 c : List Value) : Prop := ∀ b ∈ bl c, b ∈ bl c0 ∨ H b = none
theorem inc_none {H H2 : GH} (hi : Inc H H2) {b : Nat} (h : H2 b = none) : H b = none := by
  cases e : H b with
  | none => rfl
  | some o => have := hi b o e; rw [h] at this; cases this
theorem Gr.rfl {H : GH} {c : List Value} : Gr H c c := fun _ h => .inl h
theorem Gr.anti {H H2 : GH} {c0 c : List Value} (h : Gr H2 c0 c) (hi : Inc H H2) : Gr H c0 c := fun b hb => (h b hb).imp id (inc_none hi)
theorem Gr.tr {H H2 : GH} {c0 c1 c2 : List Value} (h1 : Gr H c0 c1) (hi : Inc H H2) (h2 : Gr H2 c1 c2) : Gr H c0 c2 := fun b hb => (h2 b hb).elim (h1 b) fun h => .inr (inc_none hi h)
theorem Gr.app {H : GH} {c0 c1 x : List Value} (h : Gr H c0 c1) (hn : New H x) : Gr H c0 (c1 ++ x) := fun b hb => by
  unfold bl at hb
  rw [List.filterMap_append, List.mem_append] at hb
  rcases hb with hb | hb
  · exact h b hb
  · exact .inr (hn b hb)
theorem Gr.nd_app {Hf Hb : GH} {c0 a x : List Value} (ha : (bl a).Nodup) (hb : (bl x).Nodup) (hg : Gr Hf c0 a) (h0 : ∀ y ∈ bl c0, Hb y ≠ none) (hn : New Hb x) (hd : ∀ y ∈ bl x, Hf y ≠ none) : (bl (a ++ x)).Nodup := by
  unfold bl at *
  rw [List.filterMap_append]
  refine List.nodup_append.2 ⟨ha, hb, fun p hp q hq e => ?_⟩
  subst e
  rcases hg p hp with h | h
  · exact h0 p h (hn p hq)
  · exact hd p hq h
theorem dom_two {H : GH} {v v' : Value} (h : ∀ b ∈ bl [v], H b ≠ none) (h' : ∀ b ∈ bl [v'], H b ≠ none) : ∀ b ∈ bl [v, v'], H b ≠ none := fun b hb => by
  have : b ∈ bl [v] ++ bl [v'] := by
    unfold bl at *
    rw [← List.filterMap_append]; exact hb
  rcases List.mem_append.1 this with g | g
  · exact h b g
  · exact h' b g
end Go.Mr
