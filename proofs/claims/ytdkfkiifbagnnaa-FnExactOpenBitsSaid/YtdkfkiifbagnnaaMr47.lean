/- Two flat slices that share no block: results and marks of structs that hold both. -/
import Derived.Test.YtdkfkiifbagnnaaMr32
import Derived.Test.YtdkfkiifbagnnaaMr29
namespace Go.Mr
open Go.RowKit Go.Pu
section
variable {H H' H2 G : GH} {A A' : Type} {En : Enc A} {E' : Enc A'} {k k' B : Nat} {v v' : Value} {xs : List A} {ys : List A'} {c : List Value}
theorem els_flat_bl (h : Els G En k c xs) (hE : FlatE En) : bl c = [] := by
  induction h with
  | nil => rfl
  | snoc _ _ hx ih => rw [bl_app, ih, (hE G G _ _ hx).2]; rfl
theorem Ap.flat2 (h0 : RSl G En k v xs) (f0 : FlatE En) (k0 : 0 < k) (h1 : RSl G E' k' v' ys) (f1 : FlatE E') (k1 : 0 < k') (hd : ∀ b ∈ bl [v], b ∉ bl [v']) :
    ∃ c0 c1, Nest G En k v xs c0 ∧ Nest G E' k' v' ys c1 ∧ Ap v c0 v' c1 := by
  obtain ⟨c0, n0, e0⟩ := h0.nest f0 k0
  obtain ⟨c1, n1, e1⟩ := h1.nest f1 k1
  refine ⟨c0, c1, n0, n1, fun b h g => ?_⟩
  rw [e0] at h; rw [e1] at g
  rcases h with h | h
  · rcases g with g | g
    · exact hd b h g
    · cases g
  · cases h
theorem dis_nill : ∀ b ∈ bl [.slice none 0 0], b ∉ bl [v'] := fun b h => by cases h
theorem dis_nilr : ∀ b ∈ bl [v], b ∉ bl [.slice none 0 0] := fun b _ h => by cases h
theorem dis_symm (h : ∀ b ∈ bl [v'], b ∉ bl [v]) : ∀ b ∈ bl [v], b ∉ bl [v'] := fun b h1 h2 => h b h2 h1
theorem Nest.marked {zs : List A} (hE : FlatE En) (hk : 0 < k) (h : RSl (up B H2) En k v zs) (n : Nest (up B H) En k v xs c) : ∃ c', Nest (up B H2) En k v zs c' ∧ bl c' = bl c := by
  obtain ⟨c', n', e⟩ := h.nest hE hk
  exact ⟨c', n', by rw [e, els_flat_bl n.2.1 hE]⟩
theorem nd_two (h : ∀ b ∈ bl [v], b ∉ bl [v']) : (bl [v, v']).Nodup := by
  have e : bl [v, v'] = bl [v] ++ bl [v'] := bl_app [v] [v']
  rw [e]
  exact List.nodup_append.2 ⟨nd_one v, nd_one v', fun a ha b hb e => h a ha (e ▸ hb)⟩
theorem New.two (h : New H [v]) (h' : New H [v']) : New H [v, v'] := fun b hb => by
  have e : bl [v, v'] = bl [v] ++ bl [v'] := bl_app [v] [v']
  rw [e] at hb
  rcases List.mem_append.1 hb with hb | hb
  · exact h b hb
  · exact h' b hb
theorem Ap.dis {c' : List Value} (h : Ap v c v' c') : ∀ b ∈ bl [v], b ∉ bl [v'] := fun b h1 h2 => h b (.inl h1) (.inl h2)
end
end Go.Mr
