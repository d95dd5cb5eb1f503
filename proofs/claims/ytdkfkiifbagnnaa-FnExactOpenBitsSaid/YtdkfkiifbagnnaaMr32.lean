/- Two nested slices that share no block: results and marks of structs that hold both. -/
import Derived.Test.YtdkfkiifbagnnaaMr16
import Derived.Test.YtdkfkiifbagnnaaMr14
namespace Go.Mr
open Go.RowKit Go.Pu
section
variable {w : World} {H H' H2 Hx Ha Hb Hs Hs' : GH} {A A' : Type} {En : Enc A} {E' : Enc A'} {k k' B lo hi : Nat} {v v' : Value} {xs : List A} {ys : List A'} {c c' c1 c2 : List Value}
def Ap (v : Value) (c : List Value) (v' : Value) (c' : List Value) : Prop := ∀ b, (b ∈ bl [v] ∨ b ∈ bl c) → ¬ (b ∈ bl [v'] ∨ b ∈ bl c')
theorem Ap.symm (h : Ap v c v' c') : Ap v' c' v c := fun b h1 h2 => h b h2 h1
theorem Ap.nill : Ap (.slice none 0 0) [] v c := fun b h => by rcases h with h | h <;> cases h
theorem Ap.nilr : Ap v c (.slice none 0 0) [] := fun b _ h => by rcases h with h | h <;> cases h
theorem Ap.of (n : Nest Hx En k v xs c) (i1 : Inc Hx Ha) (i2 : Inc Hx Hb) (nv : New Ha [v']) (nc : New Hb c') : Ap v c v' c' := fun b h1 h2 => by
  have h0 := n.dom b h1
  cases e : Hx b with
  | none => exact h0 e
  | some o =>
    rcases h2 with h | h
    · have := nv b h; rw [i1 _ _ e] at this; cases this
    · have := nc b h; rw [i2 _ _ e] at this; cases this
theorem Ap.turn (h : Ap v c v' c') (h1 : bl c1 = bl c) (h2 : bl c2 = bl c') : Ap v c1 v' c2 := fun b a1 a2 => h b (h1 ▸ a1) (h2 ▸ a2)
theorem Nest.aside (n : Nest (up B Ha) E' k' v' ys c') (hE : LocE E') (ap : Ap v c v' c') (o2 : ∀ b, b ∉ bl [v] → b ∉ bl c → ∀ o, Ha b = some o → H2 b = some o) : Nest (up B H2) E' k' v' ys c' :=
  n.same hE fun b hb => by
    have h0 := n.dom b hb
    cases e : Ha b with
    | none => exact absurd (by unfold up; rw [e]; split <;> rfl) h0
    | some o => exact up_same ((o2 b (fun h => ap b (.inl h) hb) (fun h => ap b (.inr h) hb) o e).trans e.symm)
theorem Nest.outside2 (n0 : Nest (sg lo hi Hs) En k v xs c) (n1 : Nest (sg lo hi Hs') E' k' v' ys c') (ho : ∀ b, b ∉ bl [v] → b ∉ bl c → b ∉ bl [v'] → b ∉ bl c' → ∀ o, H b = some o → H' b = some o) :
    ∀ b, b < lo ∨ hi ≤ b → ∀ o, H b = some o → H' b = some o := fun b hb => by
  have k0 : ¬ (b ∈ bl [v] ∨ b ∈ bl c) := fun hm => by
    have h0 := n0.dom b hm
    cases h1 : sg lo hi Hs b with
    | none => exact absurd h1 h0
    | some o => obtain ⟨a, b, _, _⟩ := sg_iff.1 h1; omega
  have k1 : ¬ (b ∈ bl [v'] ∨ b ∈ bl c') := fun hm => by
    have h0 := n1.dom b hm
    cases h1 : sg lo hi Hs' b with
    | none => exact absurd h1 h0
    | some o => obtain ⟨a, b, _, _⟩ := sg_iff.1 h1; omega
  exact ho b (fun h => k0 (.inl h)) (fun h => k0 (.inr h)) (fun h => k1 (.inl h)) fun h => k1 (.inr h)
end
end Go.Mr
