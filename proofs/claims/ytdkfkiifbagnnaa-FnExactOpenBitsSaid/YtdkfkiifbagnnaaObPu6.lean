/- Texts: a byte of a text, a part of it, the order of texts, a byte as a text. -/
import Derived.Test.YtdkfkiifbagnnaaObPu4
namespace Go.Pu
/-- s[i] -/
def ixS (s : ByteArray) (i : Int) : Option Int := if 0 ≤ i then (s.data[i.toNat]?).map fun b => (b.toNat : Int) else none
theorem ixS_some {s : ByteArray} {i b : Int} (h : ixS s i = some b) : 0 ≤ i ∧ ∃ u : UInt8, s.data[i.toNat]? = some u ∧ b = (u.toNat : Int) := by
  unfold ixS at h
  split at h
  · rename_i h0
    cases hu : s.data[i.toNat]? with
    | none => rw [hu] at h; cases h
    | some u => rw [hu] at h; cases h; exact ⟨h0, u, rfl, rfl⟩
  · cases h
/-- s[a:b] -/
def cutS (s : ByteArray) (a b : Int) : Option ByteArray := if 0 ≤ a ∧ a ≤ b ∧ b ≤ s.size then some (s.extract a.toNat b.toNat) else none
theorem cutS_some {s r : ByteArray} {a b : Int} (h : cutS s a b = some r) : 0 ≤ a ∧ a ≤ b ∧ b ≤ s.size ∧ r = s.extract a.toNat b.toNat := by
  unfold cutS at h; split at h
  · rename_i h0; cases h; exact ⟨h0.1, h0.2.1, h0.2.2, rfl⟩
  · cases h
/-- one list of bytes is before another one -/
def ltB : List UInt8 → List UInt8 → Bool
  | _, [] => false
  | [], _ :: _ => true
  | a :: x, b :: y => a < b || (a == b && ltB x y)
/-- s < t -/
def ltS (s t : ByteArray) : Bool := ltB s.toList t.toList
/-- Go's bytes -/
def okU8 (n : Int) : Prop := 0 ≤ n ∧ n ≤ 255
/-- a byte as a text: string(b), b below 128 -/
def chrS (n : Int) : Option ByteArray := if 0 ≤ n ∧ n < 128 then some ⟨#[UInt8.ofNat n.toNat]⟩ else none
end Go.Pu
