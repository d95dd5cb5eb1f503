/- Texts: is a byte in a text; which of two texts is the first. -/
import Derived.Test.YtdkfkiifbagnnaaObPu6
import Derived.Lib.Bytealg
namespace Go.Pu
/-- strings.Contains, where what is looked for is one byte -/
def hasS (s sub : ByteArray) : Option Bool := match sub.data.toList with
  | [c] => some (decide (0 ≤ Go.Lib.indexByte s.data.toList c))
  | _ => none
theorem hasS_some {s sub : ByteArray} {b : Bool} (h : hasS s sub = some b) : ∃ c, sub = ⟨#[c]⟩ ∧ b = decide (0 ≤ Go.Lib.indexByte s.data.toList c) := by
  unfold hasS at h
  split at h
  · rename_i c hc
    cases h
    exact ⟨c, ByteArray.ext (Array.ext' hc), rfl⟩
  · cases h
/-- strings.Compare -/
def cmpS (a b : ByteArray) : Int := Go.Lib.compareBytes a.data.toList b.data.toList
end Go.Pu
namespace Go.Pu
/-- bytes as a text -/
def bytesS (ns : List Int) : ByteArray := ns.foldl (fun r n => r.push (UInt8.ofNat n.toNat)) ByteArray.empty
end Go.Pu
