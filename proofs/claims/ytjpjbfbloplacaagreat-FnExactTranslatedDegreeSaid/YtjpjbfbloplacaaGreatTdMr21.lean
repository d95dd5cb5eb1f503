/- slices.Delete. -/
import Derived.Test.YtjpjbfbloplacaaGreatTdMr16
import Derived.Test.YtjpjbfbloplacaaGreatTdMr13
import Derived.Shelf.SlicesE.Delete
namespace Go.Mr
open Go.RowKit Go.Pu Go.Shelf Go.Sort
section
variable {P : Program} {H0 H : GH} {w0 w : World} {l : List MO} {e n : Nat} {v : Value} {A : Type} {En : Enc A}

abbrev OC := { v : Value // v.oneCell' = true }
instance : Inhabited OC := ⟨⟨.int .i64 0, rfl⟩⟩
variable {f : Fm} {d : Option Tmp} {ty : TypeId} {pos : String} {aft : Array Edge} {gd : Option (Nat × Bool)} {x : Operand} {k : Nat} {z : Value}
theorem PtrOf.uniq {i : Int} {p q : Addr} (h1 : PtrOf k v i p) (h2 : PtrOf k v i q) : p = q := by
  obtain ⟨a, m, c, rfl, _, _, rfl⟩ := h1
  obtain ⟨a', m', c', hv, _, _, rfl⟩ := h2
  cases hv; rfl
end
end Go.Mr
