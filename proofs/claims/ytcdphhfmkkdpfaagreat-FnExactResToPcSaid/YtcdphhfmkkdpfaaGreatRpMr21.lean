/- slices.Delete. -/
import Derived.Test.YtcdphhfmkkdpfaaGreatRpMr16
import Derived.Test.YtcdphhfmkkdpfaaGreatRpMr13
import Derived.Shelf.SlicesE.Delete
namespace Go.Mr
open Go.RowKit Go.Pu Go.Shelf Go.Sort
section
variable {P : Program} {H0 H : GH} {w0 w : World} {l : List MO} {e n : Nat} {v : Value} {A : Type} {En : Enc A}

abbrev OC := { v : Value // v.oneCell' = true }
instance : Inhabited OC := ⟨⟨.int .i64 0, rfl⟩⟩
variable {f : Fm} {d : Option Tmp} {ty : TypeId} {pos : String} {aft : Array Edge} {gd : Option (Nat × Bool)} {x : Operand} {k : Nat} {z : Value}
theorem PtrOf.uniq {i : Int} {p q : Addr} (h1 : PtrOf k v i p) (h2 : PtrOf k v i q) : p = q := by
  obtain ⟨a, m, c, rfl, _, _, rfl⟩ := h1
  obtain ⟨a', m', c', hv, _, _, rfl⟩ := h2
  cases hv; rfl
theorem PtrOf.tail {v' : Value} {a i : Int} {q : Addr} (ht : TailOf k v a v') (h : PtrOf k v (a + i) q) (h0 : 0 ≤ i) : PtrOf k v' i q := by
  obtain ⟨p, len, cap, rfl, h1, h2, h3, rfl⟩ := ht
  obtain ⟨p0, len', cap', hv, g0, g1, rfl⟩ := h
  cases hv
  rw [if_neg (by omega)]
  refine ⟨_, _, _, rfl, h0, by omega, ?_⟩
  rw [addr_add_add, ← Nat.add_mul]
  congr 2
  omega
end
end Go.Mr
