/- A row one of whose elements is a slice of ours that is still written: the element's place, until the slice is sealed. -/
import Derived.Test.YtjpjbfbloplacaaGreatTdMr26
namespace Go.Mr
open Go.RowKit Go.Pu
section
variable {H0 H G G' : GH} {w0 w : World} {l : List MO} {P : Program} {t e n : Nat} {v u : Value} {α : Type} {En : Enc α} {cells c0 : List Value} {xs ys : List α} {j : Int} {x : α} {i : Nat}
structure Pend (G : GH) (En : Enc α) (cells : List Value) (xs : List α) (j : Int) (u : Value) : Prop where
  pd : ∃ c0, Els G En 1 c0 xs ∧ 0 ≤ j ∧ j < xs.length ∧ cells = c0.take (j.toNat * 1) ++ [u] ++ c0.drop (j.toNat * 1 + 1)
end
end Go.Mr
