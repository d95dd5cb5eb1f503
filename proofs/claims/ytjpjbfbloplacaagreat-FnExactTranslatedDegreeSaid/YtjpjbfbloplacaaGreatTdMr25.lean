/- Maps of one's own, whose keys are compared at once. -/
import Derived.Test.YtjpjbfbloplacaaGreatTdMr24
namespace Go.Mr
open Go.RowKit Go.Pu
structure KeyNow (P : Program) (kt : TypeId) {K : Type} [BEq K] (ek : K → Value) : Prop where
  kd : ∃ kd, (∀ w, (underlying kt).run P w = .ok kd w) ∧ ∀ a b, Instr.sameNow kd (ek a) (ek b) = some (a == b)
  eq : ∀ a b : K, (a == b) = true → a = b
  bits : ∀ a, Instr.sameBits 10000 (ek a) (ek a) = true
  chk : ∀ e a w, (Instr.checkKey e 10000 kt (ek a)).run P w = .ok () w
section
variable {H0 H : GH} {w0 w : World} {l : List MO} {P : Program} {K V : Type} {ek : K → Value} {en : V → Value} {kt et t : TypeId} {o : Obj} {m : List (K × V)} {i b : Nat}
end
end Go.Mr
