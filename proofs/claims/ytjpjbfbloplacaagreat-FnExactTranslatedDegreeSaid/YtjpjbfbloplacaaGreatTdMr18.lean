/- Ranges over functions: the rule for the loop at a function's top level. -/
import Derived.Test.YtjpjbfbloplacaaGreatTdMr17
import Derived.RangeFuncRecord
namespace Go.Mr
open Go.RowKit Go.Pu

section
variable {P : Program} {w w' : World} {H0 H Hs : GH} {w0 : World} {l l0 T : List MO} {N : Nat} {f : Fm}

variable {J : List MO → World → Prop}
@[reducible] def iterPost (K : Nat → World → Prop) (Kx : World → Prop) (n : Nat) : Ending → World → Prop := fun e W' => (∃ v, e = .returned v) ∧ (K n W' ∨ Kx W')
@[reducible] def rndQ {S X : Type} (id : Nat) (J : List MO → S → World → Prop) (E : List MO → X → World → Prop) (T : List MO) (o : Lp S X) : FQ := fun e _ W =>
  match o with
  | .nx s => e = .normal ∧ J T s W
  | .bk s => e = .exit id ∧ J T s W
  | .rt x => e = .ret ∧ E T x W
end

end Go.Mr
