/- Pointers to sealed variables. -/
import Derived.Test.YtjpjbfbloplacaaGreatTdMr19
import Derived.Test.YtjpjbfbloplacaaGreatTdMr14
namespace Go.Mr
open Go.RowKit Go.Pu
section
variable {δ : List Nat} {P : Program} {N : Nat} {f : Fm} {w : World} {ops : Array Oper} {S : World → Prop} {M : Fm → World → Prop} {n : Nat} {ls l' : Array Bool}
theorem E.asB {o : Oper} {a b : Bool} (h : (execOp (ev f) o).run P w = .ok (.value (.bool a)) w) (e : a = b) : (execOp (ev f) o).run P w = .ok (.value (.bool b)) w := e ▸ h
end
end Go.Mr
