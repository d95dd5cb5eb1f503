/- Ranges over slices.Backward: a call of yield, the list that is yielded. -/
import Derived.Test.YtjpjbfbloplacaaGreatTdMr18
namespace Go.Mr
open Go.RowKit Go.Pu

section
variable {P : Program} {N : Nat} {Q : FQ} {f : Fm} {w : World} {δ : List Nat} {ops : Array Oper} {o : Oper} {rest : List Oper}
end

end Go.Mr
