/- Zeros that are hung on: append(s, make([]int, n)...). -/
import Derived.Test.YtjpjbfbloplacaaGreatTdMr25
import Derived.Lib.AppendZerosOnto
namespace Go.Mr
open Go.RowKit Go.Pu
section
variable {H0 H : GH} {w0 w : World} {l : List MO} {P : Program} {t e tn : TypeId} {v : Value} {n : Nat}
end
end Go.Mr
