/- The top level of a function that ranges over a function. -/
import Derived.Test.YtjpjbfbloplacaaGreatTdMr16
namespace Go.Mr
open Go.RowKit Go.Pu

section
variable {δ : List Nat} {P : Program} {N : Nat} {Q : Exit → Act → World → Prop} {f : Fm} {w : World}
end
end Go.Mr
