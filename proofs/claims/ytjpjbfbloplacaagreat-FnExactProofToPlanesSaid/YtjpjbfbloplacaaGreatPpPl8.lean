/- Sets of ints as ascending lists; the pivots of a proof. -/
import Derived.Test.YtjpjbfbloplacaaGreatPpPl6
namespace Go.PF
open Go.Pu

end Go.PF
