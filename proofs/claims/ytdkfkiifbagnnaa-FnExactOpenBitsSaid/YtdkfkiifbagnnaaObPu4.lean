/- Texts: two put together; the text of a number. -/
import Derived.Test.YtdkfkiifbagnnaaPl1
import Derived.Lib.ItoaNum
namespace Go.Pu
def catS (a b : ByteArray) : Option ByteArray := if a.size + b.size ≤ 9223372036854775807 then some (a ++ b) else none
def itoaS (n : Int) : ByteArray := ⟨(Go.Lib.itoa n).toArray⟩
/-- the text of a number, as the program's library makes it -/
def numS (n : Int) : Option ByteArray := if -9223372036854775808 ≤ n ∧ n ≤ 9223372036854775807 then some (itoaS n) else none
/-- the same, where the least number's negative is asked for -/
def numT (n : Int) : Option ByteArray := if -9223372036854775808 < n ∧ n ≤ 9223372036854775807 then some (itoaS n) else none
end Go.Pu
