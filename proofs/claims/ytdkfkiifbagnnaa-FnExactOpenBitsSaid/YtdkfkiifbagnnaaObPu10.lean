/- Texts have Go's sizes. -/
import Derived.Test.YtdkfkiifbagnnaaPl1
namespace Go.PF
def okS (s : ByteArray) : Prop := s.size ≤ 9223372036854775807
end Go.PF
