/- strings.Join on plain texts. -/
import Derived.Test.YtjkhehplbjempaaGreatDoorDtPu4
import Derived.Lib.Join
namespace Go.Pu
def joinS (xs : List ByteArray) (sep : ByteArray) : Option ByteArray :=
  if (Go.Lib.join (xs.map (·.data.toList)) sep.data.toList).length ≤ 140737488355328 ∧ xs.length ≤ 140737488355328 then some ⟨(Go.Lib.join (xs.map (·.data.toList)) sep.data.toList).toArray⟩ else none
end Go.Pu
