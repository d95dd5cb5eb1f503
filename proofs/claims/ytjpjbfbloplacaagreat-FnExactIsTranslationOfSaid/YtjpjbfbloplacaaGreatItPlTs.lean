/- The translation of a derivation: the reference. -/
import Derived.Test.YtjpjbfbloplacaaGreatItPlTr
set_option linter.unusedVariables false
namespace Go.PF
open Go.Pu
open Go.La (vadd co)
theorem To.nil {p v : Int} : To p v 0 ([], [], []) := ⟨rfl, ⟨rfl, nofun, fun j s q h => by cases h⟩, Nat.le_refl _, nofun⟩
end Go.PF
