/- slices.Compact at texts: what its contract asks of them. -/
import Derived.Test.YtdkfkiifbagnnaaMr9
import Derived.Test.YtdkfkiifbagnnaaMr43
namespace Go.Proofs
open Go.Shelf Go.RowKit Go.Lib Go.Sort
theorem ba_dec (x y : ByteArray) : (x.toList == y.toList) = decide (x = y) := by
  by_cases h : x = y
  · subst h; simp
  · rw [decide_eq_false h, beq_eq_false_iff_ne]
    intro e
    rw [ByteArray.toList_eq, ByteArray.toList_eq] at e
    exact h (ByteArray.ext (Array.ext' e))
theorem EqlAt.stringD (P : Program) (T : TypeId) : EqlAt P T Value.string (fun x y => decide (x = y)) := ⟨fun x y w => by rw [(EqlAt.string P T).1 x y w]; dsimp only []; rw [ba_dec], .string P T⟩
theorem NeqAt.stringD (P : Program) (T : TypeId) : NeqAt P T Value.string (fun x y => decide (x = y)) := ⟨fun x y w => by rw [(NeqAt.string P T).1 x y w]; dsimp only []; rw [ba_dec], .string P T⟩
end Go.Proofs
