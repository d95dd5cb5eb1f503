/- Texts read in. -/
import Derived.Test.YtdkfkiifbagnnaaMr15
import Derived.Test.YtdkfkiifbagnnaaObPu10
namespace Go.Mr
open Go.RowKit Go.Pu
theorem RdT.stringS {P : Program} {w : World} {t : TypeId} (ht : P.underlying t = some .string) : RdT P w t eS PF.okS := fun h => by
  obtain ⟨n, rfl, _, hw⟩ := DataW.trod_string ht h
  refine ⟨n, rfl, ?_⟩
  unfold maxLen at hw; unfold PF.okS; omega
theorem arg_string {H : Type} {enc : TypeId × Value → H} {P : Program} {w : World} {t : TypeId} {base b0 : Nat} {spare : Nat → Bool} {held : Bool} {r : Reach} {v : Value} {d : DataW H} {ps : List MemPlace} (ht : P.underlying t = some .string)
    (hval : Value.okWide P w r b0 t v) (h : DataW.Trod enc P w base spare held t v d ps) : ∃ s : ByteArray, v = .string s ∧ PF.okS s := by
  obtain ⟨s, rfl⟩ := WideShapes.okWide_string ht hval
  obtain ⟨fuel, h⟩ := h
  obtain ⟨n, h1, _, h2⟩ := DataW.trod_string ht h
  refine ⟨s, rfl, ?_⟩
  simp [Value.cells] at h1
  subst h1
  unfold maxLen at h2; unfold PF.okS; omega
end Go.Mr
