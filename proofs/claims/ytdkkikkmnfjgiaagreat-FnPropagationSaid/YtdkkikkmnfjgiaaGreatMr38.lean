/- Bytes read in. -/
import Derived.Test.YtdkkikkmnfjgiaaGreatMr15
import Derived.Test.YtdkkikkmnfjgiaaGreatPrPu6
namespace Go.Mr
open Go.RowKit Go.Pu
theorem RdT.u8 {P : Program} {w : World} {t : TypeId} (ht : P.underlying t = some (.int .u8)) : RdT P w t (eN .u8) okU8 := fun h => by
  obtain ⟨n, rfl, _, hw⟩ := DataW.trod_int ht h
  refine ⟨n, rfl, ?_⟩
  simp [Lit.wf, IntKind.min, IntKind.max, IntKind.signed, IntKind.bits] at hw
  exact hw
end Go.Mr
