/- Two results that lie in blocks. -/
import Derived.Test.YtdkkikkmnfjgiaaGreatMr8
namespace Go.Mr
open Go.RowKit Go.Pu
theorem loadVar_0 {P : Program} {w : World} {t : Nat} {p : Addr} {cs : List Value} {c : Value} (ta : ∀ w, (isAgg t).run P w = .ok false w) (hw : WAt w p cs) (hc : cs[0]? = some c) :
    (loadVar t p).run P w = .ok c w := by
  have := hw 0 c hc
  rw [Addr.add_zero'] at this
  simp [loadVar, ta, this]
theorem resCC {δ : List Nat} {fn : Func} {t ty t2 ty2 N : Nat} {P : Program} {w : World} {R : Ending → World → Prop} {f : Fm} {v v2 : Value} {p p2 : Addr} (hr : fn.results = #[.cell t ty, .cell t2 ty2]) (hv : f t = .pointer (some p))
    (hl : (loadVar ty p).run P w = .ok v w) (hv2 : f t2 = .pointer (some p2)) (hl2 : (loadVar ty2 p2).run P w = .ok v2 w) (hR : R (.returned (.tuple #[v, v2])) w) :
    ∀ a, Fr (δ := δ) N a f → ∃ v, (results fn a.tmps).run P w = .ok v w ∧ R (.returned v) w := fun a ha => ⟨_, by simp [results, hr, ha.val, hv, asAddr, hl, hv2, hl2], hR⟩
end Go.Mr
