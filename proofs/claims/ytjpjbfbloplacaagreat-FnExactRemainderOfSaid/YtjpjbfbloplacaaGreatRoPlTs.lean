/- The translation of a derivation: the reference. -/
import Derived.Test.YtjpjbfbloplacaaGreatRoPlTr
set_option linter.unusedVariables false
namespace Go.PF
open Go.Pu
open Go.La (vadd co)
def trL (p v : Int) (S : List ResStep) : TS := S.foldl (trS p v S) ([], [], [])
theorem To.nil {p v : Int} : To p v 0 ([], [], []) := ⟨rfl, ⟨rfl, nofun, fun j s q h => by cases h⟩, Nat.le_refl _, nofun⟩
theorem filter_more {V : Int} {c fr : List Int} (hc : IsC V c) (hV : V ≤ 12) : (c.filter fun y => !(bif fr.contains y then true else (vr y == 0))) = more c fr := by
  unfold more
  refine List.filter_congr fun y hy => ?_
  have hl := hc.lits y hy
  have hv := vr_nat (l := y) (by omega) (by omega)
  have hz : (vr y == 0) = false := by
    rw [beq_eq_false_iff_ne, hv]
    cases hd : decide (y < 0) <;> simp only [cond_true, cond_false] <;> omega
  rw [hz]
  cases fr.contains y <;> rfl
theorem filter_without {c fr : List Int} {u : Int} : (c.filter fun y => !(bif fr.contains y then true else (vr y == u))) = without (more c fr) u := by
  unfold more without
  rw [List.filter_filter]
  refine List.filter_congr fun y hy => ?_
  cases fr.contains y <;> cases vr y == u <;> rfl
theorem pc_ln {st : List PcStep} {s : PcStep} (h : st.length ≤ 100000) : wr (len (st ++ [s]) - 1) = len st := by
  have e : len (st ++ [s]) = len st + 1 := by rw [len_eq, len_eq, List.length_append]; rfl
  have := len_eq st
  rw [e, wr_sm (by omega) (by omega)]; omega
theorem Wo.ge {p : Int} {N L n : Nat} {s : WS} (h : Wo p N L n s) (hn : n ≠ 0) : (L : Int) ≤ s.2.2 := h.ex.resolve_left hn
end Go.PF
