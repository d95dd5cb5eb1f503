/- Unit propagation: the program's and the reference's steps are the same. -/
import Derived.Test.YtmpfnnkmplkfoaaGreatPtPl14
set_option linter.unusedVariables false
namespace Go.PF
open Go.Pu
def uni (c a : List Int) : Int := bif clv c a == 0 then (bif (opn c a).length == 1 then (opn c a).headD 0 else 0) else 0
def falF (a : List Int) : Nat → List (List Int) → List Int
  | _, [] => []
  | i, c :: cs => bif decide (clv c a < 0) then ((i : Nat) : Int) :: falF a (i + 1) cs else falF a (i + 1) cs
theorem falF_len {a : List Int} : ∀ {cs : List (List Int)} {i : Nat}, (falF a i cs).length ≤ cs.length := by
  intro cs
  induction cs with
  | nil => intro i; simp [falF]
  | cons c cs ih =>
    intro i
    unfold falF
    cases decide (clv c a < 0) with
    | true => have := ih (i := i + 1); simp only [cond_true, List.length_cons]; omega
    | false => have := ih (i := i + 1); simp only [cond_false, List.length_cons]; omega
def setA (a : List Int) (l : Int) : List Int := putL (without a (vr l)) l
theorem without_ne {V : Int} {a : List Int} (h : IsC V a) {l : Int} (hl : -12 ≤ l ∧ l ≤ 12) {x : Int} (hx : x ∈ without a (vr l)) : x ∈ a ∧ x.natAbs ≠ l.natAbs := by
  unfold without at hx
  rw [List.mem_filter] at hx
  refine ⟨hx.1, fun e => ?_⟩
  have h1 := h.sm x hx.1
  have h2 := hx.2
  rw [vr_abs h1.1 h1.2.1, vr_abs hl.1 hl.2] at h2
  simp at h2
  omega
theorem setA_isC {V : Int} {a : List Int} (h : IsC V a) {l : Int} (hl : -V ≤ l ∧ l ≤ V ∧ l ≠ 0) : IsC V (setA a l) := by
  have hv := h.hi
  have hw : IsC V (without a (vr l)) := ⟨h.lo, h.hi, fun x hx => h.lit x (List.mem_filter.1 hx).1, h.srt.filter _⟩
  refine ⟨h.lo, h.hi, fun x hx => ?_, ?_⟩
  · rcases putL_mem.1 hx with rfl | hx
    · exact hl
    · exact hw.lit x hx
  · exact putL_srt hw.srt hw.sm ⟨by omega, by omega⟩ fun x hx => (without_ne h ⟨by omega, by omega⟩ hx).2
theorem impl_set_eq {V : Int} {a : List Int} (h : IsC V a) {l : Int} (hl : -V ≤ l ∧ l ≤ V ∧ l ≠ 0) : impl_set a l = some (setA a l) := by
  have hn := h.len; have hv := h.hi
  have hwl : (without a (vr l)).length ≤ a.length := List.length_filter_le _ _
  have hw : IsC V (without a (vr l)) := ⟨h.lo, h.hi, fun x hx => h.lit x (List.mem_filter.1 hx).1, h.srt.filter _⟩
  have hL : IsC V [l] := ⟨h.lo, h.hi, fun x hx => (List.mem_singleton.1 hx) ▸ hl, List.pairwise_singleton _ _⟩
  unfold impl_set setA
  rw [impl_abs_eq (by unfold okI; omega), impl_withoutVar_eq h.ok.2 (by unfold lim; omega), bd_some, app_ok (by simp; unfold lim; omega), bd_some]
  unfold impl_mustClause
  rw [clause_joined hw.srt hL.srt hw.sm hL.sm (by simp; unfold lim; omega), bd_some, bd_some]
  have hwr : wr (-l) = -l := wr_of _ (by omega) (by omega)
  have h1 : (without a (vr l)).contains (wr (-l)) = false := by
    rw [hwr]
    cases hc : (without a (vr l)).contains (-l) with
    | false => rfl
    | true =>
      have := (without_ne (l := l) h ⟨by omega, by omega⟩ (by simpa using hc)).2
      omega
  have h2 : (without a (vr l)).contains l = false := by
    cases hc : (without a (vr l)).contains l with
    | false => rfl
    | true => exact absurd rfl (without_ne (l := l) h ⟨by omega, by omega⟩ (by simpa using hc)).2
  unfold joined
  simp only [joinL, h1, h2, Bool.not_false, cond_true, cond_false]
end Go.PF
