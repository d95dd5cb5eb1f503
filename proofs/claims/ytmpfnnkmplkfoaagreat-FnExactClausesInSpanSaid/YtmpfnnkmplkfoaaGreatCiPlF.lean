/- ClausesInSpan: the clauses of some variables, counted in two ways; the law. -/
import Derived.Test.YtmpfnnkmplkfoaaGreatCiPlD
import Derived.Test.YtmpfnnkmplkfoaaGreatCiPlE
set_option linter.unusedVariables false
namespace Go.PF
open Go.Pu
open Go.La (V Red redL isz)
def decN : Nat → Int → Nat → List Int
  | 0, _, _ => []
  | n + 1, v, k => (bif k % 3 == 0 then [] else [v * (3 - 2 * ((k % 3 : Nat) : Int))]) ++ decN n (v + 1) (k / 3)
def allN (n : Nat) : List (List Int) := (List.range (3 ^ n)).map (decN n 1)
def visN (n : Nat) : List (List Int) := [] :: visL n 1 []
def ndB : List (List Int) → Bool
  | [] => true
  | x :: l => !l.contains x && ndB l
theorem ndB_iff : ∀ {l : List (List Int)}, ndB l = true → l.Nodup
  | [], _ => List.nodup_nil
  | x :: l, h => by
    unfold ndB at h
    rw [Bool.and_eq_true, Bool.not_eq_true'] at h
    refine List.nodup_cons.2 ⟨fun hx => ?_, ndB_iff h.2⟩
    rw [← List.contains_iff_mem, h.1] at hx; cases hx
def tabB (n : Nat) : Bool := (visN n).all (clauseB (n : Int)) && ndB (visN n) && (visN n).all (fun c => (allN n).contains c) && (allN n).all (fun c => (visN n).contains c)
set_option maxRecDepth 100000 in
theorem tab0 : tabB 0 = true := by decide +kernel
set_option maxRecDepth 100000 in
theorem tab1 : tabB 1 = true := by decide +kernel
set_option maxRecDepth 100000 in
theorem tab2 : tabB 2 = true := by decide +kernel
set_option maxRecDepth 100000 in
theorem tab3 : tabB 3 = true := by decide +kernel
set_option maxRecDepth 100000 in
theorem tab4 : tabB 4 = true := by decide +kernel
set_option maxRecDepth 100000 in
theorem tab5 : tabB 5 = true := by decide +kernel
theorem tab_all {n : Nat} (h : n ≤ 5) : tabB n = true := by
  match n, h with
  | 0, _ => exact tab0
  | 1, _ => exact tab1
  | 2, _ => exact tab2
  | 3, _ => exact tab3
  | 4, _ => exact tab4
  | 5, _ => exact tab5
theorem tab_parts {n : Nat} (h : n ≤ 5) : (∀ c ∈ visN n, IsC (n : Int) c) ∧ (visN n).Nodup ∧ ∀ c, c ∈ visN n ↔ c ∈ allN n := by
  have := tab_all h
  unfold tabB at this
  rw [Bool.and_eq_true, Bool.and_eq_true, Bool.and_eq_true, List.all_eq_true, List.all_eq_true, List.all_eq_true] at this
  obtain ⟨⟨⟨h1, h2⟩, h3⟩, h4⟩ := this
  exact ⟨fun c hc => clauseB_iff.1 (h1 c hc), ndB_iff h2, fun c => ⟨fun hc => List.contains_iff_mem.1 (h3 c hc), fun hc => List.contains_iff_mem.1 (h4 c hc)⟩⟩
end Go.PF
