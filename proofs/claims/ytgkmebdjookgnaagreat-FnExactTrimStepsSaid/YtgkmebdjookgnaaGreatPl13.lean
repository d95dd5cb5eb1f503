/- Up to a place: the needed steps there. -/
import Derived.Test.YtgkmebdjookgnaaGreatPl11
set_option linter.unusedVariables false
namespace Go.PF
open Go.Pu
theorem foldl_flat {α β : Type} {g : α → List β} : ∀ {l : List α} {s : List β}, l.foldl (fun s k => s ++ g k) s = s ++ l.flatMap g := by
  intro l
  induction l with
  | nil => intro s; simp
  | cons x l ih => intro s; rw [List.foldl_cons, ih, List.flatMap_cons, List.append_assoc]
def needTo (S : List ResStep) (k : Nat) : List Nat := (List.range k).filter (bAt (mask S))
theorem needTo_all (S : List ResStep) : needTo S S.length = need S := rfl
theorem needTo_succ (S : List ResStep) (k : Nat) : needTo S (k + 1) = bif bAt (mask S) k then needTo S k ++ [k] else needTo S k := by
  unfold needTo
  rw [List.range_succ, List.filter_append]
  cases h : bAt (mask S) k <;> simp [h]
theorem needTo_le (S : List ResStep) (k : Nat) : (needTo S k).length ≤ k := by
  have := List.length_filter_le (bAt (mask S)) (List.range k); unfold needTo; simpa using this
theorem mask_ix {S : List ResStep} {i : Nat} {x : ResStep} (hx : S[i]? = some x) : ix (mask S) (i : Int) = some (bAt (mask S) i) := by
  have hi := (List.getElem?_eq_some_iff.1 hx).1
  rw [ix_get]; unfold bAt; rw [List.getElem?_eq_getElem (by rw [mask_len]; exact hi)]; rfl
theorem needI_at {S : List ResStep} {j : Nat} {k : Int} (hj : (needI S)[j]? = some k) : ∃ i x, (need S)[j]? = some i ∧ k = ((i : Nat) : Int) ∧ S[i]? = some x ∧ bAt (mask S) i = true := by
  unfold needI at hj
  rw [List.getElem?_map] at hj
  cases hn : (need S)[j]? with
  | none => rw [hn] at hj; cases hj
  | some i =>
    rw [hn] at hj
    have hm := List.mem_of_getElem? hn
    unfold need at hm
    rw [List.mem_filter, List.mem_range] at hm
    exact ⟨i, S[i], rfl, by simpa using hj.symm, List.getElem?_eq_getElem hm.1, hm.2⟩
theorem needI_length (S : List ResStep) : (needI S).length = (need S).length := by unfold needI; simp
theorem chk_lem {A : Type} {xs : List A} (h : xs.length ≤ 1000000) : chk (len xs) = some xs.length := by
  unfold chk; rw [if_pos (by rw [len_eq]; omega), len_eq]; simp
end Go.PF
