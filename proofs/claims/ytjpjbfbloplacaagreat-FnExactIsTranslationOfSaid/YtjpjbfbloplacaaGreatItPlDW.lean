/- DropWeakenings: the law. -/
import Derived.Test.YtjpjbfbloplacaaGreatItPl8
set_option linter.unusedVariables false
namespace Go.PF
open Go.Pu
theorem bdR_foldI {S X α β : Type} {body : Nat → α → S → Option (Lp S X)} {k : S → Option β} {lx : X → Option β} {r : Option β} (g : S → α → S) {l : List α} {s : S} (I : Nat → S → Prop) (h0 : I 0 s)
    (h : ∀ i x t, l[i]? = some x → I i t → body i x t = some (.nx (g t x)) ∧ I (i + 1) (g t x)) (hk : I l.length (l.foldl g s) → k (l.foldl g s) = r) : bdR (forL l body s) k lx = r := by
  obtain ⟨h1, h2⟩ := forL_foldI g I h0 h
  rw [h1, bdR_go]; exact hk h2
def toA (to : List Int) (k : Int) : Int := (to[k.toNat]?).getD 0
structure WvOk (F : Cnf) (i : Nat) (w : List Int × List ResStep) : Prop where
  len : w.1.length = i
  le : w.2.length ≤ i
  inr : ∀ k ∈ w.1, 0 ≤ k ∧ k < w.2.length
  isC : ∀ s ∈ w.2, IsC F.vars s.clause
theorem WvOk.to {F : Cnf} {i : Nat} {w : List Int × List ResStep} (h : WvOk F i w) {k : Int} (h0 : 0 ≤ k) (h1 : k < i) :
    ix w.1 k = some (toA w.1 k) ∧ 0 ≤ toA w.1 k ∧ toA w.1 k < w.2.length := by
  obtain ⟨x, hx, hg⟩ := ix_of (xs := w.1) h0 (by rw [h.len]; exact h1)
  have e : toA w.1 k = x := by unfold toA; rw [hg]; rfl
  rw [e]
  exact ⟨hx, h.inr x (List.mem_of_getElem? hg)⟩
theorem WvOk.st {F : Cnf} {i : Nat} {w : List Int × List ResStep} (h : WvOk F i w) {k : Int} (h0 : 0 ≤ k) (h1 : k < w.2.length) :
    ∃ y, ix w.2 k = some y ∧ y.clause = clAt w.2 k ∧ IsC F.vars (clAt w.2 k) := by
  obtain ⟨y, hy, hg⟩ := ix_of (xs := w.2) h0 h1
  have e : clAt w.2 k = y.clause := by unfold clAt; rw [hg]
  exact ⟨y, hy, e.symm, by rw [e]; exact h.isC y (List.mem_of_getElem? hg)⟩
end Go.PF
