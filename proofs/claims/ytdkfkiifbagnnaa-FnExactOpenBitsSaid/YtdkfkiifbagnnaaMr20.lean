/- Pointers to sealed variables. -/
import Derived.Test.YtdkfkiifbagnnaaMr19
import Derived.Test.YtdkfkiifbagnnaaMr14
namespace Go.Mr
open Go.RowKit Go.Pu
def eP {α : Type} (E : Enc α) (k : Nat) : Enc α := ⟨fun H cs x => ∃ p cs', cs = [.pointer (some p)] ∧ cs'.length = k ∧ CAt H p cs' ∧ E.rel H cs' x,
  by rintro H H' cs x hi ⟨p, cs', h1, h2, h3, h4⟩; exact ⟨p, cs', h1, h2, h3.mono hi, E.mono hi h4⟩,
  by rintro H cs x ⟨p, cs', rfl, _⟩; simp [Value.oneCell'], by rintro H cs x ⟨p, cs', rfl, _⟩ b hb; simp [bl, neb] at hb⟩

theorem New.nilv {H : GH} : New H [.slice none 0 0] := fun b hb => by simp [bl, neb] at hb
/-! drawn regions with guards -/
section
variable {δ : List Nat} {P : Program} {N : Nat} {f : Fm} {w : World} {ops : Array Oper} {S : World → Prop} {M : Fm → World → Prop} {n : Nat} {ls l' : Array Bool}
theorem FA.skip {i : Nat} {o : Oper} (hi : ops[i]? = some o) (hs : Region.noSelect ops = true) (hf : Region.free .any ops ls i = true) (hr : (Region.ready .any ops ls).contains i = true)
    (hl : ls.setIfInBounds i true = l') (hS : S w) (hw : wF ops f o = false) (hlt : (o.dst.all fun t => Nat.blt t N) = true)
    (h : FA (δ := δ) P N ops S M n l' (putF f o.dst undef) w) : FA (δ := δ) P N ops S M (n + 1) ls f w := by
  subst hl
  intro a ha
  refine wpAnyH_take hi hs hf hr (fun c a w hq => ?_) (.inr ⟨by rw [ha.yielded]; exact hw, rfl⟩) hS ?_
  · obtain ⟨_, _, h0, _⟩ := hq; cases h0
  · exact h _ (ha.putF (nbltO hlt) undef)
theorem E.asB {o : Oper} {a b : Bool} (h : (execOp (ev f) o).run P w = .ok (.value (.bool a)) w) (e : a = b) : (execOp (ev f) o).run P w = .ok (.value (.bool b)) w := e ▸ h
end
end Go.Mr
