/- Pointers to sealed variables. -/
import Derived.Test.YtcdphhfmkkdpfaaGreatRpMr19
import Derived.Test.YtcdphhfmkkdpfaaGreatRpMr14
namespace Go.Mr
open Go.RowKit Go.Pu
section
variable {δ : List Nat} {P : Program} {N : Nat} {f : Fm} {w : World} {ops : Array Oper} {S : World → Prop} {M : Fm → World → Prop} {n : Nat} {ls l' : Array Bool}
theorem FA.skip {i : Nat} {o : Oper} (hi : ops[i]? = some o) (hs : Region.noSelect ops = true) (hf : Region.free .any ops ls i = true) (hr : (Region.ready .any ops ls).contains i = true)
    (hl : ls.setIfInBounds i true = l') (hS : S w) (hw : wF ops f o = false) (hlt : (o.dst.all fun t => Nat.blt t N) = true)
    (h : FA (δ := δ) P N ops S M n l' (putF f o.dst undef) w) : FA (δ := δ) P N ops S M (n + 1) ls f w := by
  subst hl
  intro a ha
  refine wpAnyH_take hi hs hf hr (fun c a w hq => ?_) (.inr ⟨by rw [ha.yielded]; exact hw, rfl⟩) hS ?_
  · obtain ⟨_, _, h0, _⟩ := hq; cases h0
  · exact h _ (ha.putF (nbltO hlt) undef)
end
end Go.Mr
