/- The top level of a function that ranges over a function. -/
import Derived.Test.YtcdphhfmkkdpfaaGreatRpMr16
namespace Go.Mr
open Go.RowKit Go.Pu

def FT {δ : List Nat} (P : Program) (N : Nat) (c : Code) (Q : Exit → Act → World → Prop) (f : Fm) (w : World) : Prop :=
  ∀ a, Fr (δ := δ) N a f → c.wpIn Fence.wide 2 P Q a w
section
variable {δ : List Nat} {P : Program} {N : Nat} {Q : Exit → Act → World → Prop} {f : Fm} {w : World}
theorem FT.seq {x y : Code} (h : FW (ρ := none) (δ := δ) P N x (thenF (fun f w => FT (δ := δ) P N y Q f w) (fun e f w => ∀ a, Fr (δ := δ) N a f → Q e a w)) f w) : FT (δ := δ) P N (.seq x y) Q f w := by
  intro a ha
  refine wpIn_seq (wpIn_mono (h 2 a ha) ?_)
  rintro e a' w' ⟨f', hf, q⟩
  cases e <;> exact q a' hf
end
end Go.Mr
