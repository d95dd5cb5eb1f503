/- The top level of a function that ranges over a function. -/
import Derived.Test.YtdkfkiifbagnnaaMr16
namespace Go.Mr
open Go.RowKit Go.Pu

/-- a piece of code with a post on the act itself -/
def FT {δ : List Nat} (P : Program) (N : Nat) (c : Code) (Q : Exit → Act → World → Prop) (f : Fm) (w : World) : Prop :=
  ∀ a, Fr (δ := δ) N a f → c.wpIn Fence.wide 2 P Q a w
section
variable {δ : List Nat} {P : Program} {N : Nat} {Q : Exit → Act → World → Prop} {f : Fm} {w : World}
theorem FT.last {c : Code} (h : FW (ρ := none) (δ := δ) P N c (fun e f w => ∀ a, Fr (δ := δ) N a f → Q e a w) f w) : FT (δ := δ) P N c Q f w := by
  intro a ha
  refine wpIn_mono (h 2 a ha) ?_
  rintro e a' w' ⟨f', hf, q⟩
  exact q a' hf
theorem FT.seq {x y : Code} (h : FW (ρ := none) (δ := δ) P N x (thenF (fun f w => FT (δ := δ) P N y Q f w) (fun e f w => ∀ a, Fr (δ := δ) N a f → Q e a w)) f w) : FT (δ := δ) P N (.seq x y) Q f w := by
  intro a ha
  refine wpIn_seq (wpIn_mono (h 2 a ha) ?_)
  rintro e a' w' ⟨f', hf, q⟩
  cases e <;> exact q a' hf
/-- from the body to the call -/
theorem calls_goM {P : Program} {fid N : Nat} {fn : Func} {c : Code} {args : List Value} {w : World} {R : Ending → World → Prop}
    (hf : P.funcs[fid]? = some fn) (hb : fn.body = some c) (hn : fn.ntmps = N) (hsz : Nat.ble args.length N = true)
    (h : FT (δ := []) P N c (bodyPostM Fence.wide 2 P fn R) (fr0 args) w) : Calls P fid args.toArray w R := by
  have hle : args.length ≤ N := Nat.le_of_ble_eq_true hsz
  subst hn
  refine (callsIn_wide (n := 2)).1 (callsIn_of_wp_marks hf hb trivial (h _ ⟨rfl, by simp; omega, ?_⟩))
  simpa using fr0_ok args fn.ntmps
/-- the end, no mark -/
theorem ends0 {fn : Func} {R : Ending → World → Prop} (h : ∀ a, Fr (δ := []) N a f → ∃ v, (results fn a.tmps).run P w = .ok v w ∧ R (.returned v) w) {e : Exit} (he : e = .normal ∨ e = .ret) :
    ∀ a, Fr (δ := []) N a f → bodyPostM Fence.wide 2 P fn R e a w := by
  intro a ha
  have hd : a.defers = [] := ha.dfr
  rcases he with rfl | rfl <;> (show LeavesInM Fence.wide 2 P fn a.tmps R a.defers .returning w; rw [hd]; exact h a ha)
/-- the end, with a mark: its block is shut -/
theorem ends1 {fn : Func} {R : Ending → World → Prop} {D : Nat} (hD : w.heap[D]? = some (.deferred (some [])))
    (h : ∀ a, Fr (δ := [D]) N a f → ∃ v, (results fn a.tmps).run P (w.putObj D (.deferred none)) = .ok v (w.putObj D (.deferred none)) ∧ R (.returned v) (w.putObj D (.deferred none))) {e : Exit} (he : e = .normal ∨ e = .ret) :
    ∀ a, Fr (δ := [D]) N a f → bodyPostM Fence.wide 2 P fn R e a w := by
  intro a ha
  have hd : a.defers = [dmark D] := ha.dfr
  have key : LeavesInM Fence.wide 2 P fn a.tmps R a.defers .returning w := by
    rw [hd]
    exact ⟨by simp, .inl ⟨D, _, rfl, run_takeDeferred hD, h a ha⟩⟩
  rcases he with rfl | rfl <;> exact key
end
end Go.Mr
