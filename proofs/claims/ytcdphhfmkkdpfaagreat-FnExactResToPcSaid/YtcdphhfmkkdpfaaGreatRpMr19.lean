/- Ranges over slices.Backward: a call of yield, the list that is yielded. -/
import Derived.Test.YtcdphhfmkkdpfaaGreatRpMr18
namespace Go.Mr
open Go.RowKit Go.Pu

section
variable {P : Program} {N : Nat} {Q : FQ} {f : Fm} {w : World} {δ : List Nat} {ops : Array Oper} {o : Oper} {rest : List Oper}
theorem E.yield {d : Option Tmp} {ty : TypeId} {pos : String} {aft : Array Edge} {gd : Option (Nat × Bool)} {x : Operand} {xs : Array Operand} {ts : Array TypeId} {l : Nat} {args : Array Value}
    (hx : ev f x = .func (.yield l) #[] #[]) (ha : xs.map (ev f) = args) : (execOp (ev f) ⟨d, .call ⟨.value x, xs, ts⟩, ty, pos, aft, gd⟩).run P w = (Instr.yield l args).run P w := by
  subst ha
  simp [execOp, resolve, invoke, hx, Deferred.ofValue]

theorem FL.yield {d l : Nat} {args : List Value} {R : Ending → World → Prop} (hw : wF ops f o = true) (hd : o.dst = some d) (hlt : Nat.blt d N = true)
    (hr : (execOp (ev f) o).run P w = (Instr.yield l args.toArray).run P w) (hy : ∀ n, YieldAt Fence.wide n P l args.toArray w R)
    (h : ∀ e w', R e w' → ∃ v, e = .returned v ∧ FL (ρ := none) (δ := δ) P N ops Q rest (upd f d v) w') : FL (ρ := none) (δ := δ) P N ops Q (o :: rest) f w := by
  intro n a ha
  refine wpListIn_step fun K hK => ?_
  rw [ha.yielded, if_pos (show Region.wanted o (yF ops f) = true from hw)]
  refine ⟨fun _ _ => trivial, ?_⟩
  show Oper.uponIn (wideR none) n P o a K (lift (δ := δ) N Q) ((Oper.semAt none a.eval o).run P w)
  obtain ⟨fn, tmps, assign, body, hyr, hR⟩ := hy (n - 1)
  rw [ha.eval, semAt_go (by intro d e; cases e) (hr.trans hyr), Oper.uponIn_round, hd]
  refine ⟨(fun h => by cases h), hR.mono fun e w' r => ?_⟩
  obtain ⟨v, rfl, hv⟩ := h e w' r
  exact hK _ _ (hv n _ (ha.put (nblt hlt) v))
end

end Go.Mr
