/- Ranges over slices.Backward: a call of yield, the list that is yielded. -/
import Derived.Test.YtdkfkiifbagnnaaMr18
namespace Go.Mr
open Go.RowKit Go.Pu

section
variable {P : Program} {N : Nat} {Q : FQ} {f : Fm} {w : World} {δ : List Nat} {ops : Array Oper} {o : Oper} {rest : List Oper}
theorem FT.seqT {x y : Code} {Q : Exit → Act → World → Prop} (h : FT (δ := δ) P N x (Exit.then (fun a w => y.wpIn Fence.wide 2 P Q a w) Q) f w) : FT (δ := δ) P N (.seq x y) Q f w :=
  fun a ha => wpIn_seq (h a ha)
theorem FT.then_ {y : Code} {Q : Exit → Act → World → Prop} (h : FT (δ := δ) P N y Q f w) : ∀ a, Fr (δ := δ) N a f → Exit.then (fun a w => y.wpIn Fence.wide 2 P Q a w) Q .normal a w := h

theorem E.yield {d : Option Tmp} {ty : TypeId} {pos : String} {aft : Array Edge} {gd : Option (Nat × Bool)} {x : Operand} {xs : Array Operand} {ts : Array TypeId} {l : Nat} {args : Array Value}
    (hx : ev f x = .func (.yield l) #[] #[]) (ha : xs.map (ev f) = args) : (execOp (ev f) ⟨d, .call ⟨.value x, xs, ts⟩, ty, pos, aft, gd⟩).run P w = (Instr.yield l args).run P w := by
  subst ha
  simp [execOp, resolve, invoke, hx, Deferred.ofValue]

theorem FL.yield {d l : Nat} {args : List Value} {R : Ending → World → Prop} (hw : wF ops f o = true) (hd : o.dst = some d) (hlt : Nat.blt d N = true)
    (hr : (execOp (ev f) o).run P w = (Instr.yield l args.toArray).run P w) (hy : ∀ n, YieldAt Fence.wide n P l args.toArray w R)
    (h : ∀ e w', R e w' → ∃ v, e = .returned v ∧ FL (ρ := none) (δ := δ) P N ops Q rest (upd f d v) w') : FL (ρ := none) (δ := δ) P N ops Q (o :: rest) f w := by
  intro n a ha
  refine wpListIn_step fun K hK => ?_
  rw [ha.yielded, if_pos (show Region.wanted o (yF ops f) = true from hw)]
  refine ⟨fun _ _ => trivial, ?_⟩
  show Oper.uponIn (wideR none) n P o a K (lift (δ := δ) N Q) ((Oper.semAt none a.eval o).run P w)
  obtain ⟨fn, tmps, assign, body, hyr, hR⟩ := hy (n - 1)
  rw [ha.eval, semAt_go (by intro d e; cases e) (hr.trans hyr), Oper.uponIn_round, hd]
  refine ⟨(fun h => by cases h), hR.mono fun e w' r => ?_⟩
  obtain ⟨v, rfl, hv⟩ := h e w' r
  exact hK _ _ (hv n _ (ha.put (nblt hlt) v))
end

/-- what slices.Backward yields: the values, with what they say -/
theorem back_list {A : Type} {Hs : GH} {En : Enc A} {k : Nat} {v : Value} {xs : List A} (hv : RSl Hs En k v xs) (mkv : List Value → Value) :
    ∃ L : List (Value × A × Nat), L.map Prod.snd = xs.zipIdx.reverse ∧ ∀ j a, L[j]? = some a → a.2.2 + j + 1 = xs.length ∧
      ∃ p cs, PtrOf k v (a.2.2 : Int) p ∧ cs.length = k ∧ CAt Hs p cs ∧ En.rel Hs cs a.2.1 ∧ a.1 = mkv cs := by
  have h1 : ∀ i : Nat, ∃ u, ∀ x, xs[i]? = some x → ∃ p cs, PtrOf k v (i : Int) p ∧ cs.length = k ∧ CAt Hs p cs ∧ En.rel Hs cs x ∧ u = mkv cs := by
    intro i
    cases hx : xs[i]? with
    | none => exact ⟨undef, nofun⟩
    | some x =>
      obtain ⟨p, cs, a, b, c, d⟩ := hv.at (ix_nat hx)
      exact ⟨mkv cs, fun x' h => by cases h; exact ⟨p, cs, a, b, c, d, rfl⟩⟩
  have h2 := Classical.axiomOfChoice h1
  obtain ⟨g, hg⟩ := h2
  refine ⟨xs.zipIdx.reverse.map fun p => (g p.2, p), by simp [Function.comp_def], ?_⟩
  intro j a ha
  rw [List.getElem?_map] at ha
  cases hz : xs.zipIdx.reverse[j]? with
  | none => rw [hz] at ha; cases ha
  | some p =>
    rw [hz] at ha
    cases ha
    have hj : j < xs.length := by have := (List.getElem?_eq_some_iff.1 hz).1; simpa using this
    rw [List.getElem?_reverse (by simpa using hj)] at hz
    simp only [List.length_zipIdx, List.getElem?_zipIdx] at hz
    cases hx : xs[xs.length - 1 - j]? with
    | none => rw [hx] at hz; cases hz
    | some x =>
      rw [hx] at hz
      simp at hz
      subst hz
      exact ⟨by show xs.length - 1 - j + j + 1 = xs.length; omega, hg _ _ hx⟩
end Go.Mr
