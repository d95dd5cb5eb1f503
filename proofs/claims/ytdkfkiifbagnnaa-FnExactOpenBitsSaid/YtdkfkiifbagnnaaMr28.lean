/- Short words for the walks. -/
import Derived.Test.YtdkfkiifbagnnaaMr27
namespace Go.Mr
open Go.RowKit Go.Pu
abbrev vI (n : Int) : Value := .int .i64 n
abbrev vB (b : Bool) : Value := .bool b
abbrev vP (a : Addr) : Value := .pointer (some a)
theorem wY {ops : Array Oper} {f : Fm} {o : Oper} {j t : Nat} {b c : Bool} (hc : c = b) (hg : o.guard = some (j, b) := by rfl) (hj : (ops[j]?).bind (·.dst) = some t := by rfl) (hv : f t = .bool c := by rfl) : wF ops f o = true := wF_yes hg hj hv hc
theorem wN {ops : Array Oper} {f : Fm} {o : Oper} {j t : Nat} {b c : Bool} (hc : c = !b) (hg : o.guard = some (j, b) := by rfl) (hj : (ops[j]?).bind (·.dst) = some t := by rfl) (hv : f t = .bool c := by rfl) : wF ops f o = false := wF_no hg hj hv hc
abbrev vA (xs : Array Value) : Value := .agg xs
theorem I0 {H : GH} : Inc H H := Inc.rfl H
theorem oC {c : Value} {l : List Value} (h : c.oneCell' = true) (hl : ∀ u ∈ l, u.oneCell' = true) : ∀ u ∈ c :: l, u.oneCell' = true := ones_cons h hl
theorem nB {m n : Nat} (h : Nat.ble m n = true) : m ≤ n := Nat.le_of_ble_eq_true h
abbrev vN : Value := .slice none 0 0
section
variable {ρ : Option Nat} {δ : List Nat} {P : Program} {N : Nat} {Q : FQ} {f : Fm} {w : World} {ops : Array Oper} {o : Oper} {rest : List Oper} {C : World → Prop} {Qd : Fm → Prop}
theorem FW.sr {id : Nat} {l : List Oper} {y : Code} (h : FL (ρ := ρ) (δ := δ) P N l.toArray (thenF (fun f w => FW (ρ := ρ) (δ := δ) P N y Q f w) Q) l f w) : FW (ρ := ρ) (δ := δ) P N (.seq (.region id l.toArray false) y) Q f w := FW.seq (FW.region h)
theorem FL.mv {d : Nat} {v : Value} {x : Operand} {ty : TypeId} {pos : String} {aft : Array Edge} {gd : Option (Nat × Bool)} (hx : ev f x = v) (h : FL (ρ := ρ) (δ := δ) P N ops Q rest (upd f d v) w)
    (hw : wF ops f ⟨some d, .move x, ty, pos, aft, gd⟩ = true := by rfl) (hlt : Nat.blt d N = true := by rfl) : FL (ρ := ρ) (δ := δ) P N ops Q (⟨some d, .move x, ty, pos, aft, gd⟩ :: rest) f w := FL.val hw rfl hlt (E.move hx) h
theorem FL.as {d : Nat} {v : Value} {x : Operand} {ty : TypeId} {pos : String} {aft : Array Edge} {gd : Option (Nat × Bool)} (hx : ev f x = v) (h : FL (ρ := ρ) (δ := δ) P N ops Q rest (upd f d v) w)
    (hw : wF ops f ⟨some d, .assign x, ty, pos, aft, gd⟩ = true := by rfl) (hlt : Nat.blt d N = true := by rfl) : FL (ρ := ρ) (δ := δ) P N ops Q (⟨some d, .assign x, ty, pos, aft, gd⟩ :: rest) f w := FL.val hw rfl hlt (E.assign hx) h
theorem FL.c {d fid : Nat} {args : Array Value} {R : Ending → World → Prop} (hr : (execOp (ev f) o).run P w = .ok (.enter fid args) w) (hc : Calls P fid args w R)
    (h : ∀ e w', R e w' → ∃ v, e = .returned v ∧ FL (ρ := ρ) (δ := δ) P N ops Q rest (upd f d v) w') (hw : wF ops f o = true := by rfl) (hd : o.dst = some d := by rfl) (hlt : Nat.blt d N = true := by rfl) : FL (ρ := ρ) (δ := δ) P N ops Q (o :: rest) f w := FL.call hw hd hlt hr hc h
theorem FD.v {d : Nat} {v : Value} (hr : ∀ w, C w → (execOp (ev f) o).run P w = .ok (.value v) w) (h : FD (δ := δ) P N ops C Qd rest (upd f d v))
    (hw : wF ops f o = true := by rfl) (hd : o.dst = some d := by rfl) (hlt : Nat.blt d N = true := by rfl) : FD (δ := δ) P N ops C Qd (o :: rest) f := FD.val hw hd hlt hr h
theorem FD.y {d : Nat} {v : Value} (hw : wF ops f o = true) (hr : ∀ w, C w → (execOp (ev f) o).run P w = .ok (.value v) w) (h : FD (δ := δ) P N ops C Qd rest (upd f d v))
    (hd : o.dst = some d := by rfl) (hlt : Nat.blt d N = true := by rfl) : FD (δ := δ) P N ops C Qd (o :: rest) f := FD.val hw hd hlt hr h
theorem FL.y {d : Nat} {v : Value} {w' : World} (hw : wF ops f o = true) (hr : (execOp (ev f) o).run P w = .ok (.value v) w') (h : FL (ρ := ρ) (δ := δ) P N ops Q rest (upd f d v) w')
    (hd : o.dst = some d := by rfl) (hlt : Nat.blt d N = true := by rfl) : FL (ρ := ρ) (δ := δ) P N ops Q (o :: rest) f w := FL.val hw hd hlt hr h
end
section
variable {δ : List Nat} {P : Program} {N : Nat} {f : Fm} {w w' : World} {ops : Array Oper} {B : World → Prop} {M : Fm → World → Prop} {ps : List (List Nat × (World → Prop))} {n : Nat} {ls l' : Array Bool}
theorem FB.s {i : Nat} {o : Oper} (k m : Nat) (hS : SP B ps ls w) (hw : wF ops f o = false) {d : Nat} (h : FB (δ := δ) P N ops B M ps n (bs k m) (upd f d undef) w)
    (hi : ops[i]? = some o := by rfl) (hd : o.dst = some d := by rfl) (hlt : Nat.blt d N = true := by rfl) (hs : Region.noSelect ops = true := by kernel_rfl) (hf : Region.free .any ops ls i = true := by kernel_rfl)
    (hr : (Region.ready .any ops ls).contains i = true := by kernel_rfl) (hl : ls.setIfInBounds i true = bs k m := by kernel_rfl) (hc : certB ops [] i ls ps = true := by kernel_rfl) : FB (δ := δ) P N ops B M ps (n + 1) ls f w :=
  FB.skip hi hs hf hr hl hc hS hw hd hlt h
theorem FB.S {o : Oper} (i k m : Nat) (hB : B w) {j t : Nat} {b c : Bool} (hw : c = !b) {d : Nat} (h : FB (δ := δ) P N ops B M [] n (bs k m) (upd f d undef) w)
    (hi : ops[i]? = some o := by rfl) (hg : o.guard = some (j, b) := by rfl) (hj : (ops[j]?).bind (·.dst) = some t := by rfl) (hv : f t = .bool c := by rfl) (hd : o.dst = some d := by rfl) (hlt : Nat.blt d N = true := by rfl) (hs : Region.noSelect ops = true := by kernel_rfl) (hf : Region.free .any ops ls i = true := by kernel_rfl)
    (hr : (Region.ready .any ops ls).contains i = true := by kernel_rfl) (hl : ls.setIfInBounds i true = bs k m := by kernel_rfl) (hc : certB ops [] i ls [] = true := by kernel_rfl) : FB (δ := δ) P N ops B M [] (n + 1) ls f w :=
  FB.skip hi hs hf hr hl hc (SP.nil hB) (wF_no hg hj hv hw) hd hlt h
theorem FB.T {d : Nat} {o : Oper} {v : Value} (i k m : Nat) (hi : ops[i]? = some o) (hB : B w) (hw : wF ops f o = true) (hrun : ∀ w', B w' → (execOp (ev f) o).run P w' = .ok (.value v) w')
    (h : FB (δ := δ) P N ops B M [] n (bs k m) (upd f d v) w) (hd : o.dst = some d := by rfl) (hlt : Nat.blt d N = true := by rfl) (hs : Region.noSelect ops = true := by kernel_rfl) (hf : Region.free .any ops ls i = true := by kernel_rfl)
    (hr : (Region.ready .any ops ls).contains i = true := by kernel_rfl) (hl : ls.setIfInBounds i true = bs k m := by kernel_rfl) (hc : certB ops [] i ls [] = true := by kernel_rfl) : FB (δ := δ) P N ops B M [] (n + 1) ls f w :=
  FB.take hi hs hf hr hl hc (SP.nil hB) hw hd hlt hrun h
end
end Go.Mr
