/- Maps that are written no more: sealed, read from any world. -/
import Derived.Test.YtdkfkiifbagnnaaMr25
set_option linter.unusedVariables false
namespace Go.Mr
open Go.RowKit Go.Pu
/-- the value v is a map that lies sealed -/
def MAt {K V : Type} (H : GH) (ek : K → Value) (en : V → Value) (v : Value) (m : List (K × V)) : Prop := ∃ b o, v = .map (some b) ∧ H b = some o ∧ MapOf ek en o m
section
variable {H0 H H' : GH} {w0 w : World} {l : List MO} {P : Program} {K V : Type} {ek : K → Value} {en : V → Value} {kt et t : TypeId} {o : Obj} {m : List (K × V)} {i b : Nat} {v : Value}
theorem chk_intk {k : IntKind} (h : ∀ w, (underlying kt).run P w = .ok (.int k) w) (n : Nat) (e : Bool) (a : Int) (w : World) : (Instr.checkKey e (n + 1) kt (.int k a)).run P w = .ok () w := by
  simp [Instr.checkKey, h]
theorem KeyNow.intk {k : IntKind} (h : ∀ w, (underlying kt).run P w = .ok (.int k) w) : KeyNow P kt (Value.int k) := by
  refine ⟨⟨_, h, fun a b => ?_⟩, fun a b h => by simpa using h, fun a => ?_, fun e a w => chk_intk h 9999 e a w⟩
  · simp [Instr.sameNow]
  · simp [Instr.sameBits]
theorem ba_eq {a b : ByteArray} : (a == b) = true ↔ a = b := by
  cases a with | mk a => cases b with | mk b =>
  constructor
  · intro h
    have h2 : (a == b) = true := h
    rw [eq_of_beq h2]
  · rintro h
    cases h
    show (a == a) = true
    exact beq_self_eq_true a
theorem KeyNow.str (h : ∀ w, (underlying kt).run P w = .ok .string w) : KeyNow P kt Value.string := by
  refine ⟨⟨_, h, fun a b => ?_⟩, fun a b h => ba_eq.1 h, fun a => ?_, fun e a w => ?_⟩
  · simp [Instr.sameNow]
  · simp only [Instr.sameBits]; exact ba_eq.2 rfl
  · unfold Instr.checkKey; simp [h]
theorem MAt.mono (h : MAt H ek en v m) (hi : Inc H H') : MAt H' ek en v m := by obtain ⟨b, o, h1, h2, h3⟩ := h; exact ⟨b, o, h1, hi _ _ h2, h3⟩
theorem MAt.one (h : MAt H ek en v m) : v.oneCell' = true := by obtain ⟨b, o, rfl, _⟩ := h; rfl
theorem MAt.cells (h : MAt H ek en v m) : v.cells = #[v] := by obtain ⟨b, o, rfl, _⟩ := h; rfl
theorem St.sealMap (S : St H0 w0 H w l) {l' : List MO} (hi : l[i]? = some (.raw b o)) (hm : MapOf ek en o m) (hl : l.eraseIdx i = l') :
    ∃ H', St H0 w0 H' w l' ∧ Inc H H' ∧ MAt H' ek en (.map (some b)) m := by
  subst hl
  have hb := S.rawAt hi
  obtain ⟨H', h1, h2, h3⟩ := S.sealedS hi (fun b' ob e1 e2 => by
    obtain ⟨es, c, rfl, _⟩ := hm
    simp only [MO.blk, Option.some.injEq] at e1; subst e1
    rw [hb] at e2; cases e2; rfl)
  exact ⟨H', h1, h2, b, o, rfl, h3 b o rfl hb, hm⟩
theorem MAt.get [BEq K] (h : MAt H ek en v m) (hs : Sl H w) (ht : ∀ w, (underlying t).run P w = .ok (.map kt et) w) (kn : KeyNow P kt ek) {z : V} (hz : ∀ w, (zeroValue et).run P w = .ok (en z) w) (k : K) :
    (Instr.lookup t v (ek k) false).run P w = .ok (en ((mget m k).getD z)) w := by
  obtain ⟨b, o, rfl, hb0, es, c, rfl, he⟩ := h
  have hb := hs _ _ hb0
  obtain ⟨kd, h1, h2⟩ := kn.kd
  have hf := findNow_eq h2 k es.toList m 0 he
  rw [mget_find]
  cases hq : mfind m k with
  | none => rw [hq] at hf; simp [Instr.lookup, ht, getObj, Sem.run, hb, kn.chk, Instr.findKey, h1, hf, hz]
  | some z => rw [hq] at hf; simp [Instr.lookup, ht, getObj, Sem.run, hb, kn.chk, Instr.findKey, h1, hf]
theorem MAt.getOk [BEq K] (h : MAt H ek en v m) (hs : Sl H w) (ht : ∀ w, (underlying t).run P w = .ok (.map kt et) w) (kn : KeyNow P kt ek) {z : V} (hz : ∀ w, (zeroValue et).run P w = .ok (en z) w) (k : K) :
    (Instr.lookup t v (ek k) true).run P w = .ok (.tuple #[en ((mget m k).getD z), .bool (mget m k).isSome]) w := by
  obtain ⟨b, o, rfl, hb0, es, c, rfl, he⟩ := h
  have hb := hs _ _ hb0
  obtain ⟨kd, h1, h2⟩ := kn.kd
  have hf := findNow_eq h2 k es.toList m 0 he
  rw [mget_find]
  cases hq : mfind m k with
  | none => rw [hq] at hf; simp [Instr.lookup, ht, getObj, Sem.run, hb, kn.chk, Instr.findKey, h1, hf, hz]
  | some z => rw [hq] at hf; simp [Instr.lookup, ht, getObj, Sem.run, hb, kn.chk, Instr.findKey, h1, hf]
theorem E.insert {f : Fm} {ty : TypeId} {pos : String} {aft : Array Edge} {gd : Option (Nat × Bool)} {x y q : Operand} {u z v : Value} {w' : World} (hx : ev f x = u) (hy : ev f y = z) (hq : ev f q = v) (h : (Instr.mapUpdate t u z v).run P w = .ok () w') :
    (execOp (ev f) ⟨none, .insert t x y q, ty, pos, aft, gd⟩).run P w = .ok .skip w' := by
  subst hx hy hq; simp [execOp, h]
theorem E.lenMA {f : Fm} {d : Option Tmp} {ty : TypeId} {pos : String} {aft : Array Edge} {gd : Option (Nat × Bool)} {x : Operand} (ht : ∀ w, (underlying t).run P w = .ok (.map kt et) w) (h : MAt H ek en v m) (hs : Sl H w) (hx : ev f x = v) :
    (execOp (ev f) ⟨d, .call ⟨.builtin .len, #[x], #[t]⟩, ty, pos, aft, gd⟩).run P w = .ok (.value (.int .i64 (Pu.len m))) w := by
  obtain ⟨b, o, rfl, hb0, es, c, rfl, he⟩ := h
  have hb := hs _ _ hb0
  have hlen : es.size = m.length := by have := congrArg List.length he; simpa using this
  simp [execOp, resolve, invoke, builtin, Builtin.len_, hx, ht, getObj, Sem.run, hb, goInt, Pu.len, hlen]
end
end Go.Mr
