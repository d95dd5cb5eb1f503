/- Formulas in sealed nodes; a byte as a text; pointers compared with nil. -/
import Derived.Test.YtdkfkiifbagnnaaMr20
import Derived.Test.YtdkfkiifbagnnaaMr36
import Derived.Test.YtdkfkiifbagnnaaObPu7
set_option linter.unusedVariables false
namespace Go.Mr
open Go.RowKit Go.Pu
/-- the value v is the pointer to a formula that lies sealed -/
def FAt (H : GH) : Value → Fo → Prop
  | v, .nil => v = .pointer none
  | v, .node op a b tx => ∃ q va vb, v = .pointer (some q) ∧ CAt H q [.int .u8 op, va, vb, .string tx] ∧ FAt H va a ∧ FAt H vb b
theorem FAt.mono0 {H H' : GH} (hi : Inc H H') : ∀ {v : Value} {t : Fo}, FAt H v t → FAt H' v t := by
  intro v t
  induction t generalizing v with
  | nil => exact id
  | node op a b tx iha ihb =>
    rintro ⟨q, va, vb, h1, h2, h3, h4⟩
    exact ⟨q, va, vb, h1, h2.mono hi, iha h3, ihb h4⟩
theorem FAt.mono {H H' : GH} {v : Value} {t : Fo} (h : FAt H v t) (hi : Inc H H') : FAt H' v t := FAt.mono0 hi h
theorem FAt.nil {H : GH} : FAt H (.pointer none) .nil := rfl
theorem FAt.mk {H : GH} {q : Addr} {va vb : Value} {op : Int} {a b : Fo} {tx : ByteArray} (h : CAt H q [.int .u8 op, va, vb, .string tx]) (ha : FAt H va a) (hb : FAt H vb b) : FAt H (.pointer (some q)) (.node op a b tx) := ⟨q, va, vb, rfl, h, ha, hb⟩
theorem FAt.open {H : GH} {v : Value} {t : Fo} {n : FoN} (h : FAt H v t) (hn : t.get = some n) : ∃ q va vb, v = .pointer (some q) ∧ CAt H q [.int .u8 n.op, va, vb, .string n.text] ∧ FAt H va n.a ∧ FAt H vb n.b := by
  cases t with
  | nil => cases hn
  | node op a b tx => cases hn; exact h
theorem FAt.ptr {H : GH} {v : Value} {t : Fo} (h : FAt H v t) : ∃ p, v = .pointer p := by
  cases t with
  | nil => exact ⟨_, h⟩
  | node => obtain ⟨q, _, _, h, _⟩ := h; exact ⟨_, h⟩
theorem FAt.one {H : GH} {v : Value} {t : Fo} (h : FAt H v t) : v.oneCell' = true := by obtain ⟨p, rfl⟩ := h.ptr; rfl
theorem FAt.cells {H : GH} {v : Value} {t : Fo} (h : FAt H v t) : v.cells = #[v] := by obtain ⟨p, rfl⟩ := h.ptr; rfl
/-- a pointer, and whether it is nil -/
@[reducible] def NilT (v : Value) (b : Bool) : Prop := v = .pointer none ∧ b = true ∨ ∃ q, v = .pointer (some q) ∧ b = false
theorem FAt.isNil {H : GH} {v : Value} {t : Fo} (h : FAt H v t) : NilT v t.isNil := by
  cases t with
  | nil => exact .inl ⟨h, rfl⟩
  | node => obtain ⟨q, _, _, h, _⟩ := h; exact .inr ⟨q, h, rfl⟩
/-- the value v is the pointer to a sealed datum, or nil -/
def PAt {α : Type} (H : GH) (E : Enc α) (v : Value) (x : Option α) : Prop :=
  match x with
  | none => v = .pointer none
  | some y => ∃ q cs, v = .pointer (some q) ∧ CAt H q cs ∧ E.rel H cs y
section
variable {α : Type} {H H' : GH} {E : Enc α} {v : Value} {x : Option α}
theorem PAt.mono (h : PAt H E v x) (hi : Inc H H') : PAt H' E v x := by
  cases x with
  | none => exact h
  | some y => obtain ⟨q, cs, h1, h2, h3⟩ := h; exact ⟨q, cs, h1, h2.mono hi, E.mono hi h3⟩
theorem PAt.nil : PAt H E (.pointer none) none := rfl
theorem PAt.mk {q : Addr} {cs : List Value} {y : α} (h : CAt H q cs) (hr : E.rel H cs y) : PAt H E (.pointer (some q)) (some y) := ⟨q, cs, rfl, h, hr⟩
theorem PAt.open {y : α} (h : PAt H E v x) (hy : x = some y) : ∃ q cs, v = .pointer (some q) ∧ CAt H q cs ∧ E.rel H cs y := by subst hy; exact h
theorem PAt.ptr (h : PAt H E v x) : ∃ p, v = .pointer p := by
  cases x with
  | none => exact ⟨_, h⟩
  | some y => obtain ⟨q, _, h, _⟩ := h; exact ⟨_, h⟩
theorem PAt.one (h : PAt H E v x) : v.oneCell' = true := by obtain ⟨p, rfl⟩ := h.ptr; rfl
theorem PAt.cells (h : PAt H E v x) : v.cells = #[v] := by obtain ⟨p, rfl⟩ := h.ptr; rfl
theorem PAt.isNil (h : PAt H E v x) : NilT v x.isNone := by
  cases x with
  | none => exact .inl ⟨h, rfl⟩
  | some y => obtain ⟨q, _, h, _⟩ := h; exact .inr ⟨q, h, rfl⟩
end
/-- rows of formulas -/
def eFo : Enc Fo := ⟨fun H cs t => ∃ v, cs = [v] ∧ FAt H v t, by rintro H H' cs x hi ⟨v, h1, h2⟩; exact ⟨v, h1, h2.mono hi⟩,
  by rintro H cs x ⟨v, rfl, h⟩ u hu; obtain rfl := List.mem_singleton.1 hu; exact h.one,
  by rintro H cs x ⟨v, rfl, h⟩ b hb; obtain ⟨p, rfl⟩ := h.ptr; simp [bl, neb] at hb⟩
theorem eFo_open {H : GH} {cs : List Value} {t : Fo} (h : eFo.rel H cs t) : ∃ v, cs = [v] ∧ FAt H v t := h
section
variable {P : Program} {f : Fm} {w : World} {d : Option Tmp} {ty : TypeId} {pos : String} {aft : Array Edge} {gd : Option (Nat × Bool)} {x y : Operand} {t t' : TypeId}
theorem run_equalIn_ptr (n : Nat) {e : TypeId} (ht : ∀ w, (underlying t).run P w = .ok (.pointer e) w) {v : Value} {b : Bool} (hv : NilT v b) :
    (Op.equalIn (n + 1) t v (.pointer none)).run P w = .ok b w := by
  rcases hv with ⟨rfl, rfl⟩ | ⟨q, rfl, rfl⟩ <;> simp [Op.equalIn, ht]
theorem E.eqlN {e : TypeId} {v : Value} {b : Bool} (ht : ∀ w, (underlying t).run P w = .ok (.pointer e) w) (h : NilT v b) (hx : ev f x = v) (hy : ev f y = .pointer none) :
    (execOp (ev f) ⟨d, .binOp .eql t x y t', ty, pos, aft, gd⟩).run P w = .ok (.value (.bool b)) w := by
  have := run_equalIn_ptr (w := w) 9999 ht h
  rcases h with ⟨rfl, rfl⟩ | ⟨q, rfl, rfl⟩ <;> simp [execOp, eqGuard, binOp, hx, hy, Op.equal, Op.maxDepth, this]
theorem E.neqN {e : TypeId} {v : Value} {b : Bool} (ht : ∀ w, (underlying t).run P w = .ok (.pointer e) w) (h : NilT v b) (hx : ev f x = v) (hy : ev f y = .pointer none) :
    (execOp (ev f) ⟨d, .binOp .neq t x y t', ty, pos, aft, gd⟩).run P w = .ok (.value (.bool (!b))) w := by
  have := run_equalIn_ptr (w := w) 9999 ht h
  rcases h with ⟨rfl, rfl⟩ | ⟨q, rfl, rfl⟩ <;> simp [execOp, eqGuard, binOp, hx, hy, Op.equal, Op.maxDepth, this]
theorem chr_enc {n : Int} {s : ByteArray} (h : chrS n = some s) : Utf8.encode n = s := by
  unfold chrS at h; split at h
  · rename_i hh; cases h
    obtain ⟨k, rfl⟩ := Int.eq_ofNat_of_zero_le hh.1
    have hk : k < 128 := by omega
    have hv : Utf8.valid (k : Int) = true := by simp [Utf8.valid]; omega
    have hc : (if Utf8.valid (k : Int) = true then (k : Int).toNat else Utf8.runeError) = k := by rw [if_pos hv]; exact Int.toNat_natCast k
    simp only [Utf8.encode, hc]
    rw [if_pos (show k < 0x80 by omega)]
    rfl
  · cases h
theorem E.chr {k : IntKind} {n : Int} {s : ByteArray} {sd : TypeDesc} (hs : ∀ w, (underlying t).run P w = .ok sd w) (ht : ∀ w, (underlying t').run P w = .ok .string w) (hx : ev f x = .int k n) (h : chrS n = some s) :
    (execOp (ev f) ⟨d, .convert t t' x, ty, pos, aft, gd⟩).run P w = .ok (.value (.string s)) w := by
  simp [execOp, convert, hs, ht, hx, Conv.intToString, chr_enc h]
end
theorem eI2_flat : FlatE eI2 := by rintro H H' cs x rfl; exact ⟨rfl, rfl⟩
end Go.Mr
