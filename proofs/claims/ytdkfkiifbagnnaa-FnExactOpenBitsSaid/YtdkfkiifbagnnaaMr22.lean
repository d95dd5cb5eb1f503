/- Operations on ints of all kinds. -/
import Derived.Test.YtdkfkiifbagnnaaMr2
namespace Go.Mr
open Go.RowKit Go.Pu
section
variable {P : Program} {f : Fm} {w : World} {d : Option Tmp} {ty : TypeId} {pos : String} {aft : Array Edge} {gd : Option (Nat × Bool)} {x y : Operand}
variable {k yk : IntKind} {a b : Int} {t t' : TypeId}
theorem wrk_eq (k : IntKind) (n : Int) : k.wrap n = wrk k.signed k.bits n := rfl
theorem E.addK (hx : ev f x = .int k a) (hy : ev f y = .int k b) : (execOp (ev f) ⟨d, .binOp .add t x y t', ty, pos, aft, gd⟩).run P w = .ok (.value (.int k (wrk k.signed k.bits (a + b)))) w := by
  simp [execOp, eqGuard, binOp, hx, hy, Op.intArith, wrk_eq]
theorem E.subK (hx : ev f x = .int k a) (hy : ev f y = .int k b) : (execOp (ev f) ⟨d, .binOp .sub t x y t', ty, pos, aft, gd⟩).run P w = .ok (.value (.int k (wrk k.signed k.bits (a - b)))) w := by
  simp [execOp, eqGuard, binOp, hx, hy, Op.intArith, wrk_eq]
theorem E.mulK (hx : ev f x = .int k a) (hy : ev f y = .int k b) : (execOp (ev f) ⟨d, .binOp .mul t x y t', ty, pos, aft, gd⟩).run P w = .ok (.value (.int k (wrk k.signed k.bits (a * b)))) w := by
  simp [execOp, eqGuard, binOp, hx, hy, Op.intArith, wrk_eq]
theorem E.quoK (hx : ev f x = .int k a) (hy : ev f y = .int k b) (hb : b ≠ 0) : (execOp (ev f) ⟨d, .binOp .quo t x y t', ty, pos, aft, gd⟩).run P w = .ok (.value (.int k (wrk k.signed k.bits (a.tdiv b)))) w := by
  simp [execOp, eqGuard, binOp, hx, hy, Op.intDiv, wrk_eq, hb]
theorem E.remK (hx : ev f x = .int k a) (hy : ev f y = .int k b) (hb : b ≠ 0) : (execOp (ev f) ⟨d, .binOp .rem t x y t', ty, pos, aft, gd⟩).run P w = .ok (.value (.int k (a.tmod b))) w := by
  simp [execOp, eqGuard, binOp, hx, hy, Op.intDiv, hb]
theorem E.and (hx : ev f x = .int k a) (hy : ev f y = .int k b) : (execOp (ev f) ⟨d, .binOp .and t x y t', ty, pos, aft, gd⟩).run P w = .ok (.value (.int k (andK k.signed k.bits a b))) w := by
  simp [execOp, eqGuard, binOp, hx, hy, Op.intBits, andK, wrk_eq]
theorem E.or (hx : ev f x = .int k a) (hy : ev f y = .int k b) : (execOp (ev f) ⟨d, .binOp .or t x y t', ty, pos, aft, gd⟩).run P w = .ok (.value (.int k (orK k.signed k.bits a b))) w := by
  simp [execOp, eqGuard, binOp, hx, hy, Op.intBits, orK, wrk_eq]
theorem E.xor (hx : ev f x = .int k a) (hy : ev f y = .int k b) : (execOp (ev f) ⟨d, .binOp .xor t x y t', ty, pos, aft, gd⟩).run P w = .ok (.value (.int k (xorK k.signed k.bits a b))) w := by
  simp [execOp, eqGuard, binOp, hx, hy, Op.intBits, xorK, wrk_eq]
theorem E.andNot (hx : ev f x = .int k a) (hy : ev f y = .int k b) : (execOp (ev f) ⟨d, .binOp .andNot t x y t', ty, pos, aft, gd⟩).run P w = .ok (.value (.int k (anK k.signed k.bits a b))) w := by
  simp [execOp, eqGuard, binOp, hx, hy, Op.intBits, anK, wrk_eq]
theorem E.shl (hx : ev f x = .int k a) (hy : ev f y = .int yk b) (hb : ¬ b < 0) : (execOp (ev f) ⟨d, .binOp .shl t x y t', ty, pos, aft, gd⟩).run P w = .ok (.value (.int k (shlK k.signed k.bits a b))) w := by
  simp [execOp, eqGuard, binOp, hx, hy, Op.shift, shlK, wrk_eq, hb]
theorem E.shr (hx : ev f x = .int k a) (hy : ev f y = .int yk b) (hb : ¬ b < 0) : (execOp (ev f) ⟨d, .binOp .shr t x y t', ty, pos, aft, gd⟩).run P w = .ok (.value (.int k (shrK k.bits a b))) w := by
  simp [execOp, eqGuard, binOp, hx, hy, Op.shift, shrK, hb]
theorem E.nilCheck {p : Addr} (hx : ev f x = .pointer (some p)) : (execOp (ev f) ⟨d, .nilCheck x, ty, pos, aft, gd⟩).run P w = .ok (.value (.pointer (some p))) w := by simp [execOp, hx]
theorem E.conv {s : TypeDesc} (hs : ∀ w, (underlying t).run P w = .ok s w) (ht : ∀ w, (underlying t').run P w = .ok (.int k) w) (hx : ev f x = .int yk a) :
    (execOp (ev f) ⟨d, .convert t t' x, ty, pos, aft, gd⟩).run P w = .ok (.value (.int k (wrk k.signed k.bits a))) w := by
  simp [execOp, convert, hs, ht, hx, Conv.intToInt, wrk_eq]
end
end Go.Mr
