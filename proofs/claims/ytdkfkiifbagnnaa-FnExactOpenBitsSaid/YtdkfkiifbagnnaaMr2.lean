/- What one operation of the walk comes to: numbers, bools, strings, tuples. -/
import Derived.Test.YtdkfkiifbagnnaaMr1
import Derived.Test.YtdkfkiifbagnnaaPu1
namespace Go.Mr
open Go.RowKit Go.Pu

theorem wr_eq (n : Int) : IntKind.i64.wrap n = wr n := by
  simp only [IntKind.wrap, IntKind.signed, IntKind.bits, wr, Bool.true_and]
  split <;> simp only [decide_eq_true_eq, ge_iff_le] at * <;> omega

section
variable {P : Program} {f : Fm} {w : World} {d : Option Tmp} {ty : TypeId} {pos : String} {aft : Array Edge} {gd : Option (Nat × Bool)} {x y z : Operand} {v u : Value}

/-- the operation, written out -/
abbrev opr (d : Option Tmp) (op : Op) (ty : TypeId) (pos : String) (aft : Array Edge) (gd : Option (Nat × Bool)) : Oper := ⟨d, op, ty, pos, aft, gd⟩

theorem E.move (hx : ev f x = v) : (execOp (ev f) ⟨d, .move x, ty, pos, aft, gd⟩).run P w = .ok (.value v) w := by subst hx; rfl
theorem E.assign (hx : ev f x = v) : (execOp (ev f) ⟨d, .assign x, ty, pos, aft, gd⟩).run P w = .ok (.value v) w := by subst hx; rfl
theorem E.pickT {c : Bool} (hx : ev f x = .bool c) (hc : c = true) (hy : ev f y = v) : (execOp (ev f) ⟨d, .pick x y z, ty, pos, aft, gd⟩).run P w = .ok (.value v) w := by
  subst hy hc; simp [execOp, hx, asBool]
theorem E.pickF {c : Bool} (hx : ev f x = .bool c) (hc : c = false) (hz : ev f z = v) : (execOp (ev f) ⟨d, .pick x y z, ty, pos, aft, gd⟩).run P w = .ok (.value v) w := by
  subst hz hc; simp [execOp, hx, asBool]
theorem E.extract {vs : Array Value} {i : Nat} (hx : ev f x = .tuple vs) (hv : vs[i]? = some v) : (execOp (ev f) ⟨d, .extract x i, ty, pos, aft, gd⟩).run P w = .ok (.value v) w := by
  simp [execOp, hx, Instr.extract, hv]
theorem E.not {b : Bool} {t : TypeId} (hx : ev f x = .bool b) : (execOp (ev f) ⟨d, .unOp .not t x, ty, pos, aft, gd⟩).run P w = .ok (.value (.bool !b)) w := by
  simp [execOp, hx, Op.unary]
theorem E.neg {a : Int} {t : TypeId} (hx : ev f x = .int .i64 a) : (execOp (ev f) ⟨d, .unOp .neg t x, ty, pos, aft, gd⟩).run P w = .ok (.value (.int .i64 (wr (-a)))) w := by
  simp [execOp, hx, Op.unary, Op.intArith, wr_eq]

variable {k : IntKind} {a b : Int} {t t' : TypeId}
theorem E.add (hx : ev f x = .int .i64 a) (hy : ev f y = .int .i64 b) : (execOp (ev f) ⟨d, .binOp .add t x y t', ty, pos, aft, gd⟩).run P w = .ok (.value (.int .i64 (wr (a + b)))) w := by
  simp [execOp, eqGuard, binOp, hx, hy, Op.intArith, wr_eq]
theorem E.sub (hx : ev f x = .int .i64 a) (hy : ev f y = .int .i64 b) : (execOp (ev f) ⟨d, .binOp .sub t x y t', ty, pos, aft, gd⟩).run P w = .ok (.value (.int .i64 (wr (a - b)))) w := by
  simp [execOp, eqGuard, binOp, hx, hy, Op.intArith, wr_eq]
theorem E.mul (hx : ev f x = .int .i64 a) (hy : ev f y = .int .i64 b) : (execOp (ev f) ⟨d, .binOp .mul t x y t', ty, pos, aft, gd⟩).run P w = .ok (.value (.int .i64 (wr (a * b)))) w := by
  simp [execOp, eqGuard, binOp, hx, hy, Op.intArith, wr_eq]
theorem E.quo (hx : ev f x = .int .i64 a) (hy : ev f y = .int .i64 b) (hb : b ≠ 0) : (execOp (ev f) ⟨d, .binOp .quo t x y t', ty, pos, aft, gd⟩).run P w = .ok (.value (.int .i64 (wr (a.tdiv b)))) w := by
  simp [execOp, eqGuard, binOp, hx, hy, Op.intDiv, wr_eq, hb]
theorem E.rem (hx : ev f x = .int .i64 a) (hy : ev f y = .int .i64 b) (hb : b ≠ 0) : (execOp (ev f) ⟨d, .binOp .rem t x y t', ty, pos, aft, gd⟩).run P w = .ok (.value (.int .i64 (a.tmod b))) w := by
  simp [execOp, eqGuard, binOp, hx, hy, Op.intDiv, hb]
theorem E.lss (hx : ev f x = .int k a) (hy : ev f y = .int k b) : (execOp (ev f) ⟨d, .binOp .lss t x y t', ty, pos, aft, gd⟩).run P w = .ok (.value (.bool (decide (a < b)))) w := by
  simp [execOp, eqGuard, binOp, hx, hy, Op.intCmp]
theorem E.leq (hx : ev f x = .int k a) (hy : ev f y = .int k b) : (execOp (ev f) ⟨d, .binOp .leq t x y t', ty, pos, aft, gd⟩).run P w = .ok (.value (.bool (decide (a ≤ b)))) w := by
  simp [execOp, eqGuard, binOp, hx, hy, Op.intCmp]
theorem E.gtr (hx : ev f x = .int k a) (hy : ev f y = .int k b) : (execOp (ev f) ⟨d, .binOp .gtr t x y t', ty, pos, aft, gd⟩).run P w = .ok (.value (.bool (decide (b < a)))) w := by
  simp [execOp, eqGuard, binOp, hx, hy, Op.intCmp]
theorem E.geq (hx : ev f x = .int k a) (hy : ev f y = .int k b) : (execOp (ev f) ⟨d, .binOp .geq t x y t', ty, pos, aft, gd⟩).run P w = .ok (.value (.bool (decide (b ≤ a)))) w := by
  simp [execOp, eqGuard, binOp, hx, hy, Op.intCmp]
theorem E.eql (hx : ev f x = .int k a) (hy : ev f y = .int k b) : (execOp (ev f) ⟨d, .binOp .eql t x y t', ty, pos, aft, gd⟩).run P w = .ok (.value (.bool (a == b))) w := by
  simp [execOp, eqGuard, binOp, hx, hy, Op.intCmp]
theorem E.neq (hx : ev f x = .int k a) (hy : ev f y = .int k b) : (execOp (ev f) ⟨d, .binOp .neq t x y t', ty, pos, aft, gd⟩).run P w = .ok (.value (.bool (!(a == b)))) w := by
  simp [execOp, eqGuard, binOp, hx, hy, Op.intCmp]; rfl
theorem run_equalIn_bool (n : Nat) {a b : Bool} (ht : ∀ w, (underlying t).run P w = .ok .bool w) : (Op.equalIn (n + 1) t (.bool a) (.bool b)).run P w = .ok (a == b) w := by
  simp only [Op.equalIn, Sem.run_bind, ht, Result.andThen_ok, Sem.run_pure]
theorem E.eqlB {a b : Bool} (ht : ∀ w, (underlying t).run P w = .ok .bool w) (hx : ev f x = .bool a) (hy : ev f y = .bool b) :
    (execOp (ev f) ⟨d, .binOp .eql t x y t', ty, pos, aft, gd⟩).run P w = .ok (.value (.bool (a == b))) w := by
  simp [execOp, eqGuard, binOp, hx, hy, Op.equal, Op.maxDepth, run_equalIn_bool 9999 ht]
theorem E.neqB {a b : Bool} (ht : ∀ w, (underlying t).run P w = .ok .bool w) (hx : ev f x = .bool a) (hy : ev f y = .bool b) :
    (execOp (ev f) ⟨d, .binOp .neq t x y t', ty, pos, aft, gd⟩).run P w = .ok (.value (.bool (!(a == b)))) w := by
  simp [execOp, eqGuard, binOp, hx, hy, Op.equal, Op.maxDepth, run_equalIn_bool 9999 ht]
theorem E.eqlS {a b : ByteArray} (hx : ev f x = .string a) (hy : ev f y = .string b) :
    (execOp (ev f) ⟨d, .binOp .eql t x y t', ty, pos, aft, gd⟩).run P w = .ok (.value (.bool (a.toList == b.toList))) w := by
  simp [execOp, eqGuard, binOp, hx, hy, Op.stringOp]
theorem E.neqS {a b : ByteArray} (hx : ev f x = .string a) (hy : ev f y = .string b) :
    (execOp (ev f) ⟨d, .binOp .neq t x y t', ty, pos, aft, gd⟩).run P w = .ok (.value (.bool (!(a.toList == b.toList)))) w := by
  simp [execOp, eqGuard, binOp, hx, hy, Op.stringOp]
theorem E.max2 {ts : Array TypeId} (hx : ev f x = .int .i64 a) (hy : ev f y = .int .i64 b) :
    (execOp (ev f) ⟨d, .call ⟨.builtin .max, #[x, y], ts⟩, ty, pos, aft, gd⟩).run P w = .ok (.value (.int .i64 (mx a b))) w := by
  simp [execOp, resolve, invoke, builtin, Builtin.max_, Builtin.max2, hx, hy, mx]
theorem E.min2 {ts : Array TypeId} (hx : ev f x = .int .i64 a) (hy : ev f y = .int .i64 b) :
    (execOp (ev f) ⟨d, .call ⟨.builtin .min, #[x, y], ts⟩, ty, pos, aft, gd⟩).run P w = .ok (.value (.int .i64 (mn a b))) w := by
  simp [execOp, resolve, invoke, builtin, Builtin.min_, Builtin.min2, hx, hy, mn]
theorem E.makeFunc {fn : Fn} {fi ca : Array Operand} {fs cs : Array Value} (hf : fi.map (ev f) = fs) (hc : ca.map (ev f) = cs) :
    (execOp (ev f) ⟨d, .makeFunc fn fi ca, ty, pos, aft, gd⟩).run P w = .ok (.value (.func fn fs cs)) w := by
  subst hf hc; simp [execOp, Instr.makeFunc]

/-- a call of a function by its number -/
theorem E.call {fid : Nat} {xs : Array Operand} {ts : Array TypeId} {args : Array Value} (he : ∀ args w, (callFunc fid args).run P w = .ok (.enter fid args) w) (ha : xs.map (ev f) = args) :
    (execOp (ev f) ⟨d, .call ⟨.value (.func fid), xs, ts⟩, ty, pos, aft, gd⟩).run P w = .ok (.enter fid args) w := by
  subst ha
  simp [execOp, resolve, invoke, ev, Deferred.ofValue, he]
/-- a call of a function value -/
theorem E.callV {fid : Nat} {xs : Array Operand} {ts : Array TypeId} {args cs : Array Value} (he : ∀ args w, (callFunc fid args).run P w = .ok (.enter fid args) w)
    (hx : ev f x = .func (.func fid) #[] cs) (ha : xs.map (ev f) ++ cs = args) :
    (execOp (ev f) ⟨d, .call ⟨.value x, xs, ts⟩, ty, pos, aft, gd⟩).run P w = .ok (.enter fid args) w := by
  subst ha
  simp [execOp, resolve, invoke, hx, Deferred.ofValue, he]
theorem A0 : (#[] : Array Operand).map (ev f) = #[] := by simp
theorem A1 {x1 : Operand} {v1 : Value} (h1 : ev f x1 = v1) : #[x1].map (ev f) = #[v1] := by simp [h1]
theorem A2 {x1 x2 : Operand} {v1 v2 : Value} (h1 : ev f x1 = v1) (h2 : ev f x2 = v2) : #[x1, x2].map (ev f) = #[v1, v2] := by simp [h1, h2]
theorem A3 {x1 x2 x3 : Operand} {v1 v2 v3 : Value} (h1 : ev f x1 = v1) (h2 : ev f x2 = v2) (h3 : ev f x3 = v3) : #[x1, x2, x3].map (ev f) = #[v1, v2, v3] := by simp [h1, h2, h3]
theorem A4 {x1 x2 x3 x4 : Operand} {v1 v2 v3 v4 : Value} (h1 : ev f x1 = v1) (h2 : ev f x2 = v2) (h3 : ev f x3 = v3) (h4 : ev f x4 = v4) : #[x1, x2, x3, x4].map (ev f) = #[v1, v2, v3, v4] := by simp [h1, h2, h3, h4]
theorem A5 {x1 x2 x3 x4 x5 : Operand} {v1 v2 v3 v4 v5 : Value} (h1 : ev f x1 = v1) (h2 : ev f x2 = v2) (h3 : ev f x3 = v3) (h4 : ev f x4 = v4) (h5 : ev f x5 = v5) :
    #[x1, x2, x3, x4, x5].map (ev f) = #[v1, v2, v3, v4, v5] := by simp [h1, h2, h3, h4, h5]
theorem A6 {x1 x2 x3 x4 x5 x6 : Operand} {v1 v2 v3 v4 v5 v6 : Value} (h1 : ev f x1 = v1) (h2 : ev f x2 = v2) (h3 : ev f x3 = v3) (h4 : ev f x4 = v4) (h5 : ev f x5 = v5) (h6 : ev f x6 = v6) :
    #[x1, x2, x3, x4, x5, x6].map (ev f) = #[v1, v2, v3, v4, v5, v6] := by simp [h1, h2, h3, h4, h5, h6]
end
end Go.Mr
