/- Numbers as texts: strconv.Itoa by the shelf's contract; a table of the library that lies among what is sealed; an array of texts at a place that is found. -/
import Derived.Test.YtdkfkiifbagnnaaMr14
import Derived.Shelf.Strconv.Itoa3
import Derived.Lib.ItoaLen
import Derived.Laws.Slices
import Derived.Test.YtdkfkiifbagnnaaObPu4
set_option linter.unusedVariables false
namespace Go.Mr
open Go.RowKit Go.Pu
/-- a package's variable holds a table -/
def TabH (P : Program) (name : String) (k : IntKind) (zs : List Int) (H : GH) : Prop := ∃ g e fr, P.globalNamed name = some g ∧ H g = some (.cells (zs.map fun z => Value.int k z).toArray e fr)
theorem TabH.mono {P : Program} {name : String} {k : IntKind} {zs : List Int} {H H' : GH} (h : TabH P name k zs H) (i : Inc H H') : TabH P name k zs H' :=
  let ⟨g, e, fr, h1, h2⟩ := h; ⟨g, e, fr, h1, i _ _ h2⟩
theorem TabH.is {P : Program} {name : String} {k : IntKind} {zs : List Int} {H : GH} {w : World} (h : TabH P name k zs H) (hs : Sl H w) : Lib.TabIs P w name k zs := by
  obtain ⟨g, e, fr, h1, h2⟩ := h
  unfold Lib.TabIs World.var?
  rw [h1, Option.bind_some, hs _ _ h2]
theorem tabH_of {P : Program} {name : String} {k : IntKind} {zs : List Int} {w : World} (h : Lib.TabIs P w name k zs) : TabH P name k zs (fun b => w.heap[b]?) := by
  unfold Lib.TabIs World.var? at h
  obtain ⟨g, h1, h2⟩ := Option.bind_eq_some_iff.1 h
  cases hb : w.heap[g]? with
  | none => rw [hb] at h2; cases h2
  | some o =>
    rw [hb] at h2
    cases o with
    | cells cs e fr => cases h2; exact ⟨g, e, fr, h1, hb⟩
    | _ => cases h2
/-- the table of the powers of ten -/
@[reducible] def TabI (P : Program) (H : GH) : Prop := TabH P "internal/strconv.uint64pow10" .u64 Lib.pow10Tab H
theorem run_grow {H : GH} {w : World} (hs : Sl H w) (k : Nat) (os : Array Obj) : Run w.heap.size H w H (Go.Sort.grow (w.drewN k) os) := by
  have hh : ∀ b, b < w.heap.size → (Go.Sort.grow (w.drewN k) os).heap[b]? = w.heap[b]? := fun b hb => by
    simp only [Go.Sort.grow, World.drewN]
    rw [Array.getElem?_append_left hb]
  refine ⟨⟨rfl, rfl, rfl, by simp [Go.Sort.grow, World.drewN], fun b hb => hh b hb⟩, fun _ _ => rfl, fun b o hb => ?_, Inc.rfl H, by simp [Go.Sort.grow, World.drewN], fun _ _ h => .inl h⟩
  have h1 := hs _ _ hb
  rw [hh b (Array.getElem?_eq_some_iff.1 h1).1]; exact h1
theorem CAt.ixs {H : GH} {p : Addr} {xs : List ByteArray} {i : Int} {x : ByteArray} (h : CAt H p (xs.map Value.string)) (hx : ix xs i = some x) : ∃ j : Nat, i = (j : Int) ∧ j < xs.length ∧ CAt H (p.add j) [Value.string x] := by
  obtain ⟨h0, h1, h2⟩ := ix_some hx
  obtain ⟨arr, e, fr, g1, g2, g3⟩ := h
  refine ⟨i.toNat, by omega, by omega, arr, e, fr, ?_, ?_, fun j c hj => ?_⟩
  · unfold Addr.add; split <;> exact g1
  · unfold Addr.add; split
    · exact g2
    · rfl
  · have hj0 : j = 0 := by have := (List.getElem?_eq_some_iff.1 hj).1; simp at this; omega
    subst hj0
    simp at hj; subst hj
    have := g3 i.toNat (Value.string x) (by rw [List.getElem?_map, h2]; rfl)
    unfold Addr.add; split
    · rename_i hz; rw [hz] at this; simpa using this
    · simpa using this
/-! texts -/
section
variable {P : Program} {f : Fm} {w : World} {d : Option Tmp} {ty : TypeId} {pos : String} {aft : Array Edge} {gd : Option (Nat × Bool)} {x y : Operand} {t t' : TypeId}
theorem E.addT {a b c : ByteArray} (hx : ev f x = .string a) (hy : ev f y = .string b) (h : catS a b = some c) : (execOp (ev f) ⟨d, .binOp .add t x y t', ty, pos, aft, gd⟩).run P w = .ok (.value (.string c)) w :=
  E.addS (catS := catS) hx hy h fun a b c h => by
    unfold catS at h; split at h
    · rename_i hh; cases h; exact ⟨hh, rfl⟩
    · cases h
theorem E.sliceS {s : ByteArray} {lo hi : Operand} {kl kh : IntKind} {a b : Int} (ht : P.underlying t = some .string) (hx : ev f x = .string s) (hl : ev f lo = .int kl a) (hh : ev f hi = .int kh b) (h0 : 0 ≤ a) (h1 : a ≤ b) (h2 : b ≤ s.size) :
    (execOp (ev f) ⟨d, .slice t x (some lo) (some hi) none, ty, pos, aft, gd⟩).run P w = .ok (.value (.string (s.extract a.toNat b.toNat))) w := by
  have hb : 0 ≤ b := by omega
  have hab : a.toNat ≤ b.toNat := by omega
  have hbs : b.toNat ≤ s.size := by omega
  have e1 : (a.toNat : Int) = a := Int.toNat_of_nonneg h0
  have e2 : (b.toNat : Int) = b := Int.toNat_of_nonneg hb
  simp [execOp, Instr.sliceAt, Instr.slice, run_underlying ht, Instr.sliceBounds, run_sliceBound, *]
end
theorem ba_app (a b : Array UInt8) : (⟨a⟩ : ByteArray) ++ ⟨b⟩ = ⟨a ++ b⟩ := by
  apply ByteArray.ext
  rw [ByteArray.data_append]
theorem itoaS_neg {n : Int} (h : n < 0) : itoaS n = (⟨#[45]⟩ : ByteArray) ++ itoaS (-n) := by
  unfold itoaS Go.Lib.itoa
  rw [if_pos h, if_neg (by omega), ba_app]
  congr 1
  rw [show n.natAbs = (-n).toNat by omega]; simp
theorem itoaS_one {n : Int} (h0 : 0 ≤ n) (h : n < 10) : itoaS n = ⟨#[UInt8.ofNat (48 + n.toNat)]⟩ := by
  unfold itoaS Go.Lib.itoa
  rw [if_neg (by omega), Go.Lib.decDigits, dif_pos (by omega)]
theorem itoaS_more {n : Int} (h : 10 ≤ n) : itoaS n = itoaS (n.tdiv 10) ++ (⟨#[UInt8.ofNat (48 + (n.tmod 10).toNat)]⟩ : ByteArray) := by
  obtain ⟨k, rfl⟩ := Int.eq_ofNat_of_zero_le (show 0 ≤ n by omega)
  have e1 : ((k : Nat) : Int).tdiv 10 = ((k / 10 : Nat) : Int) := rfl
  have e2 : ((k : Nat) : Int).tmod 10 = ((k % 10 : Nat) : Int) := rfl
  rw [e1, e2]
  unfold itoaS Go.Lib.itoa
  rw [if_neg (by omega), if_neg (by omega), ba_app]
  congr 1
  rw [Int.toNat_natCast, Int.toNat_natCast, Int.toNat_natCast, Go.Lib.decDigits, dif_neg (by omega)]
  simp
theorem digit_of {n : Int} (h0 : 0 ≤ n) (h : n < 10) : (ByteArray.mk #[48, 49, 50, 51, 52, 53, 54, 55, 56, 57]).extract n.toNat (n + 1).toNat = ⟨#[UInt8.ofNat (48 + n.toNat)]⟩ := by
  obtain ⟨k, rfl⟩ := Int.eq_ofNat_of_zero_le h0
  have hk : k < 10 := by omega
  have key : ∀ k : Fin 10, (ByteArray.mk #[48, 49, 50, 51, 52, 53, 54, 55, 56, 57]).extract k.val (k.val + 1) = ⟨#[UInt8.ofNat (48 + k.val)]⟩ := by decide +kernel
  exact key ⟨k, hk⟩
theorem itoaS_size (n : Int) (h0 : -9223372036854775808 ≤ n) (h1 : n ≤ 9223372036854775807) : (itoaS n).size ≤ 100 := by
  have := Go.Lib.itoa_length_le n h0 h1
  show (Go.Lib.itoa n).toArray.size ≤ 100
  simp; omega
end Go.Mr
