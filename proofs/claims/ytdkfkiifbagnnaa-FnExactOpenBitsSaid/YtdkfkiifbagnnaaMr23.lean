/- What stays there while the operations of a drawn region run: rows and variables that none of them turns. -/
import Derived.Test.YtdkfkiifbagnnaaMr14
import Derived.Test.YtdkfkiifbagnnaaMr20
import Derived.Laws.StructEq
import Derived.Test.YtdkfkiifbagnnaaMr21
namespace Go.Mr
open Go.RowKit Go.Pu
/-- a pointer that came back: nil, or to a datum -/
@[reducible] def OP {α : Type} (R : Addr → α → Prop) (v : Value) (x : Option α) : Prop := match x with | none => v = .pointer none | some y => ∃ q, v = .pointer (some q) ∧ R q y
def SX (H0 : GH) (w0 : World) (Hr : GH) (l0 : List MO) (w : World) : Prop := ∃ H, St H0 w0 H w l0 ∧ Inc Hr H
section
variable {H0 Hr H : GH} {w0 w : World} {l0 l : List MO} {e k n : Nat} {v : Value}
theorem SX.sl (h : SX H0 w0 Hr l0 w) : Sl Hr w := let ⟨_, s, i⟩ := h; Sl.of_inc i s.sl
theorem SX.box_now (h : SX H0 w0 Hr l0 w) {i b t : Nat} {cs : List Value} (hi : l0[i]? = some (.box b t cs)) : WAt w ⟨b, 0, Option.none⟩ cs := let ⟨_, s, _⟩ := h; s.box_now hi
theorem SX.use {Q : Prop} (h : SX H0 w0 Hr l0 w) (f : ∀ H, St H0 w0 H w l0 → Q) : Q := let ⟨_, s, _⟩ := h; f _ s
theorem St.row_atA {α : Type} {G : GH} {En : Enc α} {cells : List Value} {xs : List α} (h : St H0 w0 H w l) {i : Nat} (hi : l[i]? = some (.row e k v n cells)) (he : Els G En k cells xs) (hk : 0 < k)
    {j : Int} {x : α} (hx : ix xs j = some x) : ∃ p c, PtrOf k v j p ∧ c.length = k ∧ WAt w p c ∧ En.rel G c x ∧ ∀ (H' : GH) (w' : World) (l' : List MO) (i' : Nat), St H0 w0 H' w' l' → l'[i']? = some (.row e k v n cells) → WAt w' p c := by
  obtain ⟨h0, h1, h2⟩ := ix_some hx
  obtain ⟨c, g1, g2, g3⟩ := he.get _ _ h2
  have key : ∀ (H' : GH) (w' : World) (l' : List MO) (i' : Nat), St H0 w0 H' w' l' → l'[i']? = some (.row e k v n cells) → ∃ p, PtrOf k v j p ∧ WAt w' p c := by
    intro H' w' l' i' h' hi'
    obtain ⟨⟨k1, k2⟩, _⟩ := h'.ok i' _ hi'
    have hl := he.length
    have hn : n = xs.length := by
      rw [k1] at hl
      exact Nat.eq_of_mul_eq_mul_right hk hl
    rcases k2 with ⟨rfl, h3⟩ | ⟨g, cap, cur, rfl, hg, hh, hle, _, hsz, htk⟩
    · omega
    · refine ⟨_, ⟨⟨g, 0, Option.none⟩, _, cap, rfl, h0, by omega, rfl⟩, fun m u hu => ?_⟩
      rw [addr_add_add, Addr.add_lit, Nat.zero_add, cell_of_row w' g _ _ _ _ hh]
      have := g3 m u hu
      rw [← htk, List.getElem?_take] at this
      split at this
      · simpa using this
      · cases this
  obtain ⟨p, hp, hw⟩ := key H w l i h hi
  exact ⟨p, c, hp, g1, hw, g2, fun H' w' l' i' h' hi' => by
    obtain ⟨q, hq, hw'⟩ := key H' w' l' i' h' hi'
    obtain rfl := PtrOf.uniq hq hp
    exact hw'⟩
end
section
variable {f : Fm}
theorem A7 {x1 x2 x3 x4 x5 x6 x7 : Operand} {v1 v2 v3 v4 v5 v6 v7 : Value} (h1 : ev f x1 = v1) (h2 : ev f x2 = v2) (h3 : ev f x3 = v3) (h4 : ev f x4 = v4) (h5 : ev f x5 = v5) (h6 : ev f x6 = v6) (h7 : ev f x7 = v7) :
    #[x1, x2, x3, x4, x5, x6, x7].map (ev f) = #[v1, v2, v3, v4, v5, v6, v7] := by simp [h1, h2, h3, h4, h5, h6, h7]
theorem A8 {x1 x2 x3 x4 x5 x6 x7 x8 : Operand} {v1 v2 v3 v4 v5 v6 v7 v8 : Value} (h1 : ev f x1 = v1) (h2 : ev f x2 = v2) (h3 : ev f x3 = v3) (h4 : ev f x4 = v4) (h5 : ev f x5 = v5) (h6 : ev f x6 = v6) (h7 : ev f x7 = v7) (h8 : ev f x8 = v8) :
    #[x1, x2, x3, x4, x5, x6, x7, x8].map (ev f) = #[v1, v2, v3, v4, v5, v6, v7, v8] := by simp [h1, h2, h3, h4, h5, h6, h7, h8]
theorem A9 {x1 x2 x3 x4 x5 x6 x7 x8 x9 : Operand} {v1 v2 v3 v4 v5 v6 v7 v8 v9 : Value} (h1 : ev f x1 = v1) (h2 : ev f x2 = v2) (h3 : ev f x3 = v3) (h4 : ev f x4 = v4) (h5 : ev f x5 = v5) (h6 : ev f x6 = v6) (h7 : ev f x7 = v7) (h8 : ev f x8 = v8) (h9 : ev f x9 = v9) :
    #[x1, x2, x3, x4, x5, x6, x7, x8, x9].map (ev f) = #[v1, v2, v3, v4, v5, v6, v7, v8, v9] := by simp [h1, h2, h3, h4, h5, h6, h7, h8, h9]
theorem A10 {x1 x2 x3 x4 x5 x6 x7 x8 x9 x10 : Operand} {v1 v2 v3 v4 v5 v6 v7 v8 v9 v10 : Value} (h1 : ev f x1 = v1) (h2 : ev f x2 = v2) (h3 : ev f x3 = v3) (h4 : ev f x4 = v4) (h5 : ev f x5 = v5) (h6 : ev f x6 = v6) (h7 : ev f x7 = v7) (h8 : ev f x8 = v8) (h9 : ev f x9 = v9) (h10 : ev f x10 = v10) :
    #[x1, x2, x3, x4, x5, x6, x7, x8, x9, x10].map (ev f) = #[v1, v2, v3, v4, v5, v6, v7, v8, v9, v10] := by simp [h1, h2, h3, h4, h5, h6, h7, h8, h9, h10]
theorem B7 {i1 i2 i3 i4 i5 i6 i7 : Nat} {x1 x2 x3 x4 x5 x6 x7 : Operand} {v1 v2 v3 v4 v5 v6 v7 : Value} (h1 : ev f x1 = v1) (h2 : ev f x2 = v2) (h3 : ev f x3 = v3) (h4 : ev f x4 = v4) (h5 : ev f x5 = v5) (h6 : ev f x6 = v6) (h7 : ev f x7 = v7) :
    ((#[(i1, x1), (i2, x2), (i3, x3), (i4, x4), (i5, x5), (i6, x6), (i7, x7)] : Array (Nat × Operand)).map fun (i, x) => (i, ev f x)) = #[(i1, v1), (i2, v2), (i3, v3), (i4, v4), (i5, v5), (i6, v6), (i7, v7)] := by simp [h1, h2, h3, h4, h5, h6, h7]
theorem B8 {i1 i2 i3 i4 i5 i6 i7 i8 : Nat} {x1 x2 x3 x4 x5 x6 x7 x8 : Operand} {v1 v2 v3 v4 v5 v6 v7 v8 : Value} (h1 : ev f x1 = v1) (h2 : ev f x2 = v2) (h3 : ev f x3 = v3) (h4 : ev f x4 = v4) (h5 : ev f x5 = v5) (h6 : ev f x6 = v6) (h7 : ev f x7 = v7) (h8 : ev f x8 = v8) :
    ((#[(i1, x1), (i2, x2), (i3, x3), (i4, x4), (i5, x5), (i6, x6), (i7, x7), (i8, x8)] : Array (Nat × Operand)).map fun (i, x) => (i, ev f x)) = #[(i1, v1), (i2, v2), (i3, v3), (i4, v4), (i5, v5), (i6, v6), (i7, v7), (i8, v8)] := by simp [h1, h2, h3, h4, h5, h6, h7, h8]
theorem B9 {i1 i2 i3 i4 i5 i6 i7 i8 i9 : Nat} {x1 x2 x3 x4 x5 x6 x7 x8 x9 : Operand} {v1 v2 v3 v4 v5 v6 v7 v8 v9 : Value} (h1 : ev f x1 = v1) (h2 : ev f x2 = v2) (h3 : ev f x3 = v3) (h4 : ev f x4 = v4) (h5 : ev f x5 = v5) (h6 : ev f x6 = v6) (h7 : ev f x7 = v7) (h8 : ev f x8 = v8) (h9 : ev f x9 = v9) :
    ((#[(i1, x1), (i2, x2), (i3, x3), (i4, x4), (i5, x5), (i6, x6), (i7, x7), (i8, x8), (i9, x9)] : Array (Nat × Operand)).map fun (i, x) => (i, ev f x)) = #[(i1, v1), (i2, v2), (i3, v3), (i4, v4), (i5, v5), (i6, v6), (i7, v7), (i8, v8), (i9, v9)] := by simp [h1, h2, h3, h4, h5, h6, h7, h8, h9]
theorem B10 {i1 i2 i3 i4 i5 i6 i7 i8 i9 i10 : Nat} {x1 x2 x3 x4 x5 x6 x7 x8 x9 x10 : Operand} {v1 v2 v3 v4 v5 v6 v7 v8 v9 v10 : Value} (h1 : ev f x1 = v1) (h2 : ev f x2 = v2) (h3 : ev f x3 = v3) (h4 : ev f x4 = v4) (h5 : ev f x5 = v5) (h6 : ev f x6 = v6) (h7 : ev f x7 = v7) (h8 : ev f x8 = v8) (h9 : ev f x9 = v9) (h10 : ev f x10 = v10) :
    ((#[(i1, x1), (i2, x2), (i3, x3), (i4, x4), (i5, x5), (i6, x6), (i7, x7), (i8, x8), (i9, x9), (i10, x10)] : Array (Nat × Operand)).map fun (i, x) => (i, ev f x)) = #[(i1, v1), (i2, v2), (i3, v3), (i4, v4), (i5, v5), (i6, v6), (i7, v7), (i8, v8), (i9, v9), (i10, v10)] := by simp [h1, h2, h3, h4, h5, h6, h7, h8, h9, h10]
end
section
variable {P : Program} {f : Fm} {w : World} {d : Option Tmp} {ty : TypeId} {pos : String} {aft : Array Edge} {gd : Option (Nat × Bool)} {x y : Operand} {t t' : TypeId}
theorem E.eqlA {xs ys : Array Value} {r : Bool} (hg : P.eqGuardType P.depth t = false) (he : ∀ w, (Op.equalIn 10000 t (.agg xs) (.agg ys)).run P w = .ok r w) (hx : ev f x = .agg xs) (hy : ev f y = .agg ys) :
    (execOp (ev f) ⟨d, .binOp .eql t x y t', ty, pos, aft, gd⟩).run P w = .ok (.value (.bool r)) w := by
  simp [execOp, hx, hy, run_eqGuard_agg w .eql t x y xs ys hg, run_eql_struct, he]
theorem E.neqA {xs ys : Array Value} {r : Bool} (hg : P.eqGuardType P.depth t = false) (he : ∀ w, (Op.equalIn 10000 t (.agg xs) (.agg ys)).run P w = .ok r w) (hx : ev f x = .agg xs) (hy : ev f y = .agg ys) :
    (execOp (ev f) ⟨d, .binOp .neq t x y t', ty, pos, aft, gd⟩).run P w = .ok (.value (.bool (!r))) w := by
  simp [execOp, hx, hy, run_eqGuard_agg w .neq t x y xs ys hg, run_neq_struct, he]
end
end Go.Mr
