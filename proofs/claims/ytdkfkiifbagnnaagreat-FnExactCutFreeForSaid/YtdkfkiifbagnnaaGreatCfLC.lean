/- Helpers of the walks and plain laws. -/
import Derived.Test.YtdkfkiifbagnnaaGreatCfLA
import Derived.Test.YtdkfkiifbagnnaaGreatCfLB
import Derived.Laws.StructEq
import Derived.KernelRfl
import Derived.Lib.AppendZerosOnto
import Derived.Lib.ItoaNum
import Derived.Shelf.Strconv.Itoa3
import Derived.Lib.ItoaLen
import Derived.Laws.Slices
import Derived.ChangeKeysEq
import Derived.Lib.Bytealg
import Derived.Laws.BytesString
import Derived.OrdersIn
set_option linter.unusedVariables false
namespace Go.Mr
open Go.RowKit Go.Pu
section
variable {P : Program} {f : Fm} {w : World} {d : Option Tmp} {ty : TypeId} {pos : String} {aft : Array Edge} {gd : Option (Nat × Bool)} {x y : Operand}
variable {k yk : IntKind} {a b : Int} {t t' : TypeId}
theorem wrk_eq (k : IntKind) (n : Int) : k.wrap n = wrk k.signed k.bits n := rfl
theorem E.addK (hx : ev f x = .int k a) (hy : ev f y = .int k b) : (execOp (ev f) ⟨d, .binOp .add t x y t', ty, pos, aft, gd⟩).run P w = .ok (.value (.int k (wrk k.signed k.bits (a + b)))) w := by
  simp [execOp, eqGuard, binOp, hx, hy, Op.intArith, wrk_eq]
theorem E.subK (hx : ev f x = .int k a) (hy : ev f y = .int k b) : (execOp (ev f) ⟨d, .binOp .sub t x y t', ty, pos, aft, gd⟩).run P w = .ok (.value (.int k (wrk k.signed k.bits (a - b)))) w := by
  simp [execOp, eqGuard, binOp, hx, hy, Op.intArith, wrk_eq]
theorem E.mulK (hx : ev f x = .int k a) (hy : ev f y = .int k b) : (execOp (ev f) ⟨d, .binOp .mul t x y t', ty, pos, aft, gd⟩).run P w = .ok (.value (.int k (wrk k.signed k.bits (a * b)))) w := by
  simp [execOp, eqGuard, binOp, hx, hy, Op.intArith, wrk_eq]
theorem E.quoK (hx : ev f x = .int k a) (hy : ev f y = .int k b) (hb : b ≠ 0) : (execOp (ev f) ⟨d, .binOp .quo t x y t', ty, pos, aft, gd⟩).run P w = .ok (.value (.int k (wrk k.signed k.bits (a.tdiv b)))) w := by
  simp [execOp, eqGuard, binOp, hx, hy, Op.intDiv, wrk_eq, hb]
theorem E.remK (hx : ev f x = .int k a) (hy : ev f y = .int k b) (hb : b ≠ 0) : (execOp (ev f) ⟨d, .binOp .rem t x y t', ty, pos, aft, gd⟩).run P w = .ok (.value (.int k (a.tmod b))) w := by
  simp [execOp, eqGuard, binOp, hx, hy, Op.intDiv, hb]
theorem E.and (hx : ev f x = .int k a) (hy : ev f y = .int k b) : (execOp (ev f) ⟨d, .binOp .and t x y t', ty, pos, aft, gd⟩).run P w = .ok (.value (.int k (andK k.signed k.bits a b))) w := by
  simp [execOp, eqGuard, binOp, hx, hy, Op.intBits, andK, wrk_eq]
theorem E.or (hx : ev f x = .int k a) (hy : ev f y = .int k b) : (execOp (ev f) ⟨d, .binOp .or t x y t', ty, pos, aft, gd⟩).run P w = .ok (.value (.int k (orK k.signed k.bits a b))) w := by
  simp [execOp, eqGuard, binOp, hx, hy, Op.intBits, orK, wrk_eq]
theorem E.xor (hx : ev f x = .int k a) (hy : ev f y = .int k b) : (execOp (ev f) ⟨d, .binOp .xor t x y t', ty, pos, aft, gd⟩).run P w = .ok (.value (.int k (xorK k.signed k.bits a b))) w := by
  simp [execOp, eqGuard, binOp, hx, hy, Op.intBits, xorK, wrk_eq]
theorem E.andNot (hx : ev f x = .int k a) (hy : ev f y = .int k b) : (execOp (ev f) ⟨d, .binOp .andNot t x y t', ty, pos, aft, gd⟩).run P w = .ok (.value (.int k (anK k.signed k.bits a b))) w := by
  simp [execOp, eqGuard, binOp, hx, hy, Op.intBits, anK, wrk_eq]
theorem E.shl (hx : ev f x = .int k a) (hy : ev f y = .int yk b) (hb : ¬ b < 0) : (execOp (ev f) ⟨d, .binOp .shl t x y t', ty, pos, aft, gd⟩).run P w = .ok (.value (.int k (shlK k.signed k.bits a b))) w := by
  simp [execOp, eqGuard, binOp, hx, hy, Op.shift, shlK, wrk_eq, hb]
theorem E.shr (hx : ev f x = .int k a) (hy : ev f y = .int yk b) (hb : ¬ b < 0) : (execOp (ev f) ⟨d, .binOp .shr t x y t', ty, pos, aft, gd⟩).run P w = .ok (.value (.int k (shrK k.bits a b))) w := by
  simp [execOp, eqGuard, binOp, hx, hy, Op.shift, shrK, hb]
theorem E.nilCheck {p : Addr} (hx : ev f x = .pointer (some p)) : (execOp (ev f) ⟨d, .nilCheck x, ty, pos, aft, gd⟩).run P w = .ok (.value (.pointer (some p))) w := by simp [execOp, hx]
theorem E.conv {s : TypeDesc} (hs : ∀ w, (underlying t).run P w = .ok s w) (ht : ∀ w, (underlying t').run P w = .ok (.int k) w) (hx : ev f x = .int yk a) :
    (execOp (ev f) ⟨d, .convert t t' x, ty, pos, aft, gd⟩).run P w = .ok (.value (.int k (wrk k.signed k.bits a))) w := by
  simp [execOp, convert, hs, ht, hx, Conv.intToInt, wrk_eq]
end
end Go.Mr
namespace Go.Mr
open Go.RowKit Go.Pu
/-- a pointer that came back: nil, or to a datum -/
@[reducible] def OP {α : Type} (R : Addr → α → Prop) (v : Value) (x : Option α) : Prop := match x with | none => v = .pointer none | some y => ∃ q, v = .pointer (some q) ∧ R q y
def SX (H0 : GH) (w0 : World) (Hr : GH) (l0 : List MO) (w : World) : Prop := ∃ H, St H0 w0 H w l0 ∧ Inc Hr H
section
variable {H0 Hr H : GH} {w0 w : World} {l0 l : List MO} {e k n : Nat} {v : Value}
theorem SX.sl (h : SX H0 w0 Hr l0 w) : Sl Hr w := let ⟨_, s, i⟩ := h; Sl.of_inc i s.sl
theorem SX.box_now (h : SX H0 w0 Hr l0 w) {i b t : Nat} {cs : List Value} (hi : l0[i]? = some (.box b t cs)) : WAt w ⟨b, 0, Option.none⟩ cs := let ⟨_, s, _⟩ := h; s.box_now hi
theorem SX.use {Q : Prop} (h : SX H0 w0 Hr l0 w) (f : ∀ H, St H0 w0 H w l0 → Q) : Q := let ⟨_, s, _⟩ := h; f _ s
theorem St.row_atA {α : Type} {G : GH} {En : Enc α} {cells : List Value} {xs : List α} (h : St H0 w0 H w l) {i : Nat} (hi : l[i]? = some (.row e k v n cells)) (he : Els G En k cells xs) (hk : 0 < k)
    {j : Int} {x : α} (hx : ix xs j = some x) : ∃ p c, PtrOf k v j p ∧ c.length = k ∧ WAt w p c ∧ En.rel G c x ∧ ∀ (H' : GH) (w' : World) (l' : List MO) (i' : Nat), St H0 w0 H' w' l' → l'[i']? = some (.row e k v n cells) → WAt w' p c := by
  obtain ⟨h0, h1, h2⟩ := ix_some hx
  obtain ⟨c, g1, g2, g3⟩ := he.get _ _ h2
  have key : ∀ (H' : GH) (w' : World) (l' : List MO) (i' : Nat), St H0 w0 H' w' l' → l'[i']? = some (.row e k v n cells) → ∃ p, PtrOf k v j p ∧ WAt w' p c := by
    intro H' w' l' i' h' hi'
    obtain ⟨⟨k1, k2⟩, _⟩ := h'.ok i' _ hi'
    have hl := he.length
    have hn : n = xs.length := by
      rw [k1] at hl
      exact Nat.eq_of_mul_eq_mul_right hk hl
    rcases k2 with ⟨rfl, h3⟩ | ⟨g, cap, cur, rfl, hg, hh, hle, _, hsz, htk⟩
    · omega
    · refine ⟨_, ⟨⟨g, 0, Option.none⟩, _, cap, rfl, h0, by omega, rfl⟩, fun m u hu => ?_⟩
      rw [addr_add_add, Addr.add_lit, Nat.zero_add, cell_of_row w' g _ _ _ _ hh]
      have := g3 m u hu
      rw [← htk, List.getElem?_take] at this
      split at this
      · simpa using this
      · cases this
  obtain ⟨p, hp, hw⟩ := key H w l i h hi
  exact ⟨p, c, hp, g1, hw, g2, fun H' w' l' i' h' hi' => by
    obtain ⟨q, hq, hw'⟩ := key H' w' l' i' h' hi'
    obtain rfl := PtrOf.uniq hq hp
    exact hw'⟩
end
section
variable {f : Fm}
theorem A7 {x1 x2 x3 x4 x5 x6 x7 : Operand} {v1 v2 v3 v4 v5 v6 v7 : Value} (h1 : ev f x1 = v1) (h2 : ev f x2 = v2) (h3 : ev f x3 = v3) (h4 : ev f x4 = v4) (h5 : ev f x5 = v5) (h6 : ev f x6 = v6) (h7 : ev f x7 = v7) :
    #[x1, x2, x3, x4, x5, x6, x7].map (ev f) = #[v1, v2, v3, v4, v5, v6, v7] := by simp [h1, h2, h3, h4, h5, h6, h7]
theorem A8 {x1 x2 x3 x4 x5 x6 x7 x8 : Operand} {v1 v2 v3 v4 v5 v6 v7 v8 : Value} (h1 : ev f x1 = v1) (h2 : ev f x2 = v2) (h3 : ev f x3 = v3) (h4 : ev f x4 = v4) (h5 : ev f x5 = v5) (h6 : ev f x6 = v6) (h7 : ev f x7 = v7) (h8 : ev f x8 = v8) :
    #[x1, x2, x3, x4, x5, x6, x7, x8].map (ev f) = #[v1, v2, v3, v4, v5, v6, v7, v8] := by simp [h1, h2, h3, h4, h5, h6, h7, h8]
theorem A9 {x1 x2 x3 x4 x5 x6 x7 x8 x9 : Operand} {v1 v2 v3 v4 v5 v6 v7 v8 v9 : Value} (h1 : ev f x1 = v1) (h2 : ev f x2 = v2) (h3 : ev f x3 = v3) (h4 : ev f x4 = v4) (h5 : ev f x5 = v5) (h6 : ev f x6 = v6) (h7 : ev f x7 = v7) (h8 : ev f x8 = v8) (h9 : ev f x9 = v9) :
    #[x1, x2, x3, x4, x5, x6, x7, x8, x9].map (ev f) = #[v1, v2, v3, v4, v5, v6, v7, v8, v9] := by simp [h1, h2, h3, h4, h5, h6, h7, h8, h9]
theorem A10 {x1 x2 x3 x4 x5 x6 x7 x8 x9 x10 : Operand} {v1 v2 v3 v4 v5 v6 v7 v8 v9 v10 : Value} (h1 : ev f x1 = v1) (h2 : ev f x2 = v2) (h3 : ev f x3 = v3) (h4 : ev f x4 = v4) (h5 : ev f x5 = v5) (h6 : ev f x6 = v6) (h7 : ev f x7 = v7) (h8 : ev f x8 = v8) (h9 : ev f x9 = v9) (h10 : ev f x10 = v10) :
    #[x1, x2, x3, x4, x5, x6, x7, x8, x9, x10].map (ev f) = #[v1, v2, v3, v4, v5, v6, v7, v8, v9, v10] := by simp [h1, h2, h3, h4, h5, h6, h7, h8, h9, h10]
theorem B7 {i1 i2 i3 i4 i5 i6 i7 : Nat} {x1 x2 x3 x4 x5 x6 x7 : Operand} {v1 v2 v3 v4 v5 v6 v7 : Value} (h1 : ev f x1 = v1) (h2 : ev f x2 = v2) (h3 : ev f x3 = v3) (h4 : ev f x4 = v4) (h5 : ev f x5 = v5) (h6 : ev f x6 = v6) (h7 : ev f x7 = v7) :
    ((#[(i1, x1), (i2, x2), (i3, x3), (i4, x4), (i5, x5), (i6, x6), (i7, x7)] : Array (Nat × Operand)).map fun (i, x) => (i, ev f x)) = #[(i1, v1), (i2, v2), (i3, v3), (i4, v4), (i5, v5), (i6, v6), (i7, v7)] := by simp [h1, h2, h3, h4, h5, h6, h7]
theorem B8 {i1 i2 i3 i4 i5 i6 i7 i8 : Nat} {x1 x2 x3 x4 x5 x6 x7 x8 : Operand} {v1 v2 v3 v4 v5 v6 v7 v8 : Value} (h1 : ev f x1 = v1) (h2 : ev f x2 = v2) (h3 : ev f x3 = v3) (h4 : ev f x4 = v4) (h5 : ev f x5 = v5) (h6 : ev f x6 = v6) (h7 : ev f x7 = v7) (h8 : ev f x8 = v8) :
    ((#[(i1, x1), (i2, x2), (i3, x3), (i4, x4), (i5, x5), (i6, x6), (i7, x7), (i8, x8)] : Array (Nat × Operand)).map fun (i, x) => (i, ev f x)) = #[(i1, v1), (i2, v2), (i3, v3), (i4, v4), (i5, v5), (i6, v6), (i7, v7), (i8, v8)] := by simp [h1, h2, h3, h4, h5, h6, h7, h8]
theorem B9 {i1 i2 i3 i4 i5 i6 i7 i8 i9 : Nat} {x1 x2 x3 x4 x5 x6 x7 x8 x9 : Operand} {v1 v2 v3 v4 v5 v6 v7 v8 v9 : Value} (h1 : ev f x1 = v1) (h2 : ev f x2 = v2) (h3 : ev f x3 = v3) (h4 : ev f x4 = v4) (h5 : ev f x5 = v5) (h6 : ev f x6 = v6) (h7 : ev f x7 = v7) (h8 : ev f x8 = v8) (h9 : ev f x9 = v9) :
    ((#[(i1, x1), (i2, x2), (i3, x3), (i4, x4), (i5, x5), (i6, x6), (i7, x7), (i8, x8), (i9, x9)] : Array (Nat × Operand)).map fun (i, x) => (i, ev f x)) = #[(i1, v1), (i2, v2), (i3, v3), (i4, v4), (i5, v5), (i6, v6), (i7, v7), (i8, v8), (i9, v9)] := by simp [h1, h2, h3, h4, h5, h6, h7, h8, h9]
theorem B10 {i1 i2 i3 i4 i5 i6 i7 i8 i9 i10 : Nat} {x1 x2 x3 x4 x5 x6 x7 x8 x9 x10 : Operand} {v1 v2 v3 v4 v5 v6 v7 v8 v9 v10 : Value} (h1 : ev f x1 = v1) (h2 : ev f x2 = v2) (h3 : ev f x3 = v3) (h4 : ev f x4 = v4) (h5 : ev f x5 = v5) (h6 : ev f x6 = v6) (h7 : ev f x7 = v7) (h8 : ev f x8 = v8) (h9 : ev f x9 = v9) (h10 : ev f x10 = v10) :
    ((#[(i1, x1), (i2, x2), (i3, x3), (i4, x4), (i5, x5), (i6, x6), (i7, x7), (i8, x8), (i9, x9), (i10, x10)] : Array (Nat × Operand)).map fun (i, x) => (i, ev f x)) = #[(i1, v1), (i2, v2), (i3, v3), (i4, v4), (i5, v5), (i6, v6), (i7, v7), (i8, v8), (i9, v9), (i10, v10)] := by simp [h1, h2, h3, h4, h5, h6, h7, h8, h9, h10]
end
section
variable {P : Program} {f : Fm} {w : World} {d : Option Tmp} {ty : TypeId} {pos : String} {aft : Array Edge} {gd : Option (Nat × Bool)} {x y : Operand} {t t' : TypeId}
theorem E.eqlA {xs ys : Array Value} {r : Bool} (hg : P.eqGuardType P.depth t = false) (he : ∀ w, (Op.equalIn 10000 t (.agg xs) (.agg ys)).run P w = .ok r w) (hx : ev f x = .agg xs) (hy : ev f y = .agg ys) :
    (execOp (ev f) ⟨d, .binOp .eql t x y t', ty, pos, aft, gd⟩).run P w = .ok (.value (.bool r)) w := by
  simp [execOp, hx, hy, run_eqGuard_agg w .eql t x y xs ys hg, run_eql_struct, he]
theorem E.neqA {xs ys : Array Value} {r : Bool} (hg : P.eqGuardType P.depth t = false) (he : ∀ w, (Op.equalIn 10000 t (.agg xs) (.agg ys)).run P w = .ok r w) (hx : ev f x = .agg xs) (hy : ev f y = .agg ys) :
    (execOp (ev f) ⟨d, .binOp .neq t x y t', ty, pos, aft, gd⟩).run P w = .ok (.value (.bool (!r))) w := by
  simp [execOp, hx, hy, run_eqGuard_agg w .neq t x y xs ys hg, run_neq_struct, he]
end
end Go.Mr
namespace Go.Mr
open Go.RowKit Go.Pu
/-- an order's condition: B for the whole region; and p.2 while none of the operations p.1 has come up -/
structure SP (B : World → Prop) (ps : List (List Nat × (World → Prop))) (ls : Array Bool) (w : World) : Prop where
  base : B w
  ph : ∀ p ∈ ps, (∀ h ∈ p.1, ls.getD h true = false) → p.2 w
theorem SP.nil {B : World → Prop} {ls : Array Bool} {w : World} (hB : B w) : SP B [] ls w := ⟨hB, nofun⟩
theorem SP.on {B R : World → Prop} {Hs : List Nat} {ps : List (List Nat × (World → Prop))} {ls : Array Bool} {w : World} (hR : R w) (h : SP B ps ls w) : SP B ((Hs, R) :: ps) ls w :=
  ⟨h.base, fun p hp hn => by
    rcases List.mem_cons.1 hp with rfl | hp
    · exact hR
    · exact h.ph p hp hn⟩
theorem SP.off {B R : World → Prop} {Hs : List Nat} {ps : List (List Nat × (World → Prop))} {ls : Array Bool} {w : World} (hH : (Hs.any fun h => ls.getD h true) = true) (h : SP B ps ls w) : SP B ((Hs, R) :: ps) ls w :=
  ⟨h.base, fun p hp hn => by
    rcases List.mem_cons.1 hp with rfl | hp
    · obtain ⟨k, hk, ht⟩ := List.any_eq_true.1 hH
      have := hn k hk
      rw [this] at ht; cases ht
    · exact h.ph p hp hn⟩
theorem SP.iff {B : World → Prop} {ps : List (List Nat × (World → Prop))} {i : Nat} (hi : (ps.all fun p => !p.1.contains i) = true) {ls : Array Bool} {w : World} : SP B ps (ls.setIfInBounds i true) w ↔ SP B ps ls w := by
  have key : ∀ p ∈ ps, ∀ h ∈ p.1, (ls.setIfInBounds i true).getD h true = ls.getD h true := fun p hp h hh => by
    refine getD_set_ne true fun e => ?_
    have := List.all_eq_true.1 hi p hp
    rw [e] at this
    simp [hh] at this
  exact ⟨fun k => ⟨k.base, fun p hp hn => k.ph p hp fun h hh => by rw [key p hp h hh]; exact hn h hh⟩, fun k => ⟨k.base, fun p hp hn => k.ph p hp fun h hh => by rw [← key p hp h hh]; exact hn h hh⟩⟩
section
variable {P : Program} {ops : Array Oper} {Q : Exit → Act → World → Prop} {md : Region.Mode}
def wpAnyI (P : Program) (md : Region.Mode) (ops : Array Oper) (Q : Exit → Act → World → Prop) (S : Array Bool → World → Prop) : Nat → Array Bool → Act → World → Prop
  | 0, ls, a, w => Region.ready md ops ls = [] ∧ Q .normal a w
  | n + 1, ls, a, w => (Region.ready md ops ls = [] → Q .normal a w) ∧
      ∀ i ∈ Region.ready md ops ls, wpOp P ops Q i (fun a w => S (ls.setIfInBounds i true) w ∧ wpAnyI P md ops Q S n (ls.setIfInBounds i true) a w) a w
theorem wpAnyI.mono {S S' : Array Bool → World → Prop} (hS : ∀ ls w, S ls w → S' ls w) : ∀ (n : Nat) (ls : Array Bool) (a : Act) (w : World), wpAnyI P md ops Q S n ls a w → wpAnyI P md ops Q S' n ls a w
  | 0, _, _, _, h => h
  | n + 1, _, _, _, h => ⟨h.1, fun i hi => wpOp_mono (fun _ _ k => ⟨hS _ _ k.1, wpAnyI.mono hS n _ _ _ k.2⟩) (h.2 i hi)⟩
theorem wpAnyI.held {S : Array Bool → World → Prop} : ∀ (n : Nat) (ls : Array Bool) (a : Act) (w : World), wpAnyI P md ops Q S n ls a w → wpAnyH P md ops Q (fun _ => True) n ls a w
  | 0, _, _, _, h => h
  | n + 1, _, _, _, h => ⟨h.1, fun i hi => wpOp_mono (fun _ _ k => ⟨trivial, wpAnyI.held n _ _ _ k.2⟩) (h.2 i hi)⟩
/-- operation i first: all of C waits for it -/
theorem wpAnyI.first {S : Array Bool → World → Prop} {i : Nat} {oi : Oper} {v : Value} (C : Nat → Prop) (hi : ops[i]? = some oi) (hsel : ∀ (j : Nat) (o : Oper) cs b, ops[j]? = some o → o.op ≠ .select cs b)
    (hQ : ∀ c a w, Q (.panic c) (a.put oi.dst v) w → Q (.panic c) a w) (hSi : ∀ ls w, S (ls.setIfInBounds i true) w ↔ S ls w)
    (hC : ∀ j, C j → ∃ oj, ops[j]? = some oj ∧ ∃ e ∈ oj.after, Region.binds md e = true ∧ (C e.on ∨ e.on = i)) : ∀ (n : Nat) (ls : Array Bool) (a : Act) (w : World),
      (∀ j oj, ops[j]? = some oj → j ≠ i → ls.getD j true = false → (∀ e ∈ oj.after, Region.binds md e = true → e.on ≠ i) → oi.apart ops oj = true) →
      i ∈ Region.ready md ops ls → (∀ j, C j → ls.getD j true = false) → YieldsIf P ops (fun w' => ∃ ls', (∀ j, C j → ls'.getD j true = false) ∧ S ls' w') oi v a → S ls w →
      wpAnyI P md ops Q S n (ls.setIfInBounds i true) (a.put oi.dst v) w → wpAnyI P md ops Q S (n + 1) ls a w := by
  intro n
  induction n with
  | zero =>
    intro ls a w _ hr hn hy hS H
    refine ⟨fun h => (by rw [h] at hr; cases hr), fun j hj => ?_⟩
    by_cases hji : j = i
    · subst hji; exact hy.wpOp hi ⟨ls, hn, hS⟩ ⟨(hSi ls w).2 hS, H⟩
    · have hm := ready_mono hj hji
      rw [H.1] at hm
      cases hm
  | succ n ih =>
    intro ls a w hfree hr hn hy hS H
    refine ⟨fun h => (by rw [h] at hr; cases hr), fun j hj => ?_⟩
    by_cases hji : j = i
    · subst hji; exact hy.wpOp hi ⟨ls, hn, hS⟩ ⟨(hSi ls w).2 hS, H⟩
    · have h1 := H.2 j (ready_mono hj hji)
      obtain ⟨hun, oj, hoj, hall⟩ := mem_ready.1 hj
      have hir := (mem_ready.1 hr).1
      have off : ∀ k, ls.getD k true = false → ls.getD k false = true → False := fun k h0 h1 => by
        rcases Nat.lt_or_ge k ls.size with h' | h'
        · simp [h'] at h0 h1; rw [h0] at h1; cases h1
        · simp [Array.getElem?_eq_none h'] at h1
      have hno : ∀ e ∈ oj.after, Region.binds md e = true → e.on ≠ i := fun e he hb heq => off i hir (heq ▸ hall e he hb)
      have hCj : ¬ C j := fun hc => by
        obtain ⟨oj', ho', e, he, hb, hd⟩ := hC j hc
        rw [hoj] at ho'; cases ho'
        rcases hd with hd | hd
        · exact off _ (hn _ hd) (hall e he hb)
        · exact hno e he hb hd
      have hn' : ∀ k, C k → (ls.setIfInBounds j true).getD k true = false := fun k hk => by
        rw [getD_set_ne true (fun (e : j = k) => hCj (by rw [e]; exact hk))]; exact hn k hk
      have h2 := wpOp_putIf hoj (hfree j oj hoj hji hun hno) (fun cs b => hsel i oi cs b hi) (fun cs b => hsel j oj cs b hoj) hQ hy h1
      refine wpOp_mono (fun a' w' h3 => ?_) h2
      have e := Array.setIfInBounds_comm (xs := ls) true true hji
      have hS' : S (ls.setIfInBounds j true) w' := (hSi _ _).1 (by rw [e]; exact h3.2.1)
      refine ⟨hS', ih (ls.setIfInBounds j true) a' w' (fun k ok hk hki hun' hno' => ?_) (ready_mono hr (Ne.symm hji)) hn' h3.1 hS' (by rw [e]; exact h3.2.2)⟩
      refine hfree k ok hk hki ?_ hno'
      by_cases hjk : j = k
      · subst hjk; exact hun
      · rw [getD_set_ne true hjk] at hun'; exact hun'
/-- the test of a certificate -/
def certB (ops : Array Oper) (C : List Nat) (i : Nat) (ls : Array Bool) (ps : List (List Nat × (World → Prop))) : Bool :=
  (C.all fun j => !ls.getD j true && match ops[j]? with | some oj => oj.after.any fun e => Region.binds .any e && (C.contains e.on || e.on == i) | none => false) && ps.all fun p => !p.1.contains i
end
def FB {δ : List Nat} (P : Program) (N : Nat) (ops : Array Oper) (B : World → Prop) (M : Fm → World → Prop) (ps : List (List Nat × (World → Prop))) (n : Nat) (ls : Array Bool) (f : Fm) (w : World) : Prop :=
  ∀ a, Fr (δ := δ) N a f → wpAnyI P .any ops (lift (δ := δ) N fun e f w => e = .normal ∧ M f w) (SP B ps) n ls a w
def FC {δ : List Nat} (P : Program) (N : Nat) (ops : Array Oper) (B : World → Prop) (M : Fm → World → Prop) (ps : List (List Nat × (World → Prop))) (n : Nat) (ls : Array Bool) (i : Nat) (f : Fm) (w : World) : Prop :=
  ∀ a, Fr (δ := δ) N a f → wpOp P ops (lift (δ := δ) N fun e f w => e = .normal ∧ M f w) i (fun a w => SP B ps (ls.setIfInBounds i true) w ∧ wpAnyI P .any ops (lift (δ := δ) N fun e f w => e = .normal ∧ M f w) (SP B ps) n (ls.setIfInBounds i true) a w) a w
section
variable {δ : List Nat} {P : Program} {N : Nat} {f : Fm} {w w' : World} {ops : Array Oper} {B : World → Prop} {M : Fm → World → Prop} {ps : List (List Nat × (World → Prop))} {n : Nat} {ls l' : Array Bool} {H : GH}
theorem FW.drawB {Q : FQ} {id : Nat} {l : List Oper} (B : World → Prop) (M : Fm → World → Prop) (hm : P.follows .mixedOrders = true) (hs : Sl H w)
    (h : ∀ w1, Run w.heap.size H w H w1 → FB (δ := δ) P N l.toArray B M [] l.length (Array.replicate l.length false) f w1) (hQ : ∀ f w, M f w → Q .normal f w) : FW (ρ := none) (δ := δ) P N (.region id l.toArray true) Q f w := by
  intro n a ha
  refine wpIn_wide.2 ?_
  refine Code.wp_mono (Q := lift (δ := δ) N fun e f w => e = .normal ∧ M f w) (fun e a w ⟨f, hf, he, hM⟩ => he ▸ ⟨f, hf, hQ f w hM⟩) (wp_region_held (S := fun _ => True) hm (wpAnyI.held (S := SP B []) _ _ _ _ ?_))
  have := h _ (run_drew hs) a ha
  simpa using this
theorem FB.phase (Hs : List Nat) (R : World → Prop) (h : FB (δ := δ) P N ops B M ((Hs, R) :: ps) n ls f w) : FB (δ := δ) P N ops B M ps n ls f w :=
  fun a ha => wpAnyI.mono (fun _ _ k => ⟨k.base, fun p hp => k.ph p (by simp [hp])⟩) _ _ _ _ (h a ha)
theorem FB.take0 {S' : World → Prop} {i d : Nat} {o : Oper} {v : Value} (C : List Nat) (hi : ops[i]? = some o) (hs : Region.noSelect ops = true) (hf : Region.free .any ops ls i = true) (hr : (Region.ready .any ops ls).contains i = true)
    (hl : ls.setIfInBounds i true = l') (hc : certB ops C i ls ps = true) (hS : SP B ps ls w) (hd : o.dst = some d) (hlt : Nat.blt d N = true)
    (hy : ∀ a, Fr (δ := δ) N a f → YieldsIf P ops S' o v a) (hS' : ∀ ls' w', (∀ j ∈ C, ls'.getD j true = false) → SP B ps ls' w' → S' w')
    (h : FB (δ := δ) P N ops B M ps n l' (upd f d v) w) : FB (δ := δ) P N ops B M ps (n + 1) ls f w := by
  subst hl
  intro a ha
  unfold certB at hc
  rw [Bool.and_eq_true] at hc
  have hC := List.all_eq_true.1 hc.1
  refine wpAnyI.first (v := v) (fun j => j ∈ C) hi (Region.noSelect_spec hs) (fun c a w hq => ?_) (fun ls w => SP.iff hc.2) (fun j hj => ?_) n ls a w (Region.free_spec hi hf) (by simpa using hr) (fun j hj => ?_) ?_ hS ?_
  · obtain ⟨_, _, h0, _⟩ := hq; cases h0
  · have := hC j hj
    rw [Bool.and_eq_true] at this
    cases ho : ops[j]? with
    | none => rw [ho] at this; cases this.2
    | some oj =>
      rw [ho] at this
      obtain ⟨e, he, hb⟩ := Array.any_eq_true'.1 this.2
      rw [Bool.and_eq_true, Bool.or_eq_true] at hb
      exact ⟨oj, rfl, e, he, hb.1, hb.2.imp (fun h => by simpa using h) fun h => by simpa using h⟩
  · have := hC j hj
    rw [Bool.and_eq_true] at this
    simpa using this.1
  · exact (hy a ha).imp (fun ⟨h1, h2⟩ => ⟨h1, fun w' ⟨ls', k1, k2⟩ => h2 w' (hS' ls' w' k1 k2)⟩) id
  · rw [hd]; exact h _ (ha.put (nblt hlt) v)
/-- what reads what stays there for the whole region -/
theorem FB.take {i d : Nat} {o : Oper} {v : Value} (hi : ops[i]? = some o) (hs : Region.noSelect ops = true) (hf : Region.free .any ops ls i = true) (hr : (Region.ready .any ops ls).contains i = true)
    (hl : ls.setIfInBounds i true = l') (hc : certB ops [] i ls ps = true) (hS : SP B ps ls w) (hw : wF ops f o = true) (hd : o.dst = some d) (hlt : Nat.blt d N = true) (hrun : ∀ w', B w' → (execOp (ev f) o).run P w' = .ok (.value v) w')
    (h : FB (δ := δ) P N ops B M ps n l' (upd f d v) w) : FB (δ := δ) P N ops B M ps (n + 1) ls f w :=
  FB.take0 (S' := B) [] hi hs hf hr hl hc hS hd hlt (fun a ha => .inl ⟨by rw [ha.yielded]; exact hw, fun w' hw' => by rw [ha.eval]; exact hrun w' hw'⟩) (fun _ _ _ k => k.base) h
/-- what reads what stays there till one of Hs comes up -/
theorem FB.takeP {Hs : List Nat} {R : World → Prop} {i d : Nat} {o : Oper} {v : Value} (q : Nat) (C : List Nat) (hq : ps[q]? = some (Hs, R)) (hi : ops[i]? = some o) (hs : Region.noSelect ops = true) (hf : Region.free .any ops ls i = true) (hr : (Region.ready .any ops ls).contains i = true)
    (hl : ls.setIfInBounds i true = l') (hc : certB ops C i ls ps = true) (hH : Hs.all (C.contains ·) = true) (hS : SP B ps ls w) (hw : wF ops f o = true) (hd : o.dst = some d) (hlt : Nat.blt d N = true)
    (hrun : ∀ w', R w' → (execOp (ev f) o).run P w' = .ok (.value v) w')
    (h : FB (δ := δ) P N ops B M ps n l' (upd f d v) w) : FB (δ := δ) P N ops B M ps (n + 1) ls f w :=
  FB.take0 (S' := R) C hi hs hf hr hl hc hS hd hlt (fun a ha => .inl ⟨by rw [ha.yielded]; exact hw, fun w' hw' => by rw [ha.eval]; exact hrun w' hw'⟩)
    (fun ls' w' k1 k2 => k2.ph (Hs, R) (List.mem_of_getElem? hq) fun h hh => k1 h (by have := List.all_eq_true.1 hH h hh; simpa using this)) h
/-- what reads the world at hand -/
theorem FB.takeW {Hs : List Nat} {i d : Nat} {o : Oper} {v : Value} (C : List Nat) (hi : ops[i]? = some o) (hs : Region.noSelect ops = true) (hf : Region.free .any ops ls i = true) (hr : (Region.ready .any ops ls).contains i = true)
    (hl : ls.setIfInBounds i true = l') (hc : certB ops C i ls ((Hs, fun w' => w' = w) :: ps) = true) (hH : Hs.all (C.contains ·) = true) (hS : SP B ((Hs, fun w' => w' = w) :: ps) ls w) (hw : wF ops f o = true) (hd : o.dst = some d) (hlt : Nat.blt d N = true)
    (hrun : (execOp (ev f) o).run P w = .ok (.value v) w)
    (h : FB (δ := δ) P N ops B M ((Hs, fun w' => w' = w) :: ps) n l' (upd f d v) w) : FB (δ := δ) P N ops B M ((Hs, fun w' => w' = w) :: ps) (n + 1) ls f w :=
  FB.takeP 0 C rfl hi hs hf hr hl hc hH hS hw hd hlt (fun w' hw' => by rw [hw']; exact hrun) h
theorem FB.skip {i : Nat} {o : Oper} (hi : ops[i]? = some o) (hs : Region.noSelect ops = true) (hf : Region.free .any ops ls i = true) (hr : (Region.ready .any ops ls).contains i = true)
    (hl : ls.setIfInBounds i true = l') (hc : certB ops [] i ls ps = true) (hS : SP B ps ls w) {d : Nat} (hw : wF ops f o = false) (hd : o.dst = some d) (hlt : Nat.blt d N = true)
    (h : FB (δ := δ) P N ops B M ps n l' (upd f d undef) w) : FB (δ := δ) P N ops B M ps (n + 1) ls f w :=
  FB.take0 (S' := B) [] hi hs hf hr hl hc hS hd hlt (fun a ha => .inr ⟨by rw [ha.yielded]; exact hw, rfl⟩) (fun _ _ _ k => k.base) h
theorem FB.done (hr : Region.ready .any ops ls = []) (h : M f w) : FB (δ := δ) P N ops B M ps n ls f w := fun _ ha => by
  cases n with
  | zero => exact ⟨hr, ⟨f, ha, rfl, h⟩⟩
  | succ n => exact ⟨fun _ => ⟨f, ha, rfl, h⟩, fun i hi => by rw [hr] at hi; cases hi⟩
theorem FB.all {rs : List Nat} (hr : Region.ready .any ops ls = rs) (hne : rs ≠ []) (h : ∀ i ∈ rs, FC (δ := δ) P N ops B M ps n ls i f w) : FB (δ := δ) P N ops B M ps (n + 1) ls f w :=
  fun a ha => ⟨fun h0 => absurd (hr ▸ h0) hne, fun i hi => h i (hr ▸ hi) a ha⟩
theorem FB.all1 {i : Nat} (hr : Region.ready .any ops ls = [i]) (h : FC (δ := δ) P N ops B M ps n ls i f w) : FB (δ := δ) P N ops B M ps (n + 1) ls f w :=
  FB.all hr (by simp) fun j hj => by simp at hj; subst hj; exact h
theorem FB.all2 {i j : Nat} (hr : Region.ready .any ops ls = [i, j]) (h1 : FC (δ := δ) P N ops B M ps n ls i f w) (h2 : FC (δ := δ) P N ops B M ps n ls j f w) : FB (δ := δ) P N ops B M ps (n + 1) ls f w :=
  FB.all hr (by simp) fun m hm => by
    simp at hm; rcases hm with rfl | rfl
    · exact h1
    · exact h2
theorem FB.all3 {i j k : Nat} (hr : Region.ready .any ops ls = [i, j, k]) (h1 : FC (δ := δ) P N ops B M ps n ls i f w) (h2 : FC (δ := δ) P N ops B M ps n ls j f w) (h3 : FC (δ := δ) P N ops B M ps n ls k f w) : FB (δ := δ) P N ops B M ps (n + 1) ls f w :=
  FB.all hr (by simp) fun m hm => by
    simp at hm; rcases hm with rfl | rfl | rfl
    · exact h1
    · exact h2
    · exact h3
theorem FB.all4 {i j k m : Nat} (hr : Region.ready .any ops ls = [i, j, k, m]) (h1 : FC (δ := δ) P N ops B M ps n ls i f w) (h2 : FC (δ := δ) P N ops B M ps n ls j f w) (h3 : FC (δ := δ) P N ops B M ps n ls k f w) (h4 : FC (δ := δ) P N ops B M ps n ls m f w) : FB (δ := δ) P N ops B M ps (n + 1) ls f w :=
  FB.all hr (by simp) fun q hq => by
    simp at hq; rcases hq with rfl | rfl | rfl | rfl
    · exact h1
    · exact h2
    · exact h3
    · exact h4
/-- who has come up -/
def bs (n m : Nat) : Array Bool := ((List.range n).map fun i => m.testBit i).toArray
theorem FB.t {i d : Nat} {o : Oper} {v : Value} (l' : Array Bool) (hi : ops[i]? = some o) (hS : SP B ps ls w) (hw : wF ops f o = true) (hrun : ∀ w', B w' → (execOp (ev f) o).run P w' = .ok (.value v) w')
    (h : FB (δ := δ) P N ops B M ps n l' (upd f d v) w) (hd : o.dst = some d := by rfl) (hlt : Nat.blt d N = true := by rfl) (hs : Region.noSelect ops = true := by kernel_rfl) (hf : Region.free .any ops ls i = true := by kernel_rfl)
    (hr : (Region.ready .any ops ls).contains i = true := by kernel_rfl) (hl : ls.setIfInBounds i true = l' := by kernel_rfl) (hc : certB ops [] i ls ps = true := by kernel_rfl) : FB (δ := δ) P N ops B M ps (n + 1) ls f w :=
  FB.take hi hs hf hr hl hc hS hw hd hlt hrun h
theorem FB.p {Hs : List Nat} {R : World → Prop} {i d : Nat} {o : Oper} {v : Value} (l' : Array Bool) (q : Nat) (C : List Nat) (hi : ops[i]? = some o) (hS : SP B ps ls w) (hw : wF ops f o = true) (hq : ps[q]? = some (Hs, R)) (hrun : ∀ w', R w' → (execOp (ev f) o).run P w' = .ok (.value v) w')
    (h : FB (δ := δ) P N ops B M ps n l' (upd f d v) w) (hd : o.dst = some d := by rfl) (hlt : Nat.blt d N = true := by rfl) (hs : Region.noSelect ops = true := by kernel_rfl) (hf : Region.free .any ops ls i = true := by kernel_rfl)
    (hr : (Region.ready .any ops ls).contains i = true := by kernel_rfl) (hl : ls.setIfInBounds i true = l' := by kernel_rfl) (hc : certB ops C i ls ps = true := by kernel_rfl) (hH : Hs.all (C.contains ·) = true := by kernel_rfl) : FB (δ := δ) P N ops B M ps (n + 1) ls f w :=
  FB.takeP q C hq hi hs hf hr hl hc hH hS hw hd hlt hrun h
theorem FB.u {Hs : List Nat} {i d : Nat} {o : Oper} {v : Value} (l' : Array Bool) (C : List Nat) (hi : ops[i]? = some o) (hS : SP B ((Hs, fun w' => w' = w) :: ps) ls w) (hw : wF ops f o = true) (hrun : (execOp (ev f) o).run P w = .ok (.value v) w)
    (h : FB (δ := δ) P N ops B M ((Hs, fun w' => w' = w) :: ps) n l' (upd f d v) w) (hd : o.dst = some d := by rfl) (hlt : Nat.blt d N = true := by rfl) (hs : Region.noSelect ops = true := by kernel_rfl) (hf : Region.free .any ops ls i = true := by kernel_rfl)
    (hr : (Region.ready .any ops ls).contains i = true := by kernel_rfl) (hl : ls.setIfInBounds i true = l' := by kernel_rfl) (hc : certB ops C i ls ((Hs, fun w' => w' = w) :: ps) = true := by kernel_rfl) (hH : Hs.all (C.contains ·) = true := by kernel_rfl) : FB (δ := δ) P N ops B M ((Hs, fun w' => w' = w) :: ps) (n + 1) ls f w :=
  FB.takeW C hi hs hf hr hl hc hH hS hw hd hlt hrun h
theorem SP.o {B R : World → Prop} {Hs : List Nat} {ps : List (List Nat × (World → Prop))} {ls : Array Bool} {w : World} (h : SP B ps ls w) (hH : (Hs.any fun h => ls.getD h true) = true := by kernel_rfl) : SP B ((Hs, R) :: ps) ls w := SP.off hH h
theorem FC.val {i d : Nat} {o : Oper} {v : Value} (hi : ops[i]? = some o) (hl : ls.setIfInBounds i true = l') (hw : wF ops f o = true) (hd : o.dst = some d) (hlt : Nat.blt d N = true)
    (hr : (execOp (ev f) o).run P w = .ok (.value v) w') (h : SP B ps l' w' ∧ FB (δ := δ) P N ops B M ps n l' (upd f d v) w') : FC (δ := δ) P N ops B M ps n ls i f w := by
  subst hl
  intro a ha
  unfold wpOp
  simp only [hi]
  rw [ha.yielded, if_pos (show Region.wanted o (yF ops f) = true from hw)]
  refine .inl ?_
  unfold Oper.wp
  rw [ha.eval, hr, Oper.upon_value, hd]
  exact ⟨h.1, h.2 _ (ha.put (nblt hlt) v)⟩
theorem FC.val0 {i : Nat} {o : Oper} {v : Value} (hi : ops[i]? = some o) (hl : ls.setIfInBounds i true = l') (hw : wF ops f o = true) (hd : o.dst = none)
    (hr : (execOp (ev f) o).run P w = .ok (.value v) w') (h : SP B ps l' w' ∧ FB (δ := δ) P N ops B M ps n l' f w') : FC (δ := δ) P N ops B M ps n ls i f w := by
  subst hl
  intro a ha
  unfold wpOp
  simp only [hi]
  rw [ha.yielded, if_pos (show Region.wanted o (yF ops f) = true from hw)]
  refine .inl ?_
  unfold Oper.wp
  rw [ha.eval, hr, Oper.upon_value, hd]
  exact ⟨h.1, h.2 _ ha⟩
theorem FC.act {i : Nat} {o : Oper} (hi : ops[i]? = some o) (hl : ls.setIfInBounds i true = l') (hw : wF ops f o = true) (hd : o.dst = none)
    (hr : (execOp (ev f) o).run P w = .ok .skip w') (h : SP B ps l' w' ∧ FB (δ := δ) P N ops B M ps n l' f w') : FC (δ := δ) P N ops B M ps n ls i f w := by
  subst hl
  intro a ha
  unfold wpOp
  simp only [hi]
  rw [ha.yielded, if_pos (show Region.wanted o (yF ops f) = true from hw)]
  refine .inl ?_
  unfold Oper.wp
  rw [ha.eval, hr, Oper.upon_skip, hd]
  exact ⟨h.1, h.2 _ ha⟩
theorem FC.call {i d fid : Nat} {o : Oper} {args : Array Value} {R : Ending → World → Prop} (hi : ops[i]? = some o) (hl : ls.setIfInBounds i true = l') (hw : wF ops f o = true) (hd : o.dst = some d) (hlt : Nat.blt d N = true)
    (hr : (execOp (ev f) o).run P w = .ok (.enter fid args) w) (hc : Calls P fid args w R)
    (h : ∀ e w', R e w' → ∃ v, e = .returned v ∧ SP B ps l' w' ∧ FB (δ := δ) P N ops B M ps n l' (upd f d v) w') : FC (δ := δ) P N ops B M ps n ls i f w := by
  subst hl
  intro a ha
  unfold wpOp
  simp only [hi]
  rw [ha.yielded, if_pos (show Region.wanted o (yF ops f) = true from hw)]
  refine .inl ?_
  unfold Oper.wp
  rw [ha.eval, hr, Oper.upon_enter, hd]
  refine hc.mono fun e w' r => ?_
  obtain ⟨v, rfl, hS, hv⟩ := h e w' r
  exact ⟨hS, hv _ (ha.put (nblt hlt) v)⟩
end
section
variable {P : Program} {f : Fm} {d : Option Tmp} {ty : TypeId} {pos : String} {aft : Array Edge} {gd : Option (Nat × Bool)} {x : Operand} {H0 H H' : GH} {w0 w w' : World} {l : List MO} {e k n : Nat} {z v : Value}
theorem E.lenOW {α : Type} {En : Enc α} {xs : List α} {cells : List Value} {t e' : Nat} (te : TE P t e' k z) (hx : ev f x = v) (h : St H0 w0 H w l) {i : Nat} (hi : l[i]? = some (.row e k v n cells)) (he : Els H' En k cells xs) (hk : 0 < k) :
    (execOp (ev f) ⟨d, .call ⟨.builtin .len, #[x], #[t]⟩, ty, pos, aft, gd⟩).run P w' = .ok (.value (.int .i64 (Pu.len xs))) w' := by
  have := E.len (P := P) (f := f) (w := w') (d := d) (ty := ty) (pos := pos) (aft := aft) (gd := gd) te hx (h.row_ln hi)
  rw [h.row_n hi he hk] at this; exact this
end
section
variable {ρ : Option Nat} {δ : List Nat} {P : Program} {N : Nat} {Q : FQ} {f : Fm} {w : World} {ops : Array Oper} {o : Oper} {rest : List Oper}
theorem FL.v {d : Nat} {v : Value} {w' : World} (hr : (execOp (ev f) o).run P w = .ok (.value v) w') (h : FL (ρ := ρ) (δ := δ) P N ops Q rest (upd f d v) w')
    (hw : wF ops f o = true := by rfl) (hd : o.dst = some d := by rfl) (hlt : Nat.blt d N = true := by rfl) : FL (ρ := ρ) (δ := δ) P N ops Q (o :: rest) f w := FL.val hw hd hlt hr h
end
end Go.Mr
namespace Go.Mr
open Go.RowKit Go.Pu
/-- a map's object, and what it holds -/
def MapOf {K V : Type} (ek : K → Value) (en : V → Value) (o : Obj) (m : List (K × V)) : Prop :=
  ∃ es clock, o = .map es clock ∧ es.toList.map (fun e => (e.key, e.val)) = m.map fun p => (ek p.1, en p.2)
/-- keys that are compared at once -/
structure KeyNow (P : Program) (kt : TypeId) {K : Type} [BEq K] (ek : K → Value) : Prop where
  kd : ∃ kd, (∀ w, (underlying kt).run P w = .ok kd w) ∧ ∀ a b, Instr.sameNow kd (ek a) (ek b) = some (a == b)
  eq : ∀ a b : K, (a == b) = true → a = b
  bits : ∀ a, Instr.sameBits 10000 (ek a) (ek a) = true
  chk : ∀ e a w, (Instr.checkKey e 10000 kt (ek a)).run P w = .ok () w
section
variable {H0 H : GH} {w0 w : World} {l : List MO} {P : Program} {K V : Type} {ek : K → Value} {en : V → Value} {kt et t : TypeId} {o : Obj} {m : List (K × V)} {i b : Nat}
theorem chk_int (h : ∀ w, (underlying kt).run P w = .ok (.int .i64) w) (n : Nat) (e : Bool) (a : Int) (w : World) : (Instr.checkKey e (n + 1) kt (.int .i64 a)).run P w = .ok () w := by
  simp [Instr.checkKey, h]
theorem KeyNow.int (h : ∀ w, (underlying kt).run P w = .ok (.int .i64) w) : KeyNow P kt (Value.int .i64) := by
  refine ⟨⟨_, h, fun a b => ?_⟩, fun a b h => by simpa using h, fun a => ?_, fun e a w => chk_int h 9999 e a w⟩
  · simp [Instr.sameNow]
  · simp [Instr.sameBits]
def mfind [BEq K] : List (K × V) → K → Option (Nat × V)
  | [], _ => none
  | p :: m, k => bif k == p.1 then some (0, p.2) else (mfind m k).map fun z => (z.1 + 1, z.2)
theorem mget_find [BEq K] : ∀ (m : List (K × V)) (k : K), mget m k = (mfind m k).map (·.2)
  | [], _ => rfl
  | p :: m, k => by
    simp only [mget, mfind]
    cases k == p.1 with
    | true => rfl
    | false => simp only [cond_false]; rw [mget_find m k]; cases mfind m k <;> rfl
theorem mput_none [BEq K] : ∀ {m : List (K × V)} {k : K} (v : V), mfind m k = none → mput m k v = m ++ [(k, v)]
  | [], _, _, _ => rfl
  | p :: m, k, v, h => by
    simp only [mfind, mput] at h ⊢
    cases hk : k == p.1 with
    | true => rw [hk] at h; cases h
    | false =>
      rw [hk] at h
      simp only [cond_false, List.cons_append] at h ⊢
      rw [mput_none v (by cases hf : mfind m k with
        | none => rfl
        | some z => rw [hf] at h; cases h)]
theorem mput_some [BEq K] : ∀ {m : List (K × V)} {k : K} {j : Nat} {u : V} (v : V), mfind m k = some (j, u) → mput m k v = m.set j (k, v) ∧ j < m.length ∧ ∃ p, m[j]? = some p ∧ (k == p.1) = true
  | [], _, _, _, _, h => by cases h
  | p :: m, k, j, u, v, h => by
    simp only [mfind, mput] at h ⊢
    cases hk : k == p.1 with
    | true => rw [hk] at h; cases h; exact ⟨rfl, Nat.zero_lt_succ _, p, rfl, hk⟩
    | false =>
      rw [hk] at h
      simp only [cond_false] at h ⊢
      cases hf : mfind m k with
      | none => rw [hf] at h; cases h
      | some z =>
        rw [hf] at h; cases h
        obtain ⟨h1, h2, q, h3, h4⟩ := mput_some v (m := m) (k := k) (j := z.1) (u := z.2) hf
        exact ⟨by rw [h1]; rfl, by simpa using h2, q, by simpa using h3, h4⟩
theorem findNow_eq [BEq K] {kd : TypeDesc} (hk : ∀ a b, Instr.sameNow kd (ek a) (ek b) = some (a == b)) (k : K) : ∀ (es : List MapEntry) (m : List (K × V)) (i : Nat), es.map (fun e => (e.key, e.val)) = m.map (fun p => (ek p.1, en p.2)) →
    Instr.findNow kd (ek k) es i = some ((mfind m k).map fun z => (i + z.1, en z.2))
  | [], [], _, _ => rfl
  | [], _ :: _, _, h => by cases h
  | _ :: _, [], _, h => by cases h
  | e :: es, p :: m, i, h => by
    simp only [List.map_cons, List.cons.injEq, Prod.mk.injEq] at h
    obtain ⟨⟨h1, h2⟩, h3⟩ := h
    have := findNow_eq hk k es m (i + 1) h3
    simp only [Instr.findNow, h1, hk, mfind]
    cases k == p.1 with
    | true => simp [h2]
    | false =>
      simp only [this, cond_false]
      cases mfind m k with
      | none => rfl
      | some z => simp; omega
theorem St.makeMap (S : St H0 w0 H w l) (t : TypeId) (ek : K → Value) (en : V → Value) :
    ∃ b o w1, (Instr.makeMap t Option.none).run P w = .ok (.map (some b)) w1 ∧ St H0 w0 H w1 (.raw b o :: l) ∧ MapOf ek en o [] :=
  ⟨w.heap.size, .map #[] 0, w.alloc (.map #[] 0), rfl, S.push (.raw w.heap.size (.map #[] 0)) _ ⟨heap_alloc_new w _, S.size⟩ (fun b hb => by simpa [MO.blk] using hb.symm), _, _, rfl, rfl⟩
theorem St.mapGet [BEq K] (S : St H0 w0 H w l) (hi : l[i]? = some (.raw b o)) (hm : MapOf ek en o m) (ht : ∀ w, (underlying t).run P w = .ok (.map kt et) w) (kn : KeyNow P kt ek) {z : V} (hz : ∀ w, (zeroValue et).run P w = .ok (en z) w) (k : K) :
    (Instr.lookup t (.map (some b)) (ek k) false).run P w = .ok (en ((mget m k).getD z)) w := by
  obtain ⟨es, c, rfl, he⟩ := hm
  have hb := S.rawAt hi
  obtain ⟨kd, h1, h2⟩ := kn.kd
  have hf := findNow_eq h2 k es.toList m 0 he
  rw [mget_find]
  cases hq : mfind m k with
  | none => rw [hq] at hf; simp [Instr.lookup, ht, getObj, Sem.run, hb, kn.chk, Instr.findKey, h1, hf, hz]
  | some z => rw [hq] at hf; simp [Instr.lookup, ht, getObj, Sem.run, hb, kn.chk, Instr.findKey, h1, hf]
theorem St.mapGetOk [BEq K] (S : St H0 w0 H w l) (hi : l[i]? = some (.raw b o)) (hm : MapOf ek en o m) (ht : ∀ w, (underlying t).run P w = .ok (.map kt et) w) (kn : KeyNow P kt ek) {z : V} (hz : ∀ w, (zeroValue et).run P w = .ok (en z) w) (k : K) :
    (Instr.lookup t (.map (some b)) (ek k) true).run P w = .ok (.tuple #[en ((mget m k).getD z), .bool (mget m k).isSome]) w := by
  obtain ⟨es, c, rfl, he⟩ := hm
  have hb := S.rawAt hi
  obtain ⟨kd, h1, h2⟩ := kn.kd
  have hf := findNow_eq h2 k es.toList m 0 he
  rw [mget_find]
  cases hq : mfind m k with
  | none => rw [hq] at hf; simp [Instr.lookup, ht, getObj, Sem.run, hb, kn.chk, Instr.findKey, h1, hf, hz]
  | some z => rw [hq] at hf; simp [Instr.lookup, ht, getObj, Sem.run, hb, kn.chk, Instr.findKey, h1, hf]
theorem St.mapPut [BEq K] (S : St H0 w0 H w l) (hi : l[i]? = some (.raw b o)) (hm : MapOf ek en o m) (ht : ∀ w, (underlying t).run P w = .ok (.map kt et) w) (kn : KeyNow P kt ek) (k : K) (v : V) :
    ∃ o1 w1, (Instr.mapUpdate t (.map (some b)) (ek k) (en v)).run P w = .ok () w1 ∧ St H0 w0 H w1 (l.set i (.raw b o1)) ∧ MapOf ek en o1 (mput m k v) := by
  obtain ⟨es, c, rfl, he⟩ := hm
  have hb := S.rawAt hi
  obtain ⟨kd, h1, h2⟩ := kn.kd
  have hf := findNow_eq h2 k es.toList m 0 he
  cases hq : mfind m k with
  | none =>
    rw [hq] at hf
    refine ⟨.map (es.push { key := ek k, val := en v, born := c }) (c + 1), _, ?_, S.rawPut _ hi, _, _, rfl, ?_⟩
    · simp [Instr.mapUpdate, ht, getObj, setObj, Sem.run, hb, kn.chk, Instr.findKey, h1, hf, World.putObj]
    · rw [mput_none v hq]; simp [he]
  | some z =>
    obtain ⟨j, u⟩ := z
    rw [hq] at hf
    obtain ⟨p1, p2, p, p3, p4⟩ := mput_some v hq
    have hlen : es.toList.length = m.length := by have := congrArg List.length he; simpa using this
    have hj : j < es.size := by simp at hlen; omega
    have hkey : es[j].key = ek k := by
      have := congrArg (fun l => l[j]?) he
      simp only [List.getElem?_map, p3, Option.map_some, Array.getElem?_toList, Array.getElem?_eq_getElem hj, Option.some.injEq, Prod.mk.injEq] at this
      rw [this.1, kn.eq _ _ p4]
    refine ⟨.map (es.modify j fun e => { e with key := ek k, val := en v }) c, _, ?_, S.rawPut _ hi, _, _, rfl, ?_⟩
    · simp [Instr.mapUpdate, ht, getObj, setObj, Sem.run, hb, kn.chk, Instr.findKey, h1, hf, Instr.keyThatStays, hkey, kn.bits, World.putObj, hj]
    · rw [p1]
      apply List.ext_getElem?
      intro n
      have hn := congrArg (fun l => l[n]?) he
      simp only [List.getElem?_map, Array.getElem?_toList] at hn
      simp only [List.getElem?_map, Array.getElem?_toList, Array.getElem?_modify, List.getElem?_set]
      by_cases hjn : j = n
      · subst hjn
        rw [if_pos rfl, if_pos rfl, if_pos p2, Array.getElem?_eq_getElem hj]; rfl
      · rw [if_neg hjn, if_neg hjn]; exact hn
theorem E.makeMap {f : Fm} {d : Option Tmp} {ty : TypeId} {pos : String} {aft : Array Edge} {gd : Option (Nat × Bool)} {v : Value} {w' : World} (h : (Instr.makeMap t Option.none).run P w = .ok v w') :
    (execOp (ev f) ⟨d, .makeMap t Option.none, ty, pos, aft, gd⟩).run P w = .ok (.value v) w' := by
  simp [execOp, h]
theorem E.lookup {f : Fm} {d : Option Tmp} {ty : TypeId} {pos : String} {aft : Array Edge} {gd : Option (Nat × Bool)} {x y : Operand} {u z v : Value} {ok : Bool} (hx : ev f x = u) (hy : ev f y = z) (h : (Instr.lookup t u z ok).run P w = .ok v w) :
    (execOp (ev f) ⟨d, .lookup t x y ok, ty, pos, aft, gd⟩).run P w = .ok (.value v) w := by
  subst hx hy; simp [execOp, h]
theorem E.mapUpdate {f : Fm} {ty : TypeId} {pos : String} {aft : Array Edge} {gd : Option (Nat × Bool)} {x y q : Operand} {u z v : Value} {w' : World} (hx : ev f x = u) (hy : ev f y = z) (hq : ev f q = v) (h : (Instr.mapUpdate t u z v).run P w = .ok () w') :
    (execOp (ev f) ⟨none, .mapUpdate t x y q, ty, pos, aft, gd⟩).run P w = .ok .skip w' := by
  subst hx hy hq; simp [execOp, h]
theorem E.lenM {f : Fm} {d : Option Tmp} {ty : TypeId} {pos : String} {aft : Array Edge} {gd : Option (Nat × Bool)} {x : Operand} (ht : ∀ w, (underlying t).run P w = .ok (.map kt et) w) (S : St H0 w0 H w l) (hi : l[i]? = some (.raw b o)) (hm : MapOf ek en o m) (hx : ev f x = .map (some b)) :
    (execOp (ev f) ⟨d, .call ⟨.builtin .len, #[x], #[t]⟩, ty, pos, aft, gd⟩).run P w = .ok (.value (.int .i64 (Pu.len m))) w := by
  obtain ⟨es, c, rfl, he⟩ := hm
  have hb := S.rawAt hi
  have hlen : es.size = m.length := by have := congrArg List.length he; simpa using this
  simp [execOp, resolve, invoke, builtin, Builtin.len_, hx, ht, getObj, Sem.run, hb, goInt, Pu.len, hlen]
theorem E.indexArr {f : Fm} {d : Option Tmp} {ty : TypeId} {pos : String} {aft : Array Edge} {gd : Option (Nat × Bool)} {x y : Operand} {n e k j off : Nat} {p : Addr} {kk : IntKind} (ht : ∀ w, (underlying t).run P w = .ok (.array n e) w) (hs : ∀ w, (sizeOf e).run P w = .ok k w)
    (hx : ev f x = .pointer (some p)) (hy : ev f y = .int kk ((j : Nat) : Int)) (h1 : j < n) (ho : j * k = off) : (execOp (ev f) ⟨d, .indexAddr t x y, ty, pos, aft, gd⟩).run P w = .ok (.value (.pointer (some (p.add off)))) w := by
  subst ho
  simp [execOp, hx, hy, Instr.indexAt, asIntOf, ht, hs, Instr.sureAddr, h1]
theorem E.indexArrN {f : Fm} {d : Option Tmp} {ty : TypeId} {pos : String} {aft : Array Edge} {gd : Option (Nat × Bool)} {x y : Operand} {n e k j off a c : Nat} {p : Addr} {kk : IntKind} (ht : ∀ w, (underlying t).run P w = .ok (.array n e) w) (hs : ∀ w, (sizeOf e).run P w = .ok k w)
    (hx : ev f x = .pointer (some (p.add a))) (hy : ev f y = .int kk ((j : Nat) : Int)) (h1 : j < n) (ho : j * k = off) (h : a + off = c) : (execOp (ev f) ⟨d, .indexAddr t x y, ty, pos, aft, gd⟩).run P w = .ok (.value (.pointer (some (p.add c)))) w := by
  subst h; rw [← addr_add_add]; exact E.indexArr ht hs hx hy h1 ho
end
end Go.Mr
namespace Go.Mr
open Go.RowKit Go.Pu
section
variable {H0 H : GH} {w0 w : World} {l : List MO} {P : Program} {t e tn : TypeId} {v : Value} {n : Nat}
theorem zeroCells_one (m : Nat) : Builtin.zeroCells (Value.int .i64 0).cells m = (List.replicate m (Value.int .i64 0)).toArray := by
  apply Array.ext
  · simp [Builtin.zeroCells, Value.cells]
  · intro i h1 h2
    simp [Builtin.zeroCells, Value.cells, Nat.mod_one]
theorem run_append_zeros_own {base : Nat} (te : TE P t e 1 (.int .i64 0)) {kn : IntKind} (htn : P.underlying tn = some (.int kn)) {cells : List Value} {m : Nat} (hown : w.ownsRow base e 1 v n cells) (hb : n + m ≤ lim) (hbase : base ≤ w.heap.size) :
    ∃ v' w', (∀ ty, (Builtin.append_ #[t, tn] ty #[v, .int .i64 (m : Int)]).run P w = .ok v' w') ∧ w'.ownsRow base e 1 v' (n + m) (cells ++ List.replicate m (.int .i64 0)) ∧ w.grownBy w' v.ownBlock ∧
      (∀ b, v'.ownBlock = some b → v.ownBlock = some b ∨ w.heap.size ≤ b) ∧ w.drawn ≤ w'.drawn := by
  obtain ⟨info, hi, hz, hsz, hby⟩ := te.i
  have hlim : lim = 4294967296 := rfl
  have hw : IntKind.i64.wrap (m : Int) = m := by rw [IntKind.wrap_i64]; omega
  have hbytes : (n + m) * info.bytes ≤ 140737488355328 := by
    have : (n + m) * info.bytes ≤ lim * 4096 := Nat.mul_le_mul hb hby
    rw [hlim] at this
    exact Nat.le_trans this (by decide)
  have hmb : m * info.bytes ≤ 140737488355328 := Nat.le_trans (Nat.mul_le_mul_right _ (Nat.le_add_left m n)) hbytes
  have hmi : ¬ (281474976710656 < (m : Int) * (info.bytes : Int)) := by rw [← Int.natCast_mul]; omega
  have hneg : ¬ ((m : Int) < 0) := by omega
  have hlen : (cells ++ List.replicate m (Value.int .i64 0)).length = (n + m) * 1 := by rw [List.length_append, hown.1, List.length_replicate]; omega
  have grown : ∀ (old : Nat), old < n + m → ∀ (row : Option Nat),
      (w.drew.alloc (.cells (cells.toArray ++ Builtin.zeroCells (Value.int .i64 0).cells m ++ Builtin.zeroCells (Value.int .i64 0).cells (grownCap w (n + m) old e - (n + m))) e)).ownsRow base e 1
        (.slice (some ⟨w.heap.size, 0, none⟩) (n + m) (grownCap w (n + m) old e)) (n + m) (cells ++ List.replicate m (.int .i64 0)) ∧
      w.grownBy (w.drew.alloc (.cells (cells.toArray ++ Builtin.zeroCells (Value.int .i64 0).cells m ++ Builtin.zeroCells (Value.int .i64 0).cells (grownCap w (n + m) old e - (n + m))) e)) row := by
    intro old ho row
    have hge := grownCap_ge w (n + m) old e
    have hcm : grownCap w (n + m) old e ≤ maxLen := grownCap_le_maxLen w (n + m) old e (by simp only [maxLen]; omega)
    have hc1 := hown.1
    refine ⟨⟨hlen, .inr ⟨w.heap.size, _, _, rfl, hbase, heap_alloc_new w.drew _, hge, hcm, ?_, ?_⟩⟩, ⟨rfl, rfl, rfl, by simp, fun k hk _ => heap_alloc_old w.drew _ (by simpa using hk)⟩⟩
    · rw [zeroCells_one, zeroCells_one]; simp; omega
    · rw [zeroCells_one, zeroCells_one]
      simp only [Array.toList_append, List.append_assoc]
      rw [← List.append_assoc, ← hlen]
      exact List.take_left
  rcases hown.2 with ⟨rfl, rfl⟩ | ⟨g, cap, cur, rfl, hbg, hg, hnc, hcm, hcs, htake⟩
  · have hx : cells = [] := List.eq_nil_of_length_eq_zero (by simpa using hown.1)
    subst hx
    by_cases hm : m = 0
    · subst hm
      refine ⟨.slice none 0 0, w, fun ty => ?_, by simpa using World.ownsRow_nil w base e 1, ⟨rfl, rfl, rfl, Nat.le_refl _, fun _ _ _ => rfl⟩, fun b hb => .inl hb, Nat.le_refl _⟩
      simp [Builtin.append_, run_underlying te.u, run_underlying htn, sizeOf, typeInfo, hi, asInt, asIntOf, IntKind.wrap_i64]
    · have hr := fun ty => Go.Lib.run_append_grow_zeros (P := P) w t tn ty e info (.int .i64 0) .i64 kn te.u htn hi hz none 0 0 [] (by simp [Builtin.firstCells]) m (by omega) (by omega) (by omega) (by omega) (by omega) (growslice_fits (by omega) (by simpa using hbytes))
      have hgr := grown 0 (by omega) (Value.ownBlock (.slice none 0 0))
      simp only [Nat.zero_add, List.nil_append, Array.empty_append] at hr hgr ⊢
      exact ⟨_, _, hr, hgr.1, hgr.2, fun b hb => .inr (by simp [Value.ownBlock] at hb; omega), Nat.le_succ _⟩
  · by_cases hroom : n + m ≤ cap
    · have hst := run_storeCells_at P g n e (List.replicate m (Value.int .i64 0)) 0 cur w hg (by rw [hcs]; simp; omega) (fun u hu => by rw [(List.mem_replicate.1 hu).2]; rfl)
      simp only [Nat.add_zero] at hst
      have hc1 := hown.1
      refine ⟨.slice (some ⟨g, 0, none⟩) (n + m) cap, w.setRow g (cur.toList.take n ++ List.replicate m (Value.int .i64 0) ++ cur.toList.drop (n + (List.replicate m (Value.int .i64 0)).length)).toArray, fun ty => ?_,
        ⟨hlen, .inr ⟨g, cap, _, rfl, hbg, setRow_heap w g cur _ e _ hg, hroom, hcm, ?_, ?_⟩⟩, ⟨rfl, rfl, rfl, by simp, fun k _ hk => setRow_other w g k _ (fun e => hk (by simp [Value.ownBlock, e]))⟩, fun b hb => .inl hb, Nat.le_refl _⟩
      · by_cases hm : m = 0
        · subst hm
          have hst0 := hst
          simp only [List.replicate_zero] at hst0
          simp [Builtin.append_, run_underlying te.u, run_underlying htn, sizeOf, typeInfo, hi, hsz, asInt, asIntOf, IntKind.wrap_i64, hnc, Addr.add_lit, hst0]
        · have hns : ¬ (m * info.size = 0) := by rw [hsz]; omega
          simp [Builtin.append_, run_underlying te.u, run_underlying htn, sizeOf, typeInfo, zeroValue, hi, hz, hsz, asInt, asIntOf, hw, hneg, hmi, hroom, hm, zeroCells_one, Addr.add_lit, hst]
      · simp only [List.size_toArray, List.length_append, List.length_take, List.length_drop, Array.length_toList, List.length_replicate]
        omega
      · rw [Nat.mul_one] at htake
        rw [htake, ← hlen]
        exact List.take_left
    · have holds : ∀ j u, cells[j]? = some u → w.cell? ((⟨g, 0, none⟩ : Addr).add j) = some u := hown.cells (g := g) rfl
      have hold : (Builtin.firstCells info.size n (.slice (some ⟨g, 0, none⟩) n cap)).run P w.drew = .ok cells.toArray w.drew :=
        run_firstCells_some (P := P) w.drew info.size n ⟨g, 0, none⟩ n cap cells (by rw [hsz]; exact hown.1) (fun j u hu => by simpa using holds j u hu)
      have hr := fun ty => Go.Lib.run_append_grow_zeros (P := P) w t tn ty e info (.int .i64 0) .i64 kn te.u htn hi hz (some ⟨g, 0, none⟩) n cap cells hold m (by omega) (by omega) (by omega) (by omega) (by omega) (growslice_fits (by omega) hbytes)
      have hgr := grown cap (by omega) (Value.ownBlock (.slice (some ⟨g, 0, none⟩) n cap))
      exact ⟨_, _, hr, hgr.1, hgr.2, fun b hb => .inr (by simp [Value.ownBlock] at hb; omega), Nat.le_succ _⟩
theorem els_zeros {G : GH} : ∀ m : Nat, Els G eI 1 (List.replicate m (Value.int .i64 0)) (List.replicate m 0)
  | 0 => .nil
  | m + 1 => by
    have := Els.snoc (els_zeros (G := G) m) (c := [Value.int .i64 0]) (x := 0) rfl rfl
    rw [← List.replicate_succ', ← List.replicate_succ'] at this
    exact this
theorem St.appendZ {G : GH} {xs zs : List Int} {c1 : List Value} {a : Int} (h : St H0 w0 H w l) (te : TE P t e 1 (.int .i64 0)) {kn : IntKind} (htn : P.underlying tn = some (.int kn)) {i : Nat} (hi : l[i]? = some (.row e 1 v n c1)) (he : Els G eI 1 c1 xs) (hz : appZ xs a = some zs) :
    ∃ v' w1 n' c', (∀ ty, (Builtin.append_ #[t, tn] ty #[v, .int .i64 a]).run P w = .ok v' w1) ∧ St H0 w0 H w1 (l.set i (.row e 1 v' n' c')) ∧ Els G eI 1 c' zs := by
  obtain ⟨h0, hb, rfl⟩ := appZ_some hz
  have hn := h.row_n hi he te.kp
  obtain ⟨g1, g2⟩ := h.ok i _ hi
  obtain ⟨v', w1, hr, h2, h3, h4, h5⟩ := run_append_zeros_own (P := P) te htn (m := a.toNat) g1 (by omega) h.size
  rw [show ((a.toNat : Nat) : Int) = a by omega] at hr
  refine ⟨v', w1, _, _, hr, h.upd hi h3 h5 ⟨h2, fun c hc => ?_⟩ (fun b hb => h4 b hb), he.app (els_zeros _)⟩
  rcases List.mem_append.1 hc with hc | hc
  · exact g2 c hc
  · rw [(List.mem_replicate.1 hc).2]; rfl
theorem E.appendZ {f : Fm} {d : Option Tmp} {ty : TypeId} {pos : String} {aft : Array Edge} {gd : Option (Nat × Bool)} {x y : Operand} {u z : Value} {w' : World} (hx : ev f x = v) (hy : ev f y = u) (hr : ∀ ty, (Builtin.append_ #[t, tn] ty #[v, u]).run P w = .ok z w') :
    (execOp (ev f) ⟨d, .call ⟨.builtin .append, #[x, y], #[t, tn]⟩, ty, pos, aft, gd⟩).run P w = .ok (.value z) w' := by
  simp [execOp, resolve, invoke, builtin, hx, hy, hr]
end
end Go.Mr
namespace Go.Mr
open Go.RowKit Go.Pu
section
variable {H0 H G G' : GH} {w0 w : World} {l : List MO} {P : Program} {t e n : Nat} {v u : Value} {α : Type} {En : Enc α} {cells c0 : List Value} {xs ys : List α} {j : Int} {x : α} {i : Nat}
/-- cells: those of xs, but u at j -/
structure Pend (G : GH) (En : Enc α) (cells : List Value) (xs : List α) (j : Int) (u : Value) : Prop where
  pd : ∃ c0, Els G En 1 c0 xs ∧ 0 ≤ j ∧ j < xs.length ∧ cells = c0.take (j.toNat * 1) ++ [u] ++ c0.drop (j.toNat * 1 + 1)
theorem St.pend (h : St H0 w0 H w l) (hi : l[i]? = some (.row e 1 v n c0)) (he : Els G En 1 c0 xs) (hx : ix xs j = some x) {p : Addr} (hp : PtrOf 1 v j p) (ts : ∀ w, (sizeOf t).run P w = .ok 1 w)
    (hu : u.cells = [u].toArray) (h1 : ∀ b ∈ [u], b.oneCell' = true) :
    ∃ w1 cells', (Instr.storeAt t (.pointer (some p)) u).run P w = .ok () w1 ∧ St H0 w0 H w1 (l.set i (.row e 1 v n cells')) ∧ Pend G En cells' xs j u := by
  obtain ⟨g0, g1, _⟩ := ix_some hx
  obtain ⟨w1, hst, hS⟩ := h.putRow (P := P) (l' := fun o => l.set i o) hi hp ts (u := u) (by rw [hu]; rfl) (by rw [hu]; simpa using h1 u (by simp)) (fun o => rfl)
  rw [hu] at hS
  exact ⟨w1, _, hst, hS, _, he, g0, g1, rfl⟩
theorem Pend.mono (h : Pend G En cells xs j u) (hi : Inc G G') : Pend G' En cells xs j u := by
  obtain ⟨c0, h1, h2⟩ := h
  exact ⟨c0, h1.mono hi, h2⟩
theorem Pend.close (h : Pend G En cells xs j u) (hr : En.rel G [u] x) (hy : put xs j x = some ys) : Els G En 1 cells ys := by
  obtain ⟨c0, h1, h2, h3, h4⟩ := h
  obtain ⟨_, _, rfl⟩ := put_some hy
  rw [h4]
  exact h1.put rfl hr _ (by omega)
theorem Pend.put (h : Pend G En cells xs j u) (x : α) : ∃ ys, put xs j x = some ys := by
  obtain ⟨c0, h1, h2, h3, h4⟩ := h
  exact ⟨_, by unfold Go.Pu.put; rw [if_pos ⟨h2, h3⟩]⟩
/-- a cell's place -/
theorem St.cell_at (h : St H0 w0 H w l) (hi : l[i]? = some (.row e 1 v n cells)) (h0 : 0 ≤ j) (hx : cells[j.toNat]? = some u) : ∃ p, PtrOf 1 v j p ∧ WAt w p [u] := by
  have h1 := (List.getElem?_eq_some_iff.1 hx).1
  obtain ⟨⟨k1, k2⟩, _⟩ := h.ok i _ hi
  rcases k2 with ⟨rfl, h3⟩ | ⟨g, cap, cur, rfl, hg, hh, hle, _, hsz, htk⟩
  · omega
  · refine ⟨_, ⟨⟨g, 0, Option.none⟩, _, cap, rfl, h0, by omega, rfl⟩, fun m z hz => ?_⟩
    rw [addr_add_add, Addr.add_lit, Nat.zero_add, cell_of_row w g _ _ _ _ hh]
    have hm : m = 0 := by
      rcases Nat.eq_zero_or_pos m with h | h
      · exact h
      · rw [List.getElem?_eq_none (by simp; omega)] at hz; cases hz
    subst hm
    rw [← htk, List.getElem?_take] at hx
    split at hx
    · cases hz; simpa using hx
    · cases hx
/-- the element's place -/
theorem St.pend_at (h : St H0 w0 H w l) (hi : l[i]? = some (.row e 1 v n cells)) (hp : Pend G En cells xs j u) : ∃ p, PtrOf 1 v j p ∧ WAt w p [u] := by
  obtain ⟨c0, h1, h2, h3, h4⟩ := hp
  have hl := h1.length
  refine h.cell_at hi h2 ?_
  rw [h4, List.append_assoc, List.getElem?_append_right (by simp; omega), List.singleton_append, show j.toNat - (List.take (j.toNat * 1) c0).length = 0 by simp; omega]
  rfl
theorem St.pend_atA (h : St H0 w0 H w l) (hi : l[i]? = some (.row e 1 v n cells)) (hp : Pend G En cells xs j u) :
    ∃ p, PtrOf 1 v j p ∧ WAt w p [u] ∧ ∀ (H' : GH) (w' : World) (l' : List MO) (i' : Nat), St H0 w0 H' w' l' → l'[i']? = some (.row e 1 v n cells) → WAt w' p [u] := by
  obtain ⟨p, h1, h2⟩ := h.pend_at hi hp
  refine ⟨p, h1, h2, fun H' w' l' i' h' hi' => ?_⟩
  obtain ⟨q, g1, g2⟩ := h'.pend_at hi' hp
  rw [h1.uniq g1]; exact g2
/-- a row of ours and nil -/
theorem St.nilTest {k te' ke : Nat} {z : Value} (te : TE P t te' ke z) (h : St H0 w0 H w l) (hi : l[i]? = some (.row e k v n cells)) (he : Els G En k cells xs) (hk : 0 < k) :
    ∃ b, (∀ (f : Fm) (x y : Operand) (n c : Nat) (d : Option Tmp) (t' ty : TypeId) (pos : String) (aft : Array Edge) (gd : Option (Nat × Bool)) (w : World), ev f x = v → ev f y = .slice Option.none n c →
      (execOp (ev f) ⟨d, .binOp .eql t x y t', ty, pos, aft, gd⟩).run P w = .ok (.value (.bool b)) w) ∧ (b = true → xs = []) := by
  obtain ⟨⟨k1, k2⟩, _⟩ := h.ok i _ hi
  have hl := he.length
  rcases k2 with ⟨rfl, h3⟩ | ⟨g, cap, cur, rfl, hg, hh, hle, _, hsz, htk⟩
  · refine ⟨true, fun f x y n c d t' ty pos aft gd w h1 h2 => ?_, fun _ => ?_⟩
    · simp [execOp, h1, h2, Go.Lib.run_eql_slice_nil w t te' Option.none _ _ n c te.u, eqGuard_at_slice]
    · rw [h3] at k1
      cases xs with
      | nil => rfl
      | cons x xs =>
        have h1 : 1 * k ≤ (xs.length + 1) * k := Nat.mul_le_mul_right k (by omega)
        have h2 : (xs.length + 1) * k = 0 := by rw [← List.length_cons (a := x), ← hl, k1]; simp
        omega
  · refine ⟨false, fun f x y m c d t' ty pos aft gd w h1 h2 => ?_, nofun⟩
    simp [execOp, h1, h2, Go.Lib.run_eql_slice_nil w t te' (some _) _ _ m c te.u, eqGuard_at_slice]
end
end Go.Mr
namespace Go.Mr
open Go.RowKit Go.Pu
section
variable {w : World} {H H' H2 Hx Ha Hb Hs Hs' : GH} {A A' : Type} {En : Enc A} {E' : Enc A'} {k k' B lo hi : Nat} {v v' : Value} {xs : List A} {ys : List A'} {c c' c1 c2 : List Value}
def Ap (v : Value) (c : List Value) (v' : Value) (c' : List Value) : Prop := ∀ b, (b ∈ bl [v] ∨ b ∈ bl c) → ¬ (b ∈ bl [v'] ∨ b ∈ bl c')
theorem Ap.symm (h : Ap v c v' c') : Ap v' c' v c := fun b h1 h2 => h b h2 h1
theorem Ap.nill : Ap (.slice none 0 0) [] v c := fun b h => by rcases h with h | h <;> cases h
theorem Ap.nilr : Ap v c (.slice none 0 0) [] := fun b _ h => by rcases h with h | h <;> cases h
theorem Ap.of (n : Nest Hx En k v xs c) (i1 : Inc Hx Ha) (i2 : Inc Hx Hb) (nv : New Ha [v']) (nc : New Hb c') : Ap v c v' c' := fun b h1 h2 => by
  have h0 := n.dom b h1
  cases e : Hx b with
  | none => exact h0 e
  | some o =>
    rcases h2 with h | h
    · have := nv b h; rw [i1 _ _ e] at this; cases this
    · have := nc b h; rw [i2 _ _ e] at this; cases this
theorem Ap.turn (h : Ap v c v' c') (h1 : bl c1 = bl c) (h2 : bl c2 = bl c') : Ap v c1 v' c2 := fun b a1 a2 => h b (h1 ▸ a1) (h2 ▸ a2)
theorem Nest.aside (n : Nest (up B Ha) E' k' v' ys c') (hE : LocE E') (ap : Ap v c v' c') (o2 : ∀ b, b ∉ bl [v] → b ∉ bl c → ∀ o, Ha b = some o → H2 b = some o) : Nest (up B H2) E' k' v' ys c' :=
  n.same hE fun b hb => by
    have h0 := n.dom b hb
    cases e : Ha b with
    | none => exact absurd (by unfold up; rw [e]; split <;> rfl) h0
    | some o => exact up_same ((o2 b (fun h => ap b (.inl h) hb) (fun h => ap b (.inr h) hb) o e).trans e.symm)
theorem Nest.outside2 (n0 : Nest (sg lo hi Hs) En k v xs c) (n1 : Nest (sg lo hi Hs') E' k' v' ys c') (ho : ∀ b, b ∉ bl [v] → b ∉ bl c → b ∉ bl [v'] → b ∉ bl c' → ∀ o, H b = some o → H' b = some o) :
    ∀ b, b < lo ∨ hi ≤ b → ∀ o, H b = some o → H' b = some o := fun b hb => by
  have k0 : ¬ (b ∈ bl [v] ∨ b ∈ bl c) := fun hm => by
    have h0 := n0.dom b hm
    cases h1 : sg lo hi Hs b with
    | none => exact absurd h1 h0
    | some o => obtain ⟨a, b, _, _⟩ := sg_iff.1 h1; omega
  have k1 : ¬ (b ∈ bl [v'] ∨ b ∈ bl c') := fun hm => by
    have h0 := n1.dom b hm
    cases h1 : sg lo hi Hs' b with
    | none => exact absurd h1 h0
    | some o => obtain ⟨a, b, _, _⟩ := sg_iff.1 h1; omega
  exact ho b (fun h => k0 (.inl h)) (fun h => k0 (.inr h)) (fun h => k1 (.inl h)) fun h => k1 (.inr h)
end
end Go.Mr
namespace Go.Pu
def catS (a b : ByteArray) : Option ByteArray := if a.size + b.size ≤ 9223372036854775807 then some (a ++ b) else none
def itoaS (n : Int) : ByteArray := ⟨(Go.Lib.itoa n).toArray⟩
/-- the text of a number, as the program's library makes it -/
def numS (n : Int) : Option ByteArray := if -9223372036854775808 ≤ n ∧ n ≤ 9223372036854775807 then some (itoaS n) else none
/-- the same, where the least number's negative is asked for -/
def numT (n : Int) : Option ByteArray := if -9223372036854775808 < n ∧ n ≤ 9223372036854775807 then some (itoaS n) else none
end Go.Pu
namespace Go.Mr
open Go.RowKit Go.Pu
/-- a package's variable holds a table -/
def TabH (P : Program) (name : String) (k : IntKind) (zs : List Int) (H : GH) : Prop := ∃ g e fr, P.globalNamed name = some g ∧ H g = some (.cells (zs.map fun z => Value.int k z).toArray e fr)
theorem TabH.mono {P : Program} {name : String} {k : IntKind} {zs : List Int} {H H' : GH} (h : TabH P name k zs H) (i : Inc H H') : TabH P name k zs H' :=
  let ⟨g, e, fr, h1, h2⟩ := h; ⟨g, e, fr, h1, i _ _ h2⟩
theorem TabH.is {P : Program} {name : String} {k : IntKind} {zs : List Int} {H : GH} {w : World} (h : TabH P name k zs H) (hs : Sl H w) : Lib.TabIs P w name k zs := by
  obtain ⟨g, e, fr, h1, h2⟩ := h
  unfold Lib.TabIs World.var?
  rw [h1, Option.bind_some, hs _ _ h2]
theorem tabH_of {P : Program} {name : String} {k : IntKind} {zs : List Int} {w : World} (h : Lib.TabIs P w name k zs) : TabH P name k zs (fun b => w.heap[b]?) := by
  unfold Lib.TabIs World.var? at h
  obtain ⟨g, h1, h2⟩ := Option.bind_eq_some_iff.1 h
  cases hb : w.heap[g]? with
  | none => rw [hb] at h2; cases h2
  | some o =>
    rw [hb] at h2
    cases o with
    | cells cs e fr => cases h2; exact ⟨g, e, fr, h1, hb⟩
    | _ => cases h2
/-- the table of the powers of ten -/
@[reducible] def TabI (P : Program) (H : GH) : Prop := TabH P "internal/strconv.uint64pow10" .u64 Lib.pow10Tab H
theorem run_grow {H : GH} {w : World} (hs : Sl H w) (k : Nat) (os : Array Obj) : Run w.heap.size H w H (Go.Sort.grow (w.drewN k) os) := by
  have hh : ∀ b, b < w.heap.size → (Go.Sort.grow (w.drewN k) os).heap[b]? = w.heap[b]? := fun b hb => by
    simp only [Go.Sort.grow, World.drewN]
    rw [Array.getElem?_append_left hb]
  refine ⟨⟨rfl, rfl, rfl, by simp [Go.Sort.grow, World.drewN], fun b hb => hh b hb⟩, fun _ _ => rfl, fun b o hb => ?_, Inc.rfl H, by simp [Go.Sort.grow, World.drewN], fun _ _ h => .inl h⟩
  have h1 := hs _ _ hb
  rw [hh b (Array.getElem?_eq_some_iff.1 h1).1]; exact h1
theorem CAt.ixs {H : GH} {p : Addr} {xs : List ByteArray} {i : Int} {x : ByteArray} (h : CAt H p (xs.map Value.string)) (hx : ix xs i = some x) : ∃ j : Nat, i = (j : Int) ∧ j < xs.length ∧ CAt H (p.add j) [Value.string x] := by
  obtain ⟨h0, h1, h2⟩ := ix_some hx
  obtain ⟨arr, e, fr, g1, g2, g3⟩ := h
  refine ⟨i.toNat, by omega, by omega, arr, e, fr, ?_, ?_, fun j c hj => ?_⟩
  · unfold Addr.add; split <;> exact g1
  · unfold Addr.add; split
    · exact g2
    · rfl
  · have hj0 : j = 0 := by have := (List.getElem?_eq_some_iff.1 hj).1; simp at this; omega
    subst hj0
    simp at hj; subst hj
    have := g3 i.toNat (Value.string x) (by rw [List.getElem?_map, h2]; rfl)
    unfold Addr.add; split
    · rename_i hz; rw [hz] at this; simpa using this
    · simpa using this
/-! texts -/
section
variable {P : Program} {f : Fm} {w : World} {d : Option Tmp} {ty : TypeId} {pos : String} {aft : Array Edge} {gd : Option (Nat × Bool)} {x y : Operand} {t t' : TypeId}
theorem E.addT {a b c : ByteArray} (hx : ev f x = .string a) (hy : ev f y = .string b) (h : catS a b = some c) : (execOp (ev f) ⟨d, .binOp .add t x y t', ty, pos, aft, gd⟩).run P w = .ok (.value (.string c)) w :=
  E.addS (catS := catS) hx hy h fun a b c h => by
    unfold catS at h; split at h
    · rename_i hh; cases h; exact ⟨hh, rfl⟩
    · cases h
theorem E.sliceS {s : ByteArray} {lo hi : Operand} {kl kh : IntKind} {a b : Int} (ht : P.underlying t = some .string) (hx : ev f x = .string s) (hl : ev f lo = .int kl a) (hh : ev f hi = .int kh b) (h0 : 0 ≤ a) (h1 : a ≤ b) (h2 : b ≤ s.size) :
    (execOp (ev f) ⟨d, .slice t x (some lo) (some hi) none, ty, pos, aft, gd⟩).run P w = .ok (.value (.string (s.extract a.toNat b.toNat))) w := by
  have hb : 0 ≤ b := by omega
  have hab : a.toNat ≤ b.toNat := by omega
  have hbs : b.toNat ≤ s.size := by omega
  have e1 : (a.toNat : Int) = a := Int.toNat_of_nonneg h0
  have e2 : (b.toNat : Int) = b := Int.toNat_of_nonneg hb
  simp [execOp, Instr.sliceAt, Instr.slice, run_underlying ht, Instr.sliceBounds, run_sliceBound, *]
end
theorem ba_app (a b : Array UInt8) : (⟨a⟩ : ByteArray) ++ ⟨b⟩ = ⟨a ++ b⟩ := by
  apply ByteArray.ext
  rw [ByteArray.data_append]
theorem itoaS_neg {n : Int} (h : n < 0) : itoaS n = (⟨#[45]⟩ : ByteArray) ++ itoaS (-n) := by
  unfold itoaS Go.Lib.itoa
  rw [if_pos h, if_neg (by omega), ba_app]
  congr 1
  rw [show n.natAbs = (-n).toNat by omega]; simp
theorem itoaS_one {n : Int} (h0 : 0 ≤ n) (h : n < 10) : itoaS n = ⟨#[UInt8.ofNat (48 + n.toNat)]⟩ := by
  unfold itoaS Go.Lib.itoa
  rw [if_neg (by omega), Go.Lib.decDigits, dif_pos (by omega)]
theorem itoaS_more {n : Int} (h : 10 ≤ n) : itoaS n = itoaS (n.tdiv 10) ++ (⟨#[UInt8.ofNat (48 + (n.tmod 10).toNat)]⟩ : ByteArray) := by
  obtain ⟨k, rfl⟩ := Int.eq_ofNat_of_zero_le (show 0 ≤ n by omega)
  have e1 : ((k : Nat) : Int).tdiv 10 = ((k / 10 : Nat) : Int) := rfl
  have e2 : ((k : Nat) : Int).tmod 10 = ((k % 10 : Nat) : Int) := rfl
  rw [e1, e2]
  unfold itoaS Go.Lib.itoa
  rw [if_neg (by omega), if_neg (by omega), ba_app]
  congr 1
  rw [Int.toNat_natCast, Int.toNat_natCast, Int.toNat_natCast, Go.Lib.decDigits, dif_neg (by omega)]
  simp
theorem digit_of {n : Int} (h0 : 0 ≤ n) (h : n < 10) : (ByteArray.mk #[48, 49, 50, 51, 52, 53, 54, 55, 56, 57]).extract n.toNat (n + 1).toNat = ⟨#[UInt8.ofNat (48 + n.toNat)]⟩ := by
  obtain ⟨k, rfl⟩ := Int.eq_ofNat_of_zero_le h0
  have hk : k < 10 := by omega
  have key : ∀ k : Fin 10, (ByteArray.mk #[48, 49, 50, 51, 52, 53, 54, 55, 56, 57]).extract k.val (k.val + 1) = ⟨#[UInt8.ofNat (48 + k.val)]⟩ := by decide +kernel
  exact key ⟨k, hk⟩
theorem itoaS_size (n : Int) (h0 : -9223372036854775808 ≤ n) (h1 : n ≤ 9223372036854775807) : (itoaS n).size ≤ 100 := by
  have := Go.Lib.itoa_length_le n h0 h1
  show (Go.Lib.itoa n).toArray.size ≤ 100
  simp; omega
end Go.Mr
namespace Go.Mr
open Go.RowKit Go.Pu
theorem loadVar_0 {P : Program} {w : World} {t : Nat} {p : Addr} {cs : List Value} {c : Value} (ta : ∀ w, (isAgg t).run P w = .ok false w) (hw : WAt w p cs) (hc : cs[0]? = some c) :
    (loadVar t p).run P w = .ok c w := by
  have := hw 0 c hc
  rw [Addr.add_zero'] at this
  simp [loadVar, ta, this]
theorem resCC {δ : List Nat} {fn : Func} {t ty t2 ty2 N : Nat} {P : Program} {w : World} {R : Ending → World → Prop} {f : Fm} {v v2 : Value} {p p2 : Addr} (hr : fn.results = #[.cell t ty, .cell t2 ty2]) (hv : f t = .pointer (some p))
    (hl : (loadVar ty p).run P w = .ok v w) (hv2 : f t2 = .pointer (some p2)) (hl2 : (loadVar ty2 p2).run P w = .ok v2 w) (hR : R (.returned (.tuple #[v, v2])) w) :
    ∀ a, Fr (δ := δ) N a f → ∃ v, (results fn a.tmps).run P w = .ok v w ∧ R (.returned v) w := fun a ha => ⟨_, by simp [results, hr, ha.val, hv, asAddr, hl, hv2, hl2], hR⟩
end Go.Mr
namespace Go.Mr
open Go.RowKit Go.Pu
section
variable {P : Program} {H0 H : GH} {w0 w : World} {l : List MO} {e t : TypeId} {k n : Nat} {v u : Value}
theorem St.putRowAt (h : St H0 w0 H w l) {i : Nat} {cells : List Value} (hi : l[i]? = some (.row e k v n cells)) {j : Int} {p : Addr} (hp : PtrOf k v j p) {off m : Nat} (hom : off + m ≤ k)
    (ts : ∀ w, (sizeOf t).run P w = .ok m w) (hu : u.cells.size = m) (h1 : ∀ c ∈ u.cells.toList, c.oneCell' = true) {l' : MO → List MO} (hl : ∀ o, l.set i o = l' o) :
    ∃ w1, (Instr.storeAt t (.pointer (some (p.add off))) u).run P w = .ok () w1 ∧ St H0 w0 H w1 (l' (.row e k v n (cells.take (j.toNat * k + off) ++ u.cells.toList ++ cells.drop (j.toNat * k + off + m)))) := by
  obtain ⟨⟨k1, k2⟩, k3⟩ := h.ok i _ hi
  obtain ⟨a, len, cap, rfl, h0, hlt, rfl⟩ := hp
  rcases k2 with ⟨h3, _⟩ | ⟨g, cap', cur, hv, hg, hh, hle, hcm, hsz, htk⟩
  · cases h3
  · cases hv
    have hlt' : j.toNat < n := by omega
    have hmul : j.toNat * k + k ≤ n * k := by
      rw [show j.toNat * k + k = (j.toNat + 1) * k by rw [Nat.add_mul, Nat.one_mul]]; exact Nat.mul_le_mul_right _ hlt'
    have hmul2 : n * k ≤ cap * k := Nat.mul_le_mul_right _ hle
    generalize j.toNat * k = q at *
    have hst := run_storeCells_at P g (q + off) e u.cells.toList 0 cur w hh (by simp [hu]; omega) h1
    simp only [Nat.add_zero, Array.length_toList, hu] at hst
    refine ⟨w.setRow g (List.take (q + off) cur.toList ++ u.cells.toList ++ List.drop (q + off + m) cur.toList).toArray, ?_, ?_⟩
    · rw [addr_add_add]
      simp only [Addr.add_lit, Nat.zero_add]
      simp [Instr.storeAt, Instr.sureAddr, storeVar, ts, hu, hst]
    · rw [← hl]
      refine h.upd hi (grownBy_setRow w g _) (Nat.le_refl _) ⟨⟨?_, .inr ⟨g, cap, _, rfl, hg, setRow_heap w g _ _ _ _ hh, hle, hcm, ?_, ?_⟩⟩, ?_⟩ (fun b hb => .inl hb)
      · simp only [List.length_append, List.length_take, List.length_drop, Array.length_toList, hu, k1]; omega
      · simp only [List.size_toArray, List.length_append, List.length_take, List.length_drop, Array.length_toList, hu, hsz]; omega
      · simp only [List.append_assoc]
        rw [← htk, List.take_take, Nat.min_eq_left (by omega), List.take_append, List.take_take, List.length_take, Array.length_toList, hsz, Nat.min_eq_left (show q + off ≤ cap * k by omega), Nat.min_eq_right (show q + off ≤ n * k by omega),
          List.take_append, List.take_of_length_le (show u.cells.toList.length ≤ n * k - (q + off) by simp [hu]; omega), Array.length_toList, hu, List.drop_take]
        rw [show n * k - (q + off) - m = n * k - (q + off + m) by omega]
      · intro c hc
        simp only [List.append_assoc, List.mem_append] at hc
        rcases hc with hc | hc | hc
        · exact k3 c (List.mem_of_mem_take hc)
        · exact h1 c hc
        · exact k3 c (List.mem_of_mem_drop hc)
/-- the cells of an element are those that lie at its place -/
theorem St.cells_at (h : St H0 w0 H w l) {i : Nat} {cells : List Value} (hi : l[i]? = some (.row e k v n cells)) {j : Int} {p : Addr} (hp : PtrOf k v j p) {cs : List Value} (hcs : cs.length = k) (hc : WAt w p cs) :
    (cells.drop (j.toNat * k)).take k = cs ∧ j.toNat * k + k ≤ cells.length := by
  obtain ⟨⟨k1, k2⟩, k3⟩ := h.ok i _ hi
  obtain ⟨a, len, cap, rfl, h0, hlt, rfl⟩ := hp
  rcases k2 with ⟨h3, _⟩ | ⟨g, cap', cur, hv, hg, hh, hle, hcm, hsz, htk⟩
  · cases h3
  · cases hv
    have hlt' : j.toNat < n := by omega
    have hmul : j.toNat * k + k ≤ n * k := by
      rw [show j.toNat * k + k = (j.toNat + 1) * k by rw [Nat.add_mul, Nat.one_mul]]; exact Nat.mul_le_mul_right _ hlt'
    refine ⟨?_, by rw [k1]; exact hmul⟩
    apply List.ext_getElem?
    intro m
    rw [List.getElem?_take, List.getElem?_drop]
    by_cases hm : m < k
    · rw [if_pos hm]
      have hm2 : m < cs.length := by omega
      have h2 := hc m cs[m] (List.getElem?_eq_getElem hm2)
      rw [addr_add_add, Addr.add_lit, Nat.zero_add, cell_of_row w g _ _ _ _ hh] at h2
      rw [List.getElem?_eq_getElem hm2, ← h2, ← htk, List.getElem?_take, if_pos (by omega)]
      simp
    · rw [if_neg hm, List.getElem?_eq_none (by omega)]
theorem St.putPart {α : Type} {G : GH} {En : Enc α} {xs ys : List α} {x0 : α} {cells c cs c2 : List Value} (h : St H0 w0 H w l) {i : Nat} (hi : l[i]? = some (.row e k v n cells)) (he : Els G En k cells xs) {j : Int}
    (hy : put xs j x0 = some ys) {p : Addr} (hp : PtrOf k v j p) (hcs : cs.length = k) (hc : WAt w p cs) {off m : Nat} (ts : ∀ w, (sizeOf t).run P w = .ok m w) (hu : u.cells = c.toArray) (hcm : c.length = m) (hom : off + m ≤ k) (h1 : ∀ b ∈ c, b.oneCell' = true)
    (h2 : cs.take off ++ c ++ cs.drop (off + m) = c2) (hr : En.rel G c2 x0) :
    ∃ w1 cells', (Instr.storeAt t (.pointer (some (p.add off))) u).run P w = .ok () w1 ∧ St H0 w0 H w1 (l.set i (.row e k v n cells')) ∧ Els G En k cells' ys ∧ cells' = cells.take (j.toNat * k) ++ c2 ++ cells.drop (j.toNat * k + k) := by
  obtain ⟨h0, h3, rfl⟩ := put_some hy
  obtain ⟨w1, hst, hS⟩ := h.putRowAt (P := P) (l' := fun o => l.set i o) hi hp hom ts (u := u) (by rw [hu]; simpa using hcm) (by rw [hu]; simpa using h1) (fun o => rfl)
  rw [hu] at hS
  obtain ⟨g1, g2⟩ := h.cells_at hi hp hcs hc
  have hlen : c2.length = k := by rw [← h2]; simp only [List.length_append, List.length_take, List.length_drop, hcs, hcm]; omega
  have heq : cells.take (j.toNat * k + off) ++ c ++ cells.drop (j.toNat * k + off + m) = cells.take (j.toNat * k) ++ c2 ++ cells.drop (j.toNat * k + k) := by
    rw [← h2, ← g1]
    generalize j.toNat * k = q at *
    have e1 : cells.take (q + off) = cells.take q ++ (cells.drop q).take off := by rw [List.take_add]
    have e2 : cells.drop (q + off + m) = ((cells.drop q).take k).drop (off + m) ++ cells.drop (q + k) := by
      rw [List.drop_take, List.drop_drop]
      have : cells.drop (q + k) = (cells.drop (q + (off + m))).drop (k - (off + m)) := by rw [List.drop_drop]; congr 1; omega
      rw [this, List.take_append_drop]; congr 1; omega
    rw [e1, e2, List.take_take, Nat.min_eq_left (by omega)]
    simp only [List.append_assoc]
  refine ⟨w1, _, hst, ?_, he.put hlen hr _ (by omega), rfl⟩
  rw [← heq]
  simpa using hS
end
/-! results of several kinds: t: a temporary, c: a variable -/
section
variable {δ : List Nat} {fn : Func} {N : Nat} {P : Program} {w : World} {R : Ending → World → Prop} {f : Fm}
theorem resX_tc {t0 : Nat} {v0 : Value} {t1 y1 : Nat} {v1 : Value} {p1 : Addr} (hr : fn.results = #[.tmp t0, .cell t1 y1]) (h0 : f t0 = v0) (h1 : f t1 = .pointer (some p1)) (l1 : (loadVar y1 p1).run P w = .ok v1 w) (hR : R (.returned (.tuple #[v0, v1])) w) :
    ∀ a, Fr (δ := δ) N a f → ∃ v, (results fn a.tmps).run P w = .ok v w ∧ R (.returned v) w := fun a ha => ⟨_, by simp [results, hr, ha.val, asAddr, h0, h1, l1], hR⟩
theorem resX_ttc {t0 : Nat} {v0 : Value} {t1 : Nat} {v1 : Value} {t2 y2 : Nat} {v2 : Value} {p2 : Addr} (hr : fn.results = #[.tmp t0, .tmp t1, .cell t2 y2]) (h0 : f t0 = v0) (h1 : f t1 = v1) (h2 : f t2 = .pointer (some p2)) (l2 : (loadVar y2 p2).run P w = .ok v2 w) (hR : R (.returned (.tuple #[v0, v1, v2])) w) :
    ∀ a, Fr (δ := δ) N a f → ∃ v, (results fn a.tmps).run P w = .ok v w ∧ R (.returned v) w := fun a ha => ⟨_, by simp [results, hr, ha.val, asAddr, h0, h1, h2, l2], hR⟩
theorem resX_tct {t0 : Nat} {v0 : Value} {t1 y1 : Nat} {v1 : Value} {p1 : Addr} {t2 : Nat} {v2 : Value} (hr : fn.results = #[.tmp t0, .cell t1 y1, .tmp t2]) (h0 : f t0 = v0) (h1 : f t1 = .pointer (some p1)) (l1 : (loadVar y1 p1).run P w = .ok v1 w) (h2 : f t2 = v2) (hR : R (.returned (.tuple #[v0, v1, v2])) w) :
    ∀ a, Fr (δ := δ) N a f → ∃ v, (results fn a.tmps).run P w = .ok v w ∧ R (.returned v) w := fun a ha => ⟨_, by simp [results, hr, ha.val, asAddr, h0, h1, l1, h2], hR⟩
theorem resX_tcc {t0 : Nat} {v0 : Value} {t1 y1 : Nat} {v1 : Value} {p1 : Addr} {t2 y2 : Nat} {v2 : Value} {p2 : Addr} (hr : fn.results = #[.tmp t0, .cell t1 y1, .cell t2 y2]) (h0 : f t0 = v0) (h1 : f t1 = .pointer (some p1)) (l1 : (loadVar y1 p1).run P w = .ok v1 w) (h2 : f t2 = .pointer (some p2)) (l2 : (loadVar y2 p2).run P w = .ok v2 w) (hR : R (.returned (.tuple #[v0, v1, v2])) w) :
    ∀ a, Fr (δ := δ) N a f → ∃ v, (results fn a.tmps).run P w = .ok v w ∧ R (.returned v) w := fun a ha => ⟨_, by simp [results, hr, ha.val, asAddr, h0, h1, l1, h2, l2], hR⟩
theorem resX_ctt {t0 y0 : Nat} {v0 : Value} {p0 : Addr} {t1 : Nat} {v1 : Value} {t2 : Nat} {v2 : Value} (hr : fn.results = #[.cell t0 y0, .tmp t1, .tmp t2]) (h0 : f t0 = .pointer (some p0)) (l0 : (loadVar y0 p0).run P w = .ok v0 w) (h1 : f t1 = v1) (h2 : f t2 = v2) (hR : R (.returned (.tuple #[v0, v1, v2])) w) :
    ∀ a, Fr (δ := δ) N a f → ∃ v, (results fn a.tmps).run P w = .ok v w ∧ R (.returned v) w := fun a ha => ⟨_, by simp [results, hr, ha.val, asAddr, h0, l0, h1, h2], hR⟩
theorem resX_ctc {t0 y0 : Nat} {v0 : Value} {p0 : Addr} {t1 : Nat} {v1 : Value} {t2 y2 : Nat} {v2 : Value} {p2 : Addr} (hr : fn.results = #[.cell t0 y0, .tmp t1, .cell t2 y2]) (h0 : f t0 = .pointer (some p0)) (l0 : (loadVar y0 p0).run P w = .ok v0 w) (h1 : f t1 = v1) (h2 : f t2 = .pointer (some p2)) (l2 : (loadVar y2 p2).run P w = .ok v2 w) (hR : R (.returned (.tuple #[v0, v1, v2])) w) :
    ∀ a, Fr (δ := δ) N a f → ∃ v, (results fn a.tmps).run P w = .ok v w ∧ R (.returned v) w := fun a ha => ⟨_, by simp [results, hr, ha.val, asAddr, h0, l0, h1, h2, l2], hR⟩
theorem resX_cct {t0 y0 : Nat} {v0 : Value} {p0 : Addr} {t1 y1 : Nat} {v1 : Value} {p1 : Addr} {t2 : Nat} {v2 : Value} (hr : fn.results = #[.cell t0 y0, .cell t1 y1, .tmp t2]) (h0 : f t0 = .pointer (some p0)) (l0 : (loadVar y0 p0).run P w = .ok v0 w) (h1 : f t1 = .pointer (some p1)) (l1 : (loadVar y1 p1).run P w = .ok v1 w) (h2 : f t2 = v2) (hR : R (.returned (.tuple #[v0, v1, v2])) w) :
    ∀ a, Fr (δ := δ) N a f → ∃ v, (results fn a.tmps).run P w = .ok v w ∧ R (.returned v) w := fun a ha => ⟨_, by simp [results, hr, ha.val, asAddr, h0, l0, h1, l1, h2], hR⟩
theorem resX_tttt {t0 : Nat} {v0 : Value} {t1 : Nat} {v1 : Value} {t2 : Nat} {v2 : Value} {t3 : Nat} {v3 : Value} (hr : fn.results = #[.tmp t0, .tmp t1, .tmp t2, .tmp t3]) (h0 : f t0 = v0) (h1 : f t1 = v1) (h2 : f t2 = v2) (h3 : f t3 = v3) (hR : R (.returned (.tuple #[v0, v1, v2, v3])) w) :
    ∀ a, Fr (δ := δ) N a f → ∃ v, (results fn a.tmps).run P w = .ok v w ∧ R (.returned v) w := fun a ha => ⟨_, by simp [results, hr, ha.val, asAddr, h0, h1, h2, h3], hR⟩
theorem resX_tttc {t0 : Nat} {v0 : Value} {t1 : Nat} {v1 : Value} {t2 : Nat} {v2 : Value} {t3 y3 : Nat} {v3 : Value} {p3 : Addr} (hr : fn.results = #[.tmp t0, .tmp t1, .tmp t2, .cell t3 y3]) (h0 : f t0 = v0) (h1 : f t1 = v1) (h2 : f t2 = v2) (h3 : f t3 = .pointer (some p3)) (l3 : (loadVar y3 p3).run P w = .ok v3 w) (hR : R (.returned (.tuple #[v0, v1, v2, v3])) w) :
    ∀ a, Fr (δ := δ) N a f → ∃ v, (results fn a.tmps).run P w = .ok v w ∧ R (.returned v) w := fun a ha => ⟨_, by simp [results, hr, ha.val, asAddr, h0, h1, h2, h3, l3], hR⟩
theorem resX_ttct {t0 : Nat} {v0 : Value} {t1 : Nat} {v1 : Value} {t2 y2 : Nat} {v2 : Value} {p2 : Addr} {t3 : Nat} {v3 : Value} (hr : fn.results = #[.tmp t0, .tmp t1, .cell t2 y2, .tmp t3]) (h0 : f t0 = v0) (h1 : f t1 = v1) (h2 : f t2 = .pointer (some p2)) (l2 : (loadVar y2 p2).run P w = .ok v2 w) (h3 : f t3 = v3) (hR : R (.returned (.tuple #[v0, v1, v2, v3])) w) :
    ∀ a, Fr (δ := δ) N a f → ∃ v, (results fn a.tmps).run P w = .ok v w ∧ R (.returned v) w := fun a ha => ⟨_, by simp [results, hr, ha.val, asAddr, h0, h1, h2, l2, h3], hR⟩
theorem resX_ttcc {t0 : Nat} {v0 : Value} {t1 : Nat} {v1 : Value} {t2 y2 : Nat} {v2 : Value} {p2 : Addr} {t3 y3 : Nat} {v3 : Value} {p3 : Addr} (hr : fn.results = #[.tmp t0, .tmp t1, .cell t2 y2, .cell t3 y3]) (h0 : f t0 = v0) (h1 : f t1 = v1) (h2 : f t2 = .pointer (some p2)) (l2 : (loadVar y2 p2).run P w = .ok v2 w) (h3 : f t3 = .pointer (some p3)) (l3 : (loadVar y3 p3).run P w = .ok v3 w) (hR : R (.returned (.tuple #[v0, v1, v2, v3])) w) :
    ∀ a, Fr (δ := δ) N a f → ∃ v, (results fn a.tmps).run P w = .ok v w ∧ R (.returned v) w := fun a ha => ⟨_, by simp [results, hr, ha.val, asAddr, h0, h1, h2, l2, h3, l3], hR⟩
theorem resX_tctt {t0 : Nat} {v0 : Value} {t1 y1 : Nat} {v1 : Value} {p1 : Addr} {t2 : Nat} {v2 : Value} {t3 : Nat} {v3 : Value} (hr : fn.results = #[.tmp t0, .cell t1 y1, .tmp t2, .tmp t3]) (h0 : f t0 = v0) (h1 : f t1 = .pointer (some p1)) (l1 : (loadVar y1 p1).run P w = .ok v1 w) (h2 : f t2 = v2) (h3 : f t3 = v3) (hR : R (.returned (.tuple #[v0, v1, v2, v3])) w) :
    ∀ a, Fr (δ := δ) N a f → ∃ v, (results fn a.tmps).run P w = .ok v w ∧ R (.returned v) w := fun a ha => ⟨_, by simp [results, hr, ha.val, asAddr, h0, h1, l1, h2, h3], hR⟩
theorem resX_tctc {t0 : Nat} {v0 : Value} {t1 y1 : Nat} {v1 : Value} {p1 : Addr} {t2 : Nat} {v2 : Value} {t3 y3 : Nat} {v3 : Value} {p3 : Addr} (hr : fn.results = #[.tmp t0, .cell t1 y1, .tmp t2, .cell t3 y3]) (h0 : f t0 = v0) (h1 : f t1 = .pointer (some p1)) (l1 : (loadVar y1 p1).run P w = .ok v1 w) (h2 : f t2 = v2) (h3 : f t3 = .pointer (some p3)) (l3 : (loadVar y3 p3).run P w = .ok v3 w) (hR : R (.returned (.tuple #[v0, v1, v2, v3])) w) :
    ∀ a, Fr (δ := δ) N a f → ∃ v, (results fn a.tmps).run P w = .ok v w ∧ R (.returned v) w := fun a ha => ⟨_, by simp [results, hr, ha.val, asAddr, h0, h1, l1, h2, h3, l3], hR⟩
theorem resX_tcct {t0 : Nat} {v0 : Value} {t1 y1 : Nat} {v1 : Value} {p1 : Addr} {t2 y2 : Nat} {v2 : Value} {p2 : Addr} {t3 : Nat} {v3 : Value} (hr : fn.results = #[.tmp t0, .cell t1 y1, .cell t2 y2, .tmp t3]) (h0 : f t0 = v0) (h1 : f t1 = .pointer (some p1)) (l1 : (loadVar y1 p1).run P w = .ok v1 w) (h2 : f t2 = .pointer (some p2)) (l2 : (loadVar y2 p2).run P w = .ok v2 w) (h3 : f t3 = v3) (hR : R (.returned (.tuple #[v0, v1, v2, v3])) w) :
    ∀ a, Fr (δ := δ) N a f → ∃ v, (results fn a.tmps).run P w = .ok v w ∧ R (.returned v) w := fun a ha => ⟨_, by simp [results, hr, ha.val, asAddr, h0, h1, l1, h2, l2, h3], hR⟩
theorem resX_cttt {t0 y0 : Nat} {v0 : Value} {p0 : Addr} {t1 : Nat} {v1 : Value} {t2 : Nat} {v2 : Value} {t3 : Nat} {v3 : Value} (hr : fn.results = #[.cell t0 y0, .tmp t1, .tmp t2, .tmp t3]) (h0 : f t0 = .pointer (some p0)) (l0 : (loadVar y0 p0).run P w = .ok v0 w) (h1 : f t1 = v1) (h2 : f t2 = v2) (h3 : f t3 = v3) (hR : R (.returned (.tuple #[v0, v1, v2, v3])) w) :
    ∀ a, Fr (δ := δ) N a f → ∃ v, (results fn a.tmps).run P w = .ok v w ∧ R (.returned v) w := fun a ha => ⟨_, by simp [results, hr, ha.val, asAddr, h0, l0, h1, h2, h3], hR⟩
theorem resX_cttc {t0 y0 : Nat} {v0 : Value} {p0 : Addr} {t1 : Nat} {v1 : Value} {t2 : Nat} {v2 : Value} {t3 y3 : Nat} {v3 : Value} {p3 : Addr} (hr : fn.results = #[.cell t0 y0, .tmp t1, .tmp t2, .cell t3 y3]) (h0 : f t0 = .pointer (some p0)) (l0 : (loadVar y0 p0).run P w = .ok v0 w) (h1 : f t1 = v1) (h2 : f t2 = v2) (h3 : f t3 = .pointer (some p3)) (l3 : (loadVar y3 p3).run P w = .ok v3 w) (hR : R (.returned (.tuple #[v0, v1, v2, v3])) w) :
    ∀ a, Fr (δ := δ) N a f → ∃ v, (results fn a.tmps).run P w = .ok v w ∧ R (.returned v) w := fun a ha => ⟨_, by simp [results, hr, ha.val, asAddr, h0, l0, h1, h2, h3, l3], hR⟩
theorem resX_ctct {t0 y0 : Nat} {v0 : Value} {p0 : Addr} {t1 : Nat} {v1 : Value} {t2 y2 : Nat} {v2 : Value} {p2 : Addr} {t3 : Nat} {v3 : Value} (hr : fn.results = #[.cell t0 y0, .tmp t1, .cell t2 y2, .tmp t3]) (h0 : f t0 = .pointer (some p0)) (l0 : (loadVar y0 p0).run P w = .ok v0 w) (h1 : f t1 = v1) (h2 : f t2 = .pointer (some p2)) (l2 : (loadVar y2 p2).run P w = .ok v2 w) (h3 : f t3 = v3) (hR : R (.returned (.tuple #[v0, v1, v2, v3])) w) :
    ∀ a, Fr (δ := δ) N a f → ∃ v, (results fn a.tmps).run P w = .ok v w ∧ R (.returned v) w := fun a ha => ⟨_, by simp [results, hr, ha.val, asAddr, h0, l0, h1, h2, l2, h3], hR⟩
theorem resX_cctt {t0 y0 : Nat} {v0 : Value} {p0 : Addr} {t1 y1 : Nat} {v1 : Value} {p1 : Addr} {t2 : Nat} {v2 : Value} {t3 : Nat} {v3 : Value} (hr : fn.results = #[.cell t0 y0, .cell t1 y1, .tmp t2, .tmp t3]) (h0 : f t0 = .pointer (some p0)) (l0 : (loadVar y0 p0).run P w = .ok v0 w) (h1 : f t1 = .pointer (some p1)) (l1 : (loadVar y1 p1).run P w = .ok v1 w) (h2 : f t2 = v2) (h3 : f t3 = v3) (hR : R (.returned (.tuple #[v0, v1, v2, v3])) w) :
    ∀ a, Fr (δ := δ) N a f → ∃ v, (results fn a.tmps).run P w = .ok v w ∧ R (.returned v) w := fun a ha => ⟨_, by simp [results, hr, ha.val, asAddr, h0, l0, h1, l1, h2, h3], hR⟩
end
/-- two arrays of ints -/
theorem run_eqArr2 {P : Program} {w : World} {t e : TypeId} {ie : TypeInfo} (hu : P.underlying t = some (.array 2 e)) (hi : P.info? e = some ie) (hc : P.cellsOf e = 1) (he : P.underlying e = some (.int .i64)) (ha : ∀ w, (isAgg e).run P w = .ok false w) (a b c d : Int) :
    (Op.equalIn 10000 t (.agg #[.int .i64 a, .int .i64 b]) (.agg #[.int .i64 c, .int .i64 d])).run P w = .ok ((a == c) && (b == d)) w := by
  rw [show (10000 : Nat) = 9999 + 1 from rfl, run_equalIn_array w 9999 _ _ hu hi, hc]
  have hp : ∀ (xs : Array Value) (i : Nat) (v : Value) w, xs[i]? = some v → (part e xs i).run P w = .ok v w := fun xs i v w h => by
    simp [part, ha, h]
  have hq : ∀ (x y : Int) w, (Op.equalIn 9999 e (.int .i64 x) (.int .i64 y)).run P w = .ok (x == y) w := fun x y w => by
    exact run_equalIn_int w 9998 e _ .i64 x y he
  simp only [List.range_succ, List.range_zero, List.nil_append, List.cons_append, Op.eqItems, Sem.run_bind]
  rw [hp _ _ (.int .i64 a) _ rfl]
  simp only [Result.andThen_ok]
  rw [hp _ _ (.int .i64 c) _ rfl]
  simp only [Result.andThen_ok]
  rw [hq]
  simp only [Result.andThen_ok]
  by_cases h : a = c
  · simp only [h, beq_self_eq_true, Bool.not_true, Bool.false_eq_true, if_false, Sem.run_bind, Bool.true_and]
    rw [hp _ _ (.int .i64 b) _ rfl]
    simp only [Result.andThen_ok]
    rw [hp _ _ (.int .i64 d) _ rfl]
    simp only [Result.andThen_ok]
    rw [hq]
    simp only [Result.andThen_ok]
    cases b == d <;> simp
  · simp [h]
end Go.Mr
namespace Go.Mr
open Go.RowKit Go.Pu
abbrev vI (n : Int) : Value := .int .i64 n
abbrev vB (b : Bool) : Value := .bool b
abbrev vP (a : Addr) : Value := .pointer (some a)
theorem wY {ops : Array Oper} {f : Fm} {o : Oper} {j t : Nat} {b c : Bool} (hc : c = b) (hg : o.guard = some (j, b) := by rfl) (hj : (ops[j]?).bind (·.dst) = some t := by rfl) (hv : f t = .bool c := by rfl) : wF ops f o = true := wF_yes hg hj hv hc
theorem wN {ops : Array Oper} {f : Fm} {o : Oper} {j t : Nat} {b c : Bool} (hc : c = !b) (hg : o.guard = some (j, b) := by rfl) (hj : (ops[j]?).bind (·.dst) = some t := by rfl) (hv : f t = .bool c := by rfl) : wF ops f o = false := wF_no hg hj hv hc
abbrev vA (xs : Array Value) : Value := .agg xs
theorem I0 {H : GH} : Inc H H := Inc.rfl H
theorem oC {c : Value} {l : List Value} (h : c.oneCell' = true) (hl : ∀ u ∈ l, u.oneCell' = true) : ∀ u ∈ c :: l, u.oneCell' = true := ones_cons h hl
theorem nB {m n : Nat} (h : Nat.ble m n = true) : m ≤ n := Nat.le_of_ble_eq_true h
abbrev vN : Value := .slice none 0 0
section
variable {ρ : Option Nat} {δ : List Nat} {P : Program} {N : Nat} {Q : FQ} {f : Fm} {w : World} {ops : Array Oper} {o : Oper} {rest : List Oper} {C : World → Prop} {Qd : Fm → Prop}
theorem FW.sr {id : Nat} {l : List Oper} {y : Code} (h : FL (ρ := ρ) (δ := δ) P N l.toArray (thenF (fun f w => FW (ρ := ρ) (δ := δ) P N y Q f w) Q) l f w) : FW (ρ := ρ) (δ := δ) P N (.seq (.region id l.toArray false) y) Q f w := FW.seq (FW.region h)
theorem FL.mv {d : Nat} {v : Value} {x : Operand} {ty : TypeId} {pos : String} {aft : Array Edge} {gd : Option (Nat × Bool)} (hx : ev f x = v) (h : FL (ρ := ρ) (δ := δ) P N ops Q rest (upd f d v) w)
    (hw : wF ops f ⟨some d, .move x, ty, pos, aft, gd⟩ = true := by rfl) (hlt : Nat.blt d N = true := by rfl) : FL (ρ := ρ) (δ := δ) P N ops Q (⟨some d, .move x, ty, pos, aft, gd⟩ :: rest) f w := FL.val hw rfl hlt (E.move hx) h
theorem FL.as {d : Nat} {v : Value} {x : Operand} {ty : TypeId} {pos : String} {aft : Array Edge} {gd : Option (Nat × Bool)} (hx : ev f x = v) (h : FL (ρ := ρ) (δ := δ) P N ops Q rest (upd f d v) w)
    (hw : wF ops f ⟨some d, .assign x, ty, pos, aft, gd⟩ = true := by rfl) (hlt : Nat.blt d N = true := by rfl) : FL (ρ := ρ) (δ := δ) P N ops Q (⟨some d, .assign x, ty, pos, aft, gd⟩ :: rest) f w := FL.val hw rfl hlt (E.assign hx) h
theorem FL.c {d fid : Nat} {args : Array Value} {R : Ending → World → Prop} (hr : (execOp (ev f) o).run P w = .ok (.enter fid args) w) (hc : Calls P fid args w R)
    (h : ∀ e w', R e w' → ∃ v, e = .returned v ∧ FL (ρ := ρ) (δ := δ) P N ops Q rest (upd f d v) w') (hw : wF ops f o = true := by rfl) (hd : o.dst = some d := by rfl) (hlt : Nat.blt d N = true := by rfl) : FL (ρ := ρ) (δ := δ) P N ops Q (o :: rest) f w := FL.call hw hd hlt hr hc h
theorem FD.v {d : Nat} {v : Value} (hr : ∀ w, C w → (execOp (ev f) o).run P w = .ok (.value v) w) (h : FD (δ := δ) P N ops C Qd rest (upd f d v))
    (hw : wF ops f o = true := by rfl) (hd : o.dst = some d := by rfl) (hlt : Nat.blt d N = true := by rfl) : FD (δ := δ) P N ops C Qd (o :: rest) f := FD.val hw hd hlt hr h
theorem FD.y {d : Nat} {v : Value} (hw : wF ops f o = true) (hr : ∀ w, C w → (execOp (ev f) o).run P w = .ok (.value v) w) (h : FD (δ := δ) P N ops C Qd rest (upd f d v))
    (hd : o.dst = some d := by rfl) (hlt : Nat.blt d N = true := by rfl) : FD (δ := δ) P N ops C Qd (o :: rest) f := FD.val hw hd hlt hr h
theorem FL.y {d : Nat} {v : Value} {w' : World} (hw : wF ops f o = true) (hr : (execOp (ev f) o).run P w = .ok (.value v) w') (h : FL (ρ := ρ) (δ := δ) P N ops Q rest (upd f d v) w')
    (hd : o.dst = some d := by rfl) (hlt : Nat.blt d N = true := by rfl) : FL (ρ := ρ) (δ := δ) P N ops Q (o :: rest) f w := FL.val hw hd hlt hr h
end
section
variable {δ : List Nat} {P : Program} {N : Nat} {f : Fm} {w w' : World} {ops : Array Oper} {B : World → Prop} {M : Fm → World → Prop} {ps : List (List Nat × (World → Prop))} {n : Nat} {ls l' : Array Bool}
theorem FB.s {i : Nat} {o : Oper} (k m : Nat) (hS : SP B ps ls w) (hw : wF ops f o = false) {d : Nat} (h : FB (δ := δ) P N ops B M ps n (bs k m) (upd f d undef) w)
    (hi : ops[i]? = some o := by rfl) (hd : o.dst = some d := by rfl) (hlt : Nat.blt d N = true := by rfl) (hs : Region.noSelect ops = true := by kernel_rfl) (hf : Region.free .any ops ls i = true := by kernel_rfl)
    (hr : (Region.ready .any ops ls).contains i = true := by kernel_rfl) (hl : ls.setIfInBounds i true = bs k m := by kernel_rfl) (hc : certB ops [] i ls ps = true := by kernel_rfl) : FB (δ := δ) P N ops B M ps (n + 1) ls f w :=
  FB.skip hi hs hf hr hl hc hS hw hd hlt h
theorem FB.S {o : Oper} (i k m : Nat) (hB : B w) {j t : Nat} {b c : Bool} (hw : c = !b) {d : Nat} (h : FB (δ := δ) P N ops B M [] n (bs k m) (upd f d undef) w)
    (hi : ops[i]? = some o := by rfl) (hg : o.guard = some (j, b) := by rfl) (hj : (ops[j]?).bind (·.dst) = some t := by rfl) (hv : f t = .bool c := by rfl) (hd : o.dst = some d := by rfl) (hlt : Nat.blt d N = true := by rfl) (hs : Region.noSelect ops = true := by kernel_rfl) (hf : Region.free .any ops ls i = true := by kernel_rfl)
    (hr : (Region.ready .any ops ls).contains i = true := by kernel_rfl) (hl : ls.setIfInBounds i true = bs k m := by kernel_rfl) (hc : certB ops [] i ls [] = true := by kernel_rfl) : FB (δ := δ) P N ops B M [] (n + 1) ls f w :=
  FB.skip hi hs hf hr hl hc (SP.nil hB) (wF_no hg hj hv hw) hd hlt h
theorem FB.T {d : Nat} {o : Oper} {v : Value} (i k m : Nat) (hi : ops[i]? = some o) (hB : B w) (hw : wF ops f o = true) (hrun : ∀ w', B w' → (execOp (ev f) o).run P w' = .ok (.value v) w')
    (h : FB (δ := δ) P N ops B M [] n (bs k m) (upd f d v) w) (hd : o.dst = some d := by rfl) (hlt : Nat.blt d N = true := by rfl) (hs : Region.noSelect ops = true := by kernel_rfl) (hf : Region.free .any ops ls i = true := by kernel_rfl)
    (hr : (Region.ready .any ops ls).contains i = true := by kernel_rfl) (hl : ls.setIfInBounds i true = bs k m := by kernel_rfl) (hc : certB ops [] i ls [] = true := by kernel_rfl) : FB (δ := δ) P N ops B M [] (n + 1) ls f w :=
  FB.take hi hs hf hr hl hc (SP.nil hB) hw hd hlt hrun h
end
end Go.Mr
namespace Go.Mr
open Go.RowKit Go.Pu
def iC (xs : List Int) : List Value := xs.map (Value.int .i64)
def iP (xs : List Int) : Array (Nat × Value) := ((xs.zipIdx 0).map fun p => (p.2, Value.int .i64 p.1)).toArray
theorem els_ints (G : GH) (xs : List Int) : Els G eI 1 (iC xs) xs := by
  have key : ∀ ys : List Int, Els G eI 1 (iC ys.reverse) ys.reverse := by
    intro ys
    induction ys with
    | nil => exact .nil
    | cons x ys ih =>
      have := Els.snoc (c := [Value.int .i64 x]) (x := x) ih rfl (show eI.rel G [Value.int .i64 x] x from rfl)
      unfold iC at this ⊢
      rw [List.reverse_cons, List.map_append]
      exact this
  have := key xs.reverse
  rwa [List.reverse_reverse] at this
theorem flat_ints (xs : List Int) : ((xs.map (Value.int .i64)).map (·.cells.toList)).flatten = iC xs := by
  unfold iC
  induction xs with
  | nil => rfl
  | cons x xs ih => rw [List.map_cons, List.map_cons, List.flatten_cons, ih]; rfl
theorem St.ints {P : Program} {H0 H : GH} {w0 w : World} {l : List MO} {t e : Nat} {z : Value} (h : St H0 w0 H w l) (te : TE P t e 1 z) (G : GH) (n : Nat) (xs : List Int) (hn : xs.length = n := by rfl) (hsm : Nat.ble n 1000 = true := by rfl) :
    ∃ v w1, (Instr.buildSlice t n (iP xs)).run P w = .ok v w1 ∧ St H0 w0 H w1 (.row e 1 v n (iC xs) :: l) ∧ Els G eI 1 (iC xs) xs := by
  subst hn
  have hl : (xs.map (Value.int .i64)).length = xs.length := List.length_map _
  obtain ⟨v, w1, h1, h2⟩ := h.buildSlice (P := P) te (xs.map (Value.int .i64)) (parts := iP xs) (cells := iC xs) (by
    unfold iP
    show List.map _ _ = _
    rw [List.zipIdx_map, List.map_map]; rfl) (fun v hv => by obtain ⟨x, _, rfl⟩ := List.mem_map.1 hv; rfl) (flat_ints xs) (fun c hc => by unfold iC at hc; obtain ⟨x, _, rfl⟩ := List.mem_map.1 hc; rfl) (by have := Nat.le_of_ble_eq_true hsm; rw [hl]; omega)
  rw [hl] at h1 h2
  exact ⟨v, w1, h1, h2, els_ints G xs⟩
theorem sgo {A B : Prop} (a : A) (h : A → B) : A ∧ B := ⟨a, h a⟩
section
variable {δ : List Nat} {P : Program} {N : Nat} {f : Fm} {w w' : World} {ops : Array Oper} {B : World → Prop} {M : Fm → World → Prop} {ps : List (List Nat × (World → Prop))} {n : Nat} {ls l' : Array Bool}
theorem FB.go (hS : SP B ps ls w) (h : SP B ps ls w → FB (δ := δ) P N ops B M ps n ls f w) : FB (δ := δ) P N ops B M ps n ls f w := h hS
theorem sp_next {C : List Nat} {i : Nat} (hc : certB ops C i ls ps = true) (hl : ls.setIfInBounds i true = l') (hS : SP B ps ls w) : SP B ps l' w := by
  subst hl
  unfold certB at hc
  rw [Bool.and_eq_true] at hc
  exact (SP.iff hc.2).2 hS
theorem FB.r {d : Nat} {o : Oper} {v : Value} (i k m : Nat) (hi : ops[i]? = some o) (hS : SP B ps ls w) (hrun : ∀ w', B w' → (execOp (ev f) o).run P w' = .ok (.value v) w')
    (h : SP B ps (bs k m) w → FB (δ := δ) P N ops B M ps n (bs k m) (upd f d v) w) (hw : wF ops f o = true := by rfl) (hd : o.dst = some d := by rfl) (hlt : Nat.blt d N = true := by rfl) (hs : Region.noSelect ops = true := by kernel_rfl) (hf : Region.free .any ops ls i = true := by kernel_rfl)
    (hr : (Region.ready .any ops ls).contains i = true := by kernel_rfl) (hl : ls.setIfInBounds i true = bs k m := by kernel_rfl) (hc : certB ops [] i ls ps = true := by kernel_rfl) : FB (δ := δ) P N ops B M ps (n + 1) ls f w :=
  FB.take hi hs hf hr hl hc hS hw hd hlt hrun (h (sp_next hc hl hS))
theorem FB.q {Hs : List Nat} {R : World → Prop} {d : Nat} {o : Oper} {v : Value} (i k m : Nat) (q : Nat) (C : List Nat) (hi : ops[i]? = some o) (hS : SP B ps ls w) (hq : ps[q]? = some (Hs, R)) (hrun : ∀ w', R w' → (execOp (ev f) o).run P w' = .ok (.value v) w')
    (h : SP B ps (bs k m) w → FB (δ := δ) P N ops B M ps n (bs k m) (upd f d v) w) (hw : wF ops f o = true := by rfl) (hd : o.dst = some d := by rfl) (hlt : Nat.blt d N = true := by rfl) (hs : Region.noSelect ops = true := by kernel_rfl) (hf : Region.free .any ops ls i = true := by kernel_rfl)
    (hr : (Region.ready .any ops ls).contains i = true := by kernel_rfl) (hl : ls.setIfInBounds i true = bs k m := by kernel_rfl) (hc : certB ops C i ls ps = true := by kernel_rfl) (hH : Hs.all (C.contains ·) = true := by kernel_rfl) : FB (δ := δ) P N ops B M ps (n + 1) ls f w :=
  FB.takeP q C hq hi hs hf hr hl hc hH hS hw hd hlt hrun (h (sp_next hc hl hS))
theorem FB.z {o : Oper} (i k m : Nat) (hi : ops[i]? = some o) (hS : SP B ps ls w) (hw : wF ops f o = false) {d : Nat} (h : SP B ps (bs k m) w → FB (δ := δ) P N ops B M ps n (bs k m) (upd f d undef) w)
    (hd : o.dst = some d := by rfl) (hlt : Nat.blt d N = true := by rfl) (hs : Region.noSelect ops = true := by kernel_rfl) (hf : Region.free .any ops ls i = true := by kernel_rfl)
    (hr : (Region.ready .any ops ls).contains i = true := by kernel_rfl) (hl : ls.setIfInBounds i true = bs k m := by kernel_rfl) (hc : certB ops [] i ls ps = true := by kernel_rfl) : FB (δ := δ) P N ops B M ps (n + 1) ls f w :=
  FB.skip hi hs hf hr hl hc hS hw hd hlt (h (sp_next hc hl hS))
end
end Go.Mr
namespace Go.Pu
/-- s[i] -/
def ixS (s : ByteArray) (i : Int) : Option Int := if 0 ≤ i then (s.data[i.toNat]?).map fun b => (b.toNat : Int) else none
theorem ixS_some {s : ByteArray} {i b : Int} (h : ixS s i = some b) : 0 ≤ i ∧ ∃ u : UInt8, s.data[i.toNat]? = some u ∧ b = (u.toNat : Int) := by
  unfold ixS at h
  split at h
  · rename_i h0
    cases hu : s.data[i.toNat]? with
    | none => rw [hu] at h; cases h
    | some u => rw [hu] at h; cases h; exact ⟨h0, u, rfl, rfl⟩
  · cases h
/-- s[a:b] -/
def cutS (s : ByteArray) (a b : Int) : Option ByteArray := if 0 ≤ a ∧ a ≤ b ∧ b ≤ s.size then some (s.extract a.toNat b.toNat) else none
theorem cutS_some {s r : ByteArray} {a b : Int} (h : cutS s a b = some r) : 0 ≤ a ∧ a ≤ b ∧ b ≤ s.size ∧ r = s.extract a.toNat b.toNat := by
  unfold cutS at h; split at h
  · rename_i h0; cases h; exact ⟨h0.1, h0.2.1, h0.2.2, rfl⟩
  · cases h
/-- one list of bytes is before another one -/
def ltB : List UInt8 → List UInt8 → Bool
  | _, [] => false
  | [], _ :: _ => true
  | a :: x, b :: y => a < b || (a == b && ltB x y)
/-- s < t -/
def ltS (s t : ByteArray) : Bool := ltB s.toList t.toList
/-- Go's bytes -/
def okU8 (n : Int) : Prop := 0 ≤ n ∧ n ≤ 255
/-- a byte as a text: string(b), b below 128 -/
def chrS (n : Int) : Option ByteArray := if 0 ≤ n ∧ n < 128 then some ⟨#[UInt8.ofNat n.toNat]⟩ else none
end Go.Pu
namespace Go.Mr
open Go.RowKit Go.Pu
theorem ltB_eq : ∀ (x y : List UInt8), Op.bytesLess x y = ltB x y
  | x, [] => by cases x <;> rfl
  | [], _ :: _ => rfl
  | a :: x, b :: y => by show (_ || (_ && _)) = (_ || (_ && _)); rw [ltB_eq x y]
section
variable {P : Program} {f : Fm} {w : World} {d : Option Tmp} {ty : TypeId} {pos : String} {aft : Array Edge} {gd : Option (Nat × Bool)} {x y : Operand} {t t' : TypeId}
theorem E.lssS {a b : ByteArray} (hx : ev f x = .string a) (hy : ev f y = .string b) :
    (execOp (ev f) ⟨d, .binOp .lss t x y t', ty, pos, aft, gd⟩).run P w = .ok (.value (.bool (ltS a b))) w := by
  simp [execOp, eqGuard, binOp, hx, hy, Op.stringOp, ltS, ltB_eq]
theorem E.gtrS {a b : ByteArray} (hx : ev f x = .string a) (hy : ev f y = .string b) :
    (execOp (ev f) ⟨d, .binOp .gtr t x y t', ty, pos, aft, gd⟩).run P w = .ok (.value (.bool (!(ltS a b || a.toList == b.toList)))) w := by
  simp [execOp, eqGuard, binOp, hx, hy, Op.stringOp, ltS, ltB_eq]
theorem E.ixS {s : ByteArray} {k : IntKind} {i b : Int} (ht : ∀ w, (underlying t).run P w = .ok .string w) (hx : ev f x = .string s) (hy : ev f y = .int k i) (h : ixS s i = some b) :
    (execOp (ev f) ⟨d, .index t x y, ty, pos, aft, gd⟩).run P w = .ok (.value (.int .u8 b)) w := by
  obtain ⟨h0, u, hu, rfl⟩ := ixS_some h
  have hu' : s[i.toNat]? = some u := by
    obtain ⟨h1, h2⟩ := Array.getElem?_eq_some_iff.1 hu
    exact (getElem?_pos s i.toNat h1).trans (congrArg some h2)
  simp [execOp, Instr.index, ht, hx, hy, h0, hu', asIntOf]
theorem E.cutS {s r : ByteArray} {kl kh : IntKind} {a b : Int} {lo hi : Option Operand} (ht : P.underlying t = some .string) (hx : ev f x = .string s)
    (hl : (lo = none ∧ a = 0) ∨ ∃ l, lo = some l ∧ ev f l = .int kl a) (hh : (hi = none ∧ b = s.size) ∨ ∃ l, hi = some l ∧ ev f l = .int kh b) (h : cutS s a b = some r) :
    (execOp (ev f) ⟨d, .slice t x lo hi none, ty, pos, aft, gd⟩).run P w = .ok (.value (.string r)) w := by
  obtain ⟨h0, h1, h2, rfl⟩ := cutS_some h
  have hb : 0 ≤ b := by omega
  have hab : a.toNat ≤ b.toNat := by omega
  have hbs : b.toNat ≤ s.size := by omega
  have e1 : (a.toNat : Int) = a := Int.toNat_of_nonneg h0
  have e2 : (b.toNat : Int) = b := Int.toNat_of_nonneg hb
  rcases hl with ⟨rfl, rfl⟩ | ⟨l, rfl, hl⟩ <;> rcases hh with ⟨rfl, rfl⟩ | ⟨l', rfl, hh⟩ <;> simp [execOp, Instr.sliceAt, Instr.slice, run_underlying ht, Instr.sliceBounds, run_sliceBound, *]
end
theorem eN_flat {k : IntKind} : FlatE (eN k) := by rintro H H' cs x rfl; exact ⟨rfl, rfl⟩
theorem E.lenS {P : Program} {f : Fm} {w : World} {d : Option Tmp} {ty t : TypeId} {pos : String} {aft : Array Edge} {gd : Option (Nat × Bool)} {x : Operand} {s : ByteArray} (ht : ∀ w, (underlying t).run P w = .ok .string w) (hx : ev f x = .string s) :
    (execOp (ev f) ⟨d, .call ⟨.builtin .len, #[x], #[t]⟩, ty, pos, aft, gd⟩).run P w = .ok (.value (.int .i64 (s.size : Int))) w := by
  simp [execOp, resolve, invoke, builtin, Builtin.len_, hx, ht, goInt]
theorem B11 {f : Fm} {i1 i2 i3 i4 i5 i6 i7 i8 i9 i10 i11 : Nat} {x1 x2 x3 x4 x5 x6 x7 x8 x9 x10 x11 : Operand} {v1 v2 v3 v4 v5 v6 v7 v8 v9 v10 v11 : Value} (h1 : ev f x1 = v1) (h2 : ev f x2 = v2) (h3 : ev f x3 = v3) (h4 : ev f x4 = v4) (h5 : ev f x5 = v5) (h6 : ev f x6 = v6) (h7 : ev f x7 = v7) (h8 : ev f x8 = v8) (h9 : ev f x9 = v9) (h10 : ev f x10 = v10) (h11 : ev f x11 = v11) :
    (#[(i1, x1), (i2, x2), (i3, x3), (i4, x4), (i5, x5), (i6, x6), (i7, x7), (i8, x8), (i9, x9), (i10, x10), (i11, x11)].map fun (i, x) => (i, ev f x)) = #[(i1, v1), (i2, v2), (i3, v3), (i4, v4), (i5, v5), (i6, v6), (i7, v7), (i8, v8), (i9, v9), (i10, v10), (i11, v11)] := by simp [h1, h2, h3, h4, h5, h6, h7, h8, h9, h10, h11]
theorem B12 {f : Fm} {i1 i2 i3 i4 i5 i6 i7 i8 i9 i10 i11 i12 : Nat} {x1 x2 x3 x4 x5 x6 x7 x8 x9 x10 x11 x12 : Operand} {v1 v2 v3 v4 v5 v6 v7 v8 v9 v10 v11 v12 : Value} (h1 : ev f x1 = v1) (h2 : ev f x2 = v2) (h3 : ev f x3 = v3) (h4 : ev f x4 = v4) (h5 : ev f x5 = v5) (h6 : ev f x6 = v6) (h7 : ev f x7 = v7) (h8 : ev f x8 = v8) (h9 : ev f x9 = v9) (h10 : ev f x10 = v10) (h11 : ev f x11 = v11) (h12 : ev f x12 = v12) :
    (#[(i1, x1), (i2, x2), (i3, x3), (i4, x4), (i5, x5), (i6, x6), (i7, x7), (i8, x8), (i9, x9), (i10, x10), (i11, x11), (i12, x12)].map fun (i, x) => (i, ev f x)) = #[(i1, v1), (i2, v2), (i3, v3), (i4, v4), (i5, v5), (i6, v6), (i7, v7), (i8, v8), (i9, v9), (i10, v10), (i11, v11), (i12, v12)] := by simp [h1, h2, h3, h4, h5, h6, h7, h8, h9, h10, h11, h12]
theorem B13 {f : Fm} {i1 i2 i3 i4 i5 i6 i7 i8 i9 i10 i11 i12 i13 : Nat} {x1 x2 x3 x4 x5 x6 x7 x8 x9 x10 x11 x12 x13 : Operand} {v1 v2 v3 v4 v5 v6 v7 v8 v9 v10 v11 v12 v13 : Value} (h1 : ev f x1 = v1) (h2 : ev f x2 = v2) (h3 : ev f x3 = v3) (h4 : ev f x4 = v4) (h5 : ev f x5 = v5) (h6 : ev f x6 = v6) (h7 : ev f x7 = v7) (h8 : ev f x8 = v8) (h9 : ev f x9 = v9) (h10 : ev f x10 = v10) (h11 : ev f x11 = v11) (h12 : ev f x12 = v12) (h13 : ev f x13 = v13) :
    (#[(i1, x1), (i2, x2), (i3, x3), (i4, x4), (i5, x5), (i6, x6), (i7, x7), (i8, x8), (i9, x9), (i10, x10), (i11, x11), (i12, x12), (i13, x13)].map fun (i, x) => (i, ev f x)) = #[(i1, v1), (i2, v2), (i3, v3), (i4, v4), (i5, v5), (i6, v6), (i7, v7), (i8, v8), (i9, v9), (i10, v10), (i11, v11), (i12, v12), (i13, v13)] := by simp [h1, h2, h3, h4, h5, h6, h7, h8, h9, h10, h11, h12, h13]
theorem B14 {f : Fm} {i1 i2 i3 i4 i5 i6 i7 i8 i9 i10 i11 i12 i13 i14 : Nat} {x1 x2 x3 x4 x5 x6 x7 x8 x9 x10 x11 x12 x13 x14 : Operand} {v1 v2 v3 v4 v5 v6 v7 v8 v9 v10 v11 v12 v13 v14 : Value} (h1 : ev f x1 = v1) (h2 : ev f x2 = v2) (h3 : ev f x3 = v3) (h4 : ev f x4 = v4) (h5 : ev f x5 = v5) (h6 : ev f x6 = v6) (h7 : ev f x7 = v7) (h8 : ev f x8 = v8) (h9 : ev f x9 = v9) (h10 : ev f x10 = v10) (h11 : ev f x11 = v11) (h12 : ev f x12 = v12) (h13 : ev f x13 = v13) (h14 : ev f x14 = v14) :
    (#[(i1, x1), (i2, x2), (i3, x3), (i4, x4), (i5, x5), (i6, x6), (i7, x7), (i8, x8), (i9, x9), (i10, x10), (i11, x11), (i12, x12), (i13, x13), (i14, x14)].map fun (i, x) => (i, ev f x)) = #[(i1, v1), (i2, v2), (i3, v3), (i4, v4), (i5, v5), (i6, v6), (i7, v7), (i8, v8), (i9, v9), (i10, v10), (i11, v11), (i12, v12), (i13, v13), (i14, v14)] := by simp [h1, h2, h3, h4, h5, h6, h7, h8, h9, h10, h11, h12, h13, h14]
theorem B15 {f : Fm} {i1 i2 i3 i4 i5 i6 i7 i8 i9 i10 i11 i12 i13 i14 i15 : Nat} {x1 x2 x3 x4 x5 x6 x7 x8 x9 x10 x11 x12 x13 x14 x15 : Operand} {v1 v2 v3 v4 v5 v6 v7 v8 v9 v10 v11 v12 v13 v14 v15 : Value} (h1 : ev f x1 = v1) (h2 : ev f x2 = v2) (h3 : ev f x3 = v3) (h4 : ev f x4 = v4) (h5 : ev f x5 = v5) (h6 : ev f x6 = v6) (h7 : ev f x7 = v7) (h8 : ev f x8 = v8) (h9 : ev f x9 = v9) (h10 : ev f x10 = v10) (h11 : ev f x11 = v11) (h12 : ev f x12 = v12) (h13 : ev f x13 = v13) (h14 : ev f x14 = v14) (h15 : ev f x15 = v15) :
    (#[(i1, x1), (i2, x2), (i3, x3), (i4, x4), (i5, x5), (i6, x6), (i7, x7), (i8, x8), (i9, x9), (i10, x10), (i11, x11), (i12, x12), (i13, x13), (i14, x14), (i15, x15)].map fun (i, x) => (i, ev f x)) = #[(i1, v1), (i2, v2), (i3, v3), (i4, v4), (i5, v5), (i6, v6), (i7, v7), (i8, v8), (i9, v9), (i10, v10), (i11, v11), (i12, v12), (i13, v13), (i14, v14), (i15, v15)] := by simp [h1, h2, h3, h4, h5, h6, h7, h8, h9, h10, h11, h12, h13, h14, h15]
theorem B16 {f : Fm} {i1 i2 i3 i4 i5 i6 i7 i8 i9 i10 i11 i12 i13 i14 i15 i16 : Nat} {x1 x2 x3 x4 x5 x6 x7 x8 x9 x10 x11 x12 x13 x14 x15 x16 : Operand} {v1 v2 v3 v4 v5 v6 v7 v8 v9 v10 v11 v12 v13 v14 v15 v16 : Value} (h1 : ev f x1 = v1) (h2 : ev f x2 = v2) (h3 : ev f x3 = v3) (h4 : ev f x4 = v4) (h5 : ev f x5 = v5) (h6 : ev f x6 = v6) (h7 : ev f x7 = v7) (h8 : ev f x8 = v8) (h9 : ev f x9 = v9) (h10 : ev f x10 = v10) (h11 : ev f x11 = v11) (h12 : ev f x12 = v12) (h13 : ev f x13 = v13) (h14 : ev f x14 = v14) (h15 : ev f x15 = v15) (h16 : ev f x16 = v16) :
    (#[(i1, x1), (i2, x2), (i3, x3), (i4, x4), (i5, x5), (i6, x6), (i7, x7), (i8, x8), (i9, x9), (i10, x10), (i11, x11), (i12, x12), (i13, x13), (i14, x14), (i15, x15), (i16, x16)].map fun (i, x) => (i, ev f x)) = #[(i1, v1), (i2, v2), (i3, v3), (i4, v4), (i5, v5), (i6, v6), (i7, v7), (i8, v8), (i9, v9), (i10, v10), (i11, v11), (i12, v12), (i13, v13), (i14, v14), (i15, v15), (i16, v16)] := by simp [h1, h2, h3, h4, h5, h6, h7, h8, h9, h10, h11, h12, h13, h14, h15, h16]
theorem B17 {f : Fm} {i1 i2 i3 i4 i5 i6 i7 i8 i9 i10 i11 i12 i13 i14 i15 i16 i17 : Nat} {x1 x2 x3 x4 x5 x6 x7 x8 x9 x10 x11 x12 x13 x14 x15 x16 x17 : Operand} {v1 v2 v3 v4 v5 v6 v7 v8 v9 v10 v11 v12 v13 v14 v15 v16 v17 : Value} (h1 : ev f x1 = v1) (h2 : ev f x2 = v2) (h3 : ev f x3 = v3) (h4 : ev f x4 = v4) (h5 : ev f x5 = v5) (h6 : ev f x6 = v6) (h7 : ev f x7 = v7) (h8 : ev f x8 = v8) (h9 : ev f x9 = v9) (h10 : ev f x10 = v10) (h11 : ev f x11 = v11) (h12 : ev f x12 = v12) (h13 : ev f x13 = v13) (h14 : ev f x14 = v14) (h15 : ev f x15 = v15) (h16 : ev f x16 = v16) (h17 : ev f x17 = v17) :
    (#[(i1, x1), (i2, x2), (i3, x3), (i4, x4), (i5, x5), (i6, x6), (i7, x7), (i8, x8), (i9, x9), (i10, x10), (i11, x11), (i12, x12), (i13, x13), (i14, x14), (i15, x15), (i16, x16), (i17, x17)].map fun (i, x) => (i, ev f x)) = #[(i1, v1), (i2, v2), (i3, v3), (i4, v4), (i5, v5), (i6, v6), (i7, v7), (i8, v8), (i9, v9), (i10, v10), (i11, v11), (i12, v12), (i13, v13), (i14, v14), (i15, v15), (i16, v16), (i17, v17)] := by simp [h1, h2, h3, h4, h5, h6, h7, h8, h9, h10, h11, h12, h13, h14, h15, h16, h17]
theorem B18 {f : Fm} {i1 i2 i3 i4 i5 i6 i7 i8 i9 i10 i11 i12 i13 i14 i15 i16 i17 i18 : Nat} {x1 x2 x3 x4 x5 x6 x7 x8 x9 x10 x11 x12 x13 x14 x15 x16 x17 x18 : Operand} {v1 v2 v3 v4 v5 v6 v7 v8 v9 v10 v11 v12 v13 v14 v15 v16 v17 v18 : Value} (h1 : ev f x1 = v1) (h2 : ev f x2 = v2) (h3 : ev f x3 = v3) (h4 : ev f x4 = v4) (h5 : ev f x5 = v5) (h6 : ev f x6 = v6) (h7 : ev f x7 = v7) (h8 : ev f x8 = v8) (h9 : ev f x9 = v9) (h10 : ev f x10 = v10) (h11 : ev f x11 = v11) (h12 : ev f x12 = v12) (h13 : ev f x13 = v13) (h14 : ev f x14 = v14) (h15 : ev f x15 = v15) (h16 : ev f x16 = v16) (h17 : ev f x17 = v17) (h18 : ev f x18 = v18) :
    (#[(i1, x1), (i2, x2), (i3, x3), (i4, x4), (i5, x5), (i6, x6), (i7, x7), (i8, x8), (i9, x9), (i10, x10), (i11, x11), (i12, x12), (i13, x13), (i14, x14), (i15, x15), (i16, x16), (i17, x17), (i18, x18)].map fun (i, x) => (i, ev f x)) = #[(i1, v1), (i2, v2), (i3, v3), (i4, v4), (i5, v5), (i6, v6), (i7, v7), (i8, v8), (i9, v9), (i10, v10), (i11, v11), (i12, v12), (i13, v13), (i14, v14), (i15, v15), (i16, v16), (i17, v17), (i18, v18)] := by simp [h1, h2, h3, h4, h5, h6, h7, h8, h9, h10, h11, h12, h13, h14, h15, h16, h17, h18]
theorem B19 {f : Fm} {i1 i2 i3 i4 i5 i6 i7 i8 i9 i10 i11 i12 i13 i14 i15 i16 i17 i18 i19 : Nat} {x1 x2 x3 x4 x5 x6 x7 x8 x9 x10 x11 x12 x13 x14 x15 x16 x17 x18 x19 : Operand} {v1 v2 v3 v4 v5 v6 v7 v8 v9 v10 v11 v12 v13 v14 v15 v16 v17 v18 v19 : Value} (h1 : ev f x1 = v1) (h2 : ev f x2 = v2) (h3 : ev f x3 = v3) (h4 : ev f x4 = v4) (h5 : ev f x5 = v5) (h6 : ev f x6 = v6) (h7 : ev f x7 = v7) (h8 : ev f x8 = v8) (h9 : ev f x9 = v9) (h10 : ev f x10 = v10) (h11 : ev f x11 = v11) (h12 : ev f x12 = v12) (h13 : ev f x13 = v13) (h14 : ev f x14 = v14) (h15 : ev f x15 = v15) (h16 : ev f x16 = v16) (h17 : ev f x17 = v17) (h18 : ev f x18 = v18) (h19 : ev f x19 = v19) :
    (#[(i1, x1), (i2, x2), (i3, x3), (i4, x4), (i5, x5), (i6, x6), (i7, x7), (i8, x8), (i9, x9), (i10, x10), (i11, x11), (i12, x12), (i13, x13), (i14, x14), (i15, x15), (i16, x16), (i17, x17), (i18, x18), (i19, x19)].map fun (i, x) => (i, ev f x)) = #[(i1, v1), (i2, v2), (i3, v3), (i4, v4), (i5, v5), (i6, v6), (i7, v7), (i8, v8), (i9, v9), (i10, v10), (i11, v11), (i12, v12), (i13, v13), (i14, v14), (i15, v15), (i16, v16), (i17, v17), (i18, v18), (i19, v19)] := by simp [h1, h2, h3, h4, h5, h6, h7, h8, h9, h10, h11, h12, h13, h14, h15, h16, h17, h18, h19]
theorem B20 {f : Fm} {i1 i2 i3 i4 i5 i6 i7 i8 i9 i10 i11 i12 i13 i14 i15 i16 i17 i18 i19 i20 : Nat} {x1 x2 x3 x4 x5 x6 x7 x8 x9 x10 x11 x12 x13 x14 x15 x16 x17 x18 x19 x20 : Operand} {v1 v2 v3 v4 v5 v6 v7 v8 v9 v10 v11 v12 v13 v14 v15 v16 v17 v18 v19 v20 : Value} (h1 : ev f x1 = v1) (h2 : ev f x2 = v2) (h3 : ev f x3 = v3) (h4 : ev f x4 = v4) (h5 : ev f x5 = v5) (h6 : ev f x6 = v6) (h7 : ev f x7 = v7) (h8 : ev f x8 = v8) (h9 : ev f x9 = v9) (h10 : ev f x10 = v10) (h11 : ev f x11 = v11) (h12 : ev f x12 = v12) (h13 : ev f x13 = v13) (h14 : ev f x14 = v14) (h15 : ev f x15 = v15) (h16 : ev f x16 = v16) (h17 : ev f x17 = v17) (h18 : ev f x18 = v18) (h19 : ev f x19 = v19) (h20 : ev f x20 = v20) :
    (#[(i1, x1), (i2, x2), (i3, x3), (i4, x4), (i5, x5), (i6, x6), (i7, x7), (i8, x8), (i9, x9), (i10, x10), (i11, x11), (i12, x12), (i13, x13), (i14, x14), (i15, x15), (i16, x16), (i17, x17), (i18, x18), (i19, x19), (i20, x20)].map fun (i, x) => (i, ev f x)) = #[(i1, v1), (i2, v2), (i3, v3), (i4, v4), (i5, v5), (i6, v6), (i7, v7), (i8, v8), (i9, v9), (i10, v10), (i11, v11), (i12, v12), (i13, v13), (i14, v14), (i15, v15), (i16, v16), (i17, v17), (i18, v18), (i19, v19), (i20, v20)] := by simp [h1, h2, h3, h4, h5, h6, h7, h8, h9, h10, h11, h12, h13, h14, h15, h16, h17, h18, h19, h20]
end Go.Mr
namespace Go.Pu
/-- a formula: no node, or a node with its sign, its parts and its text -/
inductive Fo where
  | nil : Fo
  | node (op : Int) (a b : Fo) (text : ByteArray) : Fo
/-- what lies in a node -/
@[ext] structure FoN where
  op : Int
  a : Fo
  b : Fo
  text : ByteArray
def Fo.get : Fo → Option FoN
  | .nil => none
  | .node op a b tx => some ⟨op, a, b, tx⟩
def Fo.isNil : Fo → Bool
  | .nil => true
  | .node .. => false
def FoN.fo (n : FoN) : Fo := .node n.op n.a n.b n.text
theorem Fo.get_some {t : Fo} {n : FoN} (h : t.get = some n) : t = n.fo := by
  cases t with
  | nil => cases h
  | node op a b tx => cases h; rfl
theorem FoN.get_fo (n : FoN) : n.fo.get = some n := rfl
end Go.Pu
namespace Go.Mr
open Go.RowKit Go.Pu
/-- the value v is the pointer to a formula that lies sealed -/
def FAt (H : GH) : Value → Fo → Prop
  | v, .nil => v = .pointer none
  | v, .node op a b tx => ∃ q va vb, v = .pointer (some q) ∧ CAt H q [.int .u8 op, va, vb, .string tx] ∧ FAt H va a ∧ FAt H vb b
theorem FAt.mono0 {H H' : GH} (hi : Inc H H') : ∀ {v : Value} {t : Fo}, FAt H v t → FAt H' v t := by
  intro v t
  induction t generalizing v with
  | nil => exact id
  | node op a b tx iha ihb =>
    rintro ⟨q, va, vb, h1, h2, h3, h4⟩
    exact ⟨q, va, vb, h1, h2.mono hi, iha h3, ihb h4⟩
theorem FAt.mono {H H' : GH} {v : Value} {t : Fo} (h : FAt H v t) (hi : Inc H H') : FAt H' v t := FAt.mono0 hi h
theorem FAt.nil {H : GH} : FAt H (.pointer none) .nil := rfl
theorem FAt.mk {H : GH} {q : Addr} {va vb : Value} {op : Int} {a b : Fo} {tx : ByteArray} (h : CAt H q [.int .u8 op, va, vb, .string tx]) (ha : FAt H va a) (hb : FAt H vb b) : FAt H (.pointer (some q)) (.node op a b tx) := ⟨q, va, vb, rfl, h, ha, hb⟩
theorem FAt.open {H : GH} {v : Value} {t : Fo} {n : FoN} (h : FAt H v t) (hn : t.get = some n) : ∃ q va vb, v = .pointer (some q) ∧ CAt H q [.int .u8 n.op, va, vb, .string n.text] ∧ FAt H va n.a ∧ FAt H vb n.b := by
  cases t with
  | nil => cases hn
  | node op a b tx => cases hn; exact h
theorem FAt.ptr {H : GH} {v : Value} {t : Fo} (h : FAt H v t) : ∃ p, v = .pointer p := by
  cases t with
  | nil => exact ⟨_, h⟩
  | node => obtain ⟨q, _, _, h, _⟩ := h; exact ⟨_, h⟩
theorem FAt.one {H : GH} {v : Value} {t : Fo} (h : FAt H v t) : v.oneCell' = true := by obtain ⟨p, rfl⟩ := h.ptr; rfl
theorem FAt.cells {H : GH} {v : Value} {t : Fo} (h : FAt H v t) : v.cells = #[v] := by obtain ⟨p, rfl⟩ := h.ptr; rfl
/-- a pointer, and whether it is nil -/
@[reducible] def NilT (v : Value) (b : Bool) : Prop := v = .pointer none ∧ b = true ∨ ∃ q, v = .pointer (some q) ∧ b = false
theorem FAt.isNil {H : GH} {v : Value} {t : Fo} (h : FAt H v t) : NilT v t.isNil := by
  cases t with
  | nil => exact .inl ⟨h, rfl⟩
  | node => obtain ⟨q, _, _, h, _⟩ := h; exact .inr ⟨q, h, rfl⟩
/-- the value v is the pointer to a sealed datum, or nil -/
def PAt {α : Type} (H : GH) (E : Enc α) (v : Value) (x : Option α) : Prop :=
  match x with
  | none => v = .pointer none
  | some y => ∃ q cs, v = .pointer (some q) ∧ CAt H q cs ∧ E.rel H cs y
section
variable {α : Type} {H H' : GH} {E : Enc α} {v : Value} {x : Option α}
theorem PAt.mono (h : PAt H E v x) (hi : Inc H H') : PAt H' E v x := by
  cases x with
  | none => exact h
  | some y => obtain ⟨q, cs, h1, h2, h3⟩ := h; exact ⟨q, cs, h1, h2.mono hi, E.mono hi h3⟩
theorem PAt.nil : PAt H E (.pointer none) none := rfl
theorem PAt.mk {q : Addr} {cs : List Value} {y : α} (h : CAt H q cs) (hr : E.rel H cs y) : PAt H E (.pointer (some q)) (some y) := ⟨q, cs, rfl, h, hr⟩
theorem PAt.open {y : α} (h : PAt H E v x) (hy : x = some y) : ∃ q cs, v = .pointer (some q) ∧ CAt H q cs ∧ E.rel H cs y := by subst hy; exact h
theorem PAt.ptr (h : PAt H E v x) : ∃ p, v = .pointer p := by
  cases x with
  | none => exact ⟨_, h⟩
  | some y => obtain ⟨q, _, h, _⟩ := h; exact ⟨_, h⟩
theorem PAt.one (h : PAt H E v x) : v.oneCell' = true := by obtain ⟨p, rfl⟩ := h.ptr; rfl
theorem PAt.cells (h : PAt H E v x) : v.cells = #[v] := by obtain ⟨p, rfl⟩ := h.ptr; rfl
theorem PAt.isNil (h : PAt H E v x) : NilT v x.isNone := by
  cases x with
  | none => exact .inl ⟨h, rfl⟩
  | some y => obtain ⟨q, _, h, _⟩ := h; exact .inr ⟨q, h, rfl⟩
end
/-- rows of formulas -/
def eFo : Enc Fo := ⟨fun H cs t => ∃ v, cs = [v] ∧ FAt H v t, by rintro H H' cs x hi ⟨v, h1, h2⟩; exact ⟨v, h1, h2.mono hi⟩,
  by rintro H cs x ⟨v, rfl, h⟩ u hu; obtain rfl := List.mem_singleton.1 hu; exact h.one,
  by rintro H cs x ⟨v, rfl, h⟩ b hb; obtain ⟨p, rfl⟩ := h.ptr; simp [bl, neb] at hb⟩
theorem eFo_open {H : GH} {cs : List Value} {t : Fo} (h : eFo.rel H cs t) : ∃ v, cs = [v] ∧ FAt H v t := h
section
variable {P : Program} {f : Fm} {w : World} {d : Option Tmp} {ty : TypeId} {pos : String} {aft : Array Edge} {gd : Option (Nat × Bool)} {x y : Operand} {t t' : TypeId}
theorem run_equalIn_ptr (n : Nat) {e : TypeId} (ht : ∀ w, (underlying t).run P w = .ok (.pointer e) w) {v : Value} {b : Bool} (hv : NilT v b) :
    (Op.equalIn (n + 1) t v (.pointer none)).run P w = .ok b w := by
  rcases hv with ⟨rfl, rfl⟩ | ⟨q, rfl, rfl⟩ <;> simp [Op.equalIn, ht]
theorem E.eqlN {e : TypeId} {v : Value} {b : Bool} (ht : ∀ w, (underlying t).run P w = .ok (.pointer e) w) (h : NilT v b) (hx : ev f x = v) (hy : ev f y = .pointer none) :
    (execOp (ev f) ⟨d, .binOp .eql t x y t', ty, pos, aft, gd⟩).run P w = .ok (.value (.bool b)) w := by
  have := run_equalIn_ptr (w := w) 9999 ht h
  rcases h with ⟨rfl, rfl⟩ | ⟨q, rfl, rfl⟩ <;> simp [execOp, eqGuard, binOp, hx, hy, Op.equal, Op.maxDepth, this]
theorem E.neqN {e : TypeId} {v : Value} {b : Bool} (ht : ∀ w, (underlying t).run P w = .ok (.pointer e) w) (h : NilT v b) (hx : ev f x = v) (hy : ev f y = .pointer none) :
    (execOp (ev f) ⟨d, .binOp .neq t x y t', ty, pos, aft, gd⟩).run P w = .ok (.value (.bool (!b))) w := by
  have := run_equalIn_ptr (w := w) 9999 ht h
  rcases h with ⟨rfl, rfl⟩ | ⟨q, rfl, rfl⟩ <;> simp [execOp, eqGuard, binOp, hx, hy, Op.equal, Op.maxDepth, this]
theorem chr_enc {n : Int} {s : ByteArray} (h : chrS n = some s) : Utf8.encode n = s := by
  unfold chrS at h; split at h
  · rename_i hh; cases h
    obtain ⟨k, rfl⟩ := Int.eq_ofNat_of_zero_le hh.1
    have hk : k < 128 := by omega
    have hv : Utf8.valid (k : Int) = true := by simp [Utf8.valid]; omega
    have hc : (if Utf8.valid (k : Int) = true then (k : Int).toNat else Utf8.runeError) = k := by rw [if_pos hv]; exact Int.toNat_natCast k
    simp only [Utf8.encode, hc]
    rw [if_pos (show k < 0x80 by omega)]
    rfl
  · cases h
theorem E.chr {k : IntKind} {n : Int} {s : ByteArray} {sd : TypeDesc} (hs : ∀ w, (underlying t).run P w = .ok sd w) (ht : ∀ w, (underlying t').run P w = .ok .string w) (hx : ev f x = .int k n) (h : chrS n = some s) :
    (execOp (ev f) ⟨d, .convert t t' x, ty, pos, aft, gd⟩).run P w = .ok (.value (.string s)) w := by
  simp [execOp, convert, hs, ht, hx, Conv.intToString, chr_enc h]
end
theorem eI2_flat : FlatE eI2 := by rintro H H' cs x rfl; exact ⟨rfl, rfl⟩
end Go.Mr
namespace Go.Pu
/-- strings.Contains, where what is looked for is one byte -/
def hasS (s sub : ByteArray) : Option Bool := match sub.data.toList with
  | [c] => some (decide (0 ≤ Go.Lib.indexByte s.data.toList c))
  | _ => none
theorem hasS_some {s sub : ByteArray} {b : Bool} (h : hasS s sub = some b) : ∃ c, sub = ⟨#[c]⟩ ∧ b = decide (0 ≤ Go.Lib.indexByte s.data.toList c) := by
  unfold hasS at h
  split at h
  · rename_i c hc
    cases h
    exact ⟨c, ByteArray.ext (Array.ext' hc), rfl⟩
  · cases h
/-- strings.Compare -/
def cmpS (a b : ByteArray) : Int := Go.Lib.compareBytes a.data.toList b.data.toList
end Go.Pu
namespace Go.Pu
/-- bytes as a text -/
def bytesS (ns : List Int) : ByteArray := ns.foldl (fun r n => r.push (UInt8.ofNat n.toNat)) ByteArray.empty
end Go.Pu
namespace Go.Mr
open Go.RowKit Go.Pu
section
variable {P : Program} {f : Fm} {w : World} {d : Option Tmp} {ty : TypeId} {pos : String} {aft : Array Edge} {gd : Option (Nat × Bool)} {x : Operand} {v : Value}
variable {H0 H G : GH} {w0 : World} {l : List MO} {t t' e n : Nat}
theorem els_bytes {cells : List Value} {xs : List Int} (h : Els G (eN .u8) 1 cells xs) : cells = xs.map (Value.int .u8) := by
  induction h with
  | nil => rfl
  | snoc hp hc hx ih => rw [List.map_append, ← ih]; exact congrArg _ hx
theorem E.bytes {m : Nat} {cells : List Value} {xs : List Int} (hs : P.underlying t = some (.slice e)) (he : P.underlying e = some (.int .u8)) (hd : P.underlying t' = some .string)
    (S : St H0 w0 H w l) {i e' : Nat} (hi : l[i]? = some (.row e' 1 v m cells)) (hE : Els G (eN .u8) 1 cells xs) (hx : ev f x = v) :
    (execOp (ev f) ⟨d, .convert t t' x, ty, pos, aft, gd⟩).run P w = .ok (.value (.string (bytesS xs))) w := by
  have hc := els_bytes hE
  have key : ∃ a ln cp, v = .slice a ln cp ∧ (Conv.bytesToString v).run P w = .ok (.string (bytesS xs)) w := by
    rcases S.row_src hi with ⟨ad, c, rfl, hl, hnews⟩ | ⟨rfl, rfl, rfl⟩
    · refine ⟨_, _, _, rfl, ?_⟩
      refine run_bytesToString w ad m c xs ?_
      have h := run_loadCells_list (P := P) w ad cells hnews
      rw [hc] at h hl
      rw [show (xs.map (Value.int .u8)).length = m by rw [hl, Nat.mul_one]] at h
      exact h
    · have : xs = [] := by simpa using hc.symm
      subst this
      exact ⟨_, _, _, rfl, rfl⟩
  obtain ⟨a, ln, cp, rfl, hk⟩ := key
  have h2 := run_convert_bytes_string (P := P) w t t' e a ln cp hs he hd
  rw [hk] at h2
  simp [execOp, hx, h2]
end
end Go.Mr
namespace Go.Mr
open Go.RowKit Go.Pu
/-- the value v is a map that lies sealed -/
def MAt {K V : Type} (H : GH) (ek : K → Value) (en : V → Value) (v : Value) (m : List (K × V)) : Prop := ∃ b o, v = .map (some b) ∧ H b = some o ∧ MapOf ek en o m
section
variable {H0 H H' : GH} {w0 w : World} {l : List MO} {P : Program} {K V : Type} {ek : K → Value} {en : V → Value} {kt et t : TypeId} {o : Obj} {m : List (K × V)} {i b : Nat} {v : Value}
theorem chk_intk {k : IntKind} (h : ∀ w, (underlying kt).run P w = .ok (.int k) w) (n : Nat) (e : Bool) (a : Int) (w : World) : (Instr.checkKey e (n + 1) kt (.int k a)).run P w = .ok () w := by
  simp [Instr.checkKey, h]
theorem KeyNow.intk {k : IntKind} (h : ∀ w, (underlying kt).run P w = .ok (.int k) w) : KeyNow P kt (Value.int k) := by
  refine ⟨⟨_, h, fun a b => ?_⟩, fun a b h => by simpa using h, fun a => ?_, fun e a w => chk_intk h 9999 e a w⟩
  · simp [Instr.sameNow]
  · simp [Instr.sameBits]
theorem ba_eq {a b : ByteArray} : (a == b) = true ↔ a = b := by
  cases a with | mk a => cases b with | mk b =>
  constructor
  · intro h
    have h2 : (a == b) = true := h
    rw [eq_of_beq h2]
  · rintro h
    cases h
    show (a == a) = true
    exact beq_self_eq_true a
theorem KeyNow.str (h : ∀ w, (underlying kt).run P w = .ok .string w) : KeyNow P kt Value.string := by
  refine ⟨⟨_, h, fun a b => ?_⟩, fun a b h => ba_eq.1 h, fun a => ?_, fun e a w => ?_⟩
  · simp [Instr.sameNow]
  · simp only [Instr.sameBits]; exact ba_eq.2 rfl
  · unfold Instr.checkKey; simp [h]
theorem MAt.mono (h : MAt H ek en v m) (hi : Inc H H') : MAt H' ek en v m := by obtain ⟨b, o, h1, h2, h3⟩ := h; exact ⟨b, o, h1, hi _ _ h2, h3⟩
theorem MAt.one (h : MAt H ek en v m) : v.oneCell' = true := by obtain ⟨b, o, rfl, _⟩ := h; rfl
theorem MAt.cells (h : MAt H ek en v m) : v.cells = #[v] := by obtain ⟨b, o, rfl, _⟩ := h; rfl
theorem St.sealMap (S : St H0 w0 H w l) {l' : List MO} (hi : l[i]? = some (.raw b o)) (hm : MapOf ek en o m) (hl : l.eraseIdx i = l') :
    ∃ H', St H0 w0 H' w l' ∧ Inc H H' ∧ MAt H' ek en (.map (some b)) m := by
  subst hl
  have hb := S.rawAt hi
  obtain ⟨H', h1, h2, h3⟩ := S.sealedS hi (fun b' ob e1 e2 => by
    obtain ⟨es, c, rfl, _⟩ := hm
    simp only [MO.blk, Option.some.injEq] at e1; subst e1
    rw [hb] at e2; cases e2; rfl)
  exact ⟨H', h1, h2, b, o, rfl, h3 b o rfl hb, hm⟩
theorem MAt.get [BEq K] (h : MAt H ek en v m) (hs : Sl H w) (ht : ∀ w, (underlying t).run P w = .ok (.map kt et) w) (kn : KeyNow P kt ek) {z : V} (hz : ∀ w, (zeroValue et).run P w = .ok (en z) w) (k : K) :
    (Instr.lookup t v (ek k) false).run P w = .ok (en ((mget m k).getD z)) w := by
  obtain ⟨b, o, rfl, hb0, es, c, rfl, he⟩ := h
  have hb := hs _ _ hb0
  obtain ⟨kd, h1, h2⟩ := kn.kd
  have hf := findNow_eq h2 k es.toList m 0 he
  rw [mget_find]
  cases hq : mfind m k with
  | none => rw [hq] at hf; simp [Instr.lookup, ht, getObj, Sem.run, hb, kn.chk, Instr.findKey, h1, hf, hz]
  | some z => rw [hq] at hf; simp [Instr.lookup, ht, getObj, Sem.run, hb, kn.chk, Instr.findKey, h1, hf]
theorem MAt.getOk [BEq K] (h : MAt H ek en v m) (hs : Sl H w) (ht : ∀ w, (underlying t).run P w = .ok (.map kt et) w) (kn : KeyNow P kt ek) {z : V} (hz : ∀ w, (zeroValue et).run P w = .ok (en z) w) (k : K) :
    (Instr.lookup t v (ek k) true).run P w = .ok (.tuple #[en ((mget m k).getD z), .bool (mget m k).isSome]) w := by
  obtain ⟨b, o, rfl, hb0, es, c, rfl, he⟩ := h
  have hb := hs _ _ hb0
  obtain ⟨kd, h1, h2⟩ := kn.kd
  have hf := findNow_eq h2 k es.toList m 0 he
  rw [mget_find]
  cases hq : mfind m k with
  | none => rw [hq] at hf; simp [Instr.lookup, ht, getObj, Sem.run, hb, kn.chk, Instr.findKey, h1, hf, hz]
  | some z => rw [hq] at hf; simp [Instr.lookup, ht, getObj, Sem.run, hb, kn.chk, Instr.findKey, h1, hf]
theorem E.insert {f : Fm} {ty : TypeId} {pos : String} {aft : Array Edge} {gd : Option (Nat × Bool)} {x y q : Operand} {u z v : Value} {w' : World} (hx : ev f x = u) (hy : ev f y = z) (hq : ev f q = v) (h : (Instr.mapUpdate t u z v).run P w = .ok () w') :
    (execOp (ev f) ⟨none, .insert t x y q, ty, pos, aft, gd⟩).run P w = .ok .skip w' := by
  subst hx hy hq; simp [execOp, h]
theorem E.lenMA {f : Fm} {d : Option Tmp} {ty : TypeId} {pos : String} {aft : Array Edge} {gd : Option (Nat × Bool)} {x : Operand} (ht : ∀ w, (underlying t).run P w = .ok (.map kt et) w) (h : MAt H ek en v m) (hs : Sl H w) (hx : ev f x = v) :
    (execOp (ev f) ⟨d, .call ⟨.builtin .len, #[x], #[t]⟩, ty, pos, aft, gd⟩).run P w = .ok (.value (.int .i64 (Pu.len m))) w := by
  obtain ⟨b, o, rfl, hb0, es, c, rfl, he⟩ := h
  have hb := hs _ _ hb0
  have hlen : es.size = m.length := by have := congrArg List.length he; simpa using this
  simp [execOp, resolve, invoke, builtin, Builtin.len_, hx, ht, getObj, Sem.run, hb, goInt, Pu.len, hlen]
end
end Go.Mr
namespace Go.Proofs
open Go.Shelf Go.RowKit Go.Lib Go.Sort
theorem ba_dec (x y : ByteArray) : (x.toList == y.toList) = decide (x = y) := by
  by_cases h : x = y
  · subst h; simp
  · rw [decide_eq_false h, beq_eq_false_iff_ne]
    intro e
    rw [ByteArray.toList_eq, ByteArray.toList_eq] at e
    exact h (ByteArray.ext (Array.ext' e))
theorem EqlAt.stringD (P : Program) (T : TypeId) : EqlAt P T Value.string (fun x y => decide (x = y)) := ⟨fun x y w => by rw [(EqlAt.string P T).1 x y w]; dsimp only []; rw [ba_dec], .string P T⟩
theorem NeqAt.stringD (P : Program) (T : TypeId) : NeqAt P T Value.string (fun x y => decide (x = y)) := ⟨fun x y w => by rw [(NeqAt.string P T).1 x y w]; dsimp only []; rw [ba_dec], .string P T⟩
end Go.Proofs
namespace Go.Mr
open Go.RowKit Go.Pu
def noDefer (l : List Oper) : Bool := l.all fun o => match o.op with | .defer _ => false | _ => true
section
variable {ρ : Option Nat} {P : Program} {ops : Array Oper} {Q : Exit → Act → World → Prop} {md : Region.Mode}
theorem uponIn_of_upon {n : Nat} {o : Oper} {a : Act} {K : Act → World → Prop} {r : Result Next} (h : o.upon P a K Q r) : o.uponIn (wideR ρ) n P a K Q r := by
  cases r with
  | ok x w' =>
    cases x <;> simp only [Oper.upon] at h <;> simp only [Oper.uponIn]
    case value => exact h
    case skip => exact h
    case defer => exact h
    case enter f args => exact ⟨(fun h => by cases h), callsIn_wideR (h.mono fun e w'' he => by cases e <;> exact he)⟩
    case row r args =>
      refine ⟨(fun h => by cases h), fun c cs _ => ?_⟩
      obtain ⟨v, w2, h1, h2⟩ := h c cs
      exact ⟨v, w2, h1, stepsIn_wide.2 h2⟩
  | halt x w' => cases x <;> simp only [Oper.upon] at h <;> first | exact h | exact h.elim
theorem wpOpIn_of_wpOp {n : Nat} (hd : noDefer ops.toList = true) (hL : ¬ LetsOut Q) {i : Nat} {K : Act → World → Prop} {a : Act} {w : World} (h : wpOp P ops Q i K a w) : wpOpIn (wideR ρ) n P ops Q i K a w := by
  unfold wpOp at h
  unfold wpOpIn
  cases ho : ops[i]? with
  | none => simpa [ho] using h
  | some o =>
    simp only [ho] at h ⊢
    have hn : ∀ c, o.op ≠ .defer c := by
      intro c hc
      have := List.all_eq_true.1 hd o (by
        have := Array.mem_of_getElem? ho
        simpa using this)
      rw [hc] at this; cases this
    split
    · rename_i hw
      simp only [hw, if_true] at h
      rcases h with h | h
      · refine ⟨fun _ _ => trivial, ?_⟩
        rw [Oper.semAt_eq _ _ _ hn]
        exact uponIn_of_upon h
      · exact absurd h.2 hL
    · rename_i hw
      simp only [hw] at h
      exact ⟨fun _ _ => trivial, h⟩
theorem wpAnyIn_of_wpAny {n : Nat} (hd : noDefer ops.toList = true) (hL : ¬ LetsOut Q) : ∀ (m : Nat) (ls : Array Bool) (a : Act) (w : World), wpAny P md ops Q m ls a w → wpAnyIn (wideR ρ) n P md ops Q m ls a w
  | 0, _, _, _, h => h
  | m + 1, _, _, _, h => ⟨h.1, fun i hi => wpOpIn_mono (fun _ _ k => wpAnyIn_of_wpAny hd hL m _ _ _ k) (wpOpIn_of_wpOp hd hL (h.2 i hi))⟩
end
section
variable {δ : List Nat} {P : Program} {N : Nat} {f : Fm} {w : World} {H : GH}
theorem FW.drawR {ρ : Option Nat} {Q : FQ} {id : Nat} {l : List Oper} (C : World → Prop) (hm : P.follows .mixedOrders = true) (hB : Region.lexB .any l.toArray = true) (hn : noDefer l = true) (hC : C { w with drawn := w.drawn + 1 })
    (h : FD (δ := δ) P N l.toArray C (fun f' => ∀ w', C w' → Q .normal f' w') l f) : FW (ρ := ρ) (δ := δ) P N (.region id l.toArray true) Q f w := by
  intro n a ha
  simp only [Region.lexB, Bool.and_eq_true] at hB
  have h1 := h a ha
  have h2 := wpAnyQ_lex (C := C) (md := .any) hB.1 l 0 (Array.replicate l.toArray.size false) a (by simp) (by simpa using hB.2) (by simpa using h1)
  have h3 := wpAny_of_quiet (Q' := lift (δ := δ) N fun e f w => e = .normal ∧ Q .normal f w) (fun a w' hw' (hq : ∃ f', Fr (δ := δ) N a f' ∧ ∀ w', C w' → Q .normal f' w') => by
    obtain ⟨f', hf, hq⟩ := hq; exact ⟨f', hf, rfl, hq w' hw'⟩) _ _ _ _ hC h2
  refine Code.wpIn_mono (Q := lift (δ := δ) N fun e f w => e = .normal ∧ Q .normal f w) (fun e a w ⟨f, hf, he, hM⟩ => he ▸ ⟨f, hf, hM⟩) (wpIn_region_any hm ?_)
  exact wpAnyIn_of_wpAny (by simpa using hn) (by rintro ⟨_, _, _, _, h0, _⟩; cases h0) _ _ _ _ (by simpa using h3)
theorem FW.drawRA {ρ : Option Nat} {Q : FQ} {id : Nat} {l : List Oper} (S : World → Prop) (M : Fm → World → Prop) (hm : P.follows .mixedOrders = true) (hn : noDefer l = true) (hs : Sl H w)
    (h : ∀ w1, Run w.heap.size H w H w1 → FA (δ := δ) P N l.toArray S M l.length (Array.replicate l.length false) f w1) (hQ : ∀ f w, M f w → Q .normal f w) : FW (ρ := ρ) (δ := δ) P N (.region id l.toArray true) Q f w := by
  intro n a ha
  refine Code.wpIn_mono (Q := lift (δ := δ) N fun e f w => e = .normal ∧ M f w) (fun e a w ⟨f, hf, he, hM⟩ => he ▸ ⟨f, hf, hQ f w hM⟩) (wpIn_region_any hm ?_)
  have := h _ (run_drew hs) a ha
  refine wpAnyIn_of_wpAny (by simpa using hn) (by rintro ⟨_, _, _, _, h0, _⟩; cases h0) _ _ _ _ (wpAny_of_held (S := S) _ _ _ _ ?_)
  simpa using this
theorem FW.drawRB {ρ : Option Nat} {Q : FQ} {id : Nat} {l : List Oper} (B : World → Prop) (M : Fm → World → Prop) (hm : P.follows .mixedOrders = true) (hn : noDefer l = true) (hs : Sl H w)
    (h : ∀ w1, Run w.heap.size H w H w1 → FB (δ := δ) P N l.toArray B M [] l.length (Array.replicate l.length false) f w1) (hQ : ∀ f w, M f w → Q .normal f w) : FW (ρ := ρ) (δ := δ) P N (.region id l.toArray true) Q f w := by
  intro n a ha
  refine Code.wpIn_mono (Q := lift (δ := δ) N fun e f w => e = .normal ∧ M f w) (fun e a w ⟨f, hf, he, hM⟩ => he ▸ ⟨f, hf, hQ f w hM⟩) (wpIn_region_any hm ?_)
  have := h _ (run_drew hs) a ha
  refine wpAnyIn_of_wpAny (by simpa using hn) (by rintro ⟨_, _, _, _, h0, _⟩; cases h0) _ _ _ _ (wpAny_of_held (S := fun _ => True) _ _ _ _ (wpAnyI.held (S := SP B []) _ _ _ _ ?_))
  simpa using this
end
end Go.Mr
namespace Go.Mr
open Go.RowKit Go.Pu
section
variable {H : GH} {A A2 : Type} {En : Enc A} {E2 : Enc A2} {k k2 B lo hi : Nat} {v v2 : Value} {xs : List A} {x2 : List A2}
/-- two rows of one call: each has a span of its own -/
theorem New.apart (h : RSl (up B H) En k v xs) (n : New H [v2]) : ∀ b ∈ bl [v], b ∉ bl [v2] := fun b hb hb2 => by
  have h0 := h.dom b hb
  have := n b hb2
  unfold up at h0
  split at h0
  · exact h0 rfl
  · exact h0 (by rw [this]; rfl)
theorem RSl.span1 (h : RSl (sg lo hi H) En k v xs) (hE : FlatE En) (hl : lo ≤ hi) : ∃ b d, lo ≤ b ∧ b ≤ d ∧ d ≤ hi ∧ RSl (sg b d H) En k v xs ∧ ((b = lo ∧ d = lo) ∨ (d = b + 1 ∧ b ∈ bl [v])) := by
  by_cases hb : ∃ b, b ∈ bl [v]
  · obtain ⟨b, hb⟩ := hb
    have h0 := h.dom b hb
    have hin : lo ≤ b ∧ b < hi := by
      cases h1 : sg lo hi H b with
      | none => exact absurd h1 h0
      | some o => obtain ⟨a, b, _, _⟩ := sg_iff.1 h1; exact ⟨a, b⟩
    refine ⟨b, b + 1, hin.1, by omega, by omega, h.only hE.rel fun b' hb' => ?_, .inr ⟨rfl, hb⟩⟩
    have e : b' = b := by
      simp only [bl, List.filterMap_cons, List.filterMap_nil] at hb hb'
      split at hb
      · cases hb
      · rename_i hn
        rw [hn] at hb'
        simp at hb hb'
        omega
    subst e
    have e1 : ¬ b' < lo := by omega
    simp [sg, up, hin.2, e1]
  · exact ⟨lo, lo, Nat.le_refl _, Nat.le_refl _, hl, h.only hE.rel fun b' hb' => absurd ⟨b', hb'⟩ hb, .inl ⟨rfl, rfl⟩⟩
theorem two_spans (h1 : RSl (sg lo hi H) En k v xs) (h2 : RSl (sg lo hi H) E2 k2 v2 x2) (f1 : FlatE En) (f2 : FlatE E2) (hl : lo ≤ hi) (hd : ∀ b ∈ bl [v], b ∉ bl [v2]) :
    ∃ b d b2 d2, (lo ≤ b ∧ b ≤ d ∧ d ≤ hi ∧ lo ≤ b2 ∧ b2 ≤ d2 ∧ d2 ≤ hi ∧ (d ≤ b2 ∨ d2 ≤ b)) ∧ RSl (sg b d H) En k v xs ∧ RSl (sg b2 d2 H) E2 k2 v2 x2 := by
  obtain ⟨b, d, p1, p2, p3, r1, q1⟩ := h1.span1 f1 hl
  obtain ⟨b2, d2, p4, p5, p6, r2, q2⟩ := h2.span1 f2 hl
  refine ⟨b, d, b2, d2, ⟨p1, p2, p3, p4, p5, p6, ?_⟩, r1, r2⟩
  rcases q1 with ⟨rfl, rfl⟩ | ⟨rfl, m1⟩
  · exact .inl p4
  · rcases q2 with ⟨rfl, rfl⟩ | ⟨rfl, m2⟩
    · exact .inr p1
    · have : b ≠ b2 := fun e => hd b m1 (e ▸ m2)
      omega
end
end Go.Mr
namespace Go.Mr
open Go.RowKit Go.Pu
section
variable {H H' H2 G : GH} {A A' : Type} {En : Enc A} {E' : Enc A'} {k k' B : Nat} {v v' : Value} {xs : List A} {ys : List A'} {c : List Value}
theorem els_flat_bl (h : Els G En k c xs) (hE : FlatE En) : bl c = [] := by
  induction h with
  | nil => rfl
  | snoc _ _ hx ih => rw [bl_app, ih, (hE G G _ _ hx).2]; rfl
theorem Ap.flat2 (h0 : RSl G En k v xs) (f0 : FlatE En) (k0 : 0 < k) (h1 : RSl G E' k' v' ys) (f1 : FlatE E') (k1 : 0 < k') (hd : ∀ b ∈ bl [v], b ∉ bl [v']) :
    ∃ c0 c1, Nest G En k v xs c0 ∧ Nest G E' k' v' ys c1 ∧ Ap v c0 v' c1 := by
  obtain ⟨c0, n0, e0⟩ := h0.nest f0 k0
  obtain ⟨c1, n1, e1⟩ := h1.nest f1 k1
  refine ⟨c0, c1, n0, n1, fun b h g => ?_⟩
  rw [e0] at h; rw [e1] at g
  rcases h with h | h
  · rcases g with g | g
    · exact hd b h g
    · cases g
  · cases h
theorem dis_nill : ∀ b ∈ bl [.slice none 0 0], b ∉ bl [v'] := fun b h => by cases h
theorem dis_nilr : ∀ b ∈ bl [v], b ∉ bl [.slice none 0 0] := fun b _ h => by cases h
theorem dis_symm (h : ∀ b ∈ bl [v'], b ∉ bl [v]) : ∀ b ∈ bl [v], b ∉ bl [v'] := fun b h1 h2 => h b h2 h1
theorem Nest.marked {zs : List A} (hE : FlatE En) (hk : 0 < k) (h : RSl (up B H2) En k v zs) (n : Nest (up B H) En k v xs c) : ∃ c', Nest (up B H2) En k v zs c' ∧ bl c' = bl c := by
  obtain ⟨c', n', e⟩ := h.nest hE hk
  exact ⟨c', n', by rw [e, els_flat_bl n.2.1 hE]⟩
theorem nd_two (h : ∀ b ∈ bl [v], b ∉ bl [v']) : (bl [v, v']).Nodup := by
  have e : bl [v, v'] = bl [v] ++ bl [v'] := bl_app [v] [v']
  rw [e]
  exact List.nodup_append.2 ⟨nd_one v, nd_one v', fun a ha b hb e => h a ha (e ▸ hb)⟩
theorem New.two (h : New H [v]) (h' : New H [v']) : New H [v, v'] := fun b hb => by
  have e : bl [v, v'] = bl [v] ++ bl [v'] := bl_app [v] [v']
  rw [e] at hb
  rcases List.mem_append.1 hb with hb | hb
  · exact h b hb
  · exact h' b hb
theorem Ap.dis {c' : List Value} (h : Ap v c v' c') : ∀ b ∈ bl [v], b ∉ bl [v'] := fun b h1 h2 => h b (.inl h1) (.inl h2)
end
end Go.Mr
namespace Go.Mr
open Go.RowKit Go.Pu
/-- each inner block is one of c0's, or H does not have it -/
def Gr (H : GH) (c0 c : List Value) : Prop := ∀ b ∈ bl c, b ∈ bl c0 ∨ H b = none
theorem inc_none {H H2 : GH} (hi : Inc H H2) {b : Nat} (h : H2 b = none) : H b = none := by
  cases e : H b with
  | none => rfl
  | some o => have := hi b o e; rw [h] at this; cases this
theorem Gr.rfl {H : GH} {c : List Value} : Gr H c c := fun _ h => .inl h
theorem Gr.anti {H H2 : GH} {c0 c : List Value} (h : Gr H2 c0 c) (hi : Inc H H2) : Gr H c0 c := fun b hb => (h b hb).imp id (inc_none hi)
theorem Gr.tr {H H2 : GH} {c0 c1 c2 : List Value} (h1 : Gr H c0 c1) (hi : Inc H H2) (h2 : Gr H2 c1 c2) : Gr H c0 c2 := fun b hb => (h2 b hb).elim (h1 b) fun h => .inr (inc_none hi h)
theorem Gr.app {H : GH} {c0 c1 x : List Value} (h : Gr H c0 c1) (hn : New H x) : Gr H c0 (c1 ++ x) := fun b hb => by
  unfold bl at hb
  rw [List.filterMap_append, List.mem_append] at hb
  rcases hb with hb | hb
  · exact h b hb
  · exact .inr (hn b hb)
theorem Gr.nd_app {Hf Hb : GH} {c0 a x : List Value} (ha : (bl a).Nodup) (hb : (bl x).Nodup) (hg : Gr Hf c0 a) (h0 : ∀ y ∈ bl c0, Hb y ≠ none) (hn : New Hb x) (hd : ∀ y ∈ bl x, Hf y ≠ none) : (bl (a ++ x)).Nodup := by
  unfold bl at *
  rw [List.filterMap_append]
  refine List.nodup_append.2 ⟨ha, hb, fun p hp q hq e => ?_⟩
  subst e
  rcases hg p hp with h | h
  · exact h0 p h (hn p hq)
  · exact hd p hq h
theorem dom_two {H : GH} {v v' : Value} (h : ∀ b ∈ bl [v], H b ≠ none) (h' : ∀ b ∈ bl [v'], H b ≠ none) : ∀ b ∈ bl [v, v'], H b ≠ none := fun b hb => by
  have : b ∈ bl [v] ++ bl [v'] := by
    unfold bl at *
    rw [← List.filterMap_append]; exact hb
  rcases List.mem_append.1 this with g | g
  · exact h b g
  · exact h' b g
end Go.Mr
namespace Go.Pu
theorem wr_top (x : Int) : wr x ≤ 9223372036854775807 := by unfold wr; omega
theorem wr_le0 {x : Int} (h : 0 ≤ x) : wr x ≤ x := by unfold wr; omega
theorem bytesS_one (n : Int) : (bytesS [n]).size = 1 := rfl
def mtxB (s : Int × ByteArray) : Option (Lp (Int × ByteArray) Empty) :=
  bif decide (0 < s.1) then bd (catS (bytesS [wrk false 8 (wr (48 + s.1.tmod 10))]) s.2) (fun z => some (.nx (wr (s.1.tdiv 10), z))) else some (.bk (s.1, s.2))
theorem mtx_one {k : Int} {b : ByteArray} (h0 : 0 < k) (hs : b.size ≤ 1000) : mtxB (k, b) = some (.nx (wr (k.tdiv 10), bytesS [wrk false 8 (wr (48 + k.tmod 10))] ++ b)) ∧ (bytesS [wrk false 8 (wr (48 + k.tmod 10))] ++ b).size = 1 + b.size := by
  have hc : catS (bytesS [wrk false 8 (wr (48 + k.tmod 10))]) b = some (bytesS [wrk false 8 (wr (48 + k.tmod 10))] ++ b) := by
    unfold catS; rw [if_pos (by rw [bytesS_one]; omega)]
  refine ⟨?_, by rw [ByteArray.size_append, bytesS_one]⟩
  unfold mtxB
  simp only [decide_eq_true h0, cond_true]
  rw [hc]; rfl
theorem mtx_end {k : Int} {b : ByteArray} (h0 : ¬ 0 < k) : mtxB (k, b) = some (.bk (k, b)) := by
  unfold mtxB
  simp only [decide_eq_false h0, cond_false]
theorem mtx_go : ∀ (n : Nat) (b : ByteArray) (k : Int), k < 10 ^ n → b.size + n ≤ 1000 → ∃ r, iter mtxB (k, b) = some (.go r) ∧ r.2.size ≤ b.size + n
  | 0, b, k, hk, _ => ⟨(k, b), iter_bk (mtx_end (by simp at hk ⊢; omega)), Nat.le_refl _⟩
  | n + 1, b, k, hk, hs => by
    by_cases h0 : 0 < k
    · obtain ⟨h1, hz⟩ := mtx_one h0 (b := b) (by omega)
      have hk' : wr (k.tdiv 10) < 10 ^ n := by
        have h1 : k.tdiv 10 = k / 10 := Int.tdiv_eq_ediv_of_nonneg (by omega)
        have h2 := wr_le0 (x := k.tdiv 10) (by rw [h1]; omega)
        have h3 : (10 : Int) ^ (n + 1) = 10 ^ n * 10 := by rw [Int.pow_succ]
        rw [h3] at hk
        generalize (10 : Int) ^ n = p at *
        omega
      obtain ⟨r, h3, h2⟩ := mtx_go n (bytesS [wrk false 8 (wr (48 + k.tmod 10))] ++ b) (wr (k.tdiv 10)) hk' (by rw [hz]; omega)
      refine ⟨r, ?_, by rw [hz] at h2; omega⟩
      rw [iter_nx h1]; exact h3
    · exact ⟨(k, b), iter_bk (mtx_end h0), by show b.size ≤ b.size + (n + 1); omega⟩
theorem mtx_some (k : Int) : ∃ r, iter mtxB (k, ByteArray.mk #[]) = some (.go r) ∧ r.2.size ≤ 100 := by
  have hb : (ByteArray.mk #[]).size = 0 := rfl
  by_cases h0 : 0 < k
  · obtain ⟨h1, hz⟩ := mtx_one h0 (b := ByteArray.mk #[]) (by decide)
    obtain ⟨r, h3, h2⟩ := mtx_go 19 (bytesS [wrk false 8 (wr (48 + k.tmod 10))] ++ ByteArray.mk #[]) (wr (k.tdiv 10)) (by have := wr_top (k.tdiv 10); omega) (by rw [hz]; decide)
    refine ⟨r, ?_, by rw [hz, hb] at h2; omega⟩
    rw [iter_nx h1]; exact h3
  · exact ⟨(k, ByteArray.mk #[]), iter_bk (mtx_end h0), by show (ByteArray.mk #[]).size ≤ 100; decide⟩
end Go.Pu
