/- Helpers of the walks and plain laws. -/
import Derived.Test.YtnimmenfdndeoaaGreatNrLB
import Derived.Shelf.Sort.Plain
import Derived.Shelf.Slices.In.SortNone
import Derived.RangeFuncRecord
import Derived.Shelf.SlicesE.Delete
import Derived.Test.YtnimmenfdndeoaaGreatNrLA
import Derived.Laws.StructEq
import Derived.KernelRfl
import Derived.Lib.AppendZerosOnto
import Derived.Lib.ItoaNum
import Derived.Shelf.Strconv.Itoa3
import Derived.Lib.ItoaLen
import Derived.Laws.Slices
import Derived.Shelf.SlSortCmp.InsertionK
set_option linter.unusedVariables false
namespace Go.Mr
open Go.RowKit Go.Pu
section
variable {P : Program} {w w' : World} {H0 H Hs : GH} {w0 : World} {l l0 T : List MO} {N : Nat} {f : Fm}
theorem putObj_grown (w : World) (b : Nat) (o : Obj) : w.grownBy (w.putObj b o) (some b) := ⟨rfl, rfl, rfl, by simp, fun k _ hk => World.putObj_heap_other (fun e => hk (by rw [e]))⟩
theorem St.rawPut {i b : Nat} {o : Obj} (o' : Obj) (h : St H0 w0 H w l) (hi : l[i]? = some (.raw b o)) : St H0 w0 H (w.putObj b o') (l.set i (.raw b o')) := by
 have hok := h.ok i _ hi
 exact h.upd hi (putObj_grown w b o') (Nat.le_refl _) ⟨World.putObj_heap_same (Array.getElem?_eq_some_iff.1 hok.1).1, hok.2⟩ (fun b' hb => .inl hb)
theorem St.rawAt {i b : Nat} {o : Obj} (h : St H0 w0 H w l) (hi : l[i]? = some (.raw b o)) : w.heap[b]? = some o := (h.ok i _ hi).1
variable {J : List MO → World → Prop}
@[reducible] def iterPost (K : Nat → World → Prop) (Kx : World → Prop) (n : Nat) : Ending → World → Prop := fun e W' => (∃ v, e = .returned v) ∧ (K n W' ∨ Kx W')
@[reducible] def rndQ {S X : Type} (id : Nat) (J : List MO → S → World → Prop) (E : List MO → X → World → Prop) (T : List MO) (o : Lp S X) : FQ := fun e _ W =>
 match o with
 | .nx s => e = .normal ∧ J T s W
 | .bk s => e = .exit id ∧ J T s W
 | .rt x => e = .ret ∧ E T x W
end
end Go.Mr
namespace Go.Mr
open Go.RowKit Go.Pu Go.Shelf Go.Sort
section
variable {P : Program} {H0 H : GH} {w0 w : World} {l : List MO} {e n : Nat} {v : Value} {A : Type} {En : Enc A}
abbrev OC := { v : Value // v.oneCell' = true }
instance : Inhabited OC := ⟨⟨.int .i64 0, rfl⟩⟩
variable {f : Fm} {d : Option Tmp} {ty : TypeId} {pos : String} {aft : Array Edge} {gd : Option (Nat × Bool)} {x : Operand} {k : Nat} {z : Value}
theorem PtrOf.uniq {i : Int} {p q : Addr} (h1 : PtrOf k v i p) (h2 : PtrOf k v i q) : p = q := by
 obtain ⟨a, m, c, rfl, _, _, rfl⟩ := h1
 obtain ⟨a', m', c', hv, _, _, rfl⟩ := h2
 cases hv; rfl
end
end Go.Mr
namespace Go.Mr
open Go.RowKit Go.Pu
section
variable {P : Program} {f : Fm} {w : World} {d : Option Tmp} {ty : TypeId} {pos : String} {aft : Array Edge} {gd : Option (Nat × Bool)} {x y : Operand}
variable {k yk : IntKind} {a b : Int} {t t' : TypeId}
theorem wrk_eq (k : IntKind) (n : Int) : k.wrap n = wrk k.signed k.bits n := rfl
theorem E.subK (hx : ev f x = .int k a) (hy : ev f y = .int k b) : (execOp (ev f) ⟨d, .binOp .sub t x y t', ty, pos, aft, gd⟩).run P w = .ok (.value (.int k (wrk k.signed k.bits (a - b)))) w := by
 simp [execOp, eqGuard, binOp, hx, hy, Op.intArith, wrk_eq]
theorem E.and (hx : ev f x = .int k a) (hy : ev f y = .int k b) : (execOp (ev f) ⟨d, .binOp .and t x y t', ty, pos, aft, gd⟩).run P w = .ok (.value (.int k (andK k.signed k.bits a b))) w := by
 simp [execOp, eqGuard, binOp, hx, hy, Op.intBits, andK, wrk_eq]
theorem E.or (hx : ev f x = .int k a) (hy : ev f y = .int k b) : (execOp (ev f) ⟨d, .binOp .or t x y t', ty, pos, aft, gd⟩).run P w = .ok (.value (.int k (orK k.signed k.bits a b))) w := by
 simp [execOp, eqGuard, binOp, hx, hy, Op.intBits, orK, wrk_eq]
theorem E.andNot (hx : ev f x = .int k a) (hy : ev f y = .int k b) : (execOp (ev f) ⟨d, .binOp .andNot t x y t', ty, pos, aft, gd⟩).run P w = .ok (.value (.int k (anK k.signed k.bits a b))) w := by
 simp [execOp, eqGuard, binOp, hx, hy, Op.intBits, anK, wrk_eq]
theorem E.shl (hx : ev f x = .int k a) (hy : ev f y = .int yk b) (hb : ¬ b < 0) : (execOp (ev f) ⟨d, .binOp .shl t x y t', ty, pos, aft, gd⟩).run P w = .ok (.value (.int k (shlK k.signed k.bits a b))) w := by
 simp [execOp, eqGuard, binOp, hx, hy, Op.shift, shlK, wrk_eq, hb]
theorem E.shr (hx : ev f x = .int k a) (hy : ev f y = .int yk b) (hb : ¬ b < 0) : (execOp (ev f) ⟨d, .binOp .shr t x y t', ty, pos, aft, gd⟩).run P w = .ok (.value (.int k (shrK k.bits a b))) w := by
 simp [execOp, eqGuard, binOp, hx, hy, Op.shift, shrK, hb]
theorem E.nilCheck {p : Addr} (hx : ev f x = .pointer (some p)) : (execOp (ev f) ⟨d, .nilCheck x, ty, pos, aft, gd⟩).run P w = .ok (.value (.pointer (some p))) w := by simp [execOp, hx]
end
end Go.Mr
namespace Go.Mr
open Go.RowKit Go.Pu
@[reducible] def OP {α : Type} (R : Addr → α → Prop) (v : Value) (x : Option α) : Prop := match x with | none => v = .pointer none | some y => ∃ q, v = .pointer (some q) ∧ R q y
def SX (H0 : GH) (w0 : World) (Hr : GH) (l0 : List MO) (w : World) : Prop := ∃ H, St H0 w0 H w l0 ∧ Inc Hr H
section
variable {H0 Hr H : GH} {w0 w : World} {l0 l : List MO} {e k n : Nat} {v : Value}
theorem SX.sl (h : SX H0 w0 Hr l0 w) : Sl Hr w := let ⟨_, s, i⟩ := h; Sl.of_inc i s.sl
theorem SX.box_now (h : SX H0 w0 Hr l0 w) {i b t : Nat} {cs : List Value} (hi : l0[i]? = some (.box b t cs)) : WAt w ⟨b, 0, Option.none⟩ cs := let ⟨_, s, _⟩ := h; s.box_now hi
theorem SX.use {Q : Prop} (h : SX H0 w0 Hr l0 w) (f : ∀ H, St H0 w0 H w l0 → Q) : Q := let ⟨_, s, _⟩ := h; f _ s
theorem St.row_atA {α : Type} {G : GH} {En : Enc α} {cells : List Value} {xs : List α} (h : St H0 w0 H w l) {i : Nat} (hi : l[i]? = some (.row e k v n cells)) (he : Els G En k cells xs) (hk : 0 < k)
 {j : Int} {x : α} (hx : ix xs j = some x) : ∃ p c, PtrOf k v j p ∧ c.length = k ∧ WAt w p c ∧ En.rel G c x ∧ ∀ (H' : GH) (w' : World) (l' : List MO) (i' : Nat), St H0 w0 H' w' l' → l'[i']? = some (.row e k v n cells) → WAt w' p c := by
 obtain ⟨h0, h1, h2⟩ := ix_some hx
 obtain ⟨c, g1, g2, g3⟩ := he.get _ _ h2
 have key : ∀ (H' : GH) (w' : World) (l' : List MO) (i' : Nat), St H0 w0 H' w' l' → l'[i']? = some (.row e k v n cells) → ∃ p, PtrOf k v j p ∧ WAt w' p c := by
  intro H' w' l' i' h' hi'
  obtain ⟨⟨k1, k2⟩, _⟩ := h'.ok i' _ hi'
  have hl := he.length
  have hn : n = xs.length := by
   rw [k1] at hl
   exact Nat.eq_of_mul_eq_mul_right hk hl
  rcases k2 with ⟨rfl, h3⟩ | ⟨g, cap, cur, rfl, hg, hh, hle, _, hsz, htk⟩
  · omega
  · refine ⟨_, ⟨⟨g, 0, Option.none⟩, _, cap, rfl, h0, by omega, rfl⟩, fun m u hu => ?_⟩
    rw [addr_add_add, Addr.add_lit, Nat.zero_add, cell_of_row w' g _ _ _ _ hh]
    have := g3 m u hu
    rw [← htk, List.getElem?_take] at this
    split at this
    · simpa using this
    · cases this
 obtain ⟨p, hp, hw⟩ := key H w l i h hi
 exact ⟨p, c, hp, g1, hw, g2, fun H' w' l' i' h' hi' => by
  obtain ⟨q, hq, hw'⟩ := key H' w' l' i' h' hi'
  obtain rfl := PtrOf.uniq hq hp
  exact hw'⟩
end
section
variable {f : Fm}
end
section
variable {P : Program} {f : Fm} {w : World} {d : Option Tmp} {ty : TypeId} {pos : String} {aft : Array Edge} {gd : Option (Nat × Bool)} {x y : Operand} {t t' : TypeId}
end
end Go.Mr
namespace Go.Mr
open Go.RowKit Go.Pu
structure SP (B : World → Prop) (ps : List (List Nat × (World → Prop))) (ls : Array Bool) (w : World) : Prop where
 base : B w
 ph : ∀ p ∈ ps, (∀ h ∈ p.1, ls.getD h true = false) → p.2 w
theorem SP.nil {B : World → Prop} {ls : Array Bool} {w : World} (hB : B w) : SP B [] ls w := ⟨hB, nofun⟩
theorem SP.on {B R : World → Prop} {Hs : List Nat} {ps : List (List Nat × (World → Prop))} {ls : Array Bool} {w : World} (hR : R w) (h : SP B ps ls w) : SP B ((Hs, R) :: ps) ls w :=
 ⟨h.base, fun p hp hn => by
  rcases List.mem_cons.1 hp with rfl | hp
  · exact hR
  · exact h.ph p hp hn⟩
theorem SP.off {B R : World → Prop} {Hs : List Nat} {ps : List (List Nat × (World → Prop))} {ls : Array Bool} {w : World} (hH : (Hs.any fun h => ls.getD h true) = true) (h : SP B ps ls w) : SP B ((Hs, R) :: ps) ls w :=
 ⟨h.base, fun p hp hn => by
  rcases List.mem_cons.1 hp with rfl | hp
  · obtain ⟨k, hk, ht⟩ := List.any_eq_true.1 hH
    have := hn k hk
    rw [this] at ht; cases ht
  · exact h.ph p hp hn⟩
theorem SP.iff {B : World → Prop} {ps : List (List Nat × (World → Prop))} {i : Nat} (hi : (ps.all fun p => !p.1.contains i) = true) {ls : Array Bool} {w : World} : SP B ps (ls.setIfInBounds i true) w ↔ SP B ps ls w := by
 have key : ∀ p ∈ ps, ∀ h ∈ p.1, (ls.setIfInBounds i true).getD h true = ls.getD h true := fun p hp h hh => by
  refine getD_set_ne true fun e => ?_
  have := List.all_eq_true.1 hi p hp
  rw [e] at this
  simp [hh] at this
 exact ⟨fun k => ⟨k.base, fun p hp hn => k.ph p hp fun h hh => by rw [key p hp h hh]; exact hn h hh⟩, fun k => ⟨k.base, fun p hp hn => k.ph p hp fun h hh => by rw [← key p hp h hh]; exact hn h hh⟩⟩
section
variable {P : Program} {ops : Array Oper} {Q : Exit → Act → World → Prop} {md : Region.Mode}
def wpAnyI (P : Program) (md : Region.Mode) (ops : Array Oper) (Q : Exit → Act → World → Prop) (S : Array Bool → World → Prop) : Nat → Array Bool → Act → World → Prop
 | 0, ls, a, w => Region.ready md ops ls = [] ∧ Q .normal a w
 | n + 1, ls, a, w => (Region.ready md ops ls = [] → Q .normal a w) ∧
  ∀ i ∈ Region.ready md ops ls, wpOp P ops Q i (fun a w => S (ls.setIfInBounds i true) w ∧ wpAnyI P md ops Q S n (ls.setIfInBounds i true) a w) a w
theorem wpAnyI.mono {S S' : Array Bool → World → Prop} (hS : ∀ ls w, S ls w → S' ls w) : ∀ (n : Nat) (ls : Array Bool) (a : Act) (w : World), wpAnyI P md ops Q S n ls a w → wpAnyI P md ops Q S' n ls a w
 | 0, _, _, _, h => h
 | n + 1, _, _, _, h => ⟨h.1, fun i hi => wpOp_mono (fun _ _ k => ⟨hS _ _ k.1, wpAnyI.mono hS n _ _ _ k.2⟩) (h.2 i hi)⟩
theorem wpAnyI.held {S : Array Bool → World → Prop} : ∀ (n : Nat) (ls : Array Bool) (a : Act) (w : World), wpAnyI P md ops Q S n ls a w → wpAnyH P md ops Q (fun _ => True) n ls a w
 | 0, _, _, _, h => h
 | n + 1, _, _, _, h => ⟨h.1, fun i hi => wpOp_mono (fun _ _ k => ⟨trivial, wpAnyI.held n _ _ _ k.2⟩) (h.2 i hi)⟩
theorem wpAnyI.first {S : Array Bool → World → Prop} {i : Nat} {oi : Oper} {v : Value} (C : Nat → Prop) (hi : ops[i]? = some oi) (hsel : ∀ (j : Nat) (o : Oper) cs b, ops[j]? = some o → o.op ≠ .select cs b)
 (hQ : ∀ c a w, Q (.panic c) (a.put oi.dst v) w → Q (.panic c) a w) (hSi : ∀ ls w, S (ls.setIfInBounds i true) w ↔ S ls w)
 (hC : ∀ j, C j → ∃ oj, ops[j]? = some oj ∧ ∃ e ∈ oj.after, Region.binds md e = true ∧ (C e.on ∨ e.on = i)) : ∀ (n : Nat) (ls : Array Bool) (a : Act) (w : World),
  (∀ j oj, ops[j]? = some oj → j ≠ i → ls.getD j true = false → (∀ e ∈ oj.after, Region.binds md e = true → e.on ≠ i) → oi.apart ops oj = true) →
  i ∈ Region.ready md ops ls → (∀ j, C j → ls.getD j true = false) → YieldsIf P ops (fun w' => ∃ ls', (∀ j, C j → ls'.getD j true = false) ∧ S ls' w') oi v a → S ls w →
  wpAnyI P md ops Q S n (ls.setIfInBounds i true) (a.put oi.dst v) w → wpAnyI P md ops Q S (n + 1) ls a w := by
 intro n
 induction n with
 | zero =>
  intro ls a w _ hr hn hy hS H
  refine ⟨fun h => (by rw [h] at hr; cases hr), fun j hj => ?_⟩
  by_cases hji : j = i
  · subst hji; exact hy.wpOp hi ⟨ls, hn, hS⟩ ⟨(hSi ls w).2 hS, H⟩
  · have hm := ready_mono hj hji
    rw [H.1] at hm
    cases hm
 | succ n ih =>
  intro ls a w hfree hr hn hy hS H
  refine ⟨fun h => (by rw [h] at hr; cases hr), fun j hj => ?_⟩
  by_cases hji : j = i
  · subst hji; exact hy.wpOp hi ⟨ls, hn, hS⟩ ⟨(hSi ls w).2 hS, H⟩
  · have h1 := H.2 j (ready_mono hj hji)
    obtain ⟨hun, oj, hoj, hall⟩ := mem_ready.1 hj
    have hir := (mem_ready.1 hr).1
    have off : ∀ k, ls.getD k true = false → ls.getD k false = true → False := fun k h0 h1 => by
     rcases Nat.lt_or_ge k ls.size with h' | h'
     · simp [h'] at h0 h1; rw [h0] at h1; cases h1
     · simp [Array.getElem?_eq_none h'] at h1
    have hno : ∀ e ∈ oj.after, Region.binds md e = true → e.on ≠ i := fun e he hb heq => off i hir (heq ▸ hall e he hb)
    have hCj : ¬ C j := fun hc => by
     obtain ⟨oj', ho', e, he, hb, hd⟩ := hC j hc
     rw [hoj] at ho'; cases ho'
     rcases hd with hd | hd
     · exact off _ (hn _ hd) (hall e he hb)
     · exact hno e he hb hd
    have hn' : ∀ k, C k → (ls.setIfInBounds j true).getD k true = false := fun k hk => by
     rw [getD_set_ne true (fun (e : j = k) => hCj (by rw [e]; exact hk))]; exact hn k hk
    have h2 := wpOp_putIf hoj (hfree j oj hoj hji hun hno) (fun cs b => hsel i oi cs b hi) (fun cs b => hsel j oj cs b hoj) hQ hy h1
    refine wpOp_mono (fun a' w' h3 => ?_) h2
    have e := Array.setIfInBounds_comm (xs := ls) true true hji
    have hS' : S (ls.setIfInBounds j true) w' := (hSi _ _).1 (by rw [e]; exact h3.2.1)
    refine ⟨hS', ih (ls.setIfInBounds j true) a' w' (fun k ok hk hki hun' hno' => ?_) (ready_mono hr (Ne.symm hji)) hn' h3.1 hS' (by rw [e]; exact h3.2.2)⟩
    refine hfree k ok hk hki ?_ hno'
    by_cases hjk : j = k
    · subst hjk; exact hun
    · rw [getD_set_ne true hjk] at hun'; exact hun'
def certB (ops : Array Oper) (C : List Nat) (i : Nat) (ls : Array Bool) (ps : List (List Nat × (World → Prop))) : Bool :=
 (C.all fun j => !ls.getD j true && match ops[j]? with | some oj => oj.after.any fun e => Region.binds .any e && (C.contains e.on || e.on == i) | none => false) && ps.all fun p => !p.1.contains i
end
def FB {δ : List Nat} (P : Program) (N : Nat) (ops : Array Oper) (B : World → Prop) (M : Fm → World → Prop) (ps : List (List Nat × (World → Prop))) (n : Nat) (ls : Array Bool) (f : Fm) (w : World) : Prop :=
 ∀ a, Fr (δ := δ) N a f → wpAnyI P .any ops (lift (δ := δ) N fun e f w => e = .normal ∧ M f w) (SP B ps) n ls a w
def FC {δ : List Nat} (P : Program) (N : Nat) (ops : Array Oper) (B : World → Prop) (M : Fm → World → Prop) (ps : List (List Nat × (World → Prop))) (n : Nat) (ls : Array Bool) (i : Nat) (f : Fm) (w : World) : Prop :=
 ∀ a, Fr (δ := δ) N a f → wpOp P ops (lift (δ := δ) N fun e f w => e = .normal ∧ M f w) i (fun a w => SP B ps (ls.setIfInBounds i true) w ∧ wpAnyI P .any ops (lift (δ := δ) N fun e f w => e = .normal ∧ M f w) (SP B ps) n (ls.setIfInBounds i true) a w) a w
section
variable {δ : List Nat} {P : Program} {N : Nat} {f : Fm} {w w' : World} {ops : Array Oper} {B : World → Prop} {M : Fm → World → Prop} {ps : List (List Nat × (World → Prop))} {n : Nat} {ls l' : Array Bool} {H : GH}
theorem FW.drawB {Q : FQ} {id : Nat} {l : List Oper} (B : World → Prop) (M : Fm → World → Prop) (hm : P.follows .mixedOrders = true) (hs : Sl H w)
 (h : ∀ w1, Run w.heap.size H w H w1 → FB (δ := δ) P N l.toArray B M [] l.length (Array.replicate l.length false) f w1) (hQ : ∀ f w, M f w → Q .normal f w) : FW (ρ := none) (δ := δ) P N (.region id l.toArray true) Q f w := by
 intro n a ha
 refine wpIn_wide.2 ?_
 refine Code.wp_mono (Q := lift (δ := δ) N fun e f w => e = .normal ∧ M f w) (fun e a w ⟨f, hf, he, hM⟩ => he ▸ ⟨f, hf, hQ f w hM⟩) (wp_region_held (S := fun _ => True) hm (wpAnyI.held (S := SP B []) _ _ _ _ ?_))
 have := h _ (run_drew hs) a ha
 simpa using this
theorem FB.phase (Hs : List Nat) (R : World → Prop) (h : FB (δ := δ) P N ops B M ((Hs, R) :: ps) n ls f w) : FB (δ := δ) P N ops B M ps n ls f w :=
 fun a ha => wpAnyI.mono (fun _ _ k => ⟨k.base, fun p hp => k.ph p (by simp [hp])⟩) _ _ _ _ (h a ha)
theorem FB.take0 {S' : World → Prop} {i d : Nat} {o : Oper} {v : Value} (C : List Nat) (hi : ops[i]? = some o) (hs : Region.noSelect ops = true) (hf : Region.free .any ops ls i = true) (hr : (Region.ready .any ops ls).contains i = true)
 (hl : ls.setIfInBounds i true = l') (hc : certB ops C i ls ps = true) (hS : SP B ps ls w) (hd : o.dst = some d) (hlt : Nat.blt d N = true)
 (hy : ∀ a, Fr (δ := δ) N a f → YieldsIf P ops S' o v a) (hS' : ∀ ls' w', (∀ j ∈ C, ls'.getD j true = false) → SP B ps ls' w' → S' w')
 (h : FB (δ := δ) P N ops B M ps n l' (upd f d v) w) : FB (δ := δ) P N ops B M ps (n + 1) ls f w := by
 subst hl
 intro a ha
 unfold certB at hc
 rw [Bool.and_eq_true] at hc
 have hC := List.all_eq_true.1 hc.1
 refine wpAnyI.first (v := v) (fun j => j ∈ C) hi (Region.noSelect_spec hs) (fun c a w hq => ?_) (fun ls w => SP.iff hc.2) (fun j hj => ?_) n ls a w (Region.free_spec hi hf) (by simpa using hr) (fun j hj => ?_) ?_ hS ?_
 · obtain ⟨_, _, h0, _⟩ := hq; cases h0
 · have := hC j hj
   rw [Bool.and_eq_true] at this
   cases ho : ops[j]? with
   | none => rw [ho] at this; cases this.2
   | some oj =>
    rw [ho] at this
    obtain ⟨e, he, hb⟩ := Array.any_eq_true'.1 this.2
    rw [Bool.and_eq_true, Bool.or_eq_true] at hb
    exact ⟨oj, rfl, e, he, hb.1, hb.2.imp (fun h => by simpa using h) fun h => by simpa using h⟩
 · have := hC j hj
   rw [Bool.and_eq_true] at this
   simpa using this.1
 · exact (hy a ha).imp (fun ⟨h1, h2⟩ => ⟨h1, fun w' ⟨ls', k1, k2⟩ => h2 w' (hS' ls' w' k1 k2)⟩) id
 · rw [hd]; exact h _ (ha.put (nblt hlt) v)
theorem FB.take {i d : Nat} {o : Oper} {v : Value} (hi : ops[i]? = some o) (hs : Region.noSelect ops = true) (hf : Region.free .any ops ls i = true) (hr : (Region.ready .any ops ls).contains i = true)
 (hl : ls.setIfInBounds i true = l') (hc : certB ops [] i ls ps = true) (hS : SP B ps ls w) (hw : wF ops f o = true) (hd : o.dst = some d) (hlt : Nat.blt d N = true) (hrun : ∀ w', B w' → (execOp (ev f) o).run P w' = .ok (.value v) w')
 (h : FB (δ := δ) P N ops B M ps n l' (upd f d v) w) : FB (δ := δ) P N ops B M ps (n + 1) ls f w :=
 FB.take0 (S' := B) [] hi hs hf hr hl hc hS hd hlt (fun a ha => .inl ⟨by rw [ha.yielded]; exact hw, fun w' hw' => by rw [ha.eval]; exact hrun w' hw'⟩) (fun _ _ _ k => k.base) h
theorem FB.takeP {Hs : List Nat} {R : World → Prop} {i d : Nat} {o : Oper} {v : Value} (q : Nat) (C : List Nat) (hq : ps[q]? = some (Hs, R)) (hi : ops[i]? = some o) (hs : Region.noSelect ops = true) (hf : Region.free .any ops ls i = true) (hr : (Region.ready .any ops ls).contains i = true)
 (hl : ls.setIfInBounds i true = l') (hc : certB ops C i ls ps = true) (hH : Hs.all (C.contains ·) = true) (hS : SP B ps ls w) (hw : wF ops f o = true) (hd : o.dst = some d) (hlt : Nat.blt d N = true)
 (hrun : ∀ w', R w' → (execOp (ev f) o).run P w' = .ok (.value v) w')
 (h : FB (δ := δ) P N ops B M ps n l' (upd f d v) w) : FB (δ := δ) P N ops B M ps (n + 1) ls f w :=
 FB.take0 (S' := R) C hi hs hf hr hl hc hS hd hlt (fun a ha => .inl ⟨by rw [ha.yielded]; exact hw, fun w' hw' => by rw [ha.eval]; exact hrun w' hw'⟩)
  (fun ls' w' k1 k2 => k2.ph (Hs, R) (List.mem_of_getElem? hq) fun h hh => k1 h (by have := List.all_eq_true.1 hH h hh; simpa using this)) h
theorem FB.takeW {Hs : List Nat} {i d : Nat} {o : Oper} {v : Value} (C : List Nat) (hi : ops[i]? = some o) (hs : Region.noSelect ops = true) (hf : Region.free .any ops ls i = true) (hr : (Region.ready .any ops ls).contains i = true)
 (hl : ls.setIfInBounds i true = l') (hc : certB ops C i ls ((Hs, fun w' => w' = w) :: ps) = true) (hH : Hs.all (C.contains ·) = true) (hS : SP B ((Hs, fun w' => w' = w) :: ps) ls w) (hw : wF ops f o = true) (hd : o.dst = some d) (hlt : Nat.blt d N = true)
 (hrun : (execOp (ev f) o).run P w = .ok (.value v) w)
 (h : FB (δ := δ) P N ops B M ((Hs, fun w' => w' = w) :: ps) n l' (upd f d v) w) : FB (δ := δ) P N ops B M ((Hs, fun w' => w' = w) :: ps) (n + 1) ls f w :=
 FB.takeP 0 C rfl hi hs hf hr hl hc hH hS hw hd hlt (fun w' hw' => by rw [hw']; exact hrun) h
theorem FB.done (hr : Region.ready .any ops ls = []) (h : M f w) : FB (δ := δ) P N ops B M ps n ls f w := fun _ ha => by
 cases n with
 | zero => exact ⟨hr, ⟨f, ha, rfl, h⟩⟩
 | succ n => exact ⟨fun _ => ⟨f, ha, rfl, h⟩, fun i hi => by rw [hr] at hi; cases hi⟩
theorem FB.all {rs : List Nat} (hr : Region.ready .any ops ls = rs) (hne : rs ≠ []) (h : ∀ i ∈ rs, FC (δ := δ) P N ops B M ps n ls i f w) : FB (δ := δ) P N ops B M ps (n + 1) ls f w :=
 fun a ha => ⟨fun h0 => absurd (hr ▸ h0) hne, fun i hi => h i (hr ▸ hi) a ha⟩
theorem FB.all1 {i : Nat} (hr : Region.ready .any ops ls = [i]) (h : FC (δ := δ) P N ops B M ps n ls i f w) : FB (δ := δ) P N ops B M ps (n + 1) ls f w :=
 FB.all hr (by simp) fun j hj => by simp at hj; subst hj; exact h
theorem FB.all2 {i j : Nat} (hr : Region.ready .any ops ls = [i, j]) (h1 : FC (δ := δ) P N ops B M ps n ls i f w) (h2 : FC (δ := δ) P N ops B M ps n ls j f w) : FB (δ := δ) P N ops B M ps (n + 1) ls f w :=
 FB.all hr (by simp) fun m hm => by
  simp at hm; rcases hm with rfl | rfl
  · exact h1
  · exact h2
theorem FB.all3 {i j k : Nat} (hr : Region.ready .any ops ls = [i, j, k]) (h1 : FC (δ := δ) P N ops B M ps n ls i f w) (h2 : FC (δ := δ) P N ops B M ps n ls j f w) (h3 : FC (δ := δ) P N ops B M ps n ls k f w) : FB (δ := δ) P N ops B M ps (n + 1) ls f w :=
 FB.all hr (by simp) fun m hm => by
  simp at hm; rcases hm with rfl | rfl | rfl
  · exact h1
  · exact h2
  · exact h3
def bs (n m : Nat) : Array Bool := ((List.range n).map fun i => m.testBit i).toArray
theorem FB.t {i d : Nat} {o : Oper} {v : Value} (l' : Array Bool) (hi : ops[i]? = some o) (hS : SP B ps ls w) (hw : wF ops f o = true) (hrun : ∀ w', B w' → (execOp (ev f) o).run P w' = .ok (.value v) w')
 (h : FB (δ := δ) P N ops B M ps n l' (upd f d v) w) (hd : o.dst = some d := by rfl) (hlt : Nat.blt d N = true := by rfl) (hs : Region.noSelect ops = true := by kernel_rfl) (hf : Region.free .any ops ls i = true := by kernel_rfl)
 (hr : (Region.ready .any ops ls).contains i = true := by kernel_rfl) (hl : ls.setIfInBounds i true = l' := by kernel_rfl) (hc : certB ops [] i ls ps = true := by kernel_rfl) : FB (δ := δ) P N ops B M ps (n + 1) ls f w :=
 FB.take hi hs hf hr hl hc hS hw hd hlt hrun h
theorem FB.p {Hs : List Nat} {R : World → Prop} {i d : Nat} {o : Oper} {v : Value} (l' : Array Bool) (q : Nat) (C : List Nat) (hi : ops[i]? = some o) (hS : SP B ps ls w) (hw : wF ops f o = true) (hq : ps[q]? = some (Hs, R)) (hrun : ∀ w', R w' → (execOp (ev f) o).run P w' = .ok (.value v) w')
 (h : FB (δ := δ) P N ops B M ps n l' (upd f d v) w) (hd : o.dst = some d := by rfl) (hlt : Nat.blt d N = true := by rfl) (hs : Region.noSelect ops = true := by kernel_rfl) (hf : Region.free .any ops ls i = true := by kernel_rfl)
 (hr : (Region.ready .any ops ls).contains i = true := by kernel_rfl) (hl : ls.setIfInBounds i true = l' := by kernel_rfl) (hc : certB ops C i ls ps = true := by kernel_rfl) (hH : Hs.all (C.contains ·) = true := by kernel_rfl) : FB (δ := δ) P N ops B M ps (n + 1) ls f w :=
 FB.takeP q C hq hi hs hf hr hl hc hH hS hw hd hlt hrun h
theorem FB.u {Hs : List Nat} {i d : Nat} {o : Oper} {v : Value} (l' : Array Bool) (C : List Nat) (hi : ops[i]? = some o) (hS : SP B ((Hs, fun w' => w' = w) :: ps) ls w) (hw : wF ops f o = true) (hrun : (execOp (ev f) o).run P w = .ok (.value v) w)
 (h : FB (δ := δ) P N ops B M ((Hs, fun w' => w' = w) :: ps) n l' (upd f d v) w) (hd : o.dst = some d := by rfl) (hlt : Nat.blt d N = true := by rfl) (hs : Region.noSelect ops = true := by kernel_rfl) (hf : Region.free .any ops ls i = true := by kernel_rfl)
 (hr : (Region.ready .any ops ls).contains i = true := by kernel_rfl) (hl : ls.setIfInBounds i true = l' := by kernel_rfl) (hc : certB ops C i ls ((Hs, fun w' => w' = w) :: ps) = true := by kernel_rfl) (hH : Hs.all (C.contains ·) = true := by kernel_rfl) : FB (δ := δ) P N ops B M ((Hs, fun w' => w' = w) :: ps) (n + 1) ls f w :=
 FB.takeW C hi hs hf hr hl hc hH hS hw hd hlt hrun h
theorem SP.o {B R : World → Prop} {Hs : List Nat} {ps : List (List Nat × (World → Prop))} {ls : Array Bool} {w : World} (h : SP B ps ls w) (hH : (Hs.any fun h => ls.getD h true) = true := by kernel_rfl) : SP B ((Hs, R) :: ps) ls w := SP.off hH h
theorem FC.val {i d : Nat} {o : Oper} {v : Value} (hi : ops[i]? = some o) (hl : ls.setIfInBounds i true = l') (hw : wF ops f o = true) (hd : o.dst = some d) (hlt : Nat.blt d N = true)
 (hr : (execOp (ev f) o).run P w = .ok (.value v) w') (h : SP B ps l' w' ∧ FB (δ := δ) P N ops B M ps n l' (upd f d v) w') : FC (δ := δ) P N ops B M ps n ls i f w := by
 subst hl
 intro a ha
 unfold wpOp
 simp only [hi]
 rw [ha.yielded, if_pos (show Region.wanted o (yF ops f) = true from hw)]
 refine .inl ?_
 unfold Oper.wp
 rw [ha.eval, hr, Oper.upon_value, hd]
 exact ⟨h.1, h.2 _ (ha.put (nblt hlt) v)⟩
theorem FC.act {i : Nat} {o : Oper} (hi : ops[i]? = some o) (hl : ls.setIfInBounds i true = l') (hw : wF ops f o = true) (hd : o.dst = none)
 (hr : (execOp (ev f) o).run P w = .ok .skip w') (h : SP B ps l' w' ∧ FB (δ := δ) P N ops B M ps n l' f w') : FC (δ := δ) P N ops B M ps n ls i f w := by
 subst hl
 intro a ha
 unfold wpOp
 simp only [hi]
 rw [ha.yielded, if_pos (show Region.wanted o (yF ops f) = true from hw)]
 refine .inl ?_
 unfold Oper.wp
 rw [ha.eval, hr, Oper.upon_skip, hd]
 exact ⟨h.1, h.2 _ ha⟩
theorem FC.call {i d fid : Nat} {o : Oper} {args : Array Value} {R : Ending → World → Prop} (hi : ops[i]? = some o) (hl : ls.setIfInBounds i true = l') (hw : wF ops f o = true) (hd : o.dst = some d) (hlt : Nat.blt d N = true)
 (hr : (execOp (ev f) o).run P w = .ok (.enter fid args) w) (hc : Calls P fid args w R)
 (h : ∀ e w', R e w' → ∃ v, e = .returned v ∧ SP B ps l' w' ∧ FB (δ := δ) P N ops B M ps n l' (upd f d v) w') : FC (δ := δ) P N ops B M ps n ls i f w := by
 subst hl
 intro a ha
 unfold wpOp
 simp only [hi]
 rw [ha.yielded, if_pos (show Region.wanted o (yF ops f) = true from hw)]
 refine .inl ?_
 unfold Oper.wp
 rw [ha.eval, hr, Oper.upon_enter, hd]
 refine hc.mono fun e w' r => ?_
 obtain ⟨v, rfl, hS, hv⟩ := h e w' r
 exact ⟨hS, hv _ (ha.put (nblt hlt) v)⟩
end
section
variable {P : Program} {f : Fm} {d : Option Tmp} {ty : TypeId} {pos : String} {aft : Array Edge} {gd : Option (Nat × Bool)} {x : Operand} {H0 H H' : GH} {w0 w w' : World} {l : List MO} {e k n : Nat} {z v : Value}
end
section
variable {ρ : Option Nat} {δ : List Nat} {P : Program} {N : Nat} {Q : FQ} {f : Fm} {w : World} {ops : Array Oper} {o : Oper} {rest : List Oper}
theorem FL.v {d : Nat} {v : Value} {w' : World} (hr : (execOp (ev f) o).run P w = .ok (.value v) w') (h : FL (ρ := ρ) (δ := δ) P N ops Q rest (upd f d v) w')
 (hw : wF ops f o = true := by rfl) (hd : o.dst = some d := by rfl) (hlt : Nat.blt d N = true := by rfl) : FL (ρ := ρ) (δ := δ) P N ops Q (o :: rest) f w := FL.val hw hd hlt hr h
end
end Go.Mr
namespace Go.Mr
open Go.RowKit Go.Pu
def MapOf {K V : Type} (ek : K → Value) (en : V → Value) (o : Obj) (m : List (K × V)) : Prop :=
 ∃ es clock, o = .map es clock ∧ es.toList.map (fun e => (e.key, e.val)) = m.map fun p => (ek p.1, en p.2)
structure KeyNow (P : Program) (kt : TypeId) {K : Type} [BEq K] (ek : K → Value) : Prop where
 kd : ∃ kd, (∀ w, (underlying kt).run P w = .ok kd w) ∧ ∀ a b, Instr.sameNow kd (ek a) (ek b) = some (a == b)
 eq : ∀ a b : K, (a == b) = true → a = b
 bits : ∀ a, Instr.sameBits 10000 (ek a) (ek a) = true
 chk : ∀ e a w, (Instr.checkKey e 10000 kt (ek a)).run P w = .ok () w
section
variable {H0 H : GH} {w0 w : World} {l : List MO} {P : Program} {K V : Type} {ek : K → Value} {en : V → Value} {kt et t : TypeId} {o : Obj} {m : List (K × V)} {i b : Nat}
def mfind [BEq K] : List (K × V) → K → Option (Nat × V)
 | [], _ => none
 | p :: m, k => bif k == p.1 then some (0, p.2) else (mfind m k).map fun z => (z.1 + 1, z.2)
theorem mget_find [BEq K] : ∀ (m : List (K × V)) (k : K), mget m k = (mfind m k).map (·.2)
 | [], _ => rfl
 | p :: m, k => by
  simp only [mget, mfind]
  cases k == p.1 with
  | true => rfl
  | false => simp only [cond_false]; rw [mget_find m k]; cases mfind m k <;> rfl
theorem mput_none [BEq K] : ∀ {m : List (K × V)} {k : K} (v : V), mfind m k = none → mput m k v = m ++ [(k, v)]
 | [], _, _, _ => rfl
 | p :: m, k, v, h => by
  simp only [mfind, mput] at h ⊢
  cases hk : k == p.1 with
  | true => rw [hk] at h; cases h
  | false =>
   rw [hk] at h
   simp only [cond_false, List.cons_append] at h ⊢
   rw [mput_none v (by cases hf : mfind m k with
    | none => rfl
    | some z => rw [hf] at h; cases h)]
theorem mput_some [BEq K] : ∀ {m : List (K × V)} {k : K} {j : Nat} {u : V} (v : V), mfind m k = some (j, u) → mput m k v = m.set j (k, v) ∧ j < m.length ∧ ∃ p, m[j]? = some p ∧ (k == p.1) = true
 | [], _, _, _, _, h => by cases h
 | p :: m, k, j, u, v, h => by
  simp only [mfind, mput] at h ⊢
  cases hk : k == p.1 with
  | true => rw [hk] at h; cases h; exact ⟨rfl, Nat.zero_lt_succ _, p, rfl, hk⟩
  | false =>
   rw [hk] at h
   simp only [cond_false] at h ⊢
   cases hf : mfind m k with
   | none => rw [hf] at h; cases h
   | some z =>
    rw [hf] at h; cases h
    obtain ⟨h1, h2, q, h3, h4⟩ := mput_some v (m := m) (k := k) (j := z.1) (u := z.2) hf
    exact ⟨by rw [h1]; rfl, by simpa using h2, q, by simpa using h3, h4⟩
theorem findNow_eq [BEq K] {kd : TypeDesc} (hk : ∀ a b, Instr.sameNow kd (ek a) (ek b) = some (a == b)) (k : K) : ∀ (es : List MapEntry) (m : List (K × V)) (i : Nat), es.map (fun e => (e.key, e.val)) = m.map (fun p => (ek p.1, en p.2)) →
 Instr.findNow kd (ek k) es i = some ((mfind m k).map fun z => (i + z.1, en z.2))
 | [], [], _, _ => rfl
 | [], _ :: _, _, h => by cases h
 | _ :: _, [], _, h => by cases h
 | e :: es, p :: m, i, h => by
  simp only [List.map_cons, List.cons.injEq, Prod.mk.injEq] at h
  obtain ⟨⟨h1, h2⟩, h3⟩ := h
  have := findNow_eq hk k es m (i + 1) h3
  simp only [Instr.findNow, h1, hk, mfind]
  cases k == p.1 with
  | true => simp [h2]
  | false =>
   simp only [this, cond_false]
   cases mfind m k with
   | none => rfl
   | some z => simp; omega
theorem St.makeMap (S : St H0 w0 H w l) (t : TypeId) (ek : K → Value) (en : V → Value) :
 ∃ b o w1, (Instr.makeMap t Option.none).run P w = .ok (.map (some b)) w1 ∧ St H0 w0 H w1 (.raw b o :: l) ∧ MapOf ek en o [] :=
 ⟨w.heap.size, .map #[] 0, w.alloc (.map #[] 0), rfl, S.push (.raw w.heap.size (.map #[] 0)) _ ⟨heap_alloc_new w _, S.size⟩ (fun b hb => by simpa [MO.blk] using hb.symm), _, _, rfl, rfl⟩
theorem St.mapGet [BEq K] (S : St H0 w0 H w l) (hi : l[i]? = some (.raw b o)) (hm : MapOf ek en o m) (ht : ∀ w, (underlying t).run P w = .ok (.map kt et) w) (kn : KeyNow P kt ek) {z : V} (hz : ∀ w, (zeroValue et).run P w = .ok (en z) w) (k : K) :
 (Instr.lookup t (.map (some b)) (ek k) false).run P w = .ok (en ((mget m k).getD z)) w := by
 obtain ⟨es, c, rfl, he⟩ := hm
 have hb := S.rawAt hi
 obtain ⟨kd, h1, h2⟩ := kn.kd
 have hf := findNow_eq h2 k es.toList m 0 he
 rw [mget_find]
 cases hq : mfind m k with
 | none => rw [hq] at hf; simp [Instr.lookup, ht, getObj, Sem.run, hb, kn.chk, Instr.findKey, h1, hf, hz]
 | some z => rw [hq] at hf; simp [Instr.lookup, ht, getObj, Sem.run, hb, kn.chk, Instr.findKey, h1, hf]
theorem St.mapGetOk [BEq K] (S : St H0 w0 H w l) (hi : l[i]? = some (.raw b o)) (hm : MapOf ek en o m) (ht : ∀ w, (underlying t).run P w = .ok (.map kt et) w) (kn : KeyNow P kt ek) {z : V} (hz : ∀ w, (zeroValue et).run P w = .ok (en z) w) (k : K) :
 (Instr.lookup t (.map (some b)) (ek k) true).run P w = .ok (.tuple #[en ((mget m k).getD z), .bool (mget m k).isSome]) w := by
 obtain ⟨es, c, rfl, he⟩ := hm
 have hb := S.rawAt hi
 obtain ⟨kd, h1, h2⟩ := kn.kd
 have hf := findNow_eq h2 k es.toList m 0 he
 rw [mget_find]
 cases hq : mfind m k with
 | none => rw [hq] at hf; simp [Instr.lookup, ht, getObj, Sem.run, hb, kn.chk, Instr.findKey, h1, hf, hz]
 | some z => rw [hq] at hf; simp [Instr.lookup, ht, getObj, Sem.run, hb, kn.chk, Instr.findKey, h1, hf]
theorem St.mapPut [BEq K] (S : St H0 w0 H w l) (hi : l[i]? = some (.raw b o)) (hm : MapOf ek en o m) (ht : ∀ w, (underlying t).run P w = .ok (.map kt et) w) (kn : KeyNow P kt ek) (k : K) (v : V) :
 ∃ o1 w1, (Instr.mapUpdate t (.map (some b)) (ek k) (en v)).run P w = .ok () w1 ∧ St H0 w0 H w1 (l.set i (.raw b o1)) ∧ MapOf ek en o1 (mput m k v) := by
 obtain ⟨es, c, rfl, he⟩ := hm
 have hb := S.rawAt hi
 obtain ⟨kd, h1, h2⟩ := kn.kd
 have hf := findNow_eq h2 k es.toList m 0 he
 cases hq : mfind m k with
 | none =>
  rw [hq] at hf
  refine ⟨.map (es.push { key := ek k, val := en v, born := c }) (c + 1), _, ?_, S.rawPut _ hi, _, _, rfl, ?_⟩
  · simp [Instr.mapUpdate, ht, getObj, setObj, Sem.run, hb, kn.chk, Instr.findKey, h1, hf, World.putObj]
  · rw [mput_none v hq]; simp [he]
 | some z =>
  obtain ⟨j, u⟩ := z
  rw [hq] at hf
  obtain ⟨p1, p2, p, p3, p4⟩ := mput_some v hq
  have hlen : es.toList.length = m.length := by have := congrArg List.length he; simpa using this
  have hj : j < es.size := by simp at hlen; omega
  have hkey : es[j].key = ek k := by
   have := congrArg (fun l => l[j]?) he
   simp only [List.getElem?_map, p3, Option.map_some, Array.getElem?_toList, Array.getElem?_eq_getElem hj, Option.some.injEq, Prod.mk.injEq] at this
   rw [this.1, kn.eq _ _ p4]
  refine ⟨.map (es.modify j fun e => { e with key := ek k, val := en v }) c, _, ?_, S.rawPut _ hi, _, _, rfl, ?_⟩
  · simp [Instr.mapUpdate, ht, getObj, setObj, Sem.run, hb, kn.chk, Instr.findKey, h1, hf, Instr.keyThatStays, hkey, kn.bits, World.putObj, hj]
  · rw [p1]
    apply List.ext_getElem?
    intro n
    have hn := congrArg (fun l => l[n]?) he
    simp only [List.getElem?_map, Array.getElem?_toList] at hn
    simp only [List.getElem?_map, Array.getElem?_toList, Array.getElem?_modify, List.getElem?_set]
    by_cases hjn : j = n
    · subst hjn
      rw [if_pos rfl, if_pos rfl, if_pos p2, Array.getElem?_eq_getElem hj]; rfl
    · rw [if_neg hjn, if_neg hjn]; exact hn
theorem E.makeMap {f : Fm} {d : Option Tmp} {ty : TypeId} {pos : String} {aft : Array Edge} {gd : Option (Nat × Bool)} {v : Value} {w' : World} (h : (Instr.makeMap t Option.none).run P w = .ok v w') :
 (execOp (ev f) ⟨d, .makeMap t Option.none, ty, pos, aft, gd⟩).run P w = .ok (.value v) w' := by
 simp [execOp, h]
theorem E.lookup {f : Fm} {d : Option Tmp} {ty : TypeId} {pos : String} {aft : Array Edge} {gd : Option (Nat × Bool)} {x y : Operand} {u z v : Value} {ok : Bool} (hx : ev f x = u) (hy : ev f y = z) (h : (Instr.lookup t u z ok).run P w = .ok v w) :
 (execOp (ev f) ⟨d, .lookup t x y ok, ty, pos, aft, gd⟩).run P w = .ok (.value v) w := by
 subst hx hy; simp [execOp, h]
theorem E.mapUpdate {f : Fm} {ty : TypeId} {pos : String} {aft : Array Edge} {gd : Option (Nat × Bool)} {x y q : Operand} {u z v : Value} {w' : World} (hx : ev f x = u) (hy : ev f y = z) (hq : ev f q = v) (h : (Instr.mapUpdate t u z v).run P w = .ok () w') :
 (execOp (ev f) ⟨none, .mapUpdate t x y q, ty, pos, aft, gd⟩).run P w = .ok .skip w' := by
 subst hx hy hq; simp [execOp, h]
end
end Go.Mr
namespace Go.Mr
open Go.RowKit Go.Pu
section
variable {H0 H G G' : GH} {w0 w : World} {l : List MO} {P : Program} {t e n : Nat} {v u : Value} {α : Type} {En : Enc α} {cells c0 : List Value} {xs ys : List α} {j : Int} {x : α} {i : Nat}
structure Pend (G : GH) (En : Enc α) (cells : List Value) (xs : List α) (j : Int) (u : Value) : Prop where
 pd : ∃ c0, Els G En 1 c0 xs ∧ 0 ≤ j ∧ j < xs.length ∧ cells = c0.take (j.toNat * 1) ++ [u] ++ c0.drop (j.toNat * 1 + 1)
end
end Go.Mr
namespace Go.Mr
open Go.RowKit Go.Pu
variable {A : Type} {En : Enc A} {H : GH}
theorem nd_perm {c c' : List Value} (h : c'.Perm c) (hn : (bl c).Nodup) : (bl c').Nodup := by unfold bl at *; exact (h.filterMap _).nodup_iff.2 hn
end Go.Mr
namespace Go.Mr
open Go.RowKit Go.Pu
def iC (xs : List Int) : List Value := xs.map (Value.int .i64)
def iP (xs : List Int) : Array (Nat × Value) := ((xs.zipIdx 0).map fun p => (p.2, Value.int .i64 p.1)).toArray
theorem els_ints (G : GH) (xs : List Int) : Els G eI 1 (iC xs) xs := by
 have key : ∀ ys : List Int, Els G eI 1 (iC ys.reverse) ys.reverse := by
  intro ys
  induction ys with
  | nil => exact .nil
  | cons x ys ih =>
   have := Els.snoc (c := [Value.int .i64 x]) (x := x) ih rfl (show eI.rel G [Value.int .i64 x] x from rfl)
   unfold iC at this ⊢
   rw [List.reverse_cons, List.map_append]
   exact this
 have := key xs.reverse
 rwa [List.reverse_reverse] at this
theorem flat_ints (xs : List Int) : ((xs.map (Value.int .i64)).map (·.cells.toList)).flatten = iC xs := by
 unfold iC
 induction xs with
 | nil => rfl
 | cons x xs ih => rw [List.map_cons, List.map_cons, List.flatten_cons, ih]; rfl
theorem St.ints {P : Program} {H0 H : GH} {w0 w : World} {l : List MO} {t e : Nat} {z : Value} (h : St H0 w0 H w l) (te : TE P t e 1 z) (G : GH) (n : Nat) (xs : List Int) (hn : xs.length = n := by rfl) (hsm : Nat.ble n 1000 = true := by rfl) :
 ∃ v w1, (Instr.buildSlice t n (iP xs)).run P w = .ok v w1 ∧ St H0 w0 H w1 (.row e 1 v n (iC xs) :: l) ∧ Els G eI 1 (iC xs) xs := by
 subst hn
 have hl : (xs.map (Value.int .i64)).length = xs.length := List.length_map _
 obtain ⟨v, w1, h1, h2⟩ := h.buildSlice (P := P) te (xs.map (Value.int .i64)) (parts := iP xs) (cells := iC xs) (by
  unfold iP
  show List.map _ _ = _
  rw [List.zipIdx_map, List.map_map]; rfl) (fun v hv => by obtain ⟨x, _, rfl⟩ := List.mem_map.1 hv; rfl) (flat_ints xs) (fun c hc => by unfold iC at hc; obtain ⟨x, _, rfl⟩ := List.mem_map.1 hc; rfl) (by have := Nat.le_of_ble_eq_true hsm; rw [hl]; omega)
 rw [hl] at h1 h2
 exact ⟨v, w1, h1, h2, els_ints G xs⟩
section
variable {δ : List Nat} {P : Program} {N : Nat} {f : Fm} {w w' : World} {ops : Array Oper} {B : World → Prop} {M : Fm → World → Prop} {ps : List (List Nat × (World → Prop))} {n : Nat} {ls l' : Array Bool}
end
end Go.Mr
namespace Go.Mr
open Go.RowKit Go.Pu
def TabH (P : Program) (name : String) (k : IntKind) (zs : List Int) (H : GH) : Prop := ∃ g e fr, P.globalNamed name = some g ∧ H g = some (.cells (zs.map fun z => Value.int k z).toArray e fr)
@[reducible] def TabI (P : Program) (H : GH) : Prop := TabH P "internal/strconv.uint64pow10" .u64 Lib.pow10Tab H
section
variable {P : Program} {f : Fm} {w : World} {d : Option Tmp} {ty : TypeId} {pos : String} {aft : Array Edge} {gd : Option (Nat × Bool)} {x y : Operand} {t t' : TypeId}
end
end Go.Mr
namespace Go.Pu
inductive Fo where
 | nil : Fo
 | node (op : Int) (a b : Fo) (text : ByteArray) : Fo
@[ext] structure FoN where
 op : Int
 a : Fo
 b : Fo
 text : ByteArray
end Go.Pu
namespace Go.Mr
open Go.RowKit Go.Pu
@[reducible] def NilT (v : Value) (b : Bool) : Prop := v = .pointer none ∧ b = true ∨ ∃ q, v = .pointer (some q) ∧ b = false
section
variable {α : Type} {H H' : GH} {E : Enc α} {v : Value} {x : Option α}
end
section
variable {P : Program} {f : Fm} {w : World} {d : Option Tmp} {ty : TypeId} {pos : String} {aft : Array Edge} {gd : Option (Nat × Bool)} {x y : Operand} {t t' : TypeId}
end
end Go.Mr
namespace Go.Mr
open Go.RowKit Go.Pu
def MAt {K V : Type} (H : GH) (ek : K → Value) (en : V → Value) (v : Value) (m : List (K × V)) : Prop := ∃ b o, v = .map (some b) ∧ H b = some o ∧ MapOf ek en o m
section
variable {H0 H H' : GH} {w0 w : World} {l : List MO} {P : Program} {K V : Type} {ek : K → Value} {en : V → Value} {kt et t : TypeId} {o : Obj} {m : List (K × V)} {i b : Nat} {v : Value}
theorem chk_intk {k : IntKind} (h : ∀ w, (underlying kt).run P w = .ok (.int k) w) (n : Nat) (e : Bool) (a : Int) (w : World) : (Instr.checkKey e (n + 1) kt (.int k a)).run P w = .ok () w := by
 simp [Instr.checkKey, h]
theorem KeyNow.intk {k : IntKind} (h : ∀ w, (underlying kt).run P w = .ok (.int k) w) : KeyNow P kt (Value.int k) := by
 refine ⟨⟨_, h, fun a b => ?_⟩, fun a b h => by simpa using h, fun a => ?_, fun e a w => chk_intk h 9999 e a w⟩
 · simp [Instr.sameNow]
 · simp [Instr.sameBits]
theorem MAt.mono (h : MAt H ek en v m) (hi : Inc H H') : MAt H' ek en v m := by obtain ⟨b, o, h1, h2, h3⟩ := h; exact ⟨b, o, h1, hi _ _ h2, h3⟩
theorem St.sealMap (S : St H0 w0 H w l) {l' : List MO} (hi : l[i]? = some (.raw b o)) (hm : MapOf ek en o m) (hl : l.eraseIdx i = l') :
 ∃ H', St H0 w0 H' w l' ∧ Inc H H' ∧ MAt H' ek en (.map (some b)) m := by
 subst hl
 have hb := S.rawAt hi
 obtain ⟨H', h1, h2, h3⟩ := S.sealedS hi (fun b' ob e1 e2 => by
  obtain ⟨es, c, rfl, _⟩ := hm
  simp only [MO.blk, Option.some.injEq] at e1; subst e1
  rw [hb] at e2; cases e2; rfl)
 exact ⟨H', h1, h2, b, o, rfl, h3 b o rfl hb, hm⟩
theorem MAt.get [BEq K] (h : MAt H ek en v m) (hs : Sl H w) (ht : ∀ w, (underlying t).run P w = .ok (.map kt et) w) (kn : KeyNow P kt ek) {z : V} (hz : ∀ w, (zeroValue et).run P w = .ok (en z) w) (k : K) :
 (Instr.lookup t v (ek k) false).run P w = .ok (en ((mget m k).getD z)) w := by
 obtain ⟨b, o, rfl, hb0, es, c, rfl, he⟩ := h
 have hb := hs _ _ hb0
 obtain ⟨kd, h1, h2⟩ := kn.kd
 have hf := findNow_eq h2 k es.toList m 0 he
 rw [mget_find]
 cases hq : mfind m k with
 | none => rw [hq] at hf; simp [Instr.lookup, ht, getObj, Sem.run, hb, kn.chk, Instr.findKey, h1, hf, hz]
 | some z => rw [hq] at hf; simp [Instr.lookup, ht, getObj, Sem.run, hb, kn.chk, Instr.findKey, h1, hf]
theorem MAt.getOk [BEq K] (h : MAt H ek en v m) (hs : Sl H w) (ht : ∀ w, (underlying t).run P w = .ok (.map kt et) w) (kn : KeyNow P kt ek) {z : V} (hz : ∀ w, (zeroValue et).run P w = .ok (en z) w) (k : K) :
 (Instr.lookup t v (ek k) true).run P w = .ok (.tuple #[en ((mget m k).getD z), .bool (mget m k).isSome]) w := by
 obtain ⟨b, o, rfl, hb0, es, c, rfl, he⟩ := h
 have hb := hs _ _ hb0
 obtain ⟨kd, h1, h2⟩ := kn.kd
 have hf := findNow_eq h2 k es.toList m 0 he
 rw [mget_find]
 cases hq : mfind m k with
 | none => rw [hq] at hf; simp [Instr.lookup, ht, getObj, Sem.run, hb, kn.chk, Instr.findKey, h1, hf, hz]
 | some z => rw [hq] at hf; simp [Instr.lookup, ht, getObj, Sem.run, hb, kn.chk, Instr.findKey, h1, hf]
theorem E.insert {f : Fm} {ty : TypeId} {pos : String} {aft : Array Edge} {gd : Option (Nat × Bool)} {x y q : Operand} {u z v : Value} {w' : World} (hx : ev f x = u) (hy : ev f y = z) (hq : ev f q = v) (h : (Instr.mapUpdate t u z v).run P w = .ok () w') :
 (execOp (ev f) ⟨none, .insert t x y q, ty, pos, aft, gd⟩).run P w = .ok .skip w' := by
 subst hx hy hq; simp [execOp, h]
end
end Go.Mr
namespace Go.Mr
open Go.RowKit Go.Pu
section
variable {P : Program} {f : Fm} {w w' : World} {d : Option Tmp} {ty : TypeId} {pos : String} {aft : Array Edge} {gd : Option (Nat × Bool)} {x y : Operand} {v u u0 : Value}
variable {H0 H H' : GH} {w0 : World} {l : List MO} {t e k n : Nat} {z : Value} {A : Type} {En : Enc A} {o : MO} {cells pre : List Value}
def View (k : Nat) (v u : Value) (cells pre : List Value) (o : MO) : Prop :=
 ∃ m, pre.length = m * k ∧ (∃ r, cells = pre ++ r) ∧
  ((m = 0 ∧ Ln u 0 ∧ o = .lb 0) ∨ (∃ g cap, u = .slice (some ⟨g, 0, Option.none⟩) m cap ∧
   ((o = .lb 0 ∧ ∃ n c, v = .slice (some ⟨g, 0, Option.none⟩) n c) ∨ ∃ arr e, o = .raw g (.cells arr e (0, 0)) ∧ arr.toList.take (m * k) = pre)))
structure VL (u : Value) (n : Nat) : Prop where
 ln : Ln u n
 le : n ≤ maxLen
theorem St.lb0 (h : St H0 w0 H w l) : St H0 w0 H w (.lb 0 :: l) := by
 refine ⟨h.run, fun i o hi => ?_, fun i o b hi hb => ?_, fun i j oi oj b hi hj h1 h2 => ?_⟩
 · cases i with
   | zero => simp at hi; subst hi; exact Nat.zero_le _
   | succ i => exact h.ok i o (by simpa using hi)
 · cases i with
   | zero => simp at hi; subst hi; cases hb
   | succ i => exact h.out i o b (by simpa using hi) hb
 · cases i with
   | zero => simp at hi; subst hi; cases h1
   | succ i => cases j with
    | zero => simp at hj; subst hj; cases h2
    | succ j => have := h.dis i j oi oj b (by simpa using hi) (by simpa using hj) h1 h2; omega
theorem St.claim (h : St H0 w0 H w l) {q m g : Nat} {ob : Obj} (hq : l[q]? = some (.lb m)) (hg : w.heap[g]? = some ob) (hB : w0.heap.size ≤ g) (hH : H g = Option.none) (hf : ∀ (j : Nat) oj, l[j]? = some oj → oj.blk ≠ some g) :
 St H0 w0 H w (l.set q (.raw g ob)) := by
 have key : ∀ (j : Nat) oj, (l.set q (.raw g ob))[j]? = some oj → (j = q ∧ oj = .raw g ob) ∨ (j ≠ q ∧ l[j]? = some oj) := by
  clear hB hH hg
  intro j oj hj
  rw [List.getElem?_set] at hj
  split at hj
  · rename_i hqj
    split at hj
    · cases hj; exact .inl ⟨hqj.symm, rfl⟩
    · cases hj
  · rename_i hne; exact .inr ⟨fun e => hne e.symm, hj⟩
 refine ⟨h.run, fun j oj hj => ?_, fun j oj b hj hb => ?_, fun i j oi oj b hi hj h1 h2 => ?_⟩
 · rcases key j oj hj with ⟨rfl, rfl⟩ | ⟨_, hj⟩
   · exact ⟨hg, hB⟩
   · exact h.ok j oj hj
 · rcases key j oj hj with ⟨rfl, rfl⟩ | ⟨_, hj⟩
   · cases hb; exact hH
   · exact h.out j oj b hj hb
 · rcases key i oi hi with ⟨e3, rfl⟩ | ⟨h3, hi'⟩ <;> rcases key j oj hj with ⟨e4, rfl⟩ | ⟨h4, hj'⟩
   · rw [e3, e4]
   · cases h1; exact absurd h2 (hf _ _ hj')
   · cases h2; exact absurd h1 (hf _ _ hi')
   · exact h.dis i j oi oj b hi' hj' h1 h2
theorem St.view {G : GH} (h : St H0 w0 H w l) (te : TE P t e k z) {i : Nat} (hi : l[i]? = some (.row e k v n cells)) {xs ys : List A} (he : Els G En k cells xs) {b : Int} {kk : IntKind} (hc : Pu.cut xs 0 b = some ys) :
 ∃ u pre, (∀ w, (Instr.slice t v Option.none (some (.int kk b)) Option.none).run P w = .ok u w) ∧ St H0 w0 H w (.lb 0 :: l) ∧ View k v u cells pre (.lb 0) ∧ Els G En k pre ys ∧ VL u ys.length := by
 obtain ⟨h0, h1, h2, rfl⟩ := cut_some hc
 have hn := h.row_n hi he te.kp
 obtain ⟨⟨g1, g2⟩, g3⟩ := h.ok i _ hi
 have hle : b.toNat * k ≤ n * k := Nat.mul_le_mul_right _ (by omega)
 have hels : Els G En k (cells.take (b.toNat * k)) (List.drop (Int.toNat 0) (List.take b.toNat xs)) := by simpa using els_take he b.toNat (by omega)
 have hlen : (List.drop (Int.toNat 0) (List.take b.toNat xs)).length = b.toNat := by simp; omega
 have hpl : (cells.take (b.toNat * k)).length = b.toNat * k := by rw [List.length_take, g1]; omega
 rcases g2 with ⟨rfl, h3⟩ | ⟨g, cap, cur, rfl, hg, hh, hlc, hcm, hsz, htk⟩
 · have hb0 : b.toNat = 0 := by omega
   have hr : ∀ w, (Instr.slice t (.slice Option.none 0 0) Option.none (some (.int kk b)) Option.none).run P w = .ok (.slice Option.none 0 0) w := fun w => by
    have := run_slice_ab (w := w) te (a := Option.none) (len := 0) (cap := 0) (p := 0) (q := b) (Int.le_refl 0) (by omega) (by omega) (.inl ⟨rfl, rfl⟩) (.inr ⟨kk, rfl⟩)
    simpa [hb0] using this
   refine ⟨_, _, hr, h.lb0, ⟨b.toNat, hpl, ⟨_, (List.take_append_drop _ _).symm⟩, .inl ⟨hb0, ⟨_, _, rfl⟩, rfl⟩⟩, hels, ?_⟩
   rw [hlen, hb0]; exact ⟨⟨_, _, rfl⟩, Nat.zero_le _⟩
 · have hr : ∀ w, (Instr.slice t (.slice (some ⟨g, 0, Option.none⟩) n cap) Option.none (some (.int kk b)) Option.none).run P w = .ok (.slice (some ⟨g, 0, Option.none⟩) b.toNat cap) w := fun w => by
    have := run_slice_ab (w := w) te (a := some ⟨g, 0, Option.none⟩) (len := n) (cap := cap) (p := 0) (q := b) (Int.le_refl 0) (by omega) (by omega) (.inl ⟨rfl, rfl⟩) (.inr ⟨kk, rfl⟩)
    simpa [Addr.add_lit] using this
   refine ⟨_, _, hr, h.lb0, ⟨b.toNat, hpl, ⟨_, (List.take_append_drop _ _).symm⟩, .inr ⟨g, cap, rfl, .inl ⟨rfl, _, _, rfl⟩⟩⟩, hels, ?_⟩
   rw [hlen]; exact ⟨⟨_, _, rfl⟩, by omega⟩
theorem St.view_at {G : GH} (h : St H0 w0 H w l) {i q : Nat} (hi : l[i]? = some (.row e k v n cells)) (hq : l[q]? = some o) (hv : View k v u0 cells pre o) {ys : List A} (he : Els G En k pre ys) (hk : 0 < k)
 {j : Int} {x : A} (hx : ix ys j = some x) : ∃ p c, PtrOf k u0 j p ∧ c.length = k ∧ WAt w p c ∧ En.rel G c x := by
 obtain ⟨h0, h1, h2⟩ := ix_some hx
 obtain ⟨c, g1, g2, g3⟩ := he.get _ _ h2
 obtain ⟨m, m1, ⟨r, m2⟩, m3⟩ := hv
 have hm : ys.length = m := Nat.eq_of_mul_eq_mul_right hk (he.length.symm.trans m1)
 rcases m3 with ⟨rfl, _⟩ | ⟨g, cap, rfl, m3⟩
 · omega
 refine ⟨_, c, ⟨⟨g, 0, Option.none⟩, _, cap, rfl, h0, by omega, rfl⟩, g1, fun s u hu => ?_, g2⟩
 have h3 := g3 s u hu
 rw [addr_add_add, Addr.add_lit]
 rcases m3 with ⟨rfl, n', c', rfl⟩ | ⟨arr, e', rfl, m4⟩
 · obtain ⟨⟨k1, k2⟩, _⟩ := h.ok i _ hi
   rcases k2 with ⟨hn, _⟩ | ⟨g', cap', cur, hv', hg, hh, hle, _, hsz, htk⟩
   · cases hn
   cases hv'
   rw [cell_of_row w g _ _ _ _ hh]
   have h4 : cells[j.toNat * k + s]? = some u := by rw [m2, List.getElem?_append_left (List.getElem?_eq_some_iff.1 h3).1]; exact h3
   rw [← htk, List.getElem?_take] at h4
   split at h4
   · simpa using h4
   · cases h4
 · have hh := (h.ok q _ hq).1
   rw [cell_of_row w g _ _ _ _ hh]
   rw [← m4, List.getElem?_take] at h3
   split at h3
   · simpa using h3
   · cases h3
theorem run_append_mineV {base : Nat} (te : TE P t e k z) {news : List Value} {m : Nat} (hown : w.ownsRow base e k v n cells) (hs : Src w k u m news)
 (h1 : ∀ c ∈ news, c.oneCell' = true) (hb : n + m ≤ lim) (hbase : base ≤ w.heap.size) :
 ∃ v' w', (∀ ty, (Builtin.append_ #[t, t] ty #[v, u]).run P w = .ok v' w') ∧ w'.ownsRow base e k v' (n + m) (cells ++ news) ∧ w.grownBy w' v.ownBlock ∧
  (∀ b, v'.ownBlock = some b → v.ownBlock = some b ∨ w.heap.size ≤ b) ∧ w.drawn ≤ w'.drawn ∧
  (∀ g n c, v = .slice (some ⟨g, 0, Option.none⟩) n c → (∃ n' c', v' = .slice (some ⟨g, 0, Option.none⟩) n' c') ∨ (w'.heap[g]? = w.heap[g]? ∧ v'.ownBlock ≠ some g)) := by
 obtain ⟨v', w', hr, h2, h3, h4, h5⟩ := run_append_mine (P := P) (ty := 0) te hown hs h1 hb hbase
 refine ⟨v', w', fun ty => hr, h2, h3, h4, h5, ?_⟩
 rintro g n0 c0 rfl
 obtain ⟨info, hi, hz, hsz, hby⟩ := te.i
 have h63 : n + m ≤ maxLen := by unfold lim at hb; simp only [maxLen]; omega
 have hbytes : (n + m) * info.bytes ≤ 140737488355328 := by
  have : (n + m) * info.bytes ≤ lim * 4096 := Nat.mul_le_mul hb hby
  unfold lim at this; omega
 subst hsz
 rcases hown.2 with ⟨hn, _⟩ | ⟨g', cap, cur, hv, hbg, hg, hnc, hcm, hcs, htake⟩
 · cases hn
 injection hv with hv1 hv2 hv3; injection hv1 with hv1; injection hv1 with hv1; subst hv1 hv2 hv3
 have hgs : g < w.heap.size := (Array.getElem?_eq_some_iff.1 hg).1
 rcases hs with ⟨ad, c, rfl, hl, hnews⟩ | ⟨rfl, rfl, rfl⟩
 · by_cases hroom : n0 + m ≤ c0
   · have hfit : n0 * info.size + news.length ≤ cur.size := by rw [hl, hcs, ← Nat.add_mul]; exact Nat.mul_le_mul_right _ hroom
     have := run_append_room (P := P) w t 0 e info te.u hi g n0 c0 cur hg ad m c news hl hnews h1 hroom hfit
     rw [this] at hr; cases hr
     exact .inl ⟨_, _, rfl⟩
   · have holds : ∀ j u, cells[j]? = some u → w.cell? ((⟨g, 0, none⟩ : Addr).add j) = some u := hown.cells (g := g) rfl
     have := run_append_grow (P := P) w t 0 e info z te.u hi hz ⟨g, 0, none⟩ n0 c0 cells hown.1 holds ad m c news hl hnews (by omega) (by simp only [maxLen] at h63; omega) (growslice_fits (by omega) hbytes)
     rw [this] at hr; cases hr
     refine .inr ⟨?_, fun e => ?_⟩
     · rw [heap_alloc_old _ _ (by simpa using hgs)]; rfl
     · simp only [Value.ownBlock, Option.some.injEq] at e; omega
 · have := run_append_owned_none (P := P) w base t 0 e info info.size te.u hi (.slice (some ⟨g, 0, none⟩) n0 c0) n0 cells hown
   rw [this] at hr; cases hr
   exact .inl ⟨_, _, rfl⟩
theorem St.appendV (h : St H0 w0 H w l) (te : TE P t e k z) {i q m : Nat} {news : List Value} (hi : l[i]? = some (.row e k v n cells)) (hq : l[q]? = some o) (hv : View k v u0 cells pre o) (hs : Src w k u m news)
 (h1 : ∀ c ∈ news, c.oneCell' = true) (hb : n + m ≤ lim) :
 ∃ v' w1 o', (∀ ty, (Builtin.append_ #[t, t] ty #[v, u]).run P w = .ok v' w1) ∧ St H0 w0 H w1 ((l.set i (.row e k v' (n + m) (cells ++ news))).set q o') ∧ View k v' u0 (cells ++ news) pre o' := by
 obtain ⟨g1, g2⟩ := h.ok i _ hi
 obtain ⟨v', w1, hr, h2, h3, h4, h5, h6⟩ := run_append_mineV (P := P) te g1 hs h1 hb h.size
 have hS : St H0 w0 H w1 (l.set i (.row e k v' (n + m) (cells ++ news))) := by
  refine h.upd hi h3 h5 ⟨h2, fun c hc => ?_⟩ (fun b hb => h4 b hb)
  rcases List.mem_append.1 hc with hc | hc
  · exact g2 c hc
  · exact h1 c hc
 obtain ⟨mm, m1, ⟨r, m2⟩, m3⟩ := hv
 have hiq : i ≠ q := by
  rintro rfl
  rw [hi] at hq; cases hq
  rcases m3 with ⟨_, _, e⟩ | ⟨_, _, _, ⟨e, _⟩ | ⟨_, _, e, _⟩⟩ <;> cases e
 have hq' : (l.set i (.row e k v' (n + m) (cells ++ news)))[q]? = some o := by rw [List.getElem?_set, if_neg hiq]; exact hq
 have hsame : ∀ X, X = (l.set i (.row e k v' (n + m) (cells ++ news))).set q o → St H0 w0 H w1 X := by
  rintro X rfl
  have e : (l.set i (.row e k v' (n + m) (cells ++ news))).set q o = l.set i (.row e k v' (n + m) (cells ++ news)) := ?_
  · rw [e]; exact hS
  apply List.ext_getElem?
  intro j
  rw [List.getElem?_set]
  split
  · rename_i hj; subst hj
    rw [hq', if_pos (List.getElem?_eq_some_iff.1 hq').1]
  · rfl
 have hr2 : ∃ r, cells ++ news = pre ++ r := ⟨r ++ news, by rw [m2, List.append_assoc]⟩
 rcases m3 with m3 | ⟨g, cap, rfl, ⟨rfl, n', c', rfl⟩ | m3⟩
 · exact ⟨v', w1, o, hr, hsame _ rfl, mm, m1, hr2, .inl m3⟩
 · rcases h6 g n' c' rfl with h7 | ⟨h7, h8⟩
   · exact ⟨v', w1, .lb 0, hr, hsame _ rfl, mm, m1, hr2, .inr ⟨g, cap, rfl, .inl ⟨rfl, h7⟩⟩⟩
   · rcases g1.2 with ⟨hn, _⟩ | ⟨g', cap', cur, hv', hbg, hg, hnc, hcm, hcs, htake⟩
     · cases hn
     cases hv'
     have hnone : H g = Option.none := h.out i _ g hi rfl
     refine ⟨v', w1, .raw g (.cells cur e (0, 0)), hr, hS.claim hq' (h7.trans hg) hbg hnone (fun j oj hj => ?_), mm, m1, hr2, .inr ⟨g, cap, rfl, .inr ⟨cur, e, rfl, ?_⟩⟩⟩
     · rw [List.getElem?_set] at hj
       split at hj
       · split at hj
         · cases hj; exact h8
         · cases hj
       · rename_i hne
         intro e'
         exact hne (h.dis i j _ oj g hi hj rfl e')
     · have e1 : (cells.take (mm * k)) = pre := by rw [m2, List.take_left' m1]
       rw [← e1, ← htake, List.take_take, Nat.min_eq_left]
       have e2 : pre.length ≤ cells.length := by rw [m2, List.length_append]; omega
       rw [m1, g1.1] at e2; exact e2
 · exact ⟨v', w1, o, hr, hsame _ rfl, mm, m1, hr2, .inr ⟨g, cap, rfl, .inr m3⟩⟩
theorem St.appendVO {G : GH} {xs ys zs : List A} {c1 c2 : List Value} {e2 n2 : Nat} (h : St H0 w0 H w l) (te : TE P t e k z) {i j q : Nat} (hi : l[i]? = some (.row e k v n c1)) (he : Els G En k c1 xs)
 (hj : l[j]? = some (.row e2 k u n2 c2)) (hy : Els G En k c2 ys) (hz : app xs ys = some zs) (hq : l[q]? = some o) (hv : View k v u0 c1 pre o) :
 ∃ v' w1 n' c' o', (∀ ty, (Builtin.append_ #[t, t] ty #[v, u]).run P w = .ok v' w1) ∧ St H0 w0 H w1 ((l.set i (.row e k v' n' c')).set q o') ∧ Els G En k c' zs ∧ c' = c1 ++ c2 ∧ View k v' u0 c' pre o' := by
 obtain ⟨hb, rfl⟩ := app_some hz
 have hn := h.row_n hi he te.kp
 have hn2 := h.row_n hj hy te.kp
 obtain ⟨v', w1, o', hr, hS, hV⟩ := h.appendV (P := P) te hi hq hv (h.row_src hj) (h.ok j _ hj).2 (by omega)
 exact ⟨v', w1, _, _, o', hr, hS, he.app hy, rfl, hV⟩
end
end Go.Mr
namespace Go.Mr
open Go.RowKit Go.Pu Go.Sort
open Go.Proofs (OneCell CmpLays ltOf sortWorld)
open Go.Proofs Go.Sort
section
variable {P : Program} {w w' : World} {H0 H H' : GH} {w0 : World} {l : List MO} {e n k : Nat} {v : Value} {A : Type} {En : Enc A}
def ElK {A : Type} (En : Enc A) (H : GH) (k : Nat) (xs : List A) : Type := { p : List Value × A // p.1.length = k ∧ En.rel H p.1 p.2 ∧ p.2 ∈ xs }
def ElK.enc {H : GH} {xs : List A} (p : ElK En H k xs) : List Value := p.1.1
def ElK.x {H : GH} {xs : List A} (p : ElK En H k xs) : A := p.1.2
theorem elsK_arr {H : GH} {cells : List Value} {xs : List A} (h : Els H En k cells xs) (ys : List A) (hs : ∀ x ∈ xs, x ∈ ys) : ∃ d : List (ElK En H k ys), (d.map ElK.enc).flatten = cells ∧ d.map ElK.x = xs := by
 induction h with
 | nil => exact ⟨[], rfl, rfl⟩
 | snoc hp hc hx ih =>
  rename_i cells xs c x
  obtain ⟨d, h1, h2⟩ := ih (fun y hy => hs y (by simp [hy]))
  exact ⟨d ++ [⟨(c, x), hc, hx, hs x (by simp)⟩], by rw [List.map_append, List.flatten_append, h1]; exact congrArg (cells ++ ·) (List.append_nil c), by rw [List.map_append, h2]; rfl⟩
theorem elsK_of {H : GH} {ys : List A} (d : List (ElK En H k ys)) : Els H En k (d.map ElK.enc).flatten (d.map ElK.x) := by
 rw [← List.reverse_reverse d]
 generalize d.reverse = d
 induction d with
 | nil => exact .nil
 | cons p d ih =>
  rw [List.reverse_cons, List.map_append, List.map_append, List.flatten_append]
  have := Els.snoc ih p.2.1 p.2.2.1
  simpa [ElK.enc, ElK.x] using this
theorem flat_get {α : Type} [Inhabited α] {enc : α → List Value} (hk0 : 0 < k) (hk : ∀ x, (enc x).length = k) : ∀ (d : List α) (t : Nat), t < d.length * k → (d.map enc).flatten[t]? = some ((enc d.toArray[t / k]!)[t % k]!)
 | [], t, h => by simp at h
 | a :: d, t, h => by
  rw [List.map_cons, List.flatten_cons]
  by_cases ht : t < k
  · rw [List.getElem?_append_left (by rw [hk]; exact ht), Nat.div_eq_of_lt ht, Nat.mod_eq_of_lt ht]
    rw [List.getElem?_eq_getElem (by rw [hk]; exact ht)]
    simp only [Option.some.injEq]
    have : (a :: d).toArray[0]! = a := by simp
    rw [this, getElem!_pos (enc a) t (by rw [hk]; exact ht)]
  · have e : t = (t - k) + k := by omega
    have hlt : t - k < d.length * k := by simp only [List.length_cons, Nat.add_mul, Nat.one_mul] at h; omega
    rw [List.getElem?_append_right (by rw [hk]; omega), hk, flat_get hk0 hk d (t - k) hlt]
    have e1 : t / k = (t - k) / k + 1 := by rw [← Nat.add_div_right _ hk0, ← e]
    have e2 : t % k = (t - k) % k := by conv => lhs; rw [e, Nat.add_mod_right]
    rw [e1, e2]
    have hq : (t - k) / k < d.length := Nat.div_lt_of_lt_mul (by rw [Nat.mul_comm]; exact hlt)
    have e3 : (a :: d).toArray[(t - k) / k + 1]! = d.toArray[(t - k) / k]! := by
     rw [getElem!_pos _ _ (by simpa using hq), getElem!_pos _ _ (by simpa using hq)]; simp
    rw [e3]
theorem flatK_eq {α : Type} [Inhabited α] {enc : α → List Value} (hk0 : 0 < k) (hk : ∀ x, (enc x).length = k) (d : List α) : (flatK enc k d.toArray).toList = (d.map enc).flatten := by
 have hl : ((d.map enc).flatten).length = d.length * k := by
  clear hk0
  induction d with
  | nil => simp
  | cons a d ih => simp only [List.map_cons, List.flatten_cons, List.length_append, hk, ih, List.length_cons, Nat.add_mul, Nat.one_mul]; omega
 apply List.ext_getElem?
 intro t
 by_cases ht : t < d.length * k
 · rw [flat_get hk0 hk d t ht]
   simp [flatK, ht]
 · rw [List.getElem?_eq_none (by simp [flatK]; omega), List.getElem?_eq_none (by omega)]
theorem St.holdsK (hk0 : 0 < k) (h : St H0 w0 H w l) {i g cap : Nat} {cells : List Value} (hi : l[i]? = some (.row e k (.slice (some ⟨g, 0, Option.none⟩) n cap) n cells)) {α : Type} [Inhabited α] {enc : α → List Value} (hk : ∀ x, (enc x).length = k) (d : List α) (hd : (d.map enc).flatten = cells) :
 HoldsK enc k w g 0 d.toArray ∧ g < w.heap.size ∧ d.length = n ∧ n ≤ cap ∧ cap ≤ maxLen := by
 obtain ⟨⟨k1, k2⟩, k3⟩ := h.ok i _ hi
 rcases k2 with ⟨h3, _⟩ | ⟨g', cap', cur, hv, hg, hh, hle, hcm, hsz, htk⟩
 · cases h3
 cases hv
 have hl : d.length = n := by
  have e1 : ((d.map enc).flatten).length = d.length * k := by
   rw [← flatK_eq hk0 hk]; simp [flatK]
  rw [hd, k1] at e1
  exact (Nat.eq_of_mul_eq_mul_right hk0 e1).symm
 refine ⟨fun j hj => ?_, (Array.getElem?_eq_some_iff.1 hh).1, hl, hle, hcm⟩
 have hF := flatK_eq hk0 hk d
 have hj' : j < cells.length := by rw [← hd, ← hF]; simpa using hj
 have hc : cells[j]? = some ((flatK enc k d.toArray)[j]!) := by
  rw [← hd, ← hF, Array.getElem?_toList, getElem!_pos _ j hj]; simp
 rw [Nat.zero_add]
 constructor
 · rw [cell_of_row w g _ _ _ _ hh]
   rw [← htk, List.getElem?_take] at hc
   split at hc
   · simpa using hc
   · cases hc
 · simp [World.frozen?, hh]
theorem grownBy_sortedK {α : Type} [Inhabited α] {enc : α → List Value} {w : World} {g m : Nat} {os : Array Obj} (d : Array α) : w.grownBy (sortWorldK enc k w g 0 m d os) (some g) := grownBy_sorted1 (enc := id) (os := os) (m := m) (flatK enc k d)
theorem St.sl_sortedK (h : St H0 w0 H w l) {i g cap m : Nat} {cells : List Value} (hi : l[i]? = some (.row e k (.slice (some ⟨g, 0, Option.none⟩) n cap) n cells)) {α : Type} [Inhabited α] {enc : α → List Value} (d : Array α) (os : Array Obj) :
 Sl H (sortWorldK enc k w g 0 m d os) := fun b ob hb => by
 have hw := h.sl b ob hb
 have hne : some b ≠ some g := fun e => by cases e; rw [h.out i _ g hi rfl] at hb; cases hb
 rw [(grownBy_sortedK (enc := enc) (os := os) (m := m) d).block b (Array.getElem?_eq_some_iff.1 hw).1 hne]; exact hw
theorem St.turnedK (hk0 : 0 < k) (h : St H0 w0 H w l) {i g cap m : Nat} {cells : List Value} (hi : l[i]? = some (.row e k (.slice (some ⟨g, 0, Option.none⟩) n cap) n cells)) {α : Type} [Inhabited α] {enc : α → List Value} (hk : ∀ x, (enc x).length = k) (h1 : ∀ x, ∀ v ∈ enc x, v.oneCell' = true) (d : List α) (os : Array Obj) (hd : d.length = n) :
 St H0 w0 H (sortWorldK enc k w g 0 m d.toArray os) (l.set i (.row e k (.slice (some ⟨g, 0, Option.none⟩) n cap) n (d.map enc).flatten)) := by
 obtain ⟨⟨k1, k2⟩, k3⟩ := h.ok i _ hi
 rcases k2 with ⟨h3, _⟩ | ⟨g', cap', cur, hv, hg, hh, hle, hcm, hsz, htk⟩
 · cases h3
 cases hv
 have hF := flatK_eq hk0 hk d
 have hFl : ((d.map enc).flatten).length = n * k := by rw [← hF]; simp [flatK, hd]
 have hFa : (flatK enc k d.toArray) = ((d.map enc).flatten).toArray := by apply Array.ext'; simpa using hF
 refine h.upd hi (grownBy_sortedK _) (by unfold sortWorldK; simp [putRowK, Sort.ahead, Go.Sort.grow]) ⟨⟨hFl, .inr ⟨g, cap, _, rfl, hg, heap_sorted1 (enc := id) _ hh, by omega, hcm, by simp [putCells, hsz], ?_⟩⟩, ?_⟩ (fun b hb => .inl hb)
 · have hle2 : ((d.map enc).flatten).length ≤ cur.size := by rw [hFl, hsz]; exact Nat.mul_le_mul_right _ hle
   rw [hFa]
   have := take_putCells1 (enc := id) cur ((d.map enc).flatten) (n * k) (by omega) hle2
   rw [this, List.map_id, List.take_of_length_le (by omega)]
 · intro u hu
   obtain ⟨c, hc, hu⟩ := List.mem_flatten.1 hu
   obtain ⟨y, _, rfl⟩ := List.mem_map.1 hc
   exact h1 y u hu
theorem St.sortFK (hk0 : 0 < k) {G : GH} (hG : Inc G H) (h : St H0 w0 H w l) {i : Nat} {cells : List Value} (hi : l[i]? = some (.row e k v n cells)) {xs r : List A} (he : Els G En k cells xs) {fv : Value} {f : A → A → Option Int} {fid : Nat}
 (hf : ∀ (H2 : GH) (w2 : World), Inc H H2 → Sl H2 w2 → ∀ c x, c.length = k → En.rel H2 c x → ∀ d y, d.length = k → En.rel H2 d y → ∀ r, f x y = some r → ∃ fi cs, fv = .func (.func fi) #[] cs ∧ (∀ args w, (callFunc fi args).run P w = .ok (.enter fi args) w) ∧ Calls P fi (#[.agg c.toArray, .agg d.toArray] ++ cs) w2 (Sc H2 w2 (.int .i64 r)))
 (k0 : ∀ (p : Option Addr) (cap : Nat) (fv : Value) (w : World), Calls P fid #[.slice p 0 cap, fv] w fun e w' => e = .returned (.tuple #[]) ∧ w' = w)
 (k1 : ∀ (α : Type) [Inhabited α] (enc : α → List Value) (_ : ∀ x, (enc x).length = k) (_ : ∀ x, ∀ v ∈ enc x, v.oneCell' = true) (cf : α → α → Int) (_ : SWO (ltOf cf)) (g : Nat) (cb : Array Value) (blk off cap : Nat) (d : Array α) (w : World)
  (_ : ∀ args w, (callFunc g args).run P w = .ok (.enter g args) w) (_ : CmpLays P g cb enc k cf blk off d.size w) (_ : HoldsK enc k w blk off d) (_ : blk < w.heap.size) (_ : d.size < 4611686018427387904),
  Calls P fid #[.slice (some ⟨blk, off, Option.none⟩) d.size cap, .func (.func g) #[] cb] w fun e w' => e = .returned (.tuple #[]) ∧ ∃ d' n os, PermIn 0 d.size d d' ∧ SortedIn (ltOf cf) 0 d.size d' ∧ w' = sortWorldK enc k w blk off n d' os)
 (hr : Pu.sortF f xs = some r) :
 Calls P fid #[v, fv] w fun e' w' => e' = .returned (.tuple #[]) ∧ ∃ cells', St H0 w0 H w' (l.set i (.row e k v n cells')) ∧ Els G En k cells' r ∧ cells'.Perm cells := by
 obtain ⟨⟨cf, hlim, hc, hirr, htr, hntr, hanti⟩, rfl⟩ := sortF_some hr
 obtain ⟨⟨g1, g2⟩, g3⟩ := h.ok i _ hi
 have hlen := he.length
 have hset : l.set i (.row e k v n cells) = l := by
  apply List.ext_getElem?
  intro j
  rw [List.getElem?_set]
  split
  · rename_i hij; subst hij; rw [hi]; simp [(List.getElem?_eq_some_iff.1 hi).1]
  · rfl
 rcases g2 with ⟨rfl, rfl⟩ | ⟨g, cap, cur, rfl, hg, hh, hle, hcm, hsz, htk⟩
 · have : xs = [] := by
    rw [g1, Nat.zero_mul] at hlen
    exact List.eq_nil_of_length_eq_zero ((Nat.mul_eq_zero.1 hlen.symm).resolve_right (by omega))
   subst this
   refine (k0 Option.none 0 fv w).mono ?_
   rintro _ _ ⟨rfl, rfl⟩
   exact ⟨rfl, cells, by rw [hset]; exact h, by simpa using he, List.Perm.refl _⟩
 · match xs, he, hlen, hlim, hc, hirr, htr, hntr, hanti with
   | [], he, hlen, _, _, _, _, _, _ =>
    have : n = 0 := by rw [g1] at hlen; simp only [List.length_nil, Nat.zero_mul] at hlen; exact (Nat.mul_eq_zero.1 hlen).resolve_right (by omega)
    subst this
    refine (k0 (some ⟨g, 0, Option.none⟩) cap fv w).mono ?_
    rintro _ _ ⟨rfl, rfl⟩
    exact ⟨rfl, cells, by rw [hset]; exact h, by simpa using he, List.Perm.refl _⟩
   | x0 :: xs0, he, hlen, hlim, hc, hirr, htr, hntr, hanti =>
    generalize hxs : x0 :: xs0 = xs at *
    obtain ⟨d, hd1, hd2⟩ := elsK_arr he xs (fun _ hx => hx)
    have hx0 : xs[0]? = some x0 := by rw [← hxs]; rfl
    obtain ⟨c0, hc0, hr0, _⟩ := he.get 0 x0 hx0
    have hx0m : x0 ∈ xs := by rw [← hxs]; simp
    haveI : Inhabited (ElK En G k xs) := ⟨⟨(c0, x0), hc0, hr0, hx0m⟩⟩
    obtain ⟨fi, cs, rfl, heg, _⟩ := hf H w (Inc.rfl H) h.sl c0 x0 hc0 (En.mono hG hr0) c0 x0 hc0 (En.mono hG hr0) _ (hc x0 hx0m x0 hx0m)
    obtain ⟨hH, hblk, hdl, hcap, hcm2⟩ := h.holdsK hk0 hi (fun p => p.2.1) d hd1
    let cf' : ElK En G k xs → ElK En G k xs → Int := fun p q => cf p.x q.x
    have hlt : ∀ p q, ltOf cf' p q = decide (cf p.x q.x < 0) := fun p q => rfl
    have hO : SWO (ltOf cf') := ⟨fun p => by rw [hlt, decide_eq_false_iff_not]; exact hirr _ p.2.2.2,
     fun p q s a b => by rw [hlt, decide_eq_true_eq] at *; exact htr _ p.2.2.2 _ q.2.2.2 _ s.2.2.2 a b,
     fun p q s a b => by rw [hlt, decide_eq_false_iff_not] at *; exact hntr _ p.2.2.2 _ q.2.2.2 _ s.2.2.2 a b⟩
    have hcmp : CmpLays P fi cs ElK.enc k cf' g 0 d.toArray.size w := fun m os dk hs p q => by
     have hsl := h.sl_sortedK hi (enc := ElK.enc) (m := m) dk os
     obtain ⟨fi', cs', hfv, _, hcall⟩ := hf H _ (Inc.rfl H) hsl _ _ p.2.1 (En.mono hG p.2.2.1) _ _ q.2.1 (En.mono hG q.2.2.1) _ (hc _ p.2.2.2 _ q.2.2.2)
     cases hfv
     refine hcall.mono ?_
     rintro _ W' ⟨rfl, hrun⟩
     exact ⟨rfl, hrun.grown rfl⟩
    have hK := k1 _ ElK.enc (fun p => p.2.1) (fun p => En.one p.2.2.1) cf' hO fi cs g 0 cap d.toArray w heg hcmp hH hblk (by have hdx := congrArg List.length hd2; simp only [List.length_map] at hdx; simp only [lim] at hlim; simp only [List.size_toArray]; omega)
    simp only [List.size_toArray, hdl] at hK
    refine hK.mono ?_
    rintro _ _ ⟨rfl, d', m, os, hp, hso, rfl⟩
    have hd'l : d'.size = n := by rw [hp.1]; simp [hdl]
    have hT := h.turnedK (enc := ElK.enc) (m := m) hk0 hi (fun p => p.2.1) (fun p => En.one p.2.2.1) d'.toList os (by simp [hd'l])
    have hpm : d'.toList.Perm d := by
     have := hp.2.2
     rw [show (n : Nat) = d'.size from hd'l.symm] at this
     rw [Array.extract_size, hd'l] at this
     rw [show n = d.toArray.size by simp [hdl]] at this
     rw [Array.extract_size] at this
     simpa using this
    refine ⟨rfl, _, hT, ?_, by rw [← hd1]; exact (hpm.map ElK.enc).flatten⟩
    have hE : Els G En k (d'.toList.map ElK.enc).flatten (d'.toList.map ElK.x) := elsK_of _
    have : d'.toList.map ElK.x = xs.mergeSort (leF f) := by
     have hpx : (d'.toList.map ElK.x).Perm xs := (hpm.map ElK.x).trans (by rw [hd2])
     have hmem : ∀ y ∈ d'.toList.map ElK.x, y ∈ xs := fun y hy => hpx.mem_iff.1 hy
     have hms : (xs.mergeSort (leF f)).Perm xs := List.mergeSort_perm _ _
     have hle : ∀ x ∈ xs, ∀ y ∈ xs, leF f x y = !decide (cf y x < 0) := fun x hx y hy => by simp [leF, hc y hy x hx]
     refine List.Perm.eq_of_pairwise (le := fun x y => x ∈ xs ∧ y ∈ xs ∧ leF f x y = true) ?_ ?_ ?_ (hpx.trans hms.symm)
     · intro a b _ _ h1 h2
       obtain ⟨ha, hb, h1⟩ := h1
       obtain ⟨_, _, h2⟩ := h2
       rw [hle _ ha _ hb] at h1
       rw [hle _ hb _ ha] at h2
       simp only [Bool.not_eq_true', decide_eq_false_iff_not] at h1 h2
       exact hanti a ha b hb h2 h1
     · rw [List.pairwise_iff_getElem]
       intro a b ha hb hab
       refine ⟨hmem _ (List.getElem_mem _), hmem _ (List.getElem_mem _), ?_⟩
       rw [hle _ (hmem _ (List.getElem_mem _)) _ (hmem _ (List.getElem_mem _))]
       simp only [List.length_map, Array.length_toList] at ha hb
       have := hso a b (Nat.zero_le _) hab (by omega)
       rw [hlt, getElem!_pos d' b (by omega), getElem!_pos d' a (by omega)] at this
       simpa using this
     · have hpw : (xs.mergeSort (leF f)).Pairwise fun x y => leF f x y = true := by
        let le' : ElK En G k xs → ElK En G k xs → Bool := fun p q => !decide (cf q.x p.x < 0)
        have hm := List.map_mergeSort (r := le') (s := leF f) (f := ElK.x) (l := d) (fun a _ b _ => (hle _ a.2.2.2 _ b.2.2.2).symm)
        rw [hd2] at hm
        rw [← hm, List.pairwise_map]
        have hs' := List.pairwise_mergeSort (le := le') ?_ ?_ d
        · refine hs'.imp ?_
          intro a b hab
          exact (hle a.x a.2.2.2 b.x b.2.2.2).trans hab
        · intro a b c h1 h2
          simp only [le', Bool.not_eq_true', decide_eq_false_iff_not] at h1 h2 ⊢
          exact hntr _ c.2.2.2 _ b.2.2.2 _ a.2.2.2 h2 h1
        · intro a b
          simp only [le', Bool.or_eq_true, Bool.not_eq_true', decide_eq_false_iff_not]
          by_cases h1 : cf b.x a.x < 0
          · right
            intro h2
            exact hirr _ b.2.2.2 (htr _ b.2.2.2 _ a.2.2.2 _ b.2.2.2 h1 h2)
          · exact .inl h1
       rw [List.pairwise_iff_getElem] at hpw ⊢
       intro a b ha hb hab
       exact ⟨hms.mem_iff.1 (List.getElem_mem _), hms.mem_iff.1 (List.getElem_mem _), hpw a b ha hb hab⟩
    rw [← this]
    exact hE
end
end Go.Mr
namespace Go.Mr
open Go.RowKit Go.Pu
section
variable {P : Program} {w : World}
theorem run_append_roomQ (t ty e : TypeId) (i : TypeInfo) (ht : P.underlying t = some (.slice e)) (hi : P.info? e = some i)
 (g off sLen sCap : Nat) (cur : Array Value) (hg : w.heap[g]? = some (.cells cur e (0, 0)))
 (a : Addr) (m c : Nat) (news : List Value) (hl : news.length = m * i.size) (hnews : ∀ j u, news[j]? = some u → w.cell? (a.add j) = some u) (h1 : ∀ u ∈ news, u.oneCell' = true)
 (hroom : sLen + m ≤ sCap) (hfit : off + sLen * i.size + news.length ≤ cur.size) :
 (Builtin.append_ #[t, t] ty #[.slice (some ⟨g, off, Option.none⟩) sLen sCap, .slice (some a) m c]).run P w =
  .ok (.slice (some ⟨g, off, Option.none⟩) (sLen + m) sCap) (w.setRow g (cur.toList.take (off + sLen * i.size) ++ news ++ cur.toList.drop (off + sLen * i.size + news.length)).toArray) := by
 have hf := run_firstCells_some (P := P) w i.size m a m c news hl hnews
 have hst := run_storeCells_at P g (off + sLen * i.size) e news 0 cur w hg (by simpa using hfit) h1
 simp only [Nat.add_zero] at hst
 simp [Builtin.append_, run_underlying ht, sizeOf, typeInfo, hi, Builtin.lenOf, hroom, hf, Addr.add_lit, hst]
end
section
variable {P : Program} {f : Fm} {w w' : World} {d : Option Tmp} {ty : TypeId} {pos : String} {aft : Array Edge} {gd : Option (Nat × Bool)} {x y : Operand} {v u : Value}
variable {H0 H H' : GH} {w0 : World} {l : List MO} {t e k n : Nat} {z : Value} {A : Type} {En : Enc A}
theorem ownsRowO_of {B : Nat} {cells : List Value} (h : w.ownsRow B e k v n cells) : ownsRowO w B e k v n cells := by
 refine ⟨h.1, ?_⟩
 rcases h.2 with hn | ⟨g, cap, cur, hv, hb, hg, h1, h2, h3, h4⟩
 · exact .inl hn
 · exact .inr ⟨g, 0, cap, cur, hv, hb, hg, h1, h2, by omega, by simpa using h4⟩
theorem St.toQ (h : St H0 w0 H w l) (i : Nat) {cells : List Value} {l' : List MO} (hi : l[i]? = some (.row e k v n cells) := by rfl) (hl : l.set i (.rowo e k v n cells) = l' := by rfl) : St H0 w0 H w l' := by
 subst hl
 obtain ⟨g1, g2⟩ := h.ok i _ hi
 exact h.upd hi ⟨rfl, rfl, rfl, Nat.le_refl _, fun _ _ _ => rfl⟩ (Nat.le_refl _) ⟨ownsRowO_of g1, g2⟩ (fun b hb => .inl hb)
theorem St.rowQ_n {cells : List Value} {xs : List A} (h : St H0 w0 H w l) {i : Nat} (hi : l[i]? = some (.rowo e k v n cells)) (he : Els H' En k cells xs) (hk : 0 < k) : n = xs.length := by
 obtain ⟨⟨k1, _⟩, _⟩ := h.ok i _ hi
 have hl := he.length
 rw [k1] at hl
 exact Nat.eq_of_mul_eq_mul_right hk hl
theorem St.rowQ_ln (h : St H0 w0 H w l) {i : Nat} {cells : List Value} (hi : l[i]? = some (.rowo e k v n cells)) : Ln v n := by
 obtain ⟨⟨_, g⟩, _⟩ := h.ok i _ hi
 rcases g with ⟨rfl, rfl⟩ | ⟨g, off, cap, cur, rfl, _⟩
 · exact ⟨_, _, rfl⟩
 · exact ⟨_, _, rfl⟩
theorem E.lenQ {xs : List A} {cells : List Value} {t e' : Nat} (te : TE P t e' k z) (hx : ev f x = v) (h : St H0 w0 H w l) {i : Nat} (hi : l[i]? = some (.rowo e k v n cells)) (he : Els H' En k cells xs) (hk : 0 < k) :
 (execOp (ev f) ⟨d, .call ⟨.builtin .len, #[x], #[t]⟩, ty, pos, aft, gd⟩).run P w = .ok (.value (.int .i64 (Pu.len xs))) w := by
 have := E.len (P := P) (f := f) (w := w) (d := d) (ty := ty) (pos := pos) (aft := aft) (gd := gd) te hx (h.rowQ_ln hi)
 rw [h.rowQ_n hi he hk] at this; exact this
theorem St.rowQ_at {G : GH} {cells : List Value} {xs : List A} (h : St H0 w0 H w l) {i : Nat} (hi : l[i]? = some (.rowo e k v n cells)) (he : Els G En k cells xs) (hk : 0 < k)
 {j : Int} {x : A} (hx : ix xs j = some x) : ∃ p c, PtrOf k v j p ∧ c.length = k ∧ WAt w p c ∧ En.rel G c x := by
 obtain ⟨h0, h1, h2⟩ := ix_some hx
 obtain ⟨c, g1, g2, g3⟩ := he.get _ _ h2
 have hn := h.rowQ_n hi he hk
 obtain ⟨⟨k1, k2⟩, _⟩ := h.ok i _ hi
 rcases k2 with ⟨rfl, h3⟩ | ⟨g, off, cap, cur, rfl, hg, hh, hle, _, hsz, htk⟩
 · omega
 · refine ⟨_, c, ⟨⟨g, off, Option.none⟩, _, cap, rfl, h0, by omega, rfl⟩, g1, fun m u hu => ?_, g2⟩
   rw [addr_add_add, Addr.add_lit, cell_of_row w g _ _ _ _ hh]
   have := g3 m u hu
   rw [← htk, List.getElem?_take] at this
   split at this
   · rw [List.getElem?_drop] at this; simpa using this
   · cases this
theorem St.appendQ' (h : St H0 w0 H w l) (te : TE P t e k z) {i m : Nat} {cells news : List Value} (hi : l[i]? = some (.rowo e k v n cells)) (hs : Src w k u m news)
 (h1 : ∀ c ∈ news, c.oneCell' = true) (hb : n + m ≤ lim) :
 ∃ v' w1, (∀ ty, (Builtin.append_ #[t, t] ty #[v, u]).run P w = .ok v' w1) ∧ St H0 w0 H w1 (l.set i (.rowo e k v' (n + m) (cells ++ news))) := by
 obtain ⟨g1, g2⟩ := h.ok i _ hi
 have hone : ∀ c ∈ cells ++ news, c.oneCell' = true := fun c hc => by
  rcases List.mem_append.1 hc with hc | hc
  · exact g2 c hc
  · exact h1 c hc
 obtain ⟨info, hinf, hz, hsz, hby⟩ := te.i
 rcases g1.2 with ⟨rfl, rfl⟩ | ⟨g, off, cap, cur, rfl, hbg, hg, hnc, hcm, hcs, htake⟩
 · have hx : cells = [] := List.eq_nil_of_length_eq_zero (by simpa using g1.1)
   subst hx
   obtain ⟨v', w1, hr, h2, h3, h4, h5⟩ := run_append_mine (P := P) (ty := 0) te (World.ownsRow_nil w w0.heap.size e k) hs h1 (by omega) h.size
   refine ⟨v', w1, fun ty => hr, h.upd hi h3 h5 ⟨ownsRowO_of h2, hone⟩ (fun b hb => h4 b hb)⟩
 · have h63 : n + m ≤ maxLen := by unfold lim at hb; simp only [maxLen]; omega
   have hbytes : (n + m) * info.bytes ≤ 140737488355328 := by
    have : (n + m) * info.bytes ≤ lim * 4096 := Nat.mul_le_mul hb hby
    unfold lim at this; omega
   subst hsz
   have hlen : (cells ++ news).length = (n + m) * info.size ↔ news.length = m * info.size := by rw [List.length_append, g1.1, Nat.add_mul]; omega
   rcases hs with ⟨ad, c, rfl, hl, hnews⟩ | ⟨rfl, rfl, rfl⟩
   · by_cases hroom : n + m ≤ cap
     · have hmul : n * info.size + m * info.size ≤ cap * info.size := by rw [← Nat.add_mul]; exact Nat.mul_le_mul_right _ hroom
       have hfit : off + n * info.size + news.length ≤ cur.size := by rw [hl]; omega
       refine ⟨.slice (some ⟨g, off, Option.none⟩) (n + m) cap, _, fun ty => run_append_roomQ (P := P) t ty e info te.u hinf g off n cap cur hg ad m c news hl hnews h1 hroom hfit, ?_⟩
       refine h.upd hi (grownBy_setRow w g _) (Nat.le_refl _) ⟨⟨hlen.2 hl, .inr ⟨g, off, cap, _, rfl, hbg, setRow_heap w g cur _ e _ hg, hroom, hcm, ?_, ?_⟩⟩, hone⟩ (fun b hb => .inl hb)
       · simp only [List.size_toArray, List.length_append, List.length_take, List.length_drop, Array.length_toList]
         omega
       · have e1 : (cur.toList.take (off + n * info.size)).drop off = cells := by
          rw [← htake, List.drop_take, Nat.add_sub_cancel_left]
         have e2 : (cur.toList.take (off + n * info.size)).length = off + n * info.size := by rw [List.length_take, Array.length_toList]; omega
         simp only [List.append_assoc]
         rw [List.drop_append_of_le_length (by rw [e2]; omega), e1, ← List.append_assoc, ← hlen.2 hl]
         exact List.take_left
     · have holds : ∀ j u, cells[j]? = some u → w.cell? ((⟨g, off, Option.none⟩ : Addr).add j) = some u := fun j u hu => by
        rw [Addr.add_lit, cell_of_row w g _ _ _ _ hg]
        rw [← htake, List.getElem?_take] at hu
        split at hu
        · rw [List.getElem?_drop] at hu; simpa using hu
        · cases hu
       have hr := fun ty => run_append_grow (P := P) w t ty e info z te.u hinf hz ⟨g, off, Option.none⟩ n cap cells g1.1 holds ad m c news hl hnews (by omega) (by simp only [maxLen] at h63; omega) (growslice_fits (by omega) hbytes)
       have hge := grownCap_ge w (n + m) cap e
       have hcm := grownCap_le_maxLen w (n + m) cap e h63
       refine ⟨_, _, hr, h.upd hi ⟨rfl, rfl, rfl, by simp, fun k hk _ => heap_alloc_old w.drew _ hk⟩ (Nat.le_succ _) ⟨⟨hlen.2 hl, .inr ⟨w.heap.size, 0, _, _, rfl, h.size, heap_alloc_new w.drew _, hge, hcm, ?_, ?_⟩⟩, hone⟩ ?_⟩
       · simp only [Array.size_append, List.size_toArray, size_zeroCells, te.zs, g1.1, hl, ← Nat.add_mul]
         rw [Nat.zero_add]
         refine Nat.le_of_eq ?_
         congr 1
         omega
       · simp only [Array.toList_append, List.append_assoc, List.drop_zero]
         rw [← List.append_assoc, ← hlen.2 hl]
         exact List.take_left
       · intro b hb
         simp [MO.blk, Value.ownBlock] at hb; omega
   · refine ⟨.slice (some ⟨g, off, Option.none⟩) n cap, w, fun ty => ?_, ?_⟩
     · simp [Builtin.append_, run_underlying te.u, sizeOf, typeInfo, hinf, Builtin.lenOf, Builtin.firstCells, hnc, storeCells]
     · have := h.upd (o' := .rowo e info.size (.slice (some ⟨g, off, Option.none⟩) n cap) (n + 0) (cells ++ [])) hi ⟨rfl, rfl, rfl, Nat.le_refl _, fun _ _ _ => rfl⟩ (Nat.le_refl _) (by simpa using ⟨g1, g2⟩) (fun b hb => .inl hb)
       exact this
theorem St.appendQ {G : GH} {xs ys zs : List A} {c1 c2 : List Value} {e2 n2 : Nat} (h : St H0 w0 H w l) (te : TE P t e k z) {i j : Nat} (hi : l[i]? = some (.rowo e k v n c1)) (he : Els G En k c1 xs)
 (hj : l[j]? = some (.row e2 k u n2 c2)) (hy : Els G En k c2 ys) (hz : app xs ys = some zs) :
 ∃ v' w1 n' c', (∀ ty, (Builtin.append_ #[t, t] ty #[v, u]).run P w = .ok v' w1) ∧ St H0 w0 H w1 (l.set i (.rowo e k v' n' c')) ∧ Els G En k c' zs ∧ c' = c1 ++ c2 := by
 obtain ⟨hb, rfl⟩ := app_some hz
 have hn := h.rowQ_n hi he te.kp
 have hn2 := h.row_n hj hy te.kp
 obtain ⟨v', w1, hr, hS⟩ := h.appendQ' (P := P) te hi (h.row_src hj) (h.ok j _ hj).2 (by omega)
 exact ⟨v', w1, _, _, hr, hS, he.app hy, rfl⟩
theorem els_dropQ {cells : List Value} {xs : List A} (h : Els H En k cells xs) : ∀ m, m ≤ xs.length → Els H En k (cells.drop (m * k)) (xs.drop m) := by
 induction h with
 | nil => intro m hm; simp; exact .nil
 | snoc hs hc hx ih =>
  rename_i cells xs c x
  intro m hm
  have hl := hs.length
  rcases Nat.lt_or_ge xs.length m with hlt | hge
  · have : m = xs.length + 1 := by simp at hm; omega
    subst this
    rw [List.drop_of_length_le (by rw [List.length_append, hl, hc, Nat.add_mul, Nat.one_mul]; exact Nat.le_refl _), List.drop_of_length_le (by simp)]
    exact .nil
  · rw [List.drop_append_of_le_length hge, List.drop_append_of_le_length (by rw [hl]; exact Nat.mul_le_mul_right _ hge)]
    exact .snoc (ih m hge) hc hx
theorem St.cutTailQ {G : GH} (h : St H0 w0 H w l) (te : TE P t e k z) {i : Nat} {cells : List Value} (hi : l[i]? = some (.rowo e k v n cells)) {xs ys : List A} (he : Els G En k cells xs) {a : Int} {kk : IntKind} (hc : Pu.cut xs a (len xs) = some ys) :
 ∃ v' n' cells', (∀ w, (Instr.slice t v (some (.int kk a)) Option.none Option.none).run P w = .ok v' w) ∧ St H0 w0 H w (l.set i (.rowo e k v' n' cells')) ∧ Els G En k cells' ys := by
 obtain ⟨h0, h1, h2, rfl⟩ := cut_some hc
 have hn := h.rowQ_n hi he te.kp
 obtain ⟨⟨g1, g2⟩, g3⟩ := h.ok i _ hi
 simp only [Pu.len] at h1
 have hels : Els G En k (cells.drop (a.toNat * k)) (List.drop a.toNat (List.take (Pu.len xs).toNat xs)) := by
  have e : List.take (Pu.len xs).toNat xs = xs := List.take_of_length_le (by unfold Pu.len; omega)
  rw [e]; exact els_dropQ he _ (by omega)
 have hone : ∀ u ∈ cells.drop (a.toNat * k), u.oneCell' = true := fun u hu => g3 u (List.mem_of_mem_drop hu)
 have hdl : (cells.drop (a.toNat * k)).length = (n - a.toNat) * k := by rw [List.length_drop, g1, Nat.sub_mul]
 have hg0 : w.grownBy w (MO.rowo e k v n cells).blk := ⟨rfl, rfl, rfl, Nat.le_refl _, fun _ _ _ => rfl⟩
 rcases g2 with ⟨rfl, h3⟩ | ⟨g, off, cap, cur, rfl, hg, hh, hle, hcm, hsz, htk⟩
 · have ha : a.toNat = 0 := by omega
   refine ⟨.slice Option.none 0 0, 0, _, fun w => ?_, h.upd hi hg0 (Nat.le_refl _) ⟨⟨by rw [hdl]; simp [h3], .inl ⟨rfl, rfl⟩⟩, hone⟩ (fun b hb => .inl hb), hels⟩
   have := run_slice_ab (w := w) te (a := Option.none) (len := 0) (cap := 0) (p := a) (q := 0) h0 (by omega) (by omega) (.inr ⟨kk, rfl⟩) (.inl ⟨rfl, rfl⟩)
   simpa [ha] using this
 · have hr := fun w => run_slice_ab (P := P) (w := w) te (a := some ⟨g, off, Option.none⟩) (len := n) (cap := cap) (p := a) (q := n) (lo := some (.int kk a)) (hi := Option.none) h0 (by omega) (by omega) (.inr ⟨kk, rfl⟩) (.inl ⟨rfl, rfl⟩)
   have hmul : a.toNat * k ≤ n * k := Nat.mul_le_mul_right _ (by omega)
   have hmul2 : n * k ≤ cap * k := Nat.mul_le_mul_right _ hle
   have hsub : (cap - a.toNat) * k = cap * k - a.toNat * k := Nat.sub_mul ..
   have htake : (cur.toList.drop (off + a.toNat * k)).take ((n - a.toNat) * k) = cells.drop (a.toNat * k) := by
    rw [← htk, List.drop_take, List.drop_drop, Nat.sub_mul]
   by_cases hca : cap = a.toNat
   · refine ⟨.slice (some ⟨g, off, Option.none⟩) (n - a.toNat) (cap - a.toNat), n - a.toNat, _, fun w => ?_, h.upd hi hg0 (Nat.le_refl _) ⟨⟨hdl, .inr ⟨g, off, cap - a.toNat, cur, rfl, hg, hh, by omega, by omega, by omega, ?_⟩⟩, hone⟩ (fun b hb => .inl hb), hels⟩
     · have := hr w; rw [if_pos hca] at this; simpa using this
     · have e0 : n - a.toNat = 0 := by omega
       have e1 : cells.drop (a.toNat * k) = [] := List.eq_nil_of_length_eq_zero (by rw [hdl, e0]; simp)
       rw [e0, e1]; simp
   · refine ⟨.slice (some ⟨g, off + a.toNat * k, Option.none⟩) (n - a.toNat) (cap - a.toNat), n - a.toNat, _, fun w => ?_, h.upd hi hg0 (Nat.le_refl _) ⟨⟨hdl, .inr ⟨g, off + a.toNat * k, cap - a.toNat, cur, rfl, hg, hh, by omega, by omega, by omega, htake⟩⟩, hone⟩ (fun b hb => .inl hb), hels⟩
     have := hr w; rw [if_neg hca] at this; simpa [Addr.add_lit] using this
end
end Go.Mr
