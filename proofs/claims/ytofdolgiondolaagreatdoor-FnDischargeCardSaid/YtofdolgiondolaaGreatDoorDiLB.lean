/- Helpers of the walks and plain laws. -/
import Derived.Test.YtofdolgiondolaaGreatDoorDiLA
import Derived.OrdersHeld
import Derived.Lib.SliceRun
import Derived.ProofKit
import Derived.OpenShut
import Derived.WideKeyArgs
import Derived.Lib.ItoaNum
import Derived.Shelf.Strconv.Itoa3
import Derived.Lib.ItoaLen
import Derived.Laws.Slices
import Derived.Shelf.SlSortCmp.Kit1
import Derived.Sort.LotA
import Derived.Lib.SlicesCompact
import Derived.Shelf.SlicesE.Compact
import Derived.Ground.SlgnProg
import Derived.Shelf.Sort.Plain
import Derived.Shelf.Slices.In.SortNone
import Derived.RangeFuncRecord
import Derived.ChangeVars
import Derived.Shelf.SlicesE.Delete
import Derived.Laws.StructEq
import Derived.KernelRfl
import Derived.Lib.AppendZerosOnto
import Derived.ChangeKeysEq
import Derived.Lib.Bytealg
set_option linter.unusedVariables false
namespace Go.Mr
open Go.RowKit Go.Pu
section
variable {P : Program} {w w' : World} {H0 H H' : GH} {w0 : World} {l : List MO} {t e k n : Nat} {v z : Value} {A : Type} {En : Enc A}
theorem St.reidx (h : St H0 w0 H w l) (l' : List MO) (φ : Nat → Nat) (hφ : ∀ (j : Nat) (o : MO), l'[j]? = some o → l[φ j]? = some o) (inj : ∀ j j', j < l'.length → j' < l'.length → φ j = φ j' → j = j') : St H0 w0 H w l' :=
 ⟨h.run, fun j o hj => h.ok _ o (hφ j o hj), fun j o b hj hb => h.out _ o b (hφ j o hj) hb, fun i j oi oj b hi hj h1 h2 =>
  inj i j (List.getElem?_eq_some_iff.1 hi).1 (List.getElem?_eq_some_iff.1 hj).1 (h.dis _ _ oi oj b (hφ i oi hi) (hφ j oj hj) h1 h2)⟩
theorem St.front (h : St H0 w0 H w l) (i : Nat) {o : MO} (hi : l[i]? = some o) {l' : List MO} (hl : o :: l.eraseIdx i = l') : St H0 w0 H w l' := by
 subst hl
 refine h.reidx _ (fun j => if j = 0 then i else if j - 1 < i then j - 1 else j) (fun j o' hj => ?_) (fun j j' h1 h2 he => ?_)
 · cases j with
   | zero => simp at hj; subst hj; simpa using hi
   | succ j =>
    simp only [List.getElem?_cons_succ, List.getElem?_eraseIdx] at hj
    simp only [Nat.add_one_ne_zero, if_false, Nat.add_sub_cancel]
    split at hj
    · rename_i hlt; rw [if_pos hlt]; exact hj
    · rename_i hlt; rw [if_neg hlt]; exact hj
 · have key : ∀ m, (if m = 0 then i else if m - 1 < i then m - 1 else m) = if m = 0 then i else if m - 1 < i then m - 1 else m := fun _ => rfl
   by_cases a1 : j = 0 <;> by_cases a2 : j' = 0 <;> by_cases a3 : j - 1 < i <;> by_cases a4 : j' - 1 < i <;> simp only [a1, a2, a3, a4, if_true, if_false] at he <;> omega
theorem Run.lend {Hl : GH} (_hi : Inc H Hl) (hs : Sl H w) (hr : Run w.heap.size Hl w H' w') : Run w.heap.size H w H w' :=
 ⟨hr.bel, fun _ _ => rfl, fun b o hb => by
  have := hs b o hb
  rw [hr.bel.block b (Array.getElem?_eq_some_iff.1 this).1]; exact this, Inc.rfl H, hr.drw, fun _ _ h => .inl h⟩
theorem St.selT {a L : List MO} (h : St H0 w0 H w (a ++ L)) (is : List Nat) (hnd : is.Nodup) {l' : List MO} (hl : is.map (a[·]?) = l'.map some) : St H0 w0 H w (l' ++ L) := by
 have hlen : is.length = l'.length := by simpa using congrArg List.length hl
 have key : ∀ (j : Nat) (o : MO), l'[j]? = some o → ∃ i, is[j]? = some i ∧ a[i]? = some o := by
  intro j o hj
  have h1 : (l'.map some)[j]? = some (some o) := by simp [hj]
  rw [← hl, List.getElem?_map] at h1
  cases hi : is[j]? with
  | none => rw [hi] at h1; cases h1
  | some i => rw [hi] at h1; exact ⟨i, rfl, by simpa using h1⟩
 refine h.reidx _ (fun j => if j < l'.length then is.getD j 0 else a.length + (j - l'.length)) (fun j o hj => ?_) (fun j j' h1 h2 he => ?_)
 · by_cases hlt : j < l'.length
   · rw [List.getElem?_append_left hlt] at hj
     obtain ⟨i, g1, g2⟩ := key j o hj
     have : is.getD j 0 = i := by rw [List.getD_eq_getElem?_getD, g1]; rfl
     rw [if_pos hlt, this, List.getElem?_append_left (List.getElem?_eq_some_iff.1 g2).1]; exact g2
   · rw [List.getElem?_append_right (by omega)] at hj
     rw [if_neg hlt, List.getElem?_append_right (by omega)]
     simpa using hj
 · have small : ∀ j, j < l'.length → is.getD j 0 < a.length := fun j hlt => by
    obtain ⟨i, g1, g2⟩ := key j l'[j] (by simp [hlt])
    have : is.getD j 0 = i := by rw [List.getD_eq_getElem?_getD, g1]; rfl
    rw [this]; exact (List.getElem?_eq_some_iff.1 g2).1
   by_cases a1 : j < l'.length <;> by_cases a2 : j' < l'.length <;> simp only [a1, a2, if_true, if_false] at he
   · have e1 : is[j]'(by omega) = is[j']'(by omega) := by
      have x1 : is.getD j 0 = is[j]'(by omega) := by rw [List.getD_eq_getElem?_getD, List.getElem?_eq_getElem (by omega)]; rfl
      have x2 : is.getD j' 0 = is[j']'(by omega) := by rw [List.getD_eq_getElem?_getD, List.getElem?_eq_getElem (by omega)]; rfl
      rw [← x1, ← x2]; exact he
     exact (List.getElem_inj hnd).1 e1
   · have := small j a1; omega
   · have := small j' a2; omega
   · omega
end
end Go.Mr
namespace Go.Mr
open Go.RowKit Go.Pu
theorem Sl.of_inc {H H' : GH} {w : World} (hi : Inc H H') (h : Sl H' w) : Sl H w := fun b o hb => h b o (hi b o hb)
section
variable {δ : List Nat} {P : Program} {N : Nat} {f : Fm} {w w' : World} {ops : Array Oper} {S : World → Prop} {M : Fm → World → Prop} {n : Nat} {ls l' : Array Bool} {H : GH}
end
theorem RSl.nilTest {α : Type} {P : Program} {H : GH} {En : Enc α} {t e k : Nat} {z v : Value} {xs : List α} (te : TE P t e k z) (h : RSl H En k v xs) :
 ∃ b, (∀ (f : Fm) (x y : Operand) (n c : Nat) (d : Option Tmp) (t' ty : TypeId) (pos : String) (aft : Array Edge) (gd : Option (Nat × Bool)) (w : World), ev f x = v → ev f y = .slice none n c →
  (execOp (ev f) ⟨d, .binOp .eql t x y t', ty, pos, aft, gd⟩).run P w = .ok (.value (.bool b)) w) ∧ (b = true → xs = []) := by
 obtain ⟨a, cap, rfl, ⟨_, _, _⟩, hx⟩ := h
 refine ⟨a.isNone, fun f x y n c d t' ty pos aft gd w h1 h2 => ?_, fun hn => ?_⟩
 · simp [execOp, h1, h2, Go.Lib.run_eql_slice_nil w t e a xs.length cap n c te.u, eqGuard_at_slice]
 · cases a with
   | some a => cases hn
   | none =>
    cases xs with
    | nil => rfl
    | cons x xs =>
     obtain ⟨p, _, h0, _⟩ := hx 0 x rfl
     cases h0
theorem app_nil2 {α : Type} : app ([] : List α) [] = some [] := rfl
end Go.Mr
namespace Go.Mr
open Go.RowKit Go.Pu
def okO : Obj → Bool
 | .cells _ _ fr => fr == (0, 0)
 | _ => false
def up (B : Nat) (H : GH) : GH := fun b => if b < B then none else (H b).filter okO
theorem up_iff {B : Nat} {H : GH} {b : Nat} {o : Obj} : up B H b = some o ↔ B ≤ b ∧ H b = some o ∧ okO o = true := by
 unfold up
 split
 · exact ⟨nofun, fun h => by omega⟩
 · rename_i hlt
   rw [Option.filter_eq_some_iff]
   exact ⟨fun h => ⟨by omega, h.1, h.2⟩, fun h => ⟨h.2.1, h.2.2⟩⟩
theorem upI {B : Nat} {H : GH} : Inc (up B H) H := fun _ _ h => (up_iff.1 h).2.1
theorem up_mono {B : Nat} {H H' : GH} (h : Inc H H') : Inc (up B H) (up B H') := fun b o hb => by
 rw [up_iff] at *; exact ⟨hb.1, h b o hb.2.1, hb.2.2⟩
theorem up_le {B B' : Nat} {H : GH} (h : B ≤ B') : Inc (up B' H) (up B H) := fun b o hb => by
 rw [up_iff] at *; exact ⟨Nat.le_trans h hb.1, hb.2⟩
def New (H : GH) (cs : List Value) : Prop := ∀ b ∈ bl cs, H b = none
section
variable {P : Program} {w w' : World} {H0 H H' : GH} {w0 : World} {l : List MO} {e k n : Nat} {v : Value} {A : Type} {En : Enc A}
theorem St.sealRowU {xs : List A} (h : St H0 w0 H w l) {i : Nat} {cells : List Value} {l' : List MO} (hi : l[i]? = some (.row e k v n cells)) (he : Els (up w0.heap.size H) En k cells xs) (hk : 0 < k) (hl : l.eraseIdx i = l') :
 ∃ H1, St H0 w0 H1 w l' ∧ Inc H H1 ∧ RSl (up w0.heap.size H1) En k v xs ∧ New H [v] := by
 obtain ⟨H1, h1, h2, h3⟩ := h.sealRow hi (he.mono upI) hk hl
 refine ⟨H1, h1, h2, ?_, fun b hb => ?_⟩
 · obtain ⟨a, cap, rfl, g1, g2⟩ := h3
   refine ⟨a, cap, rfl, g1, fun j x hx => ?_⟩
   obtain ⟨p, cs, rfl, g4, ⟨arr, t, fr, g5, g6⟩, _⟩ := g2 j x hx
   obtain ⟨c, q1, q2, q3⟩ := he.get _ _ hx
   obtain ⟨⟨k1, k2⟩, _⟩ := h.ok i _ hi
   rcases k2 with ⟨hv, _⟩ | ⟨g, cap', cur, hv, hg, hh, hle, hcm, hsz, htk⟩
   · cases hv
   · cases hv
     refine ⟨_, c, rfl, q1, ⟨arr, t, fr, ?_, g6.1, fun m u hu => ?_⟩, En.mono (up_mono h2) q2⟩
     · have hnow := h1.sl _ _ g5
       rw [Addr.add_lit] at g5 hnow ⊢
       simp only at g5 hnow ⊢
       rw [hh] at hnow
       cases hnow
       exact up_iff.2 ⟨hg, g5, rfl⟩
     · have h4 := q3 m u hu
       rw [Addr.add_lit] at g5
       have hnow := h1.sl _ _ g5
       simp only at hnow
       rw [hh] at hnow
       cases hnow
       rw [← htk, List.getElem?_take] at h4
       split at h4
       · rw [Addr.add_lit]; simpa using h4
       · cases h4
 · obtain ⟨u, hu, hn⟩ := mem_bl hb
   simp only [List.mem_singleton] at hu
   subst hu
   refine h.out i _ b hi ?_
   cases u <;> simp only [neb] at hn <;> try (cases hn)
   rename_i a m c
   cases a with
   | none => cases hn
   | some a =>
    simp only at hn
    split at hn
    · cases hn
    · exact hn
theorem New.of_up (hs : Sl H w) {cs : List Value} (hd : ∀ b ∈ bl cs, up w.heap.size H' b ≠ none) : New H cs := fun b hb => by
 cases hh : H b with
 | none => rfl
 | some o =>
  have h1 := (Array.getElem?_eq_some_iff.1 (hs b o hh)).1
  have := hd b hb
  unfold up at this
  rw [if_pos h1] at this
  exact absurd rfl this
def over (B : Nat) (H H' : GH) : GH := fun b => if b < B then H b else (H' b).filter still
theorem okO_cells {o : Obj} (h : okO o = true) : still o = true := by cases o <;> first | rfl | cases h
theorem over_ge {B : Nat} {H H' : GH} {b : Nat} {o : Obj} (hb : B ≤ b) : over B H H' b = some o ↔ H' b = some o ∧ still o = true := by
 unfold over; rw [if_neg (by omega), Option.filter_eq_some_iff]
theorem Run.lendM {Hl : GH} (_hi : Inc H Hl) (hs : Sl H w) (hr : Run w.heap.size Hl w H' w') : Run w.heap.size H w (over w.heap.size H H') w' := by
 refine ⟨hr.bel, fun b hb => by unfold over; rw [if_pos hb], fun b o hb => ?_, fun b o hb => ?_, hr.drw, fun b o hb => ?_⟩
 · by_cases hlt : b < w.heap.size
   · unfold over at hb; rw [if_pos hlt] at hb
     rw [hr.bel.block b hlt]; exact hs b o hb
   · exact hr.sl b o ((over_ge (by omega)).1 hb).1
 · have hlt := (Array.getElem?_eq_some_iff.1 (hs b o hb)).1
   unfold over; rw [if_pos hlt]; exact hb
 · by_cases hlt : b < w.heap.size
   · unfold over at hb; rw [if_pos hlt] at hb; exact .inl hb
   · exact .inr ((over_ge (by omega)).1 hb).2
theorem St.lendM {Hl : GH} {lo : List MO} (hi : Inc H Hl) (hs : Sl H w) (hr : St Hl w H' w' lo) : St H w (over w.heap.size H H') w' lo := by
 refine ⟨Run.lendM hi hs hr.run, hr.ok, fun i o b hi' hb => ?_, hr.dis⟩
 have := ((hr.ok i o hi').lt b hb).1
 unfold over
 rw [if_neg (by omega), hr.out i o b hi' hb]; rfl
theorem up_over {B : Nat} {H H' : GH} : Inc (up B H') (up B (over B H H')) := fun b o h => by
 have h := up_iff.1 h
 exact up_iff.2 ⟨h.1, (over_ge h.1).2 ⟨h.2.1, okO_cells h.2.2⟩, h.2.2⟩
theorem St.lendX {Hl : GH} {lo : List MO} (hi : Inc H Hl) (hs : Sl H w) (hr : St Hl w H' w' lo) : ∃ Hm, St H w Hm w' lo ∧ Inc (up w.heap.size H') (up w.heap.size Hm) :=
 ⟨_, St.lendM hi hs hr, up_over⟩
theorem Els.any {cells : List Value} {xs : List A} (h : Els H En k cells xs) (hE : ∀ (H H' : GH) cs x, En.rel H cs x → En.rel H' cs x) : Els H' En k cells xs := by
 induction h with
 | nil => exact .nil
 | snoc _ hc hx ih => exact .snoc ih hc (hE _ _ _ _ hx)
end
end Go.Mr
namespace Go.Mr
open Go.RowKit Go.Pu
section
variable {P : Program} {w w' : World} {H0 H H' : GH} {w0 : World} {l : List MO} {e k n t : Nat} {v u : Value} {A : Type} {En : Enc A}
def Nest {A : Type} (G : GH) (En : Enc A) (k : Nat) (v : Value) (xs : List A) (c : List Value) : Prop :=
 RSl G En k v xs ∧ Els G En k c xs ∧ (∀ a len cap, v = .slice (some a) len cap → xs ≠ [] → CAt G a c) ∧ (bl c).Nodup ∧ ∀ b ∈ bl [v], b ∉ bl c
end
end Go.Mr
namespace Go.Mr
open Go.RowKit Go.Pu
section
variable {P : Program} {w w' : World} {H0 H H' Hs : GH} {w0 : World} {l : List MO} {t e k : Nat} {v u : Value} {A : Type} {En : Enc A} {B lo hi : Nat}
def sg (lo hi : Nat) (H : GH) : GH := fun b => if b < hi then up lo H b else none
structure Wr (Hs H : GH) (p : Addr) (ci ci' : List Value) : Prop where
 out : ∀ b, b ≠ p.block → b ∉ bl ci → H b = Hs b
 arr : ∃ arr arr' e, Hs p.block = some (.cells arr e (0, 0)) ∧ H p.block = some (.cells arr' e (0, 0)) ∧ arr'.size = arr.size ∧ (∀ (j : Nat) u, ci'[j]? = some u → arr'[p.off + j]? = some u) ∧
  ∀ j, j < p.off ∨ p.off + ci.length ≤ j → arr'[j]? = arr[j]?
 len : ci'.length = ci.length
 spot : p.spot = none
 blk : bl ci' = bl ci
 own : p.block ∉ bl ci
theorem addr_eta {p : Addr} (h : p.spot = none) (j : Nat) : p.add j = ⟨p.block, p.off + j, none⟩ := by
 unfold Addr.add
 split
 · rename_i h0; subst h0; cases p; simp_all
 · rfl
@[reducible] def M1 (H0 : GH) (w0 : World) (Ha : GH) (l : List MO) {A : Type} (En : Enc A) (k : Nat) (v : Value) (r : List A × Int) : Ending → World → Prop := fun e w' =>
 ∃ H' : GH, e = .returned (.int .i64 r.2) ∧ St H0 w0 H' w' l ∧ RSl (up w0.heap.size H') En k v r.1 ∧ ∀ b, b ∉ bl [v] → H' b = Ha b
@[reducible] def M2 (H0 : GH) (w0 : World) (Ha : GH) (l : List MO) {A : Type} (En : Enc A) (k : Nat) (v : Value) (c0 : List Value) (r : List A × Int) : Ending → World → Prop := fun e w' =>
 ∃ (H' : GH) (c' : List Value), e = .returned (.int .i64 r.2) ∧ St H0 w0 H' w' l ∧ Nest (up w0.heap.size H') En k v r.1 c' ∧ bl c' = bl c0 ∧ ∀ b, b ∉ bl [v] → b ∉ bl c0 → ∀ o, Ha b = some o → H' b = some o
end
end Go.Mr
namespace Go.Pu
def okL {A : Type} (ok : A → Prop) (xs : List A) : Prop := xs.length ≤ 9223372036854775807 ∧ ∀ x ∈ xs, ok x
section
variable {α β S X : Type}
theorem forL_inv {body : Nat → α → S → Option (Lp S X)} (I : Nat → S → Prop) {l : List α} {s : S} (h0 : I 0 s)
 (hb : ∀ i x s, l[i]? = some x → I i s → ∃ s', body i x s = some (.nx s') ∧ I (i + 1) s') : ∃ s', forL l body s = some (.go s') ∧ I l.length s' := by
 have key : ∀ (m p : List α) (s : S), l = p ++ m → I p.length s → ∃ s', forLFrom body m p.length s = some (.go s') ∧ I l.length s' := by
  intro m
  induction m with
  | nil =>
   intro p s hm hi
   refine ⟨s, rfl, ?_⟩
   rw [hm, List.append_nil]; exact hi
  | cons x m ih =>
   intro p s hm hi
   have hx : l[p.length]? = some x := by rw [hm]; simp
   obtain ⟨s', h1, h2⟩ := hb p.length x s hx hi
   obtain ⟨s'', h3, h4⟩ := ih (p ++ [x]) s' (by rw [hm]; simp) (by simpa using h2)
   refine ⟨s'', ?_, h4⟩
   rw [forLFrom, h1]
   simpa using h3
 exact key l [] s rfl h0
def anyI (p : Nat → α → Bool) : List α → Nat → Bool
 | [], _ => false
 | y :: l, i => p i y || anyI p l (i + 1)
theorem anyI_any (p : α → Bool) (l : List α) (i : Nat) : anyI (fun _ y => p y) l i = l.any p := by
 induction l generalizing i with
 | nil => rfl
 | cons y l ih => simp [anyI, ih]
theorem anyI_false {p : Nat → α → Bool} : ∀ {l : List α} {k : Nat}, anyI p l k = false ↔ ∀ i y, l[i]? = some y → p (k + i) y = false := by
 intro l
 induction l with
 | nil => intro k; simp [anyI]
 | cons y l ih =>
  intro k
  simp only [anyI, Bool.or_eq_false_iff, ih]
  constructor
  · rintro ⟨h1, h2⟩ i z hz
    cases i with
    | zero => simp at hz; subst hz; simpa using h1
    | succ i => have := h2 i z (by simpa using hz); rwa [show k + 1 + i = k + (i + 1) by omega] at this
  · intro h
    refine ⟨by simpa using h 0 y rfl, fun i z hz => ?_⟩
    have := h (i + 1) z (by simpa using hz); rwa [show k + (i + 1) = k + 1 + i by omega] at this
theorem forL_any {body : Nat → α → Unit → Option (Lp Unit X)} {p : Nat → α → Bool} {v : X} {l : List α} {u : Unit} (h : ∀ i y, l[i]? = some y → body i y () = (bif p i y then some (.rt v) else some (.nx ()))) :
 forL l body u = some (bif anyI p l 0 then .rt v else .go ()) := by
 have key : ∀ (m : List α) (k : Nat), (∀ i y, m[i]? = some y → body (k + i) y () = (bif p (k + i) y then some (.rt v) else some (.nx ()))) → forLFrom body m k () = some (bif anyI p m k then .rt v else .go ()) := by
  intro m
  induction m with
  | nil => intro k _; rfl
  | cons y m ih =>
   intro k hm
   have h0 := hm 0 y rfl
   rw [Nat.add_zero] at h0
   rw [forLFrom, h0]
   cases hp : p k y with
   | true => simp [anyI, hp]
   | false =>
    simp only [cond_false, anyI, hp, Bool.false_or]
    exact ih (k + 1) fun i z hz => by have := hm (i + 1) z (by simpa using hz); rwa [show k + (i + 1) = k + 1 + i by omega] at this
 exact key l 0 fun i y hy => by rw [Nat.zero_add]; exact h i y hy
def findI (p : Nat → α → Bool) : List α → Nat → Option (Nat × α)
 | [], _ => none
 | y :: l, i => bif p i y then some (i, y) else findI p l (i + 1)
theorem forL_find {body : Nat → α → Unit → Option (Lp Unit X)} {p : Nat → α → Bool} {v : Nat → α → X} {l : List α} {u : Unit} (h : ∀ i y, l[i]? = some y → body i y () = (bif p i y then some (.rt (v i y)) else some (.nx ()))) :
 forL l body u = some (match findI p l 0 with | some z => .rt (v z.1 z.2) | none => .go ()) := by
 have key : ∀ (m : List α) (k : Nat), (∀ i y, m[i]? = some y → body (k + i) y () = (bif p (k + i) y then some (.rt (v (k + i) y)) else some (.nx ()))) → forLFrom body m k () = some (match findI p m k with | some z => .rt (v z.1 z.2) | none => .go ()) := by
  intro m
  induction m with
  | nil => intro k _; rfl
  | cons y m ih =>
   intro k hm
   have h0 := hm 0 y rfl
   rw [Nat.add_zero] at h0
   rw [forLFrom, h0]
   cases hp : p k y with
   | true => simp [findI, hp]
   | false =>
    simp only [cond_false, findI, hp]
    exact ih (k + 1) fun i z hz => by have := hm (i + 1) z (by simpa using hz); rwa [show k + (i + 1) = k + 1 + i by omega] at this
 exact key l 0 fun i y hy => by rw [Nat.zero_add]; exact h i y hy
theorem findI_none {p : Nat → α → Bool} : ∀ {l : List α} {k : Nat}, findI p l k = none ↔ anyI p l k = false := by
 intro l
 induction l with
 | nil => intro k; simp [findI, anyI]
 | cons y l ih =>
  intro k
  simp only [findI, anyI]
  cases p k y <;> simp [ih]
theorem findI_some {p : Nat → α → Bool} : ∀ {l : List α} {k : Nat} {z : Nat × α}, findI p l k = some z → k ≤ z.1 ∧ l[z.1 - k]? = some z.2 ∧ p z.1 z.2 = true ∧ anyI p l k = true := by
 intro l
 induction l with
 | nil => intro k z h; simp [findI] at h
 | cons y l ih =>
  intro k z h
  simp only [findI] at h
  cases hp : p k y with
  | true => rw [hp] at h; simp at h; subst h; simp [anyI, hp]
  | false =>
   rw [hp] at h
   simp only [cond_false] at h
   obtain ⟨h1, h2, h3, h4⟩ := ih h
   refine ⟨by omega, ?_, h3, by simp [anyI, h4]⟩
   rw [show z.1 - k = (z.1 - (k + 1)) + 1 by omega, List.getElem?_cons_succ]; exact h2
theorem ix_of {xs : List α} {i : Int} (h0 : 0 ≤ i) (h1 : i < xs.length) : ∃ x, ix xs i = some x ∧ xs[i.toNat]? = some x := by
 refine ⟨xs[i.toNat]'(by omega), ?_, List.getElem?_eq_getElem (by omega)⟩
 unfold ix; rw [if_pos h0]; exact List.getElem?_eq_getElem (by omega)
theorem app_ok {xs ys : List α} (h : xs.length + ys.length ≤ lim) : app xs ys = some (xs ++ ys) := by unfold app; rw [if_pos h]
theorem put_ok {xs : List α} {i : Nat} {x : α} (h : i < xs.length) : put xs (i : Int) x = some (xs.set i x) := by unfold put; rw [if_pos (by omega)]; simp
theorem mk2_ok {z : α} {n : Nat} (h : n ≤ lim) : mk2 z (n : Int) (n : Int) = some (List.replicate n z) := by unfold mk2; rw [if_pos (by unfold lim at h ⊢; omega)]; simp
theorem len_eq (xs : List α) : len xs = (xs.length : Int) := rfl
@[simp] theorem bif_ff {c d : Bool} : (bif c then d else false) = (c && d) := by cases c <;> rfl
@[simp] theorem bif_tt {c d : Bool} : (bif c then true else d) = (c || d) := by cases c <;> rfl
def tot (wt : α → Nat) : List α → Nat
 | [] => 0
 | y :: l => wt y + tot wt l
end
end Go.Pu
namespace Go.Mr
open Go.RowKit Go.Pu
def hpOf (w : World) : GH := fun b => w.heap[b]?
theorem sl_hpOf (w : World) : Sl (hpOf w) w := fun _ _ h => h
def RdT (P : Program) (w : World) (t : TypeId) {A : Type} (En : Enc A) (ok : A → Prop) : Prop :=
 ∀ {H : Type} {enc : TypeId × Value → H} {base : Nat} {spare : Nat → Bool} {held : Bool} {fuel : Nat} {cs : List Value} {x : DataW H × List MemPlace}, DataW.trod enc P w base spare held fuel t cs = some x → ∃ a, En.rel (hpOf w) cs a ∧ ok a
section
variable {P : Program} {w : World} {t e k : Nat} {A : Type} {En : Enc A} {ok : A → Prop}
theorem cell_block {p : Addr} {c : Value} (h : w.cell? p = some c) : p.spot = Option.none ∧ ∃ arr e fr, w.heap[p.block]? = some (.cells arr e fr) ∧ arr[p.off]? = some c := by
 have hs := World.cell?_spot h
 refine ⟨hs, ?_⟩
 unfold World.cell? at h
 split at h
 · rename_i arr e fr hb
   split at h
   · cases h
   · exact ⟨arr, e, fr, hb, h⟩
 · cases h
theorem cat_of_cells {base : Nat} {p : Addr} {cs : List Value} (hk : 0 < k) (h : w.cells? base p k = some cs) : cs.length = k ∧ CAt (hpOf w) p cs := by
 obtain ⟨_, hl, hc⟩ := World.cells?_some h
 refine ⟨hl, ?_⟩
 obtain ⟨c0, h0⟩ : ∃ c0, cs[0]? = some c0 := ⟨cs[0]'(by omega), List.getElem?_eq_getElem (by omega)⟩
 have := hc 0 hk
 rw [h0, Addr.add_zero'] at this
 obtain ⟨hs, arr, e, fr, hb, _⟩ := cell_block this
 refine ⟨arr, e, fr, hb, hs, fun j c hj => ?_⟩
 have hjk : j < k := by rw [← hl]; exact (List.getElem?_eq_some_iff.1 hj).1
 have h2 := hc j hjk
 rw [hj] at h2
 obtain ⟨_, arr', e', fr', hb', hc'⟩ := cell_block h2
 have hbl : (p.add j).block = p.block := by unfold Addr.add; split <;> rfl
 rw [hbl, hb] at hb'
 cases hb'
 rw [addr_eta hs] at hc'
 exact hc'
theorem RdT.slice (ht : P.underlying t = some (.slice e)) (hc : P.cellsOf e = k) (hk : 0 < k) (he : RdT P w e En ok) : RdT P w t (eL En k) (okL ok) := fun {H enc base spare held fuel cs x} h => by
 rcases DataW.trod_slice ht h with ⟨rfl, _⟩ | ⟨a, len, cap, elems, rest, n, _, rfl, _, _, hle, hm, hlen, hel, _⟩
 · exact ⟨[], ⟨_, rfl, RSl.nil _ _ _⟩, by simp, by simp⟩
 · rw [hc] at hel
   have key : ∀ m, m ≤ len → ∃ xs : List A, xs.length = m ∧ ∀ i x, xs[i]? = some x → ∃ cs, cs.length = k ∧ CAt (hpOf w) (a.add (i * k)) cs ∧ En.rel (hpOf w) cs x ∧ ok x := by
    intro m
    induction m with
    | zero => intro _; exact ⟨[], rfl, by simp⟩
    | succ m ih =>
     intro hlt
     obtain ⟨xs, h1, h2⟩ := ih (by omega)
     have h3 := hel m (by omega)
     rw [List.getElem?_eq_getElem (by omega)] at h3
     obtain ⟨cs', h4, h5⟩ := Option.bind_eq_some_iff.1 h3
     obtain ⟨y, hy, hok⟩ := he h5
     obtain ⟨h6, h7⟩ := cat_of_cells hk h4
     refine ⟨xs ++ [y], by simp [h1], fun i x hx => ?_⟩
     rcases Nat.lt_or_ge i xs.length with hi | hi
     · rw [List.getElem?_append_left hi] at hx; exact h2 i x hx
     · have : i = xs.length := by have := (List.getElem?_eq_some_iff.1 hx).1; simp at this; omega
       subst this
       simp at hx; subst hx
       rw [h1]
       exact ⟨cs', h6, h7, hy, hok⟩
   obtain ⟨xs, h1, h2⟩ := key len (Nat.le_refl _)
   subst h1
   refine ⟨xs, ⟨_, rfl, some a, cap, rfl, ⟨by omega, nofun, hle⟩, fun i x hx => let ⟨cs, g1, g2, g3, _⟩ := h2 i x hx; ⟨a, cs, rfl, g1, g2, g3⟩⟩, by simp only [maxLen] at hm; omega, fun x hx => ?_⟩
   obtain ⟨i, hi⟩ := List.mem_iff_getElem?.1 hx
   obtain ⟨_, _, _, _, h⟩ := h2 i x hi
   exact h
variable {H : Type} {enc : TypeId × Value → H} {base b0 : Nat} {spare : Nat → Bool} {held : Bool} {r : Reach} {v : Value} {d : DataW H} {ps : List MemPlace}
theorem arg_slice (ht : P.underlying t = some (.slice e)) (hc : P.cellsOf e = k) (hk : 0 < k) (he : RdT P w e En ok) (hval : Value.okWide P w r b0 t v) (h : DataW.Trod enc P w base spare held t v d ps) : ∃ xs : List A, RSl (hpOf w) En k v xs ∧ okL ok xs := by
 obtain ⟨a, len, cap, rfl⟩ := WideShapes.okWide_slice ht hval
 obtain ⟨fuel, h⟩ := h
 obtain ⟨xs, ⟨v', h1, h2⟩, h3⟩ := RdT.slice ht hc hk he h
 simp only [Value.cells, List.cons.injEq, and_true] at h1
 subst h1
 exact ⟨xs, h2, h3⟩
theorem trod_stays {W W' : World} (hl : laidOutB P = true) (hr : P.readableRec t = true) (hrow : t < P.types.size) (hb : Below W.heap.size W W') {ps : List MemPlace} (hp : ∀ p ∈ ps, p.block < W.heap.size)
 (h : DataW.Trod enc P W base (fun _ => true) true t v d ps) : DataW.Trod enc P W' base (fun b => decide (b < W.heap.size)) true t v d ps :=
 WideElems.Trod_stays hl hr hrow h (fun p h => hb.same (hp p h)) (fun p h => by simpa using hp p h)
end
end Go.Mr
namespace Go.Pu
def catS (a b : ByteArray) : Option ByteArray := if a.size + b.size ≤ 9223372036854775807 then some (a ++ b) else none
end Go.Pu
namespace Go.Pu
def ixS (s : ByteArray) (i : Int) : Option Int := if 0 ≤ i then (s.data[i.toNat]?).map fun b => (b.toNat : Int) else none
theorem ixS_some {s : ByteArray} {i b : Int} (h : ixS s i = some b) : 0 ≤ i ∧ ∃ u : UInt8, s.data[i.toNat]? = some u ∧ b = (u.toNat : Int) := by
 unfold ixS at h
 split at h
 · rename_i h0
   cases hu : s.data[i.toNat]? with
   | none => rw [hu] at h; cases h
   | some u => rw [hu] at h; cases h; exact ⟨h0, u, rfl, rfl⟩
 · cases h
def cutS (s : ByteArray) (a b : Int) : Option ByteArray := if 0 ≤ a ∧ a ≤ b ∧ b ≤ s.size then some (s.extract a.toNat b.toNat) else none
theorem cutS_some {s r : ByteArray} {a b : Int} (h : cutS s a b = some r) : 0 ≤ a ∧ a ≤ b ∧ b ≤ s.size ∧ r = s.extract a.toNat b.toNat := by
 unfold cutS at h; split at h
 · rename_i h0; cases h; exact ⟨h0.1, h0.2.1, h0.2.2, rfl⟩
 · cases h
def okU8 (n : Int) : Prop := 0 ≤ n ∧ n ≤ 255
def chrS (n : Int) : Option ByteArray := if 0 ≤ n ∧ n < 128 then some ⟨#[UInt8.ofNat n.toNat]⟩ else none
end Go.Pu
namespace Go.Mr
open Go.RowKit Go.Pu
theorem RdT.u8 {P : Program} {w : World} {t : TypeId} (ht : P.underlying t = some (.int .u8)) : RdT P w t (eN .u8) okU8 := fun h => by
 obtain ⟨n, rfl, _, hw⟩ := DataW.trod_int ht h
 refine ⟨n, rfl, ?_⟩
 simp [Lit.wf, IntKind.min, IntKind.max, IntKind.signed, IntKind.bits] at hw
 exact hw
end Go.Mr
namespace Go.Mr
open Go.RowKit Go.Pu
def TabH (P : Program) (name : String) (k : IntKind) (zs : List Int) (H : GH) : Prop := ∃ g e fr, P.globalNamed name = some g ∧ H g = some (.cells (zs.map fun z => Value.int k z).toArray e fr)
@[reducible] def TabI (P : Program) (H : GH) : Prop := TabH P "internal/strconv.uint64pow10" .u64 Lib.pow10Tab H
theorem CAt.ixs {H : GH} {p : Addr} {xs : List ByteArray} {i : Int} {x : ByteArray} (h : CAt H p (xs.map Value.string)) (hx : ix xs i = some x) : ∃ j : Nat, i = (j : Int) ∧ j < xs.length ∧ CAt H (p.add j) [Value.string x] := by
 obtain ⟨h0, h1, h2⟩ := ix_some hx
 obtain ⟨arr, e, fr, g1, g2, g3⟩ := h
 refine ⟨i.toNat, by omega, by omega, arr, e, fr, ?_, ?_, fun j c hj => ?_⟩
 · unfold Addr.add; split <;> exact g1
 · unfold Addr.add; split
   · exact g2
   · rfl
 · have hj0 : j = 0 := by have := (List.getElem?_eq_some_iff.1 hj).1; simp at this; omega
   subst hj0
   simp at hj; subst hj
   have := g3 i.toNat (Value.string x) (by rw [List.getElem?_map, h2]; rfl)
   unfold Addr.add; split
   · rename_i hz; rw [hz] at this; simpa using this
   · simpa using this
section
variable {P : Program} {f : Fm} {w : World} {d : Option Tmp} {ty : TypeId} {pos : String} {aft : Array Edge} {gd : Option (Nat × Bool)} {x y : Operand} {t t' : TypeId}
theorem E.addT {a b c : ByteArray} (hx : ev f x = .string a) (hy : ev f y = .string b) (h : catS a b = some c) : (execOp (ev f) ⟨d, .binOp .add t x y t', ty, pos, aft, gd⟩).run P w = .ok (.value (.string c)) w :=
 E.addS (catS := catS) hx hy h fun a b c h => by
  unfold catS at h; split at h
  · rename_i hh; cases h; exact ⟨hh, rfl⟩
  · cases h
end
end Go.Mr
namespace Go.Mr
open Go.RowKit Go.Pu Go.Sort
open Go.Proofs (OneCell CmpLays1 sortWorld ltOf)
section
variable {P : Program} {w w' : World} {H0 H H' : GH} {w0 : World} {l : List MO} {e n : Nat} {v : Value} {A : Type} {En : Enc A}
theorem heap_sorted1 {α : Type} [Inhabited α] {enc : α → Value} {w : World} {g m : Nat} {os : Array Obj} {cur : Array Value} {e : TypeId} {fr : Nat × Nat} (d : Array α) (hb : w.heap[g]? = some (.cells cur e fr)) :
 (sortWorld enc w g 0 m d os).heap[g]? = some (.cells (putCells enc 0 d cur) e fr) := by
 have hg : g < w.heap.size := (Array.getElem?_eq_some_iff.1 hb).1
 unfold sortWorld
 rw [heap_grow_old _ _ (by simpa using hg)]
 simp [putRow, mapBlock, Sort.ahead, Array.getElem?_modify, hb, onCells]
theorem grownBy_sorted1 {α : Type} [Inhabited α] {enc : α → Value} {w : World} {g m : Nat} {os : Array Obj} (d : Array α) : w.grownBy (sortWorld enc w g 0 m d os) (some g) := by
 unfold sortWorld
 refine ⟨rfl, rfl, rfl, by simp, fun k hk hne => ?_⟩
 rw [heap_grow_old _ _ (by simpa using hk)]
 have : g ≠ k := fun e => hne (by rw [e])
 simp [putRow, mapBlock, Sort.ahead, Array.getElem?_modify, this]
theorem take_putCells1 {α : Type} [Inhabited α] {enc : α → Value} (cur : Array Value) (ts : List α) (n : Nat) (hn : n ≤ ts.length) (h : ts.length ≤ cur.size) : (putCells enc 0 ts.toArray cur).toList.take n = (ts.take n).map enc := by
 apply List.ext_getElem?
 intro j
 by_cases hj : j < n
 · rw [List.getElem?_take_of_lt hj, Array.getElem?_toList]
   simp [putCells, hj, show j < cur.size by omega, show j < ts.length by omega]
 · rw [List.getElem?_take_eq_none (by omega), List.getElem?_eq_none (by simp; omega)]
theorem St.turned (h : St H0 w0 H w l) {i g cap m n' : Nat} {cells : List Value} (hi : l[i]? = some (.row e 1 (.slice (some ⟨g, 0, Option.none⟩) n cap) n cells)) {α : Type} [Inhabited α] {enc : α → Value} (h1 : OneCell enc) (d : List α) (os : Array Obj)
 (hn : n' ≤ d.length) (hd : d.length ≤ n) :
 St H0 w0 H (sortWorld enc w g 0 m d.toArray os) (l.set i (.row e 1 (.slice (some ⟨g, 0, Option.none⟩) n' cap) n' ((d.take n').map enc))) := by
 obtain ⟨⟨k1, k2⟩, k3⟩ := h.ok i _ hi
 rcases k2 with ⟨h3, _⟩ | ⟨g', cap', cur, hv, hg, hh, hle, hcm, hsz, htk⟩
 · cases h3
 cases hv
 refine h.upd hi (grownBy_sorted1 _) (by unfold sortWorld; simp [Sort.ahead, Go.Sort.grow]) ⟨⟨by simp; omega, .inr ⟨g, cap, _, rfl, hg, heap_sorted1 _ hh, by omega, hcm, by simp [putCells, hsz], ?_⟩⟩, ?_⟩ (fun b hb => .inl hb)
 · rw [Nat.mul_one]; exact take_putCells1 cur d n' hn (by omega)
 · intro u hu
   obtain ⟨y, _, rfl⟩ := List.mem_map.1 hu
   exact h1 y
theorem St.holds1 (h : St H0 w0 H w l) {i g cap : Nat} {cells : List Value} (hi : l[i]? = some (.row e 1 (.slice (some ⟨g, 0, Option.none⟩) n cap) n cells)) {α : Type} [Inhabited α] {enc : α → Value} (d : List α) (hd : d.map enc = cells) :
 Holds enc w g 0 d.toArray ∧ g < w.heap.size ∧ d.length = n ∧ n ≤ cap ∧ cap ≤ maxLen := by
 obtain ⟨⟨k1, k2⟩, k3⟩ := h.ok i _ hi
 rcases k2 with ⟨h3, _⟩ | ⟨g', cap', cur, hv, hg, hh, hle, hcm, hsz, htk⟩
 · cases h3
 cases hv
 have hl : d.length = n := by rw [← hd] at k1; simpa using k1
 refine ⟨fun j hj => ?_, (Array.getElem?_eq_some_iff.1 hh).1, hl, hle, hcm⟩
 simp only [List.size_toArray] at hj
 have hc : cells[j]? = some (enc d[j]) := by rw [← hd]; simp [hj]
 rw [Nat.zero_add]
 constructor
 · rw [cell_of_row w g _ _ _ _ hh]
   rw [← htk, List.getElem?_take] at hc
   split at hc
   · simpa [hj] using hc
   · cases hc
 · simp [World.frozen?, hh]
theorem keeps_append {A : Type} [DecidableEq A] [Inhabited A] (xs : List A) (y : A) (j : Nat) (hj : j < xs.length) : Go.Lib.keeps (xs ++ [y]).toArray j = Go.Lib.keeps xs.toArray j := by
 have h1 : (xs ++ [y]).toArray[j]! = xs.toArray[j]! := by
  rw [getElem!_pos _ j (by simp; omega), getElem!_pos _ j (by simpa using hj)]; simp [List.getElem_append_left hj]
 have h2 : (xs ++ [y]).toArray[j - 1]! = xs.toArray[j - 1]! := by
  rw [getElem!_pos _ (j - 1) (by simp; omega), getElem!_pos _ (j - 1) (by simp; omega)]; simp [List.getElem_append_left (show j - 1 < xs.length by omega)]
 simp only [Go.Lib.keeps, h1, h2]
theorem compactUpTo_append {A : Type} [DecidableEq A] [Inhabited A] (xs : List A) (y : A) (m : Nat) (hm : m ≤ xs.length) : Go.Lib.compactUpTo (xs ++ [y]).toArray m = Go.Lib.compactUpTo xs.toArray m := by
 induction m with
 | zero => rfl
 | succ m ih =>
  rw [Go.Lib.compactUpTo_succ, Go.Lib.compactUpTo_succ, ih (by omega), keeps_append xs y m (by omega)]
  have h1 : (xs ++ [y]).toArray[m]! = xs.toArray[m]! := by
   rw [getElem!_pos _ m (by simp; omega), getElem!_pos _ m (by simp; omega)]; simp [List.getElem_append_left (show m < xs.length by omega)]
  rw [h1]
theorem compactL_snoc {A : Type} [DecidableEq A] : ∀ (xs : List A) (y : A), compactL (xs ++ [y]) = if xs.getLast? = some y then compactL xs else compactL xs ++ [y]
 | [], y => by simp [compactL]
 | [x], y => by
  by_cases h : x = y
  · subst h; simp [compactL]
  · simp [compactL, h]
 | x :: x' :: xs, y => by
  have ih := compactL_snoc (x' :: xs) y
  simp only [List.cons_append] at ih
  by_cases h : x = x'
  · simp only [List.cons_append, compactL, h, if_true]
    rw [ih]; simp [List.getLast?_cons_cons]
  · simp only [List.cons_append, compactL, h, if_false]
    rw [ih]
    simp only [List.getLast?_cons_cons]
    split <;> simp
theorem compactL_eq {A : Type} [DecidableEq A] [Inhabited A] (xs : List A) : Go.Lib.compactUpTo xs.toArray xs.length = compactL xs := by
 rw [← List.reverse_reverse xs]
 generalize xs.reverse = ys
 induction ys with
 | nil => rfl
 | cons y ys ih =>
  rw [List.reverse_cons]
  generalize ys.reverse = xs at ih ⊢
  rw [compactL_snoc, List.length_append, List.length_singleton, Go.Lib.compactUpTo_succ, compactUpTo_append xs y _ (Nat.le_refl _), ih]
  have hy : (xs ++ [y]).toArray[xs.length]! = y := by rw [getElem!_pos _ _ (by simp)]; simp
  rw [hy]
  rcases Nat.eq_zero_or_pos xs.length with h0 | h0
  · have : xs = [] := List.eq_nil_of_length_eq_zero h0
    subst this; simp [Go.Lib.keeps]
  · have hp : (xs ++ [y]).toArray[xs.length - 1]! = xs[xs.length - 1] := by rw [getElem!_pos _ _ (by simp; omega)]; simp [List.getElem_append_left (show xs.length - 1 < xs.length by omega)]
    have hg : xs.getLast? = some xs[xs.length - 1] := by rw [List.getLast?_eq_getElem?, List.getElem?_eq_getElem]
    simp only [Go.Lib.keeps, hy, hp, hg, Option.some.injEq]
    by_cases h : xs[xs.length - 1] = y
    · have : ¬ xs.length = 0 := by omega
      simp [h, this]
    · have : ¬ y = xs[xs.length - 1] := fun e => h e.symm
      simp [h, this]
theorem compactL_le {A : Type} [DecidableEq A] : ∀ (xs : List A), (compactL xs).length ≤ xs.length
 | [] => by simp [compactL]
 | [x] => by simp [compactL]
 | x :: x' :: xs => by
  have ih := compactL_le (x' :: xs)
  by_cases h : x = x'
  · simp only [compactL, h, if_true]; simp at ih ⊢; omega
  · simp only [compactL, h, if_false]; simp at ih ⊢; omega
theorem St.compactF {G : GH} [DecidableEq A] [Inhabited A] (h : St H0 w0 H w l) {i : Nat} {cells : List Value} (hi : l[i]? = some (.row e 1 v n cells)) {xs : List A} (he : Els G En 1 cells xs) {fid : Nat} {enc : A → Value} (h1 : OneCell enc)
 (henc : ∀ (H : GH) c x, En.rel H [c] x → c = enc x) (hrel : ∀ (H : GH) x, En.rel H [enc x] x) (z : A)
 (k0 : ∀ (w : World), Calls P fid #[.slice Option.none 0 0] w fun e w' => e = .returned (.slice Option.none 0 0) ∧ w' = w)
 (k1 : ∀ (blk off cap : Nat) (d : Array A) (w : World) (_ : Holds enc w blk off d) (_ : d.size ≤ 9223372036854775807) (_ : d.size ≤ cap),
  Calls P fid #[.slice (some ⟨blk, off, Option.none⟩) d.size cap] w fun e w' => e = .returned (.slice (some ⟨blk, off, Option.none⟩) (Go.Lib.compactUpTo d d.size).length cap) ∧
   ∃ q, w' = Go.Sort.putRow enc (Sort.ahead w q) blk off (Go.Lib.compactUpTo d d.size ++ List.replicate (d.size - (Go.Lib.compactUpTo d d.size).length) z).toArray) :
 Calls P fid #[v] w fun e' w' => ∃ v' n' cells', e' = .returned v' ∧ St H0 w0 H w' (l.set i (.row e 1 v' n' cells')) ∧ Els G En 1 cells' (compactL xs) := by
 obtain ⟨⟨g1, g2⟩, g3⟩ := h.ok i _ hi
 have hlen := he.length
 have hset : l.set i (.row e 1 v n cells) = l := by
  apply List.ext_getElem?
  intro j
  rw [List.getElem?_set]
  split
  · rename_i hij; subst hij; rw [hi]; simp [(List.getElem?_eq_some_iff.1 hi).1]
  · rfl
 rcases g2 with ⟨rfl, rfl⟩ | ⟨g, cap, cur, rfl, hg, hh, hle, hcm, hsz, htk⟩
 · have : xs = [] := by rw [g1] at hlen; apply List.eq_nil_of_length_eq_zero; omega
   subst this
   refine (k0 w).mono ?_
   rintro _ _ ⟨rfl, rfl⟩
   exact ⟨_, _, cells, rfl, by rw [hset]; exact h, by simpa [compactL] using he⟩
 · have hcells : xs.map enc = cells := by
    clear hi g1 g3 hset htk hlen
    induction he with
    | nil => rfl
    | snoc hp hc hx ih =>
     rename_i cells xs c x
     match c, hc, hx with
     | [c0], _, hx => rw [List.map_append, ih, henc _ _ _ hx]; rfl
   obtain ⟨hH, hblk, hdl, hcap, hcm2⟩ := h.holds1 hi xs hcells
   have hK := k1 g 0 cap xs.toArray w hH (by simp [hdl]; simp only [maxLen] at hcm; omega) (by simp [hdl]; omega)
   simp only [List.size_toArray, hdl] at hK
   have hcl : Go.Lib.compactUpTo xs.toArray n = compactL xs := by rw [← hdl]; exact compactL_eq xs
   rw [hcl] at hK
   refine hK.mono ?_
   rintro _ _ ⟨rfl, q, rfl⟩
   have hcle : (compactL xs).length ≤ n := by rw [← hdl]; exact compactL_le xs
   have hT := h.turned (m := q) (n' := (compactL xs).length) hi h1 (compactL xs ++ List.replicate (n - (compactL xs).length) z) #[] (by simp) (by simp; omega)
   unfold sortWorld at hT
   rw [grow_empty, List.take_left'  rfl] at hT
   refine ⟨_, _, _, rfl, hT, ?_⟩
   generalize compactL xs = ys
   rw [← List.reverse_reverse ys]
   generalize ys.reverse = ys
   induction ys with
   | nil => exact .nil
   | cons y ys ih => rw [List.reverse_cons, List.map_append]; exact .snoc ih rfl (hrel _ _)
end
end Go.Mr
namespace Go.Proofs
open Go.Shelf Go.RowKit Go.Lib Go.Sort
theorem compact_none {P : Program} {ρ : Ren} (L : SlLaysE.n43 P ρ) (w : World) :
 Calls P (ρ.f 43) #[.slice none 0 0] w fun e w' => e = .returned (.slice none 0 0) ∧ w' = w := by
 have mixed := L.mixed; have t0 := L.t0; have a0 := L.a0; have z0 := L.z0; have v0 := L.v0; have t3 := L.t3; have a3 := L.a3; have z3 := L.z3; have v3 := L.v3; have t4 := L.t4; have a4 := L.a4; have z4 := L.z4; have v4 := L.v4; have t22 := L.t22; have a22 := L.a22; have z22 := L.z22; have v22 := L.v22; have a23 := L.a23; have z23 := L.z23
 obtain ⟨_, _, FG⟩ := L.f43
 go_enter FG, SlBodyN.n43_ntmps ρ
 go_wp2
 go_ret
 exact ⟨rfl, rfl⟩
end Go.Proofs
namespace Go.Mr
open Go.RowKit Go.Pu Go.Sort
open Go.Proofs (OneCell CmpLays1 sortWorld ltOf)
section
variable {P : Program} {w w' : World} {H0 H H' : GH} {w0 : World} {l : List MO} {e n : Nat} {v : Value}
theorem els_eI {G : GH} {cells : List Value} {xs : List Int} (h : Els G eI 1 cells xs) : cells = xs.map (Value.int .i64) := by
 induction h with
 | nil => rfl
 | snoc _ _ hx ih => rw [ih, eI_open hx]; simp
theorem eI_els {G : GH} (xs : List Int) : Els G eI 1 (xs.map (Value.int .i64)) xs := by
 rw [← List.reverse_reverse xs]
 generalize xs.reverse = d
 induction d with
 | nil => exact .nil
 | cons p d ih => rw [List.reverse_cons, List.map_append]; exact .snoc ih rfl rfl
theorem sortI_some {xs r : List Int} (h : sortI xs = some r) : xs.length ≤ lim ∧ r = xs.mergeSort (fun x y => decide (x ≤ y)) := by
 unfold sortI at h
 split at h
 · rename_i hh; cases h; exact ⟨hh, rfl⟩
 · cases h
theorem St.sortInts {G : GH} (h : St H0 w0 H w l) {i : Nat} {cells : List Value} (hi : l[i]? = some (.row e 1 v n cells)) {xs r : List Int} (he : Els G eI 1 cells xs) {fid : Nat}
 (k0 : ∀ (p : Option Addr) (cap : Nat) (w : World), Calls P fid #[.slice p 0 cap] w fun e w' => e = .returned (.tuple #[]) ∧ w' = w)
 (k1 : ∀ (blk off cap : Nat) (zs : List Int) (w : World) (_ : Holds (Value.int .i64) w blk off zs.toArray) (_ : blk < w.heap.size) (_ : zs.length < 4611686018427387904),
  Calls P fid #[.slice (some ⟨blk, off, Option.none⟩) zs.length cap] w fun e w' => e = .returned (.tuple #[]) ∧ ∃ n os, w' = sortWorld (Value.int .i64) w blk off n (zs.mergeSort fun x y => decide (x ≤ y)).toArray os)
 (hr : sortI xs = some r) :
 Calls P fid #[v] w fun e' w' => e' = .returned (.tuple #[]) ∧ ∃ cells', St H0 w0 H w' (l.set i (.row e 1 v n cells')) ∧ Els G eI 1 cells' r := by
 obtain ⟨hlim, rfl⟩ := sortI_some hr
 obtain ⟨⟨g1, g2⟩, g3⟩ := h.ok i _ hi
 have hlen := he.length
 have hset : l.set i (.row e 1 v n cells) = l := by
  apply List.ext_getElem?
  intro j
  rw [List.getElem?_set]
  split
  · rename_i hij; subst hij; rw [hi]; simp [(List.getElem?_eq_some_iff.1 hi).1]
  · rfl
 rcases g2 with ⟨rfl, rfl⟩ | ⟨g, cap, cur, rfl, hg, hh, hle, hcm, hsz, htk⟩
 · have : xs = [] := by rw [g1] at hlen; apply List.eq_nil_of_length_eq_zero; omega
   subst this
   refine (k0 Option.none 0 w).mono ?_
   rintro _ _ ⟨rfl, rfl⟩
   exact ⟨rfl, cells, by rw [hset]; exact h, by simpa using he⟩
 · have hc := els_eI he
   obtain ⟨hH, hblk, hdl, hcap, hcm2⟩ := h.holds1 hi (enc := Value.int .i64) xs hc.symm
   have hK := k1 g 0 cap xs w hH hblk (by unfold lim at hlim; omega)
   rw [hdl] at hK
   refine hK.mono ?_
   rintro _ _ ⟨rfl, m, os, rfl⟩
   have hT := h.turned (m := m) (n' := n) hi (enc := Value.int .i64) (fun _ => rfl) (xs.mergeSort fun x y => decide (x ≤ y)) os (by simp [hdl]) (by simp [hdl])
   refine ⟨rfl, _, hT, ?_⟩
   rw [List.take_of_length_le (by simp [hdl])]
   exact eI_els _
end
end Go.Mr
namespace Go.Mr
open Go.RowKit Go.Pu
section
variable {P : Program} {w w' : World} {H0 H Hs : GH} {w0 : World} {l l0 T : List MO} {N : Nat} {f : Fm}
variable {J : List MO → World → Prop}
@[reducible] def iterPost (K : Nat → World → Prop) (Kx : World → Prop) (n : Nat) : Ending → World → Prop := fun e W' => (∃ v, e = .returned v) ∧ (K n W' ∨ Kx W')
@[reducible] def rndQ {S X : Type} (id : Nat) (J : List MO → S → World → Prop) (E : List MO → X → World → Prop) (T : List MO) (o : Lp S X) : FQ := fun e _ W =>
 match o with
 | .nx s => e = .normal ∧ J T s W
 | .bk s => e = .exit id ∧ J T s W
 | .rt x => e = .ret ∧ E T x W
end
end Go.Mr
namespace Go.Mr
open Go.RowKit Go.Pu
section
variable {δ : List Nat} {P : Program} {N : Nat} {f : Fm} {w : World} {ops : Array Oper} {S : World → Prop} {M : Fm → World → Prop} {n : Nat} {ls l' : Array Bool}
theorem E.asB {o : Oper} {a b : Bool} (h : (execOp (ev f) o).run P w = .ok (.value (.bool a)) w) (e : a = b) : (execOp (ev f) o).run P w = .ok (.value (.bool b)) w := e ▸ h
end
end Go.Mr
namespace Go.Mr
open Go.RowKit Go.Pu
section
variable {P : Program} {f : Fm} {w : World} {d : Option Tmp} {ty : TypeId} {pos : String} {aft : Array Edge} {gd : Option (Nat × Bool)} {x y : Operand} {t t' : TypeId}
theorem E.ixS {s : ByteArray} {k : IntKind} {i b : Int} (ht : ∀ w, (underlying t).run P w = .ok .string w) (hx : ev f x = .string s) (hy : ev f y = .int k i) (h : ixS s i = some b) :
 (execOp (ev f) ⟨d, .index t x y, ty, pos, aft, gd⟩).run P w = .ok (.value (.int .u8 b)) w := by
 obtain ⟨h0, u, hu, rfl⟩ := ixS_some h
 have hu' : s[i.toNat]? = some u := by
  obtain ⟨h1, h2⟩ := Array.getElem?_eq_some_iff.1 hu
  exact (getElem?_pos s i.toNat h1).trans (congrArg some h2)
 simp [execOp, Instr.index, ht, hx, hy, h0, hu', asIntOf]
theorem E.cutS {s r : ByteArray} {kl kh : IntKind} {a b : Int} {lo hi : Option Operand} (ht : P.underlying t = some .string) (hx : ev f x = .string s)
 (hl : (lo = none ∧ a = 0) ∨ ∃ l, lo = some l ∧ ev f l = .int kl a) (hh : (hi = none ∧ b = s.size) ∨ ∃ l, hi = some l ∧ ev f l = .int kh b) (h : cutS s a b = some r) :
 (execOp (ev f) ⟨d, .slice t x lo hi none, ty, pos, aft, gd⟩).run P w = .ok (.value (.string r)) w := by
 obtain ⟨h0, h1, h2, rfl⟩ := cutS_some h
 have hb : 0 ≤ b := by omega
 have hab : a.toNat ≤ b.toNat := by omega
 have hbs : b.toNat ≤ s.size := by omega
 have e1 : (a.toNat : Int) = a := Int.toNat_of_nonneg h0
 have e2 : (b.toNat : Int) = b := Int.toNat_of_nonneg hb
 rcases hl with ⟨rfl, rfl⟩ | ⟨l, rfl, hl⟩ <;> rcases hh with ⟨rfl, rfl⟩ | ⟨l', rfl, hh⟩ <;> simp [execOp, Instr.sliceAt, Instr.slice, run_underlying ht, Instr.sliceBounds, run_sliceBound, *]
end
theorem E.lenS {P : Program} {f : Fm} {w : World} {d : Option Tmp} {ty t : TypeId} {pos : String} {aft : Array Edge} {gd : Option (Nat × Bool)} {x : Operand} {s : ByteArray} (ht : ∀ w, (underlying t).run P w = .ok .string w) (hx : ev f x = .string s) :
 (execOp (ev f) ⟨d, .call ⟨.builtin .len, #[x], #[t]⟩, ty, pos, aft, gd⟩).run P w = .ok (.value (.int .i64 (s.size : Int))) w := by
 simp [execOp, resolve, invoke, builtin, Builtin.len_, hx, ht, goInt]
theorem B11 {f : Fm} {i1 i2 i3 i4 i5 i6 i7 i8 i9 i10 i11 : Nat} {x1 x2 x3 x4 x5 x6 x7 x8 x9 x10 x11 : Operand} {v1 v2 v3 v4 v5 v6 v7 v8 v9 v10 v11 : Value} (h1 : ev f x1 = v1) (h2 : ev f x2 = v2) (h3 : ev f x3 = v3) (h4 : ev f x4 = v4) (h5 : ev f x5 = v5) (h6 : ev f x6 = v6) (h7 : ev f x7 = v7) (h8 : ev f x8 = v8) (h9 : ev f x9 = v9) (h10 : ev f x10 = v10) (h11 : ev f x11 = v11) :
 (#[(i1, x1), (i2, x2), (i3, x3), (i4, x4), (i5, x5), (i6, x6), (i7, x7), (i8, x8), (i9, x9), (i10, x10), (i11, x11)].map fun (i, x) => (i, ev f x)) = #[(i1, v1), (i2, v2), (i3, v3), (i4, v4), (i5, v5), (i6, v6), (i7, v7), (i8, v8), (i9, v9), (i10, v10), (i11, v11)] := by simp [h1, h2, h3, h4, h5, h6, h7, h8, h9, h10, h11]
theorem B12 {f : Fm} {i1 i2 i3 i4 i5 i6 i7 i8 i9 i10 i11 i12 : Nat} {x1 x2 x3 x4 x5 x6 x7 x8 x9 x10 x11 x12 : Operand} {v1 v2 v3 v4 v5 v6 v7 v8 v9 v10 v11 v12 : Value} (h1 : ev f x1 = v1) (h2 : ev f x2 = v2) (h3 : ev f x3 = v3) (h4 : ev f x4 = v4) (h5 : ev f x5 = v5) (h6 : ev f x6 = v6) (h7 : ev f x7 = v7) (h8 : ev f x8 = v8) (h9 : ev f x9 = v9) (h10 : ev f x10 = v10) (h11 : ev f x11 = v11) (h12 : ev f x12 = v12) :
 (#[(i1, x1), (i2, x2), (i3, x3), (i4, x4), (i5, x5), (i6, x6), (i7, x7), (i8, x8), (i9, x9), (i10, x10), (i11, x11), (i12, x12)].map fun (i, x) => (i, ev f x)) = #[(i1, v1), (i2, v2), (i3, v3), (i4, v4), (i5, v5), (i6, v6), (i7, v7), (i8, v8), (i9, v9), (i10, v10), (i11, v11), (i12, v12)] := by simp [h1, h2, h3, h4, h5, h6, h7, h8, h9, h10, h11, h12]
end Go.Mr
namespace Go.Pu
inductive Fo where
 | nil : Fo
 | node (op : Int) (a b : Fo) (text : ByteArray) : Fo
@[ext] structure FoN where
 op : Int
 a : Fo
 b : Fo
 text : ByteArray
def Fo.get : Fo → Option FoN
 | .nil => none
 | .node op a b tx => some ⟨op, a, b, tx⟩
def Fo.isNil : Fo → Bool
 | .nil => true
 | .node .. => false
def FoN.fo (n : FoN) : Fo := .node n.op n.a n.b n.text
end Go.Pu
namespace Go.Mr
open Go.RowKit Go.Pu
def FAt (H : GH) : Value → Fo → Prop
 | v, .nil => v = .pointer none
 | v, .node op a b tx => ∃ q va vb, v = .pointer (some q) ∧ CAt H q [.int .u8 op, va, vb, .string tx] ∧ FAt H va a ∧ FAt H vb b
theorem FAt.mono0 {H H' : GH} (hi : Inc H H') : ∀ {v : Value} {t : Fo}, FAt H v t → FAt H' v t := by
 intro v t
 induction t generalizing v with
 | nil => exact id
 | node op a b tx iha ihb =>
  rintro ⟨q, va, vb, h1, h2, h3, h4⟩
  exact ⟨q, va, vb, h1, h2.mono hi, iha h3, ihb h4⟩
theorem FAt.mono {H H' : GH} {v : Value} {t : Fo} (h : FAt H v t) (hi : Inc H H') : FAt H' v t := FAt.mono0 hi h
theorem FAt.nil {H : GH} : FAt H (.pointer none) .nil := rfl
theorem FAt.mk {H : GH} {q : Addr} {va vb : Value} {op : Int} {a b : Fo} {tx : ByteArray} (h : CAt H q [.int .u8 op, va, vb, .string tx]) (ha : FAt H va a) (hb : FAt H vb b) : FAt H (.pointer (some q)) (.node op a b tx) := ⟨q, va, vb, rfl, h, ha, hb⟩
theorem FAt.open {H : GH} {v : Value} {t : Fo} {n : FoN} (h : FAt H v t) (hn : t.get = some n) : ∃ q va vb, v = .pointer (some q) ∧ CAt H q [.int .u8 n.op, va, vb, .string n.text] ∧ FAt H va n.a ∧ FAt H vb n.b := by
 cases t with
 | nil => cases hn
 | node op a b tx => cases hn; exact h
theorem FAt.ptr {H : GH} {v : Value} {t : Fo} (h : FAt H v t) : ∃ p, v = .pointer p := by
 cases t with
 | nil => exact ⟨_, h⟩
 | node => obtain ⟨q, _, _, h, _⟩ := h; exact ⟨_, h⟩
theorem FAt.one {H : GH} {v : Value} {t : Fo} (h : FAt H v t) : v.oneCell' = true := by obtain ⟨p, rfl⟩ := h.ptr; rfl
@[reducible] def NilT (v : Value) (b : Bool) : Prop := v = .pointer none ∧ b = true ∨ ∃ q, v = .pointer (some q) ∧ b = false
theorem FAt.isNil {H : GH} {v : Value} {t : Fo} (h : FAt H v t) : NilT v t.isNil := by
 cases t with
 | nil => exact .inl ⟨h, rfl⟩
 | node => obtain ⟨q, _, _, h, _⟩ := h; exact .inr ⟨q, h, rfl⟩
section
variable {α : Type} {H H' : GH} {E : Enc α} {v : Value} {x : Option α}
end
section
variable {P : Program} {f : Fm} {w : World} {d : Option Tmp} {ty : TypeId} {pos : String} {aft : Array Edge} {gd : Option (Nat × Bool)} {x y : Operand} {t t' : TypeId}
theorem run_equalIn_ptr (n : Nat) {e : TypeId} (ht : ∀ w, (underlying t).run P w = .ok (.pointer e) w) {v : Value} {b : Bool} (hv : NilT v b) :
 (Op.equalIn (n + 1) t v (.pointer none)).run P w = .ok b w := by
 rcases hv with ⟨rfl, rfl⟩ | ⟨q, rfl, rfl⟩ <;> simp [Op.equalIn, ht]
theorem E.eqlN {e : TypeId} {v : Value} {b : Bool} (ht : ∀ w, (underlying t).run P w = .ok (.pointer e) w) (h : NilT v b) (hx : ev f x = v) (hy : ev f y = .pointer none) :
 (execOp (ev f) ⟨d, .binOp .eql t x y t', ty, pos, aft, gd⟩).run P w = .ok (.value (.bool b)) w := by
 have := run_equalIn_ptr (w := w) 9999 ht h
 rcases h with ⟨rfl, rfl⟩ | ⟨q, rfl, rfl⟩ <;> simp [execOp, eqGuard, binOp, hx, hy, Op.equal, Op.maxDepth, this]
theorem chr_enc {n : Int} {s : ByteArray} (h : chrS n = some s) : Utf8.encode n = s := by
 unfold chrS at h; split at h
 · rename_i hh; cases h
   obtain ⟨k, rfl⟩ := Int.eq_ofNat_of_zero_le hh.1
   have hk : k < 128 := by omega
   have hv : Utf8.valid (k : Int) = true := by simp [Utf8.valid]; omega
   have hc : (if Utf8.valid (k : Int) = true then (k : Int).toNat else Utf8.runeError) = k := by rw [if_pos hv]; exact Int.toNat_natCast k
   simp only [Utf8.encode, hc]
   rw [if_pos (show k < 0x80 by omega)]
   rfl
 · cases h
theorem E.chr {k : IntKind} {n : Int} {s : ByteArray} {sd : TypeDesc} (hs : ∀ w, (underlying t).run P w = .ok sd w) (ht : ∀ w, (underlying t').run P w = .ok .string w) (hx : ev f x = .int k n) (h : chrS n = some s) :
 (execOp (ev f) ⟨d, .convert t t' x, ty, pos, aft, gd⟩).run P w = .ok (.value (.string s)) w := by
 simp [execOp, convert, hs, ht, hx, Conv.intToString, chr_enc h]
end
end Go.Mr
namespace Go.Pu
def set3 (t : Fo × Fo × Fo) (i : Int) (x : Fo) : Fo × Fo × Fo := (if i = 0 then x else t.1, if i = 1 then x else t.2.1, if i = 2 then x else t.2.2)
end Go.Pu
namespace Go.Mr
open Go.RowKit Go.Pu
def TabS (g : Nat) (xs : List ByteArray) (H : GH) : Prop := CAt H ⟨g, 0, none⟩ (xs.map Value.string)
theorem TabS.mono {g : Nat} {xs : List ByteArray} {H H' : GH} (h : TabS g xs H) (i : Inc H H') : TabS g xs H' := CAt.mono h i
def dataS {H : Type} (xs : List ByteArray) : DataW H := .agg (xs.map fun z => .lit (.string z.data.toList))
theorem cells_of_tabS {H : Type} {enc : TypeId × Value → H} {P : Program} {w : World} {base : Nat} {sp : Nat → Bool} {held : Bool} {fuel : Nat} {t e : TypeId} {n : Nat} {cs : List Value} {zs : List ByteArray} {p : List MemPlace}
 (ht : P.underlying t = some (.array n e)) (he : P.underlying e = some .string) (hce : P.cellsOf e = 1) (hct : P.cellsOf t = n)
 (h : DataW.trod enc P w base sp held fuel t cs = some (dataS zs, p)) : cs = zs.map Value.string := by
 cases fuel with
 | zero => simp [DataW.trod] at h
 | succ fuel =>
  simp only [DataW.trod, ht, hce, hct, Nat.mul_one] at h
  split at h
  · rename_i hl
    obtain ⟨xs, hm, hx⟩ := Option.map_eq_some_iff.1 h
    have hxs : xs.map (·.1) = zs.map fun z => (DataW.lit (.string z.data.toList) : DataW H) := by
     have := congrArg Prod.fst hx
     simpa [dataS] using this
    have hxl : xs.length = n := by simpa using Lib.mapM_length hm
    have hzl : zs.length = n := by
     have := congrArg List.length hxs
     simp at this
     omega
    apply List.ext_getElem?
    intro i
    by_cases hi : i < n
    · obtain ⟨b, hb, hf⟩ := Lib.mapM_at hm i i (by simp [hi])
      obtain ⟨z, hc, rfl, _⟩ := DataW.trod_string he hf
      have h1 : cs[i]? = some (.string z) := by
       have := congrArg (·[0]?) hc
       simpa [List.getElem?_take, List.getElem?_drop] using this
      have h2 : (xs.map (·.1))[i]? = some (DataW.lit (.string z.data.toList) : DataW H) := by simp [hb]
      rw [hxs] at h2
      simp only [List.getElem?_map, Option.map_eq_some_iff, DataW.lit.injEq, Lit.string.injEq] at h2
      obtain ⟨z', hz', he'⟩ := h2
      have e2 : z' = z := by
       cases z; cases z'; simp only [ByteArray.mk.injEq]; exact Array.toList_inj.1 he'
      simp [h1, hz', e2]
    · rw [List.getElem?_eq_none (by omega), List.getElem?_eq_none (by simp; omega)]
  · cases h
theorem tabS_of_head {P : Program} {W : World} {name : String} {zs : List ByteArray} {rest : List (String × DataW Unit)} {g : Nat} {t e : TypeId} {n : Nat}
 (hg : P.globalNamed name = some g) (hty : (P.globals[g]?).map (·.type) = some t) (ht : P.underlying t = some (.array n e)) (he : P.underlying e = some .string) (hce : P.cellsOf e = 1) (hct : P.cellsOf t = n)
 (h : laidMet P ((name, dataS zs) :: rest) W) : TabS g zs (fun b => W.heap[b]?) := by
 obtain ⟨ps, ⟨g', t', cs, fuel, p, q, hg', ht', hvar, hd, _, _⟩, _⟩ := h
 obtain rfl := Option.some.inj (hg.symm.trans hg')
 obtain rfl := Option.some.inj (hty.symm.trans ht')
 have hc := cells_of_tabS ht he hce hct hd
 unfold World.var? at hvar
 obtain ⟨g1, h1, h2⟩ := Option.bind_eq_some_iff.1 hvar
 obtain rfl := Option.some.inj (hg.symm.trans h1)
 cases hb : W.heap[g]? with
 | none => rw [hb] at h2; cases h2
 | some o =>
  rw [hb] at h2
  cases o with
  | cells cs' e' fr =>
   cases h2
   refine ⟨_, e', fr, hb, rfl, fun j c hj => ?_⟩
   rw [← hc] at hj
   simpa using hj
  | _ => cases h2
theorem fo3_ix {H : GH} {v0 v1 v2 : Value} {a0 a1 a2 x : Fo} {i : Int} (h0 : FAt H v0 a0) (h1 : FAt H v1 a1) (h2 : FAt H v2 a2) (hx : ix [a0, a1, a2] i = some x) :
 ∃ (j : Nat) (v : Value), i = (j : Int) ∧ j < 3 ∧ [v0, v1, v2][j]? = some v ∧ FAt H v x := by
 obtain ⟨g0, g1, g2⟩ := ix_some hx
 simp only [List.length_cons, List.length_nil] at g1
 have hi : i = ((i.toNat : Nat) : Int) := by omega
 rcases (show i.toNat = 0 ∨ i.toNat = 1 ∨ i.toNat = 2 by omega) with e | e | e <;> rw [e] at g2 hi <;> cases g2
 · exact ⟨0, v0, hi, by omega, rfl, h0⟩
 · exact ⟨1, v1, hi, by omega, rfl, h1⟩
 · exact ⟨2, v2, hi, by omega, rfl, h2⟩
theorem FAt.cast {H : GH} {v : Value} {a b : Fo} (e : a = b) (h : FAt H v a) : FAt H v b := e ▸ h
theorem fo3_set {H : GH} {v0 v1 v2 w : Value} {a0 a1 a2 x : Fo} {i : Int} {j : Nat} (h0 : FAt H v0 a0) (h1 : FAt H v1 a1) (h2 : FAt H v2 a2) (hw : FAt H w x) (hj : i = (j : Int)) (hl : j < 3) :
 ∃ u0 u1 u2, [v0, v1, v2].take j ++ [w] ++ [v0, v1, v2].drop (j + 1) = [u0, u1, u2] ∧ FAt H u0 (set3 (a0, a1, a2) i x).1 ∧ FAt H u1 (set3 (a0, a1, a2) i x).2.1 ∧ FAt H u2 (set3 (a0, a1, a2) i x).2.2 := by
 subst hj
 rcases (show j = 0 ∨ j = 1 ∨ j = 2 by omega) with rfl | rfl | rfl
 · exact ⟨w, v1, v2, rfl, hw, h1, h2⟩
 · exact ⟨v0, w, v2, rfl, h0, hw, h2⟩
 · exact ⟨v0, v1, w, rfl, h0, h1, hw⟩
theorem fo3_at {H : GH} {v0 v1 v2 : Value} {a0 a1 a2 x : Fo} {i : Int} {j : Nat} (h0 : FAt H v0 a0) (h1 : FAt H v1 a1) (h2 : FAt H v2 a2) (hj : i = (j : Int)) (hx : ix [a0, a1, a2] i = some x) :
 ∃ v : Value, [v0, v1, v2][j]? = some v ∧ FAt H v x := by
 obtain ⟨j', v, h3, _, h4, h5⟩ := fo3_ix h0 h1 h2 hx
 have : j' = j := by omega
 subst this
 exact ⟨v, h4, h5⟩
end Go.Mr
namespace Go.Mr
open Go.RowKit Go.ChangeShapes Go.WideShapes
theorem vars_stay {H : Type} {enc : TypeId × Value → H} {P : Program} {W W' : World} {nm : String} {g : Nat} {gt : TypeId} {gs : List (DataW H)} {q : List MemPlace} (hl : laidOutB P = true) (hg : P.globalNamed nm = some g) (hty : (P.globals[g]?).map (·.type) = some gt)
 (hr : P.readableRec gt = true) (hrow : gt < P.types.size) (hb : Below W.heap.size W W') (hp : ∀ x ∈ q, x.block < W.heap.size) (hV : DataW.TrodVars enc P W (fun _ => true) [nm] gs q) :
 DataW.TrodVars enc P W' (fun b => decide (b < W.heap.size)) [nm] gs q := by
 obtain ⟨g', t, cs, fuel, d, p', rfl, hg', ht, hvar, hd, rfl⟩ := trodVars_one hV
 obtain rfl := Option.some.inj (hg.symm.trans hg')
 obtain rfl := Option.some.inj (hty.symm.trans ht)
 have hlt : g < W.heap.size := by
  unfold World.var? at hvar
  rw [hg, Option.bind_some] at hvar
  cases hh : W.heap[g]? with
  | none => rw [hh] at hvar; cases hvar
  | some o => exact (Array.getElem?_eq_some_iff.1 hh).1
 have hvar' : W'.var? P nm = some cs := by
  unfold World.var? at hvar ⊢
  rw [hg, Option.bind_some] at hvar ⊢
  rw [hb.block g hlt]; exact hvar
 obtain ⟨fuel', hd'⟩ := trod_stays (v := .agg cs) hl hr hrow hb (fun x hx => hp x (List.mem_append_right _ hx)) ⟨fuel, hd⟩
 exact trodVars_mk1 hg hty hvar' hd'
theorem post_law1 {H : Type} {enc : TypeId × Value → H} {P : Program} {f : Func} {s : ChangeSpec} {W W' : World} {args : Array Value} {ds gs : List (DataW H)} {p q : List MemPlace} {tb : TypeId} {nm : String}
 (hW : DataW.Whole enc P f.params.toList s.vars false W args.toList ds gs (p ++ q)) (hv : s.vars = [nm]) (hf : (s.fn H (ds ++ gs)) = { results := [.lit (.bool true)], args := ds, vars := gs }) (hrt : f.resultTypes.toList = [tb]) (hrs : f.resultTypes.size = 1)
 (htb : P.underlying tb = some .bool) (hA : DataW.TrodAll enc P W' 0 (fun b => decide (b < W.heap.size)) true f.params.toList args.toList ds p) (hV : DataW.TrodVars enc P W' (fun b => decide (b < W.heap.size)) [nm] gs q) (hb : Below W.heap.size W W') :
 s.post enc P f false true false false W args (.bool true) W' := by
 refine ⟨ds, gs, p ++ q, [], p, q, hW, ?_, ?_, ?_, hb.frame _, fun h => by cases h⟩
 · rw [hf, hrt, hrs]
   exact trodAll_cons_mk (shut_bool htb _) ChangeShapes.trodAll_mk0
 · rw [hf]; exact hA
 · rw [hf, hv]; exact hV
end Go.Mr
namespace Go.Mr
open Go.RowKit Go.Pu Go.Shelf Go.Sort
section
variable {P : Program} {H0 H : GH} {w0 w : World} {l : List MO} {e n : Nat} {v : Value} {A : Type} {En : Enc A}
abbrev OC := { v : Value // v.oneCell' = true }
instance : Inhabited OC := ⟨⟨.int .i64 0, rfl⟩⟩
variable {f : Fm} {d : Option Tmp} {ty : TypeId} {pos : String} {aft : Array Edge} {gd : Option (Nat × Bool)} {x : Operand} {k : Nat} {z : Value}
theorem PtrOf.uniq {i : Int} {p q : Addr} (h1 : PtrOf k v i p) (h2 : PtrOf k v i q) : p = q := by
 obtain ⟨a, m, c, rfl, _, _, rfl⟩ := h1
 obtain ⟨a', m', c', hv, _, _, rfl⟩ := h2
 cases hv; rfl
end
end Go.Mr
namespace Go.Mr
open Go.RowKit Go.Pu
section
variable {P : Program} {f : Fm} {w : World} {d : Option Tmp} {ty : TypeId} {pos : String} {aft : Array Edge} {gd : Option (Nat × Bool)} {x y : Operand}
variable {k yk : IntKind} {a b : Int} {t t' : TypeId}
theorem wrk_eq (k : IntKind) (n : Int) : k.wrap n = wrk k.signed k.bits n := rfl
theorem E.addK (hx : ev f x = .int k a) (hy : ev f y = .int k b) : (execOp (ev f) ⟨d, .binOp .add t x y t', ty, pos, aft, gd⟩).run P w = .ok (.value (.int k (wrk k.signed k.bits (a + b)))) w := by
 simp [execOp, eqGuard, binOp, hx, hy, Op.intArith, wrk_eq]
theorem E.subK (hx : ev f x = .int k a) (hy : ev f y = .int k b) : (execOp (ev f) ⟨d, .binOp .sub t x y t', ty, pos, aft, gd⟩).run P w = .ok (.value (.int k (wrk k.signed k.bits (a - b)))) w := by
 simp [execOp, eqGuard, binOp, hx, hy, Op.intArith, wrk_eq]
theorem E.mulK (hx : ev f x = .int k a) (hy : ev f y = .int k b) : (execOp (ev f) ⟨d, .binOp .mul t x y t', ty, pos, aft, gd⟩).run P w = .ok (.value (.int k (wrk k.signed k.bits (a * b)))) w := by
 simp [execOp, eqGuard, binOp, hx, hy, Op.intArith, wrk_eq]
theorem E.and (hx : ev f x = .int k a) (hy : ev f y = .int k b) : (execOp (ev f) ⟨d, .binOp .and t x y t', ty, pos, aft, gd⟩).run P w = .ok (.value (.int k (andK k.signed k.bits a b))) w := by
 simp [execOp, eqGuard, binOp, hx, hy, Op.intBits, andK, wrk_eq]
theorem E.shr (hx : ev f x = .int k a) (hy : ev f y = .int yk b) (hb : ¬ b < 0) : (execOp (ev f) ⟨d, .binOp .shr t x y t', ty, pos, aft, gd⟩).run P w = .ok (.value (.int k (shrK k.bits a b))) w := by
 simp [execOp, eqGuard, binOp, hx, hy, Op.shift, shrK, hb]
theorem E.nilCheck {p : Addr} (hx : ev f x = .pointer (some p)) : (execOp (ev f) ⟨d, .nilCheck x, ty, pos, aft, gd⟩).run P w = .ok (.value (.pointer (some p))) w := by simp [execOp, hx]
theorem E.conv {s : TypeDesc} (hs : ∀ w, (underlying t).run P w = .ok s w) (ht : ∀ w, (underlying t').run P w = .ok (.int k) w) (hx : ev f x = .int yk a) :
 (execOp (ev f) ⟨d, .convert t t' x, ty, pos, aft, gd⟩).run P w = .ok (.value (.int k (wrk k.signed k.bits a))) w := by
 simp [execOp, convert, hs, ht, hx, Conv.intToInt, wrk_eq]
end
end Go.Mr
namespace Go.Mr
open Go.RowKit Go.Pu
@[reducible] def OP {α : Type} (R : Addr → α → Prop) (v : Value) (x : Option α) : Prop := match x with | none => v = .pointer none | some y => ∃ q, v = .pointer (some q) ∧ R q y
def SX (H0 : GH) (w0 : World) (Hr : GH) (l0 : List MO) (w : World) : Prop := ∃ H, St H0 w0 H w l0 ∧ Inc Hr H
section
variable {H0 Hr H : GH} {w0 w : World} {l0 l : List MO} {e k n : Nat} {v : Value}
theorem SX.sl (h : SX H0 w0 Hr l0 w) : Sl Hr w := let ⟨_, s, i⟩ := h; Sl.of_inc i s.sl
theorem SX.use {Q : Prop} (h : SX H0 w0 Hr l0 w) (f : ∀ H, St H0 w0 H w l0 → Q) : Q := let ⟨_, s, _⟩ := h; f _ s
theorem St.row_atA {α : Type} {G : GH} {En : Enc α} {cells : List Value} {xs : List α} (h : St H0 w0 H w l) {i : Nat} (hi : l[i]? = some (.row e k v n cells)) (he : Els G En k cells xs) (hk : 0 < k)
 {j : Int} {x : α} (hx : ix xs j = some x) : ∃ p c, PtrOf k v j p ∧ c.length = k ∧ WAt w p c ∧ En.rel G c x ∧ ∀ (H' : GH) (w' : World) (l' : List MO) (i' : Nat), St H0 w0 H' w' l' → l'[i']? = some (.row e k v n cells) → WAt w' p c := by
 obtain ⟨h0, h1, h2⟩ := ix_some hx
 obtain ⟨c, g1, g2, g3⟩ := he.get _ _ h2
 have key : ∀ (H' : GH) (w' : World) (l' : List MO) (i' : Nat), St H0 w0 H' w' l' → l'[i']? = some (.row e k v n cells) → ∃ p, PtrOf k v j p ∧ WAt w' p c := by
  intro H' w' l' i' h' hi'
  obtain ⟨⟨k1, k2⟩, _⟩ := h'.ok i' _ hi'
  have hl := he.length
  have hn : n = xs.length := by
   rw [k1] at hl
   exact Nat.eq_of_mul_eq_mul_right hk hl
  rcases k2 with ⟨rfl, h3⟩ | ⟨g, cap, cur, rfl, hg, hh, hle, _, hsz, htk⟩
  · omega
  · refine ⟨_, ⟨⟨g, 0, Option.none⟩, _, cap, rfl, h0, by omega, rfl⟩, fun m u hu => ?_⟩
    rw [addr_add_add, Addr.add_lit, Nat.zero_add, cell_of_row w' g _ _ _ _ hh]
    have := g3 m u hu
    rw [← htk, List.getElem?_take] at this
    split at this
    · simpa using this
    · cases this
 obtain ⟨p, hp, hw⟩ := key H w l i h hi
 exact ⟨p, c, hp, g1, hw, g2, fun H' w' l' i' h' hi' => by
  obtain ⟨q, hq, hw'⟩ := key H' w' l' i' h' hi'
  obtain rfl := PtrOf.uniq hq hp
  exact hw'⟩
end
section
variable {f : Fm}
theorem B7 {i1 i2 i3 i4 i5 i6 i7 : Nat} {x1 x2 x3 x4 x5 x6 x7 : Operand} {v1 v2 v3 v4 v5 v6 v7 : Value} (h1 : ev f x1 = v1) (h2 : ev f x2 = v2) (h3 : ev f x3 = v3) (h4 : ev f x4 = v4) (h5 : ev f x5 = v5) (h6 : ev f x6 = v6) (h7 : ev f x7 = v7) :
 ((#[(i1, x1), (i2, x2), (i3, x3), (i4, x4), (i5, x5), (i6, x6), (i7, x7)] : Array (Nat × Operand)).map fun (i, x) => (i, ev f x)) = #[(i1, v1), (i2, v2), (i3, v3), (i4, v4), (i5, v5), (i6, v6), (i7, v7)] := by simp [h1, h2, h3, h4, h5, h6, h7]
theorem B8 {i1 i2 i3 i4 i5 i6 i7 i8 : Nat} {x1 x2 x3 x4 x5 x6 x7 x8 : Operand} {v1 v2 v3 v4 v5 v6 v7 v8 : Value} (h1 : ev f x1 = v1) (h2 : ev f x2 = v2) (h3 : ev f x3 = v3) (h4 : ev f x4 = v4) (h5 : ev f x5 = v5) (h6 : ev f x6 = v6) (h7 : ev f x7 = v7) (h8 : ev f x8 = v8) :
 ((#[(i1, x1), (i2, x2), (i3, x3), (i4, x4), (i5, x5), (i6, x6), (i7, x7), (i8, x8)] : Array (Nat × Operand)).map fun (i, x) => (i, ev f x)) = #[(i1, v1), (i2, v2), (i3, v3), (i4, v4), (i5, v5), (i6, v6), (i7, v7), (i8, v8)] := by simp [h1, h2, h3, h4, h5, h6, h7, h8]
theorem B10 {i1 i2 i3 i4 i5 i6 i7 i8 i9 i10 : Nat} {x1 x2 x3 x4 x5 x6 x7 x8 x9 x10 : Operand} {v1 v2 v3 v4 v5 v6 v7 v8 v9 v10 : Value} (h1 : ev f x1 = v1) (h2 : ev f x2 = v2) (h3 : ev f x3 = v3) (h4 : ev f x4 = v4) (h5 : ev f x5 = v5) (h6 : ev f x6 = v6) (h7 : ev f x7 = v7) (h8 : ev f x8 = v8) (h9 : ev f x9 = v9) (h10 : ev f x10 = v10) :
 ((#[(i1, x1), (i2, x2), (i3, x3), (i4, x4), (i5, x5), (i6, x6), (i7, x7), (i8, x8), (i9, x9), (i10, x10)] : Array (Nat × Operand)).map fun (i, x) => (i, ev f x)) = #[(i1, v1), (i2, v2), (i3, v3), (i4, v4), (i5, v5), (i6, v6), (i7, v7), (i8, v8), (i9, v9), (i10, v10)] := by simp [h1, h2, h3, h4, h5, h6, h7, h8, h9, h10]
end
section
variable {P : Program} {f : Fm} {w : World} {d : Option Tmp} {ty : TypeId} {pos : String} {aft : Array Edge} {gd : Option (Nat × Bool)} {x y : Operand} {t t' : TypeId}
theorem E.neqA {xs ys : Array Value} {r : Bool} (hg : P.eqGuardType P.depth t = false) (he : ∀ w, (Op.equalIn 10000 t (.agg xs) (.agg ys)).run P w = .ok r w) (hx : ev f x = .agg xs) (hy : ev f y = .agg ys) :
 (execOp (ev f) ⟨d, .binOp .neq t x y t', ty, pos, aft, gd⟩).run P w = .ok (.value (.bool (!r))) w := by
 simp [execOp, hx, hy, run_eqGuard_agg w .neq t x y xs ys hg, run_neq_struct, he]
end
end Go.Mr
namespace Go.Mr
open Go.RowKit Go.Pu
structure SP (B : World → Prop) (ps : List (List Nat × (World → Prop))) (ls : Array Bool) (w : World) : Prop where
 base : B w
 ph : ∀ p ∈ ps, (∀ h ∈ p.1, ls.getD h true = false) → p.2 w
theorem SP.nil {B : World → Prop} {ls : Array Bool} {w : World} (hB : B w) : SP B [] ls w := ⟨hB, nofun⟩
theorem SP.on {B R : World → Prop} {Hs : List Nat} {ps : List (List Nat × (World → Prop))} {ls : Array Bool} {w : World} (hR : R w) (h : SP B ps ls w) : SP B ((Hs, R) :: ps) ls w :=
 ⟨h.base, fun p hp hn => by
  rcases List.mem_cons.1 hp with rfl | hp
  · exact hR
  · exact h.ph p hp hn⟩
theorem SP.off {B R : World → Prop} {Hs : List Nat} {ps : List (List Nat × (World → Prop))} {ls : Array Bool} {w : World} (hH : (Hs.any fun h => ls.getD h true) = true) (h : SP B ps ls w) : SP B ((Hs, R) :: ps) ls w :=
 ⟨h.base, fun p hp hn => by
  rcases List.mem_cons.1 hp with rfl | hp
  · obtain ⟨k, hk, ht⟩ := List.any_eq_true.1 hH
    have := hn k hk
    rw [this] at ht; cases ht
  · exact h.ph p hp hn⟩
theorem SP.iff {B : World → Prop} {ps : List (List Nat × (World → Prop))} {i : Nat} (hi : (ps.all fun p => !p.1.contains i) = true) {ls : Array Bool} {w : World} : SP B ps (ls.setIfInBounds i true) w ↔ SP B ps ls w := by
 have key : ∀ p ∈ ps, ∀ h ∈ p.1, (ls.setIfInBounds i true).getD h true = ls.getD h true := fun p hp h hh => by
  refine getD_set_ne true fun e => ?_
  have := List.all_eq_true.1 hi p hp
  rw [e] at this
  simp [hh] at this
 exact ⟨fun k => ⟨k.base, fun p hp hn => k.ph p hp fun h hh => by rw [key p hp h hh]; exact hn h hh⟩, fun k => ⟨k.base, fun p hp hn => k.ph p hp fun h hh => by rw [← key p hp h hh]; exact hn h hh⟩⟩
section
variable {P : Program} {ops : Array Oper} {Q : Exit → Act → World → Prop} {md : Region.Mode}
def wpAnyI (P : Program) (md : Region.Mode) (ops : Array Oper) (Q : Exit → Act → World → Prop) (S : Array Bool → World → Prop) : Nat → Array Bool → Act → World → Prop
 | 0, ls, a, w => Region.ready md ops ls = [] ∧ Q .normal a w
 | n + 1, ls, a, w => (Region.ready md ops ls = [] → Q .normal a w) ∧
  ∀ i ∈ Region.ready md ops ls, wpOp P ops Q i (fun a w => S (ls.setIfInBounds i true) w ∧ wpAnyI P md ops Q S n (ls.setIfInBounds i true) a w) a w
theorem wpAnyI.mono {S S' : Array Bool → World → Prop} (hS : ∀ ls w, S ls w → S' ls w) : ∀ (n : Nat) (ls : Array Bool) (a : Act) (w : World), wpAnyI P md ops Q S n ls a w → wpAnyI P md ops Q S' n ls a w
 | 0, _, _, _, h => h
 | n + 1, _, _, _, h => ⟨h.1, fun i hi => wpOp_mono (fun _ _ k => ⟨hS _ _ k.1, wpAnyI.mono hS n _ _ _ k.2⟩) (h.2 i hi)⟩
theorem wpAnyI.held {S : Array Bool → World → Prop} : ∀ (n : Nat) (ls : Array Bool) (a : Act) (w : World), wpAnyI P md ops Q S n ls a w → wpAnyH P md ops Q (fun _ => True) n ls a w
 | 0, _, _, _, h => h
 | n + 1, _, _, _, h => ⟨h.1, fun i hi => wpOp_mono (fun _ _ k => ⟨trivial, wpAnyI.held n _ _ _ k.2⟩) (h.2 i hi)⟩
theorem wpAnyI.first {S : Array Bool → World → Prop} {i : Nat} {oi : Oper} {v : Value} (C : Nat → Prop) (hi : ops[i]? = some oi) (hsel : ∀ (j : Nat) (o : Oper) cs b, ops[j]? = some o → o.op ≠ .select cs b)
 (hQ : ∀ c a w, Q (.panic c) (a.put oi.dst v) w → Q (.panic c) a w) (hSi : ∀ ls w, S (ls.setIfInBounds i true) w ↔ S ls w)
 (hC : ∀ j, C j → ∃ oj, ops[j]? = some oj ∧ ∃ e ∈ oj.after, Region.binds md e = true ∧ (C e.on ∨ e.on = i)) : ∀ (n : Nat) (ls : Array Bool) (a : Act) (w : World),
  (∀ j oj, ops[j]? = some oj → j ≠ i → ls.getD j true = false → (∀ e ∈ oj.after, Region.binds md e = true → e.on ≠ i) → oi.apart ops oj = true) →
  i ∈ Region.ready md ops ls → (∀ j, C j → ls.getD j true = false) → YieldsIf P ops (fun w' => ∃ ls', (∀ j, C j → ls'.getD j true = false) ∧ S ls' w') oi v a → S ls w →
  wpAnyI P md ops Q S n (ls.setIfInBounds i true) (a.put oi.dst v) w → wpAnyI P md ops Q S (n + 1) ls a w := by
 intro n
 induction n with
 | zero =>
  intro ls a w _ hr hn hy hS H
  refine ⟨fun h => (by rw [h] at hr; cases hr), fun j hj => ?_⟩
  by_cases hji : j = i
  · subst hji; exact hy.wpOp hi ⟨ls, hn, hS⟩ ⟨(hSi ls w).2 hS, H⟩
  · have hm := ready_mono hj hji
    rw [H.1] at hm
    cases hm
 | succ n ih =>
  intro ls a w hfree hr hn hy hS H
  refine ⟨fun h => (by rw [h] at hr; cases hr), fun j hj => ?_⟩
  by_cases hji : j = i
  · subst hji; exact hy.wpOp hi ⟨ls, hn, hS⟩ ⟨(hSi ls w).2 hS, H⟩
  · have h1 := H.2 j (ready_mono hj hji)
    obtain ⟨hun, oj, hoj, hall⟩ := mem_ready.1 hj
    have hir := (mem_ready.1 hr).1
    have off : ∀ k, ls.getD k true = false → ls.getD k false = true → False := fun k h0 h1 => by
     rcases Nat.lt_or_ge k ls.size with h' | h'
     · simp [h'] at h0 h1; rw [h0] at h1; cases h1
     · simp [Array.getElem?_eq_none h'] at h1
    have hno : ∀ e ∈ oj.after, Region.binds md e = true → e.on ≠ i := fun e he hb heq => off i hir (heq ▸ hall e he hb)
    have hCj : ¬ C j := fun hc => by
     obtain ⟨oj', ho', e, he, hb, hd⟩ := hC j hc
     rw [hoj] at ho'; cases ho'
     rcases hd with hd | hd
     · exact off _ (hn _ hd) (hall e he hb)
     · exact hno e he hb hd
    have hn' : ∀ k, C k → (ls.setIfInBounds j true).getD k true = false := fun k hk => by
     rw [getD_set_ne true (fun (e : j = k) => hCj (by rw [e]; exact hk))]; exact hn k hk
    have h2 := wpOp_putIf hoj (hfree j oj hoj hji hun hno) (fun cs b => hsel i oi cs b hi) (fun cs b => hsel j oj cs b hoj) hQ hy h1
    refine wpOp_mono (fun a' w' h3 => ?_) h2
    have e := Array.setIfInBounds_comm (xs := ls) true true hji
    have hS' : S (ls.setIfInBounds j true) w' := (hSi _ _).1 (by rw [e]; exact h3.2.1)
    refine ⟨hS', ih (ls.setIfInBounds j true) a' w' (fun k ok hk hki hun' hno' => ?_) (ready_mono hr (Ne.symm hji)) hn' h3.1 hS' (by rw [e]; exact h3.2.2)⟩
    refine hfree k ok hk hki ?_ hno'
    by_cases hjk : j = k
    · subst hjk; exact hun
    · rw [getD_set_ne true hjk] at hun'; exact hun'
def certB (ops : Array Oper) (C : List Nat) (i : Nat) (ls : Array Bool) (ps : List (List Nat × (World → Prop))) : Bool :=
 (C.all fun j => !ls.getD j true && match ops[j]? with | some oj => oj.after.any fun e => Region.binds .any e && (C.contains e.on || e.on == i) | none => false) && ps.all fun p => !p.1.contains i
end
def FB {δ : List Nat} (P : Program) (N : Nat) (ops : Array Oper) (B : World → Prop) (M : Fm → World → Prop) (ps : List (List Nat × (World → Prop))) (n : Nat) (ls : Array Bool) (f : Fm) (w : World) : Prop :=
 ∀ a, Fr (δ := δ) N a f → wpAnyI P .any ops (lift (δ := δ) N fun e f w => e = .normal ∧ M f w) (SP B ps) n ls a w
def FC {δ : List Nat} (P : Program) (N : Nat) (ops : Array Oper) (B : World → Prop) (M : Fm → World → Prop) (ps : List (List Nat × (World → Prop))) (n : Nat) (ls : Array Bool) (i : Nat) (f : Fm) (w : World) : Prop :=
 ∀ a, Fr (δ := δ) N a f → wpOp P ops (lift (δ := δ) N fun e f w => e = .normal ∧ M f w) i (fun a w => SP B ps (ls.setIfInBounds i true) w ∧ wpAnyI P .any ops (lift (δ := δ) N fun e f w => e = .normal ∧ M f w) (SP B ps) n (ls.setIfInBounds i true) a w) a w
section
variable {δ : List Nat} {P : Program} {N : Nat} {f : Fm} {w w' : World} {ops : Array Oper} {B : World → Prop} {M : Fm → World → Prop} {ps : List (List Nat × (World → Prop))} {n : Nat} {ls l' : Array Bool} {H : GH}
theorem FW.drawB {Q : FQ} {id : Nat} {l : List Oper} (B : World → Prop) (M : Fm → World → Prop) (hm : P.follows .mixedOrders = true) (hs : Sl H w)
 (h : ∀ w1, Run w.heap.size H w H w1 → FB (δ := δ) P N l.toArray B M [] l.length (Array.replicate l.length false) f w1) (hQ : ∀ f w, M f w → Q .normal f w) : FW (ρ := none) (δ := δ) P N (.region id l.toArray true) Q f w := by
 intro n a ha
 refine wpIn_wide.2 ?_
 refine Code.wp_mono (Q := lift (δ := δ) N fun e f w => e = .normal ∧ M f w) (fun e a w ⟨f, hf, he, hM⟩ => he ▸ ⟨f, hf, hQ f w hM⟩) (wp_region_held (S := fun _ => True) hm (wpAnyI.held (S := SP B []) _ _ _ _ ?_))
 have := h _ (run_drew hs) a ha
 simpa using this
theorem FB.phase (Hs : List Nat) (R : World → Prop) (h : FB (δ := δ) P N ops B M ((Hs, R) :: ps) n ls f w) : FB (δ := δ) P N ops B M ps n ls f w :=
 fun a ha => wpAnyI.mono (fun _ _ k => ⟨k.base, fun p hp => k.ph p (by simp [hp])⟩) _ _ _ _ (h a ha)
theorem FB.take0 {S' : World → Prop} {i d : Nat} {o : Oper} {v : Value} (C : List Nat) (hi : ops[i]? = some o) (hs : Region.noSelect ops = true) (hf : Region.free .any ops ls i = true) (hr : (Region.ready .any ops ls).contains i = true)
 (hl : ls.setIfInBounds i true = l') (hc : certB ops C i ls ps = true) (hS : SP B ps ls w) (hd : o.dst = some d) (hlt : Nat.blt d N = true)
 (hy : ∀ a, Fr (δ := δ) N a f → YieldsIf P ops S' o v a) (hS' : ∀ ls' w', (∀ j ∈ C, ls'.getD j true = false) → SP B ps ls' w' → S' w')
 (h : FB (δ := δ) P N ops B M ps n l' (upd f d v) w) : FB (δ := δ) P N ops B M ps (n + 1) ls f w := by
 subst hl
 intro a ha
 unfold certB at hc
 rw [Bool.and_eq_true] at hc
 have hC := List.all_eq_true.1 hc.1
 refine wpAnyI.first (v := v) (fun j => j ∈ C) hi (Region.noSelect_spec hs) (fun c a w hq => ?_) (fun ls w => SP.iff hc.2) (fun j hj => ?_) n ls a w (Region.free_spec hi hf) (by simpa using hr) (fun j hj => ?_) ?_ hS ?_
 · obtain ⟨_, _, h0, _⟩ := hq; cases h0
 · have := hC j hj
   rw [Bool.and_eq_true] at this
   cases ho : ops[j]? with
   | none => rw [ho] at this; cases this.2
   | some oj =>
    rw [ho] at this
    obtain ⟨e, he, hb⟩ := Array.any_eq_true'.1 this.2
    rw [Bool.and_eq_true, Bool.or_eq_true] at hb
    exact ⟨oj, rfl, e, he, hb.1, hb.2.imp (fun h => by simpa using h) fun h => by simpa using h⟩
 · have := hC j hj
   rw [Bool.and_eq_true] at this
   simpa using this.1
 · exact (hy a ha).imp (fun ⟨h1, h2⟩ => ⟨h1, fun w' ⟨ls', k1, k2⟩ => h2 w' (hS' ls' w' k1 k2)⟩) id
 · rw [hd]; exact h _ (ha.put (nblt hlt) v)
theorem FB.take {i d : Nat} {o : Oper} {v : Value} (hi : ops[i]? = some o) (hs : Region.noSelect ops = true) (hf : Region.free .any ops ls i = true) (hr : (Region.ready .any ops ls).contains i = true)
 (hl : ls.setIfInBounds i true = l') (hc : certB ops [] i ls ps = true) (hS : SP B ps ls w) (hw : wF ops f o = true) (hd : o.dst = some d) (hlt : Nat.blt d N = true) (hrun : ∀ w', B w' → (execOp (ev f) o).run P w' = .ok (.value v) w')
 (h : FB (δ := δ) P N ops B M ps n l' (upd f d v) w) : FB (δ := δ) P N ops B M ps (n + 1) ls f w :=
 FB.take0 (S' := B) [] hi hs hf hr hl hc hS hd hlt (fun a ha => .inl ⟨by rw [ha.yielded]; exact hw, fun w' hw' => by rw [ha.eval]; exact hrun w' hw'⟩) (fun _ _ _ k => k.base) h
theorem FB.takeP {Hs : List Nat} {R : World → Prop} {i d : Nat} {o : Oper} {v : Value} (q : Nat) (C : List Nat) (hq : ps[q]? = some (Hs, R)) (hi : ops[i]? = some o) (hs : Region.noSelect ops = true) (hf : Region.free .any ops ls i = true) (hr : (Region.ready .any ops ls).contains i = true)
 (hl : ls.setIfInBounds i true = l') (hc : certB ops C i ls ps = true) (hH : Hs.all (C.contains ·) = true) (hS : SP B ps ls w) (hw : wF ops f o = true) (hd : o.dst = some d) (hlt : Nat.blt d N = true)
 (hrun : ∀ w', R w' → (execOp (ev f) o).run P w' = .ok (.value v) w')
 (h : FB (δ := δ) P N ops B M ps n l' (upd f d v) w) : FB (δ := δ) P N ops B M ps (n + 1) ls f w :=
 FB.take0 (S' := R) C hi hs hf hr hl hc hS hd hlt (fun a ha => .inl ⟨by rw [ha.yielded]; exact hw, fun w' hw' => by rw [ha.eval]; exact hrun w' hw'⟩)
  (fun ls' w' k1 k2 => k2.ph (Hs, R) (List.mem_of_getElem? hq) fun h hh => k1 h (by have := List.all_eq_true.1 hH h hh; simpa using this)) h
theorem FB.skip {i : Nat} {o : Oper} (hi : ops[i]? = some o) (hs : Region.noSelect ops = true) (hf : Region.free .any ops ls i = true) (hr : (Region.ready .any ops ls).contains i = true)
 (hl : ls.setIfInBounds i true = l') (hc : certB ops [] i ls ps = true) (hS : SP B ps ls w) {d : Nat} (hw : wF ops f o = false) (hd : o.dst = some d) (hlt : Nat.blt d N = true)
 (h : FB (δ := δ) P N ops B M ps n l' (upd f d undef) w) : FB (δ := δ) P N ops B M ps (n + 1) ls f w :=
 FB.take0 (S' := B) [] hi hs hf hr hl hc hS hd hlt (fun a ha => .inr ⟨by rw [ha.yielded]; exact hw, rfl⟩) (fun _ _ _ k => k.base) h
theorem FB.done (hr : Region.ready .any ops ls = []) (h : M f w) : FB (δ := δ) P N ops B M ps n ls f w := fun _ ha => by
 cases n with
 | zero => exact ⟨hr, ⟨f, ha, rfl, h⟩⟩
 | succ n => exact ⟨fun _ => ⟨f, ha, rfl, h⟩, fun i hi => by rw [hr] at hi; cases hi⟩
theorem FB.all {rs : List Nat} (hr : Region.ready .any ops ls = rs) (hne : rs ≠ []) (h : ∀ i ∈ rs, FC (δ := δ) P N ops B M ps n ls i f w) : FB (δ := δ) P N ops B M ps (n + 1) ls f w :=
 fun a ha => ⟨fun h0 => absurd (hr ▸ h0) hne, fun i hi => h i (hr ▸ hi) a ha⟩
theorem FB.all1 {i : Nat} (hr : Region.ready .any ops ls = [i]) (h : FC (δ := δ) P N ops B M ps n ls i f w) : FB (δ := δ) P N ops B M ps (n + 1) ls f w :=
 FB.all hr (by simp) fun j hj => by simp at hj; subst hj; exact h
theorem FB.all2 {i j : Nat} (hr : Region.ready .any ops ls = [i, j]) (h1 : FC (δ := δ) P N ops B M ps n ls i f w) (h2 : FC (δ := δ) P N ops B M ps n ls j f w) : FB (δ := δ) P N ops B M ps (n + 1) ls f w :=
 FB.all hr (by simp) fun m hm => by
  simp at hm; rcases hm with rfl | rfl
  · exact h1
  · exact h2
def bs (n m : Nat) : Array Bool := ((List.range n).map fun i => m.testBit i).toArray
theorem FB.t {i d : Nat} {o : Oper} {v : Value} (l' : Array Bool) (hi : ops[i]? = some o) (hS : SP B ps ls w) (hw : wF ops f o = true) (hrun : ∀ w', B w' → (execOp (ev f) o).run P w' = .ok (.value v) w')
 (h : FB (δ := δ) P N ops B M ps n l' (upd f d v) w) (hd : o.dst = some d := by rfl) (hlt : Nat.blt d N = true := by rfl) (hs : Region.noSelect ops = true := by kernel_rfl) (hf : Region.free .any ops ls i = true := by kernel_rfl)
 (hr : (Region.ready .any ops ls).contains i = true := by kernel_rfl) (hl : ls.setIfInBounds i true = l' := by kernel_rfl) (hc : certB ops [] i ls ps = true := by kernel_rfl) : FB (δ := δ) P N ops B M ps (n + 1) ls f w :=
 FB.take hi hs hf hr hl hc hS hw hd hlt hrun h
theorem FB.p {Hs : List Nat} {R : World → Prop} {i d : Nat} {o : Oper} {v : Value} (l' : Array Bool) (q : Nat) (C : List Nat) (hi : ops[i]? = some o) (hS : SP B ps ls w) (hw : wF ops f o = true) (hq : ps[q]? = some (Hs, R)) (hrun : ∀ w', R w' → (execOp (ev f) o).run P w' = .ok (.value v) w')
 (h : FB (δ := δ) P N ops B M ps n l' (upd f d v) w) (hd : o.dst = some d := by rfl) (hlt : Nat.blt d N = true := by rfl) (hs : Region.noSelect ops = true := by kernel_rfl) (hf : Region.free .any ops ls i = true := by kernel_rfl)
 (hr : (Region.ready .any ops ls).contains i = true := by kernel_rfl) (hl : ls.setIfInBounds i true = l' := by kernel_rfl) (hc : certB ops C i ls ps = true := by kernel_rfl) (hH : Hs.all (C.contains ·) = true := by kernel_rfl) : FB (δ := δ) P N ops B M ps (n + 1) ls f w :=
 FB.takeP q C hq hi hs hf hr hl hc hH hS hw hd hlt hrun h
theorem SP.o {B R : World → Prop} {Hs : List Nat} {ps : List (List Nat × (World → Prop))} {ls : Array Bool} {w : World} (h : SP B ps ls w) (hH : (Hs.any fun h => ls.getD h true) = true := by kernel_rfl) : SP B ((Hs, R) :: ps) ls w := SP.off hH h
theorem FC.val {i d : Nat} {o : Oper} {v : Value} (hi : ops[i]? = some o) (hl : ls.setIfInBounds i true = l') (hw : wF ops f o = true) (hd : o.dst = some d) (hlt : Nat.blt d N = true)
 (hr : (execOp (ev f) o).run P w = .ok (.value v) w') (h : SP B ps l' w' ∧ FB (δ := δ) P N ops B M ps n l' (upd f d v) w') : FC (δ := δ) P N ops B M ps n ls i f w := by
 subst hl
 intro a ha
 unfold wpOp
 simp only [hi]
 rw [ha.yielded, if_pos (show Region.wanted o (yF ops f) = true from hw)]
 refine .inl ?_
 unfold Oper.wp
 rw [ha.eval, hr, Oper.upon_value, hd]
 exact ⟨h.1, h.2 _ (ha.put (nblt hlt) v)⟩
theorem FC.act {i : Nat} {o : Oper} (hi : ops[i]? = some o) (hl : ls.setIfInBounds i true = l') (hw : wF ops f o = true) (hd : o.dst = none)
 (hr : (execOp (ev f) o).run P w = .ok .skip w') (h : SP B ps l' w' ∧ FB (δ := δ) P N ops B M ps n l' f w') : FC (δ := δ) P N ops B M ps n ls i f w := by
 subst hl
 intro a ha
 unfold wpOp
 simp only [hi]
 rw [ha.yielded, if_pos (show Region.wanted o (yF ops f) = true from hw)]
 refine .inl ?_
 unfold Oper.wp
 rw [ha.eval, hr, Oper.upon_skip, hd]
 exact ⟨h.1, h.2 _ ha⟩
theorem FC.call {i d fid : Nat} {o : Oper} {args : Array Value} {R : Ending → World → Prop} (hi : ops[i]? = some o) (hl : ls.setIfInBounds i true = l') (hw : wF ops f o = true) (hd : o.dst = some d) (hlt : Nat.blt d N = true)
 (hr : (execOp (ev f) o).run P w = .ok (.enter fid args) w) (hc : Calls P fid args w R)
 (h : ∀ e w', R e w' → ∃ v, e = .returned v ∧ SP B ps l' w' ∧ FB (δ := δ) P N ops B M ps n l' (upd f d v) w') : FC (δ := δ) P N ops B M ps n ls i f w := by
 subst hl
 intro a ha
 unfold wpOp
 simp only [hi]
 rw [ha.yielded, if_pos (show Region.wanted o (yF ops f) = true from hw)]
 refine .inl ?_
 unfold Oper.wp
 rw [ha.eval, hr, Oper.upon_enter, hd]
 refine hc.mono fun e w' r => ?_
 obtain ⟨v, rfl, hS, hv⟩ := h e w' r
 exact ⟨hS, hv _ (ha.put (nblt hlt) v)⟩
end
section
variable {P : Program} {f : Fm} {d : Option Tmp} {ty : TypeId} {pos : String} {aft : Array Edge} {gd : Option (Nat × Bool)} {x : Operand} {H0 H H' : GH} {w0 w w' : World} {l : List MO} {e k n : Nat} {z v : Value}
theorem E.lenOW {α : Type} {En : Enc α} {xs : List α} {cells : List Value} {t e' : Nat} (te : TE P t e' k z) (hx : ev f x = v) (h : St H0 w0 H w l) {i : Nat} (hi : l[i]? = some (.row e k v n cells)) (he : Els H' En k cells xs) (hk : 0 < k) :
 (execOp (ev f) ⟨d, .call ⟨.builtin .len, #[x], #[t]⟩, ty, pos, aft, gd⟩).run P w' = .ok (.value (.int .i64 (Pu.len xs))) w' := by
 have := E.len (P := P) (f := f) (w := w') (d := d) (ty := ty) (pos := pos) (aft := aft) (gd := gd) te hx (h.row_ln hi)
 rw [h.row_n hi he hk] at this; exact this
end
section
variable {ρ : Option Nat} {δ : List Nat} {P : Program} {N : Nat} {Q : FQ} {f : Fm} {w : World} {ops : Array Oper} {o : Oper} {rest : List Oper}
theorem FL.v {d : Nat} {v : Value} {w' : World} (hr : (execOp (ev f) o).run P w = .ok (.value v) w') (h : FL (ρ := ρ) (δ := δ) P N ops Q rest (upd f d v) w')
 (hw : wF ops f o = true := by rfl) (hd : o.dst = some d := by rfl) (hlt : Nat.blt d N = true := by rfl) : FL (ρ := ρ) (δ := δ) P N ops Q (o :: rest) f w := FL.val hw hd hlt hr h
end
end Go.Mr
namespace Go.Mr
open Go.RowKit Go.Pu
structure KeyNow (P : Program) (kt : TypeId) {K : Type} [BEq K] (ek : K → Value) : Prop where
 kd : ∃ kd, (∀ w, (underlying kt).run P w = .ok kd w) ∧ ∀ a b, Instr.sameNow kd (ek a) (ek b) = some (a == b)
 eq : ∀ a b : K, (a == b) = true → a = b
 bits : ∀ a, Instr.sameBits 10000 (ek a) (ek a) = true
 chk : ∀ e a w, (Instr.checkKey e 10000 kt (ek a)).run P w = .ok () w
section
variable {H0 H : GH} {w0 w : World} {l : List MO} {P : Program} {K V : Type} {ek : K → Value} {en : V → Value} {kt et t : TypeId} {o : Obj} {m : List (K × V)} {i b : Nat}
theorem E.indexArr {f : Fm} {d : Option Tmp} {ty : TypeId} {pos : String} {aft : Array Edge} {gd : Option (Nat × Bool)} {x y : Operand} {n e k j off : Nat} {p : Addr} {kk : IntKind} (ht : ∀ w, (underlying t).run P w = .ok (.array n e) w) (hs : ∀ w, (sizeOf e).run P w = .ok k w)
 (hx : ev f x = .pointer (some p)) (hy : ev f y = .int kk ((j : Nat) : Int)) (h1 : j < n) (ho : j * k = off) : (execOp (ev f) ⟨d, .indexAddr t x y, ty, pos, aft, gd⟩).run P w = .ok (.value (.pointer (some (p.add off)))) w := by
 subst ho
 simp [execOp, hx, hy, Instr.indexAt, asIntOf, ht, hs, Instr.sureAddr, h1]
end
end Go.Mr
namespace Go.Mr
open Go.RowKit Go.Pu
section
variable {H0 H G G' : GH} {w0 w : World} {l : List MO} {P : Program} {t e n : Nat} {v u : Value} {α : Type} {En : Enc α} {cells c0 : List Value} {xs ys : List α} {j : Int} {x : α} {i : Nat}
structure Pend (G : GH) (En : Enc α) (cells : List Value) (xs : List α) (j : Int) (u : Value) : Prop where
 pd : ∃ c0, Els G En 1 c0 xs ∧ 0 ≤ j ∧ j < xs.length ∧ cells = c0.take (j.toNat * 1) ++ [u] ++ c0.drop (j.toNat * 1 + 1)
end
end Go.Mr
namespace Go.Mr
open Go.RowKit Go.Pu
section
variable {P : Program} {H0 H : GH} {w0 w : World} {l : List MO} {e t : TypeId} {k n : Nat} {v u : Value}
theorem St.putRowAt (h : St H0 w0 H w l) {i : Nat} {cells : List Value} (hi : l[i]? = some (.row e k v n cells)) {j : Int} {p : Addr} (hp : PtrOf k v j p) {off m : Nat} (hom : off + m ≤ k)
 (ts : ∀ w, (sizeOf t).run P w = .ok m w) (hu : u.cells.size = m) (h1 : ∀ c ∈ u.cells.toList, c.oneCell' = true) {l' : MO → List MO} (hl : ∀ o, l.set i o = l' o) :
 ∃ w1, (Instr.storeAt t (.pointer (some (p.add off))) u).run P w = .ok () w1 ∧ St H0 w0 H w1 (l' (.row e k v n (cells.take (j.toNat * k + off) ++ u.cells.toList ++ cells.drop (j.toNat * k + off + m)))) := by
 obtain ⟨⟨k1, k2⟩, k3⟩ := h.ok i _ hi
 obtain ⟨a, len, cap, rfl, h0, hlt, rfl⟩ := hp
 rcases k2 with ⟨h3, _⟩ | ⟨g, cap', cur, hv, hg, hh, hle, hcm, hsz, htk⟩
 · cases h3
 · cases hv
   have hlt' : j.toNat < n := by omega
   have hmul : j.toNat * k + k ≤ n * k := by
    rw [show j.toNat * k + k = (j.toNat + 1) * k by rw [Nat.add_mul, Nat.one_mul]]; exact Nat.mul_le_mul_right _ hlt'
   have hmul2 : n * k ≤ cap * k := Nat.mul_le_mul_right _ hle
   generalize j.toNat * k = q at *
   have hst := run_storeCells_at P g (q + off) e u.cells.toList 0 cur w hh (by simp [hu]; omega) h1
   simp only [Nat.add_zero, Array.length_toList, hu] at hst
   refine ⟨w.setRow g (List.take (q + off) cur.toList ++ u.cells.toList ++ List.drop (q + off + m) cur.toList).toArray, ?_, ?_⟩
   · rw [addr_add_add]
     simp only [Addr.add_lit, Nat.zero_add]
     simp [Instr.storeAt, Instr.sureAddr, storeVar, ts, hu, hst]
   · rw [← hl]
     refine h.upd hi (grownBy_setRow w g _) (Nat.le_refl _) ⟨⟨?_, .inr ⟨g, cap, _, rfl, hg, setRow_heap w g _ _ _ _ hh, hle, hcm, ?_, ?_⟩⟩, ?_⟩ (fun b hb => .inl hb)
     · simp only [List.length_append, List.length_take, List.length_drop, Array.length_toList, hu, k1]; omega
     · simp only [List.size_toArray, List.length_append, List.length_take, List.length_drop, Array.length_toList, hu, hsz]; omega
     · simp only [List.append_assoc]
       rw [← htk, List.take_take, Nat.min_eq_left (by omega), List.take_append, List.take_take, List.length_take, Array.length_toList, hsz, Nat.min_eq_left (show q + off ≤ cap * k by omega), Nat.min_eq_right (show q + off ≤ n * k by omega),
        List.take_append, List.take_of_length_le (show u.cells.toList.length ≤ n * k - (q + off) by simp [hu]; omega), Array.length_toList, hu, List.drop_take]
       rw [show n * k - (q + off) - m = n * k - (q + off + m) by omega]
     · intro c hc
       simp only [List.append_assoc, List.mem_append] at hc
       rcases hc with hc | hc | hc
       · exact k3 c (List.mem_of_mem_take hc)
       · exact h1 c hc
       · exact k3 c (List.mem_of_mem_drop hc)
theorem St.cells_at (h : St H0 w0 H w l) {i : Nat} {cells : List Value} (hi : l[i]? = some (.row e k v n cells)) {j : Int} {p : Addr} (hp : PtrOf k v j p) {cs : List Value} (hcs : cs.length = k) (hc : WAt w p cs) :
 (cells.drop (j.toNat * k)).take k = cs ∧ j.toNat * k + k ≤ cells.length := by
 obtain ⟨⟨k1, k2⟩, k3⟩ := h.ok i _ hi
 obtain ⟨a, len, cap, rfl, h0, hlt, rfl⟩ := hp
 rcases k2 with ⟨h3, _⟩ | ⟨g, cap', cur, hv, hg, hh, hle, hcm, hsz, htk⟩
 · cases h3
 · cases hv
   have hlt' : j.toNat < n := by omega
   have hmul : j.toNat * k + k ≤ n * k := by
    rw [show j.toNat * k + k = (j.toNat + 1) * k by rw [Nat.add_mul, Nat.one_mul]]; exact Nat.mul_le_mul_right _ hlt'
   refine ⟨?_, by rw [k1]; exact hmul⟩
   apply List.ext_getElem?
   intro m
   rw [List.getElem?_take, List.getElem?_drop]
   by_cases hm : m < k
   · rw [if_pos hm]
     have hm2 : m < cs.length := by omega
     have h2 := hc m cs[m] (List.getElem?_eq_getElem hm2)
     rw [addr_add_add, Addr.add_lit, Nat.zero_add, cell_of_row w g _ _ _ _ hh] at h2
     rw [List.getElem?_eq_getElem hm2, ← h2, ← htk, List.getElem?_take, if_pos (by omega)]
     simp
   · rw [if_neg hm, List.getElem?_eq_none (by omega)]
theorem St.putPart {α : Type} {G : GH} {En : Enc α} {xs ys : List α} {x0 : α} {cells c cs c2 : List Value} (h : St H0 w0 H w l) {i : Nat} (hi : l[i]? = some (.row e k v n cells)) (he : Els G En k cells xs) {j : Int}
 (hy : put xs j x0 = some ys) {p : Addr} (hp : PtrOf k v j p) (hcs : cs.length = k) (hc : WAt w p cs) {off m : Nat} (ts : ∀ w, (sizeOf t).run P w = .ok m w) (hu : u.cells = c.toArray) (hcm : c.length = m) (hom : off + m ≤ k) (h1 : ∀ b ∈ c, b.oneCell' = true)
 (h2 : cs.take off ++ c ++ cs.drop (off + m) = c2) (hr : En.rel G c2 x0) :
 ∃ w1 cells', (Instr.storeAt t (.pointer (some (p.add off))) u).run P w = .ok () w1 ∧ St H0 w0 H w1 (l.set i (.row e k v n cells')) ∧ Els G En k cells' ys ∧ cells' = cells.take (j.toNat * k) ++ c2 ++ cells.drop (j.toNat * k + k) := by
 obtain ⟨h0, h3, rfl⟩ := put_some hy
 obtain ⟨w1, hst, hS⟩ := h.putRowAt (P := P) (l' := fun o => l.set i o) hi hp hom ts (u := u) (by rw [hu]; simpa using hcm) (by rw [hu]; simpa using h1) (fun o => rfl)
 rw [hu] at hS
 obtain ⟨g1, g2⟩ := h.cells_at hi hp hcs hc
 have hlen : c2.length = k := by rw [← h2]; simp only [List.length_append, List.length_take, List.length_drop, hcs, hcm]; omega
 have heq : cells.take (j.toNat * k + off) ++ c ++ cells.drop (j.toNat * k + off + m) = cells.take (j.toNat * k) ++ c2 ++ cells.drop (j.toNat * k + k) := by
  rw [← h2, ← g1]
  generalize j.toNat * k = q at *
  have e1 : cells.take (q + off) = cells.take q ++ (cells.drop q).take off := by rw [List.take_add]
  have e2 : cells.drop (q + off + m) = ((cells.drop q).take k).drop (off + m) ++ cells.drop (q + k) := by
   rw [List.drop_take, List.drop_drop]
   have : cells.drop (q + k) = (cells.drop (q + (off + m))).drop (k - (off + m)) := by rw [List.drop_drop]; congr 1; omega
   rw [this, List.take_append_drop]; congr 1; omega
  rw [e1, e2, List.take_take, Nat.min_eq_left (by omega)]
  simp only [List.append_assoc]
 refine ⟨w1, _, hst, ?_, he.put hlen hr _ (by omega), rfl⟩
 rw [← heq]
 simpa using hS
end
section
variable {δ : List Nat} {fn : Func} {N : Nat} {P : Program} {w : World} {R : Ending → World → Prop} {f : Fm}
end
end Go.Mr
namespace Go.Mr
open Go.RowKit Go.Pu
def iC (xs : List Int) : List Value := xs.map (Value.int .i64)
def iP (xs : List Int) : Array (Nat × Value) := ((xs.zipIdx 0).map fun p => (p.2, Value.int .i64 p.1)).toArray
theorem els_ints (G : GH) (xs : List Int) : Els G eI 1 (iC xs) xs := by
 have key : ∀ ys : List Int, Els G eI 1 (iC ys.reverse) ys.reverse := by
  intro ys
  induction ys with
  | nil => exact .nil
  | cons x ys ih =>
   have := Els.snoc (c := [Value.int .i64 x]) (x := x) ih rfl (show eI.rel G [Value.int .i64 x] x from rfl)
   unfold iC at this ⊢
   rw [List.reverse_cons, List.map_append]
   exact this
 have := key xs.reverse
 rwa [List.reverse_reverse] at this
theorem flat_ints (xs : List Int) : ((xs.map (Value.int .i64)).map (·.cells.toList)).flatten = iC xs := by
 unfold iC
 induction xs with
 | nil => rfl
 | cons x xs ih => rw [List.map_cons, List.map_cons, List.flatten_cons, ih]; rfl
theorem St.ints {P : Program} {H0 H : GH} {w0 w : World} {l : List MO} {t e : Nat} {z : Value} (h : St H0 w0 H w l) (te : TE P t e 1 z) (G : GH) (n : Nat) (xs : List Int) (hn : xs.length = n := by rfl) (hsm : Nat.ble n 1000 = true := by rfl) :
 ∃ v w1, (Instr.buildSlice t n (iP xs)).run P w = .ok v w1 ∧ St H0 w0 H w1 (.row e 1 v n (iC xs) :: l) ∧ Els G eI 1 (iC xs) xs := by
 subst hn
 have hl : (xs.map (Value.int .i64)).length = xs.length := List.length_map _
 obtain ⟨v, w1, h1, h2⟩ := h.buildSlice (P := P) te (xs.map (Value.int .i64)) (parts := iP xs) (cells := iC xs) (by
  unfold iP
  show List.map _ _ = _
  rw [List.zipIdx_map, List.map_map]; rfl) (fun v hv => by obtain ⟨x, _, rfl⟩ := List.mem_map.1 hv; rfl) (flat_ints xs) (fun c hc => by unfold iC at hc; obtain ⟨x, _, rfl⟩ := List.mem_map.1 hc; rfl) (by have := Nat.le_of_ble_eq_true hsm; rw [hl]; omega)
 rw [hl] at h1 h2
 exact ⟨v, w1, h1, h2, els_ints G xs⟩
section
variable {δ : List Nat} {P : Program} {N : Nat} {f : Fm} {w w' : World} {ops : Array Oper} {B : World → Prop} {M : Fm → World → Prop} {ps : List (List Nat × (World → Prop))} {n : Nat} {ls l' : Array Bool}
end
end Go.Mr
namespace Go.Pu
def hasS (s sub : ByteArray) : Option Bool := match sub.data.toList with
 | [c] => some (decide (0 ≤ Go.Lib.indexByte s.data.toList c))
 | _ => none
theorem hasS_some {s sub : ByteArray} {b : Bool} (h : hasS s sub = some b) : ∃ c, sub = ⟨#[c]⟩ ∧ b = decide (0 ≤ Go.Lib.indexByte s.data.toList c) := by
 unfold hasS at h
 split at h
 · rename_i c hc
   cases h
   exact ⟨c, ByteArray.ext (Array.ext' hc), rfl⟩
 · cases h
end Go.Pu
namespace Go.Pu
end Go.Pu
