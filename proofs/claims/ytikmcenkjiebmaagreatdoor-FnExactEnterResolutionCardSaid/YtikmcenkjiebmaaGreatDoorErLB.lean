/- Helpers of the walks and plain laws. -/
import Derived.Test.YtikmcenkjiebmaaGreatDoorErLA
import Derived.ProofKit
import Derived.OpenShut
import Derived.WideKeyArgs
import Derived.Lib.ItoaNum
import Derived.Shelf.Strconv.Itoa3
import Derived.Lib.ItoaLen
import Derived.Laws.Slices
import Derived.Shelf.SlSortCmp.Kit1
import Derived.Sort.LotA
import Derived.Lib.SlicesCompact
import Derived.Shelf.SlicesE.Compact
import Derived.Ground.SlgnProg
import Derived.Shelf.Sort.Plain
import Derived.Shelf.Slices.In.SortNone
import Derived.RangeFuncRecord
import Derived.ChangeVars
import Derived.Shelf.SlicesE.Delete
import Derived.Laws.StructEq
import Derived.KernelRfl
import Derived.Lib.AppendZerosOnto
import Derived.Lib.Overlaps
import Derived.LaidEql
import Derived.Stop.Asserts
import Derived.RowKitTokens
import Derived.Stop.LaidErr
import Derived.Lib.Bytealg
import Derived.Laws.BytesString
import Derived.OrdersIn
set_option linter.unusedVariables false
namespace Go.Mr
open Go.RowKit Go.Pu
section
variable {P : Program} {w w' : World} {H0 H H' : GH} {w0 : World} {l : List MO} {e k n t : Nat} {v u : Value} {A : Type} {En : Enc A}
def gset (H : GH) (b : Nat) (o : Obj) : GH := fun c => if c = b then some o else H c
theorem St.poke (h : St H0 w0 H w l) (hs0 : Sl H0 w0) {b : Nat} {arr : Array Value} {fr : Nat × Nat} (hb : up w0.heap.size H b = some (.cells arr e fr)) {j : Nat} (hj : j < arr.size) (ts : ∀ w, (sizeOf t).run P w = .ok 1 w) (hu : u.cells = #[u]) (h1 : u.oneCell' = true) :
 ∃ w1 arr', (Instr.storeAt t (.pointer (some ⟨b, j, Option.none⟩)) u).run P w = .ok () w1 ∧ St H0 w0 (gset H b (.cells arr' e (0, 0))) w1 l ∧
  fr = (0, 0) ∧ arr' = arr.set j u hj := by
 obtain ⟨hB, hH, hok⟩ := up_iff.1 hb
 have hfr : fr = (0, 0) := by simpa [okO] using hok
 subst hfr
 have hw := h.sl b _ hH
 have hst := run_storeCells_at P b j e [u] 0 arr w hw (by simp; omega) (by simpa using h1)
 simp only [Nat.add_zero, List.length_singleton] at hst
 have harr : (List.take j arr.toList ++ [u] ++ List.drop (j + 1) arr.toList).toArray = arr.set j u hj := by
  apply Array.ext'
  simp [List.set_eq_take_append_cons_drop, hj]
 rw [harr] at hst
 refine ⟨w.setRow b (arr.set j u hj), arr.set j u hj, ?_, ?_, rfl, rfl⟩
 · simp [Instr.storeAt, Instr.sureAddr, storeVar, ts, hu, hst]
 · have hg := grownBy_setRow w b (arr.set j u hj)
   have hnb : ∀ (i : Nat) (o : MO), l[i]? = some o → o.blk ≠ some b := fun i o hi e => by
    have := h.out i o b hi e; rw [hH] at this; cases this
   have hbs : b < w.heap.size := (Array.getElem?_eq_some_iff.1 hw).1
   refine ⟨⟨h.run.bel.grown hg h.size (fun c hc => by cases hc; exact hB), fun c hc => ?_, fun c o hc => ?_, fun c o hc => ?_, Nat.le_trans h.run.drw (Nat.le_refl _), fun c o hc => ?_⟩, fun i o hi => (h.ok i o hi).kept hg.size fun c hc => ?_, fun i o c hi hc => ?_, h.dis⟩
   · unfold gset; rw [if_neg (by omega)]; exact h.run.agr c hc
   · unfold gset at hc
     split at hc
     · rename_i he; subst he; cases hc; exact setRow_heap w c _ _ _ _ hw
     · rename_i hne
       have := h.sl c o hc
       rw [hg.block c (Array.getElem?_eq_some_iff.1 this).1 (by simpa using hne)]; exact this
   · have hlt : c < w0.heap.size := (Array.getElem?_eq_some_iff.1 (hs0 c o hc)).1
     unfold gset; rw [if_neg (by omega)]; exact h.inc c o hc
   · unfold gset at hc
     split at hc
     · cases hc; exact .inr rfl
     · exact h.run.cel c o hc
   · exact hg.block c ((h.ok i o hi).lt c hc).2 (fun e => hnb i o hi (by rw [hc, e]))
   · unfold gset
     rw [if_neg (fun e => hnb i o hi (by rw [hc, e]))]
     exact h.out i o c hi hc
def Nest {A : Type} (G : GH) (En : Enc A) (k : Nat) (v : Value) (xs : List A) (c : List Value) : Prop :=
 RSl G En k v xs ∧ Els G En k c xs ∧ (∀ a len cap, v = .slice (some a) len cap → xs ≠ [] → CAt G a c) ∧ (bl c).Nodup ∧ ∀ b ∈ bl [v], b ∉ bl c
theorem St.sealRowN {xs : List A} (h : St H0 w0 H w l) {i : Nat} {cells : List Value} {l' : List MO} (hi : l[i]? = some (.row e k v n cells)) (he : Els (up w0.heap.size H) En k cells xs) (nd : (bl cells).Nodup) (hk : 0 < k) (hl : l.eraseIdx i = l') :
 ∃ H1, St H0 w0 H1 w l' ∧ Inc H H1 ∧ Nest (up w0.heap.size H1) En k v xs cells ∧ New H [v] := by
 obtain ⟨H1, h1, h2, h3, h4⟩ := h.sealRowU hi he hk hl
 refine ⟨H1, h1, h2, ⟨h3, he.mono (up_mono h2), ?_, nd, fun b hb hc => ?_⟩, h4⟩
 · rintro a len cap rfl hne
   obtain ⟨x, hx⟩ : ∃ x, xs[0]? = some x := by
    cases xs with
    | nil => exact absurd rfl hne
    | cons x xs => exact ⟨x, rfl⟩
   obtain ⟨a', cap', hv, _, g2⟩ := h3
   cases hv
   obtain ⟨p, cs, hp, _, ⟨arr, t, fr, g4, g5, _⟩, _⟩ := g2 0 x hx
   cases hp
   rw [Nat.zero_mul, Addr.add_zero'] at g4 g5
   obtain ⟨⟨k1, k2⟩, _⟩ := h.ok i _ hi
   rcases k2 with ⟨hv, _⟩ | ⟨g, cap', cur, hv, hg, hh, hle, hcm, hsz, htk⟩
   · cases hv
   · cases hv
     have hnow := h1.sl _ _ (upI _ _ g4)
     simp only at hnow
     rw [hh] at hnow
     cases hnow
     refine ⟨_, _, _, g4, rfl, fun j c hc => ?_⟩
     rw [← htk, List.getElem?_take] at hc
     split at hc
     · simpa using hc
     · cases hc
 · have := h4 b hb
   exact Els.dom (he.mono upI) b hc this
theorem RSl.only {G G' : GH} {xs : List A} (r : RSl G En k v xs) (hE : ∀ (H H' : GH) cs x, En.rel H cs x → En.rel H' cs x) (h : ∀ b ∈ bl [v], G' b = G b) : RSl G' En k v xs := by
 obtain ⟨a, cap, rfl, g1, g2⟩ := r
 refine ⟨a, cap, rfl, g1, fun i x hx => ?_⟩
 obtain ⟨p, cs, rfl, g3, ⟨arr, e, fr, g4, g5⟩, g6⟩ := g2 i x hx
 refine ⟨p, cs, rfl, g3, ⟨arr, e, fr, ?_, g5⟩, hE _ _ _ _ g6⟩
 have hb : (p.add (i * k)).block = p.block := by unfold Addr.add; split <;> rfl
 rw [hb] at g4 ⊢
 rw [h p.block ?_]
 · exact g4
 · refine mem_bl1 ?_
   have : 0 < xs.length := Nat.lt_of_le_of_lt (Nat.zero_le _) (List.getElem?_eq_some_iff.1 hx).1
   simp only [neb]
   rw [if_neg (by omega)]
theorem bl_get {c : List Value} {i : Nat} {u : Value} (h : c[i]? = some u) : ∀ b ∈ bl [u], b ∈ bl c := fun b hb => by
 obtain ⟨u', hu, hn⟩ := mem_bl hb
 simp only [List.mem_singleton] at hu
 subst hu
 exact List.mem_filterMap.2 ⟨u', List.mem_of_getElem? h, hn⟩
theorem bl_apart : ∀ {c : List Value} {i j : Nat} {u u' : Value}, (bl c).Nodup → c[i]? = some u → c[j]? = some u' → i < j → ∀ b ∈ bl [u], b ∉ bl [u'] := by
 intro c
 induction c with
 | nil => intro i j u u' _ h; simp at h
 | cons x c ih =>
  intro i j u u' nd hi hj hij b hb hb'
  have nd' : (bl [x] ++ bl c).Nodup := by rw [← bl_app]; exact nd
  rw [List.nodup_append] at nd'
  cases j with
  | zero => omega
  | succ j =>
   cases i with
   | zero => simp at hi; subst hi; exact nd'.2.2 b hb b (bl_get (by simpa using hj) b hb') rfl
   | succ i => exact ih nd'.2.1 (by simpa using hi) (by simpa using hj) (by omega) b hb hb'
theorem bl_apart' {c : List Value} {i j : Nat} {u u' : Value} (nd : (bl c).Nodup) (hi : c[i]? = some u) (hj : c[j]? = some u') (hij : i ≠ j) : ∀ b ∈ bl [u'], b ∉ bl [u] := fun b hb hb' => by
 rcases Nat.lt_or_gt_of_ne hij with h | h
 · exact bl_apart nd hi hj h b hb' hb
 · exact bl_apart nd hj hi h b hb hb'
theorem up_same {B : Nat} {H H' : GH} {b : Nat} (h : H' b = H b) : up B H' b = up B H b := by unfold up; rw [h]
end
end Go.Mr
namespace Go.Mr
open Go.RowKit Go.Pu
section
variable {P : Program} {w w' : World} {H0 H H' Hs : GH} {w0 : World} {l : List MO} {t e k : Nat} {v u : Value} {A : Type} {En : Enc A} {B lo hi : Nat}
def sg (lo hi : Nat) (H : GH) : GH := fun b => if b < hi then up lo H b else none
theorem sg_iff {b : Nat} {o : Obj} : sg lo hi H b = some o ↔ lo ≤ b ∧ b < hi ∧ H b = some o ∧ okO o = true := by
 unfold sg
 split
 · rename_i h; rw [up_iff]; constructor
   · rintro ⟨a, b, c⟩; exact ⟨a, h, b, c⟩
   · rintro ⟨a, _, b, c⟩; exact ⟨a, b, c⟩
 · rename_i h; constructor
   · nofun
   · rintro ⟨_, a, _⟩; exact absurd a h
theorem sgI : Inc (sg lo hi H) H := fun _ _ h => (sg_iff.1 h).2.2.1
theorem sg_up {lo' : Nat} (h : lo' ≤ lo) (hi' : Inc H H') : Inc (sg lo hi H) (up lo' H') := fun b o hb => by
 obtain ⟨a, b, c, d⟩ := sg_iff.1 hb
 exact up_iff.2 ⟨by omega, hi' _ _ c, d⟩
theorem sg_of (h : Sl H w) : Inc (up lo H) (sg lo w.heap.size H) := fun b o hb => by
 obtain ⟨a, c, d⟩ := up_iff.1 hb
 exact sg_iff.2 ⟨a, (Array.getElem?_eq_some_iff.1 (h _ _ c)).1, c, d⟩
theorem sg_mono (h : Inc H H') : Inc (sg lo hi H) (sg lo hi H') := fun b o hb => by
 obtain ⟨a, b, c, d⟩ := sg_iff.1 hb
 exact sg_iff.2 ⟨a, b, h _ _ c, d⟩
theorem sg_keep {lo' hi' : Nat} (h : ∀ b, b < lo' ∨ hi' ≤ b → ∀ o, H b = some o → H' b = some o) (ho : hi ≤ lo' ∨ hi' ≤ lo) : Inc (sg lo hi H) (sg lo hi H') := fun b o hb => by
 obtain ⟨a, b, c, d⟩ := sg_iff.1 hb
 exact sg_iff.2 ⟨a, b, h _ (by omega) _ c, d⟩
def LocE (En : Enc A) : Prop := ∀ (H H' : GH) cs x, En.rel H cs x → (∀ b ∈ bl cs, H' b = H b) → En.rel H' cs x
def FlatE (En : Enc A) : Prop := ∀ (H H' : GH) cs x, En.rel H cs x → En.rel H' cs x ∧ bl cs = []
theorem FlatE.loc (h : FlatE En) : LocE En := fun H H' cs x hr _ => (h H H' cs x hr).1
theorem FlatE.rel (h : FlatE En) (H H' : GH) (cs : List Value) (x : A) : En.rel H cs x → En.rel H' cs x := fun hr => (h H H' cs x hr).1
theorem eI_flat : FlatE eI := by rintro H H' cs x rfl; exact ⟨rfl, rfl⟩
theorem eL_loc (h : FlatE En) : LocE (eL En k) := by
 rintro H H' cs x ⟨v, rfl, hr⟩ hb
 exact ⟨v, rfl, hr.only h.rel hb⟩
theorem Nest.mono {G G' : GH} {xs : List A} {c : List Value} (h : Nest G En k v xs c) (hi : Inc G G') : Nest G' En k v xs c :=
 ⟨h.1.mono hi, h.2.1.mono hi, fun a len cap hv hne => (h.2.2.1 a len cap hv hne).mono hi, h.2.2.2⟩
theorem Nest.rsl {G : GH} {xs : List A} {c : List Value} (h : Nest G En k v xs c) : RSl G En k v xs := h.1
theorem Nest.dom {G : GH} {xs : List A} {c : List Value} (h : Nest G En k v xs c) : ∀ b, b ∈ bl [v] ∨ b ∈ bl c → G b ≠ none := fun b hb => by
 rcases hb with hb | hb
 · exact h.1.dom b hb
 · exact h.2.1.dom b hb
theorem bl_sub {c : List Value} {i j : Nat} : ∀ b ∈ bl ((c.drop i).take j), b ∈ bl c := fun b hb => by
 obtain ⟨u, hu, hn⟩ := mem_bl hb
 exact List.mem_filterMap.2 ⟨u, List.mem_of_mem_drop (List.mem_of_mem_take hu), hn⟩
theorem Els.at {G : GH} {xs : List A} {c : List Value} (h : Els G En k c xs) {i : Nat} {x : A} (hx : xs[i]? = some x) : ((c.drop (i * k)).take k).length = k ∧ En.rel G ((c.drop (i * k)).take k) x := by
 obtain ⟨ci, h1, h2, h3⟩ := h.get i x hx
 have e : (c.drop (i * k)).take k = ci := by
  apply List.ext_getElem?
  intro j
  by_cases hj : j < k
  · rw [List.getElem?_take_of_lt hj, List.getElem?_drop]
    have : j < ci.length := by omega
    rw [h3 j ci[j] (by simp [this])]; simp [this]
  · rw [List.getElem?_eq_none (by simp; omega), List.getElem?_eq_none (by omega)]
 rw [e]; exact ⟨h1, h2⟩
theorem Els.mk' {G : GH} : ∀ (xs : List A) (c : List Value), c.length = xs.length * k → (∀ (i : Nat) x, xs[i]? = some x → En.rel G ((c.drop (i * k)).take k) x) → Els G En k c xs := by
 intro xs
 rw [← List.reverse_reverse xs]
 generalize xs.reverse = d
 induction d with
 | nil => intro c hl _; simp at hl; subst hl; exact .nil
 | cons x d ih =>
  intro c hl h
  rw [List.reverse_cons] at hl h ⊢
  have hl' : c.length = d.reverse.length * k + k := by rw [hl, List.length_append, Nat.add_mul]; simp
  have hc : c = c.take (d.reverse.length * k) ++ c.drop (d.reverse.length * k) := (List.take_append_drop _ _).symm
  rw [hc]
  refine .snoc (ih _ (by rw [List.length_take]; omega) fun i y hy => ?_) (by rw [List.length_drop]; omega) ?_
  · have hi : i < d.reverse.length := (List.getElem?_eq_some_iff.1 hy).1
    have := h i y (by rw [List.getElem?_append_left hi]; exact hy)
    have hm : i * k + k ≤ d.reverse.length * k := by rw [show i * k + k = (i + 1) * k by rw [Nat.add_mul, Nat.one_mul]]; exact Nat.mul_le_mul_right _ hi
    rw [List.drop_take, List.take_take, Nat.min_eq_left (by omega)]; exact this
  · have := h d.reverse.length x (by simp)
    rw [List.take_of_length_le (by rw [List.length_drop]; omega)] at this
    exact this
theorem Nest.same {G G' : GH} {xs : List A} {c : List Value} (h : Nest G En k v xs c) (hE : LocE En) (hb : ∀ b, b ∈ bl [v] ∨ b ∈ bl c → G' b = G b) : Nest G' En k v xs c := by
 obtain ⟨h1, h2, h3, h4, h5⟩ := h
 have hE2 : Els G' En k c xs := Els.mk' xs c h2.length fun i x hx => hE G G' _ x (h2.at hx).2 fun b hb' => hb b (.inr (bl_sub b hb'))
 have hC : ∀ a len cap, v = .slice (some a) len cap → xs ≠ [] → CAt G' a c := fun a len cap hv hne => by
  obtain ⟨arr, e, fr, g4, g5⟩ := h3 a len cap hv hne
  refine ⟨arr, e, fr, ?_, g5⟩
  rw [hb a.block (.inl ?_)]; exact g4
  subst hv
  obtain ⟨_, _, hv, _⟩ := h1
  cases hv
  refine mem_bl1 ?_
  have : xs.length ≠ 0 := fun e => hne (List.eq_nil_of_length_eq_zero e)
  simp only [neb]; rw [if_neg this]
 refine ⟨?_, hE2, hC, h4, h5⟩
 obtain ⟨a, cap, rfl, g1, g2⟩ := h1
 refine ⟨a, cap, rfl, g1, fun i x hx => ?_⟩
 obtain ⟨p, cs, rfl, g3, g4, g6⟩ := g2 i x hx
 obtain ⟨arr, e, fr, q1, q2, q3⟩ := hC p _ _ rfl (by intro e; subst e; simp at hx)
 have hat := hE2.at hx
 refine ⟨p, _, rfl, hat.1, ⟨arr, e, fr, ?_, ?_, fun j u hu => ?_⟩, hat.2⟩
 · rw [show (p.add (i * k)).block = p.block by unfold Addr.add; split <;> rfl]; exact q1
 · unfold Addr.add; split
   · exact q2
   · rfl
 · rw [List.getElem?_take] at hu
   split at hu
   · rw [List.getElem?_drop] at hu
     have := q3 _ _ hu
     have ho : (p.add (i * k)).off = p.off + i * k := by unfold Addr.add; split <;> simp_all
     rw [ho, Nat.add_assoc]; exact this
   · cases hu
structure Wr (Hs H : GH) (p : Addr) (ci ci' : List Value) : Prop where
 out : ∀ b, b ≠ p.block → b ∉ bl ci → H b = Hs b
 arr : ∃ arr arr' e, Hs p.block = some (.cells arr e (0, 0)) ∧ H p.block = some (.cells arr' e (0, 0)) ∧ arr'.size = arr.size ∧ (∀ (j : Nat) u, ci'[j]? = some u → arr'[p.off + j]? = some u) ∧
  ∀ j, j < p.off ∨ p.off + ci.length ≤ j → arr'[j]? = arr[j]?
 len : ci'.length = ci.length
 spot : p.spot = none
 blk : bl ci' = bl ci
 own : p.block ∉ bl ci
theorem Wr.now {p : Addr} {ci ci' : List Value} (h : Wr Hs H p ci ci') (hs : Sl H w) : WAt w p ci' := by
 obtain ⟨arr, arr', e, _, h2, _, h4, _⟩ := h.arr
 exact CAt.now ⟨arr', e, (0, 0), h2, h.spot, h4⟩ hs
theorem addr_eta {p : Addr} (h : p.spot = none) (j : Nat) : p.add j = ⟨p.block, p.off + j, none⟩ := by
 unfold Addr.add
 split
 · rename_i h0; subst h0; cases p; simp_all
 · rfl
theorem bl_set {c : List Value} : ∀ {j : Nat} {u0 u : Value}, c[j]? = some u0 → neb u0 = none → neb u = none → bl (c.set j u) = bl c := by
 induction c with
 | nil => intro j u0 u h; simp at h
 | cons x c ih =>
  intro j u0 u h h0 h1
  cases j with
  | zero => simp at h; subst h; simp [bl, h0, h1]
  | succ j =>
   have := ih (j := j) (by simpa using h) h0 h1
   simp only [List.set_cons_succ]
   unfold bl at this ⊢
   rw [List.filterMap_cons, List.filterMap_cons, this]
theorem Wr.poke {p : Addr} {ci ci' : List Value} (h : Wr Hs H p ci ci') (S : St H0 w0 H w l) (hs0 : Sl H0 w0) (hB : w0.heap.size ≤ p.block) {j : Nat} {u0 : Value} (hj : ci'[j]? = some u0) (h0 : neb u0 = none) (h1 : neb u = none)
 (ts : ∀ w, (sizeOf t).run P w = .ok 1 w) (hu : u.cells = #[u]) (ho : u.oneCell' = true) {c2 : List Value} (hc2 : ci'.set j u = c2) :
 ∃ w1 H1, (Instr.storeAt t (.pointer (some (p.add j))) u).run P w = .ok () w1 ∧ St H0 w0 H1 w1 l ∧ Wr Hs H1 p ci c2 ∧ ∀ b, b ≠ p.block → H1 b = H b := by
 subst hc2
 obtain ⟨arr, arr', e, a1, a2, a3, a4, a5⟩ := h.arr
 have hin := a4 j u0 hj
 have hjl : j < ci.length := by rw [← h.len]; exact (List.getElem?_eq_some_iff.1 hj).1
 have hlt : p.off + j < arr'.size := (Array.getElem?_eq_some_iff.1 hin).1
 obtain ⟨w1, arr2, q1, q2, q3, q4⟩ := S.poke hs0 (P := P) (t := t) (u := u) (b := p.block) (e := e) (fr := (0, 0)) (up_iff.2 ⟨hB, a2, rfl⟩) hlt ts hu ho
 rw [addr_eta h.spot]
 subst q4
 refine ⟨w1, _, q1, q2, ⟨fun b hb hbc => ?_, ⟨arr, arr'.set (p.off + j) u hlt, e, a1, by simp [gset], by simpa using a3, fun i x hi => ?_, fun i hi => ?_⟩, by simpa using h.len, h.spot, ?_, h.own⟩, fun b hb => by unfold gset; rw [if_neg hb]⟩
 · unfold gset; rw [if_neg hb]; exact h.out b hb hbc
 · rw [List.getElem?_set] at hi
   split at hi
   · rename_i hij; subst hij
     split at hi
     · cases hi; simp
     · cases hi
   · rename_i hne
     rw [Array.getElem?_set, if_neg (by omega)]; exact a4 i x hi
 · rw [Array.getElem?_set, if_neg (by omega)]; exact a5 i hi
 · rw [bl_set hj h0 h1]; exact h.blk
theorem Wr.poke0 {p : Addr} {ci ci' : List Value} (h : Wr Hs H p ci ci') (S : St H0 w0 H w l) (hs0 : Sl H0 w0) (hB : w0.heap.size ≤ p.block) {u0 : Value} (hj : ci'[0]? = some u0) (h0 : neb u0 = none) (h1 : neb u = none)
 (ts : ∀ w, (sizeOf t).run P w = .ok 1 w) (hu : u.cells = #[u]) (ho : u.oneCell' = true) {c2 : List Value} (hc2 : ci'.set 0 u = c2) :
 ∃ w1 H1, (Instr.storeAt t (.pointer (some p)) u).run P w = .ok () w1 ∧ St H0 w0 H1 w1 l ∧ Wr Hs H1 p ci c2 ∧ ∀ b, b ≠ p.block → H1 b = H b := by
 have := h.poke (P := P) S hs0 hB hj h0 h1 ts hu ho hc2
 rwa [Addr.add_zero'] at this
theorem Wr.inner {p : Addr} {ci ci' : List Value} (h : Wr Hs H p ci ci') {j : Nat} (hj : ci'[j]? = some u) (ho : ∀ b, b ∉ bl [u] → H' b = H b) : Wr Hs H' p ci ci' := by
 have hsub : ∀ b ∈ bl [u], b ∈ bl ci := fun b hb => by rw [← h.blk]; exact bl_get hj b hb
 obtain ⟨arr, arr', e, a1, a2, a3⟩ := h.arr
 refine ⟨fun b hb hbc => ?_, ⟨arr, arr', e, a1, ?_, a3⟩, h.len, h.spot, h.blk, h.own⟩
 · rw [ho b fun hb' => hbc (hsub b hb')]; exact h.out b hb hbc
 · rw [ho _ fun hb' => h.own (hsub _ hb')]; exact a2
theorem Wr.kept {p : Addr} {ci ci' : List Value} (h : Wr Hs H p ci ci') {j k' : Nat} {A' : Type} {E' : Enc A'} {xs : List A'} (hj : ci'[j]? = some u) (r : RSl (up B H) E' k' u xs) (hE : FlatE E') (ho : ∀ b, b ≠ p.block → H' b = H b) : RSl (up B H') E' k' u xs :=
 r.only hE.rel fun b hb => up_same (ho b fun e => h.own (by rw [← e, ← h.blk]; exact bl_get hj b hb))
theorem Nest.begin {xs : List A} {c : List Value} (h : Nest (up B H) En k v xs c) {i : Nat} {y : A} (hy : xs[i]? = some y) (_hk : 0 < k) :
 ∃ p, PtrOf k v (i : Nat) p ∧ Wr H H p ((c.drop (i * k)).take k) ((c.drop (i * k)).take k) ∧ B ≤ p.block ∧ En.rel (up B H) ((c.drop (i * k)).take k) y ∧ (bl ((c.drop (i * k)).take k)).Nodup := by
 obtain ⟨h1, h2, h3, h4, h5⟩ := h
 obtain ⟨hl, hr⟩ := h2.at hy
 have hi : i < xs.length := (List.getElem?_eq_some_iff.1 hy).1
 obtain ⟨a, cap, rfl, g1, g2⟩ := h1
 obtain ⟨p, cs, rfl, _⟩ := g2 i y hy
 obtain ⟨arr, e, fr, q1, q2, q3⟩ := h3 p _ _ rfl (by intro e; subst e; simp at hy)
 obtain ⟨u1, u2, u3⟩ := up_iff.1 q1
 have hfr : fr = (0, 0) := by simpa [okO] using u3
 subst hfr
 have hb : (p.add (i * k)).block = p.block := by unfold Addr.add; split <;> rfl
 have ho : (p.add (i * k)).off = p.off + i * k := by unfold Addr.add; split <;> simp_all
 have hmem : p.block ∈ bl [Value.slice (some p) xs.length cap] := mem_bl1 (by simp only [neb]; rw [if_neg (by omega)])
 refine ⟨p.add (i * k), ⟨p, xs.length, cap, rfl, by omega, by omega, by simp⟩, ⟨fun b _ _ => rfl, ⟨arr, arr, e, by rw [hb]; exact u2, by rw [hb]; exact u2, rfl, fun j u hu => ?_, fun _ _ => rfl⟩, rfl, ?_, rfl, ?_⟩, by rw [hb]; exact u1, hr, ?_⟩
 · rw [List.getElem?_take] at hu
   split at hu
   · rw [List.getElem?_drop] at hu
     rw [ho, Nat.add_assoc]; exact q3 _ _ hu
   · cases hu
 · unfold Addr.add; split
   · exact q2
   · rfl
 · rw [hb]; exact fun hb' => h5 _ hmem (bl_sub _ hb')
 · have : c = c.take (i * k) ++ ((c.drop (i * k)).take k ++ (c.drop (i * k)).drop k) := by rw [List.take_append_drop, List.take_append_drop]
   rw [this, bl_app, bl_app, List.nodup_append, List.nodup_append] at h4
   exact h4.2.1.1
theorem Nest.round {xs : List A} {c : List Value} (h : Nest (up B Hs) En k v xs c) (hE : LocE En) {i : Nat} {y y' : A} (hy : xs[i]? = some y) (_hk : 0 < k) {p : Addr} (hp : PtrOf k v (i : Nat) p)
 {ci' : List Value} (hw : Wr Hs H p ((c.drop (i * k)).take k) ci') (hr : En.rel (up B H) ci' y') :
 ∃ c', Nest (up B H) En k v (xs.set i y') c' ∧ bl c' = bl c ∧ ∀ b, b ∉ bl [v] → b ∉ bl c → H b = Hs b := by
 obtain ⟨h1, h2, h3, h4, h5⟩ := h
 have hi : i < xs.length := (List.getElem?_eq_some_iff.1 hy).1
 have hlen := h2.length
 obtain ⟨hl, _⟩ := h2.at hy
 have hl' : ci'.length = k := by rw [hw.len, hl]
 have hmul : i * k + k ≤ c.length := by rw [hlen, show i * k + k = (i + 1) * k by rw [Nat.add_mul, Nat.one_mul]]; exact Nat.mul_le_mul_right _ hi
 obtain ⟨a, len, cap, rfl, _, hlt, rfl⟩ := hp
 have hsplit : c = c.take (i * k) ++ ((c.drop (i * k)).take k ++ c.drop (i * k + k)) := by
  rw [show c.drop (i * k + k) = (c.drop (i * k)).drop k by rw [List.drop_drop], List.take_append_drop, List.take_append_drop]
 have hblk : bl (c.take (i * k) ++ ci' ++ c.drop (i * k + k)) = bl c := by
  conv => rhs; rw [hsplit]
  rw [bl_app, bl_app, bl_app, bl_app, hw.blk, List.append_assoc]
 have hxl : xs.length = len := by obtain ⟨_, _, hv, _⟩ := h1; cases hv; rfl
 have hmem : a.block ∈ bl [Value.slice (some a) len cap] := mem_bl1 (by simp only [neb]; rw [if_neg (by omega)])
 have hb : (a.add (((i : Nat) : Int).toNat * k)).block = a.block := by unfold Addr.add; split <;> rfl
 have hspot : a.spot = none := by
  obtain ⟨arr, e, fr, _, q2, _⟩ := h3 a _ _ rfl (by intro e; subst e; simp at hy)
  exact q2
 have ho : (a.add (((i : Nat) : Int).toNat * k)).off = a.off + i * k := by rw [addr_eta hspot]; simp
 have hlist : c.take (i * k) ++ ci' ++ c.drop (i * k + k) = c.take (i * k) ++ (ci' ++ c.drop (i * k + k)) := List.append_assoc ..
 have hget : ∀ m, (c.take (i * k) ++ ci' ++ c.drop (i * k + k))[m]? = if m < i * k then c[m]? else if m < i * k + k then ci'[m - i * k]? else c[m]? := by
  intro m
  have ht : (c.take (i * k)).length = i * k := by rw [List.length_take]; omega
  rw [hlist]
  by_cases m1 : m < i * k
  · rw [List.getElem?_append_left (by omega), List.getElem?_take_of_lt m1, if_pos m1]
  · rw [List.getElem?_append_right (by omega), ht, if_neg m1]
    by_cases m2 : m < i * k + k
    · rw [List.getElem?_append_left (by omega), if_pos m2]
    · rw [List.getElem?_append_right (by omega), hl', List.getElem?_drop, if_neg m2]
      congr 1; omega
 have hother : ∀ (j : Nat), j < xs.length → j ≠ i → ((c.take (i * k) ++ ci' ++ c.drop (i * k + k)).drop (j * k)).take k = (c.drop (j * k)).take k := by
  intro j hj hne
  apply List.ext_getElem?
  intro m
  by_cases hm : m < k
  · rw [List.getElem?_take_of_lt hm, List.getElem?_take_of_lt hm, List.getElem?_drop, List.getElem?_drop, hget]
    rcases Nat.lt_or_gt_of_ne hne with hji | hji
    · have : j * k + k ≤ i * k := by rw [show j * k + k = (j + 1) * k by rw [Nat.add_mul, Nat.one_mul]]; exact Nat.mul_le_mul_right _ hji
      rw [if_pos (by omega)]
    · have : i * k + k ≤ j * k := by rw [show i * k + k = (i + 1) * k by rw [Nat.add_mul, Nat.one_mul]]; exact Nat.mul_le_mul_right _ hji
      rw [if_neg (by omega), if_neg (by omega)]
  · rw [List.getElem?_eq_none (by simp; omega), List.getElem?_eq_none (by simp; omega)]
 have hself : ((c.take (i * k) ++ ci' ++ c.drop (i * k + k)).drop (i * k)).take k = ci' := by
  rw [hlist, List.drop_append_of_le_length (by rw [List.length_take]; omega), List.drop_of_length_le (by rw [List.length_take]; omega), List.nil_append, List.take_append_of_le_length (by omega), List.take_of_length_le (by omega)]
 have hapart : ∀ (j : Nat), j < xs.length → j ≠ i → ∀ b ∈ bl ((c.drop (j * k)).take k), b ∉ bl ((c.drop (i * k)).take k) := by
  intro j hj hne b hb1 hb2
  obtain ⟨u1, m1, n1⟩ := mem_bl hb1
  obtain ⟨u2, m2, n2⟩ := mem_bl hb2
  obtain ⟨q1, r1⟩ := List.mem_iff_getElem?.1 m1
  obtain ⟨q2, r2⟩ := List.mem_iff_getElem?.1 m2
  rw [List.getElem?_take] at r1 r2
  split at r1
  · split at r2
    · rw [List.getElem?_drop] at r1 r2
      have hne2 : i * k + q2 ≠ j * k + q1 := by
       rcases Nat.lt_or_gt_of_ne hne with hji | hji
       · have : j * k + k ≤ i * k := by rw [show j * k + k = (j + 1) * k by rw [Nat.add_mul, Nat.one_mul]]; exact Nat.mul_le_mul_right _ hji
         omega
       · have : i * k + k ≤ j * k := by rw [show i * k + k = (i + 1) * k by rw [Nat.add_mul, Nat.one_mul]]; exact Nat.mul_le_mul_right _ hji
         omega
      exact bl_apart' h4 r2 r1 hne2 b (mem_bl1 n1) (mem_bl1 n2)
    · cases r2
  · cases r1
 have hout : ∀ b, b ∉ bl [Value.slice (some a) len cap] → b ∉ bl c → H b = Hs b := fun b b1 b2 => hw.out b (fun e => b1 (by rw [e, hb]; exact hmem)) fun e => b2 (bl_sub b e)
 have hE2 : Els (up B H) En k (c.take (i * k) ++ ci' ++ c.drop (i * k + k)) (xs.set i y') := by
  refine Els.mk' _ _ ?_ fun j x hx => ?_
  · simp only [List.length_append, List.length_take, List.length_drop, List.length_set, hl']
    rw [← hlen]; omega
  · have hj : j < xs.length := by have := (List.getElem?_eq_some_iff.1 hx).1; simpa using this
    by_cases hji : j = i
    · subst hji
      rw [List.getElem?_set_self hj] at hx
      cases hx
      rw [hself]; exact hr
    · rw [List.getElem?_set_ne (Ne.symm hji)] at hx
      rw [hother j hj hji]
      refine hE _ _ _ _ (h2.at hx).2 fun b hb' => up_same (hw.out b (fun e => ?_) (hapart j hj hji b hb'))
      have := h5 a.block hmem
      rw [hb] at e
      exact this (by rw [← e]; exact bl_sub b hb')
 have hC : CAt (up B H) a (c.take (i * k) ++ ci' ++ c.drop (i * k + k)) := by
  obtain ⟨arr, e, fr, q1, q2, q3⟩ := h3 a _ _ rfl (by intro e; subst e; simp at hy)
  obtain ⟨arr1, arr', e', a1, a2, a3, a4, a5⟩ := hw.arr
  rw [hb] at a1 a2
  obtain ⟨u1, u2, u3⟩ := up_iff.1 q1
  rw [a1] at u2; cases u2
  refine ⟨arr', _, (0, 0), up_iff.2 ⟨u1, a2, rfl⟩, q2, fun j u hu => ?_⟩
  rw [hget] at hu
  rw [ho, hl] at a5
  rw [ho] at a4
  split at hu
  · rw [a5 _ (.inl (by omega))]; exact q3 j u hu
  · split at hu
    · have := a4 _ _ hu
      rw [show a.off + j = a.off + i * k + (j - i * k) by omega]; exact this
    · rw [a5 _ (.inr (by omega))]; exact q3 j u hu
 refine ⟨_, ⟨?_, hE2, ?_, by rw [hblk]; exact h4, by rw [hblk]; exact h5⟩, hblk, hout⟩
 · obtain ⟨_, _, hv, g1, g2⟩ := h1
   cases hv
   refine ⟨some a, cap, by rw [List.length_set], by rw [List.length_set]; exact g1, fun j x hx => ?_⟩
   have hat := hE2.at hx
   obtain ⟨arr, e, fr, q1, q2, q3⟩ := hC
   refine ⟨a, _, rfl, hat.1, ⟨arr, e, fr, ?_, ?_, fun m u hu => ?_⟩, hat.2⟩
   · rw [show (a.add (j * k)).block = a.block by unfold Addr.add; split <;> rfl]; exact q1
   · rw [addr_eta hspot]
   · rw [addr_eta hspot]
     rw [List.getElem?_take] at hu
     split at hu
     · rw [List.getElem?_drop] at hu
       simp only; rw [Nat.add_assoc]; exact q3 _ _ hu
     · cases hu
 · intro a' len' cap' hv _
   cases hv; exact hC
theorem RSl.nest {G : GH} {xs : List A} (h : RSl G En k v xs) (hE : FlatE En) (_hk : 0 < k) : ∃ c, Nest G En k v xs c ∧ bl c = [] := by
 obtain ⟨a, cap, rfl, g1, g2⟩ := h
 have key : ∀ n, n ≤ xs.length → ∃ c, Els G En k c (xs.take n) ∧ bl c = [] ∧ ∀ p, a = some p → ∀ arr e fr, (G p.block = some (.cells arr e fr)) → ∀ (j : Nat) u, c[j]? = some u → arr[p.off + j]? = some u := by
  intro n
  induction n with
  | zero => intro _; exact ⟨[], by simpa using Els.nil, rfl, by simp⟩
  | succ n ih =>
   intro hn
   obtain ⟨c, e1, e2, e3⟩ := ih (by omega)
   have hlt : n < xs.length := by omega
   obtain ⟨p, cs, rfl, k1, ⟨arr, e, fr, k2, k3, k4⟩, k5⟩ := g2 n xs[n] (by simp [hlt])
   have hb : (p.add (n * k)).block = p.block := by unfold Addr.add; split <;> rfl
   have ho : (p.add (n * k)).off = p.off + n * k := by unfold Addr.add; split <;> simp_all
   rw [hb] at k2
   refine ⟨c ++ cs, ?_, ?_, ?_⟩
   · rw [List.take_succ_eq_append_getElem hlt]; exact .snoc e1 k1 k5
   · rw [bl_app, e2, (hE G G cs _ k5).2]; rfl
   · rintro p' hp' arr' e' fr' hG j u hu
     cases hp'
     rw [k2] at hG; cases hG
     have hcl := e1.length
     rw [List.length_take, Nat.min_eq_left (by omega)] at hcl
     rcases Nat.lt_or_ge j c.length with hj | hj
     · rw [List.getElem?_append_left hj] at hu
       exact e3 p rfl arr e fr k2 j u hu
     · rw [List.getElem?_append_right hj, hcl] at hu
       have := k4 _ _ hu
       rw [ho] at this
       rw [show p.off + j = p.off + n * k + (j - n * k) by omega]; exact this
 obtain ⟨c, e1, e2, e3⟩ := key xs.length (Nat.le_refl _)
 rw [List.take_length] at e1
 refine ⟨c, ⟨⟨a, cap, rfl, g1, g2⟩, e1, fun p len cap' hv hne => ?_, by rw [e2]; exact List.nodup_nil, fun b _ => by rw [e2]; simp⟩, e2⟩
 cases hv
 obtain ⟨x, hx⟩ : ∃ x, xs[0]? = some x := by
  cases xs with
  | nil => exact absurd rfl hne
  | cons x xs => exact ⟨x, rfl⟩
 obtain ⟨p', cs, hp', _, ⟨arr, e, fr, k2, k3, _⟩, _⟩ := g2 0 x hx
 cases hp'
 rw [Nat.zero_mul, Addr.add_zero'] at k2 k3
 exact ⟨arr, e, fr, k2, k3, e3 p rfl arr e fr k2⟩
theorem Nest.span {xs ys : List A} {c c' : List Value} (h : Nest (sg lo hi Hs) En k v xs c) (hE : LocE En) (hB : B ≤ lo) (hn : Nest (up B H') En k v ys c') (hc : bl c' = bl c) : Nest (sg lo hi H') En k v ys c' :=
 hn.same hE fun b hb => by
  rw [hc] at hb
  have h0 := h.dom b hb
  cases h1 : sg lo hi Hs b with
  | none => exact absurd h1 h0
  | some o =>
   obtain ⟨a, b, _, _⟩ := sg_iff.1 h1
   unfold sg up
   rw [if_pos b, if_neg (by omega), if_neg (by omega)]
theorem Nest.outside {xs : List A} {c : List Value} (h : Nest (sg lo hi Hs) En k v xs c) (ho : ∀ b, b ∉ bl [v] → b ∉ bl c → ∀ o, H b = some o → H' b = some o) : ∀ b, b < lo ∨ hi ≤ b → ∀ o, H b = some o → H' b = some o := fun b hb => by
 have key : ¬ (b ∈ bl [v] ∨ b ∈ bl c) := fun hm => by
  have h0 := h.dom b hm
  cases h1 : sg lo hi Hs b with
  | none => exact absurd h1 h0
  | some o => obtain ⟨a, b, _, _⟩ := sg_iff.1 h1; omega
 exact ho b (fun h => key (.inl h)) fun h => key (.inr h)
theorem RSl.span {xs ys : List A} (h : RSl (sg lo hi Hs) En k v xs) (hE : FlatE En) (hB : B ≤ lo) (hn : RSl (up B H') En k v ys) : RSl (sg lo hi H') En k v ys :=
 hn.only hE.rel fun b hb => by
  have h0 := h.dom b hb
  cases h1 : sg lo hi Hs b with
  | none => exact absurd h1 h0
  | some o =>
   obtain ⟨a, b, _, _⟩ := sg_iff.1 h1
   unfold sg up
   rw [if_pos b, if_neg (by omega), if_neg (by omega)]
theorem RSl.outside {xs : List A} (h : RSl (sg lo hi Hs) En k v xs) (ho : ∀ b, b ∉ bl [v] → H' b = H b) : ∀ b, b < lo ∨ hi ≤ b → ∀ o, H b = some o → H' b = some o := fun b hb o hH => by
 rw [ho b fun hm => ?_]
 · exact hH
 · have h0 := h.dom b hm
   cases h1 : sg lo hi Hs b with
   | none => exact absurd h1 h0
   | some o => obtain ⟨a, b, _, _⟩ := sg_iff.1 h1; omega
theorem weak {F : Nat → Prop} (h : ∀ b, F b → H' b = H b) : ∀ b, F b → ∀ o, H b = some o → H' b = some o := fun b hb o ho => by rw [h b hb]; exact ho
theorem Wr.opens {p : Addr} {ci cs : List Value} (h : Wr Hs H p ci ci) (e : ci = cs) : Wr Hs H p ci cs := e ▸ h
theorem FW.mark {ρ : Option Nat} {δ : List Nat} {N : Nat} {f : Fm} {c : Code} {F : A → Int → A × Int} {a0 : List A} {k0 : Int} (I : Nat → List A → Int → Fm → World → Prop) (Dn : FQ) (h0 : I 0 a0 k0 f w)
 (hbody : ∀ i y xs m f w, I i xs m f w → a0[i]? = some y → xs[i]? = some y → FW (ρ := ρ) (δ := δ) P N c (fun e f w => e = .normal ∧ I (i + 1) (xs.set i (F y m).1) (F y m).2 f w) f w)
 (hend : ∀ f w, I a0.length (markFrom F a0 k0).1 (markFrom F a0 k0).2 f w → FW (ρ := ρ) (δ := δ) P N c (fun e f w => e ≠ .normal ∧ Dn e f w) f w) : FW (ρ := ρ) (δ := δ) P N (.loop c) Dn f w := by
 refine FW.loopG (fun m f w => ∃ i xs k, i + m = a0.length ∧ I i xs k f w ∧ xs.length = a0.length ∧ xs.drop i = a0.drop i ∧ xs.take i ++ (markFrom F (a0.drop i) k).1 = (markFrom F a0 k0).1 ∧ (markFrom F (a0.drop i) k).2 = (markFrom F a0 k0).2) (m := a0.length) ?_
  ⟨0, a0, k0, by omega, h0, rfl, rfl, by simp, by simp⟩
 rintro m f w ⟨i, xs, k, hm, hI, hl, hd, h1, h2⟩
 cases m with
 | zero =>
  have hi : i = a0.length := by omega
  subst hi
  rw [List.drop_length] at h1 h2
  rw [List.take_of_length_le (by omega)] at h1
  simp only [markFrom, List.append_nil] at h1 h2
  subst h1 h2
  exact (hend f w hI).mono fun e f w ⟨he, h⟩ => then_of he h
 | succ m =>
  have hlt : i < a0.length := by omega
  have hx : a0[i]? = some a0[i] := List.getElem?_eq_getElem hlt
  have hxs : xs[i]? = some a0[i] := by
   have := congrArg (·[0]?) hd
   simp only [List.getElem?_drop, Nat.add_zero] at this
   rw [this]; exact hx
  refine (hbody i a0[i] xs k f w hI hx hxs).mono ?_
  rintro e f' w' ⟨rfl, h⟩
  refine ⟨m, by omega, i + 1, _, _, by omega, h, by simpa using hl, ?_, ?_, ?_⟩
  · rw [List.drop_set_of_lt (by omega)]
    have := congrArg (List.drop 1) hd
    rwa [List.drop_drop, List.drop_drop] at this
  · rw [← h1, List.drop_eq_getElem_cons hlt, markFrom]
    rw [show xs.take i ++ (F a0[i] k).1 :: (markFrom F (a0.drop (i + 1)) (F a0[i] k).2).1 = (xs.take i ++ [(F a0[i] k).1]) ++ (markFrom F (a0.drop (i + 1)) (F a0[i] k).2).1 by simp]
    congr 1
    rw [List.take_succ_eq_append_getElem (by simpa using (by omega : i < xs.length)), List.take_set_of_le (Nat.le_refl _), List.getElem_set_self]
  · rw [← h2, List.drop_eq_getElem_cons hlt, markFrom]
@[reducible] def M1 (H0 : GH) (w0 : World) (Ha : GH) (l : List MO) {A : Type} (En : Enc A) (k : Nat) (v : Value) (r : List A × Int) : Ending → World → Prop := fun e w' =>
 ∃ H' : GH, e = .returned (.int .i64 r.2) ∧ St H0 w0 H' w' l ∧ RSl (up w0.heap.size H') En k v r.1 ∧ ∀ b, b ∉ bl [v] → H' b = Ha b
@[reducible] def M2 (H0 : GH) (w0 : World) (Ha : GH) (l : List MO) {A : Type} (En : Enc A) (k : Nat) (v : Value) (c0 : List Value) (r : List A × Int) : Ending → World → Prop := fun e w' =>
 ∃ (H' : GH) (c' : List Value), e = .returned (.int .i64 r.2) ∧ St H0 w0 H' w' l ∧ Nest (up w0.heap.size H') En k v r.1 c' ∧ bl c' = bl c0 ∧ ∀ b, b ∉ bl [v] → b ∉ bl c0 → ∀ o, Ha b = some o → H' b = some o
theorem St.boxB (h : St H0 w0 H w l) (t : TypeId) (cs : List Value) {v : Value} (hv : v.cells = cs.toArray) (h1 : ∀ u ∈ cs, u.oneCell' = true) :
 ∃ w1, (Instr.box t v).run P w = .ok (.pointer (some ⟨w.heap.size, 0, Option.none⟩)) w1 ∧ St H0 w0 H w1 (.box w.heap.size t cs :: l) ∧ w1.heap.size = w.heap.size + 1 := by
 refine ⟨w.alloc (.cells cs.toArray t (0, 0)), by simp [Instr.box, newVar, newRow, hv], ?_, by simp⟩
 refine h.push _ _ ⟨heap_alloc_new w _, h.size, h1⟩ ?_
 intro b hb; simpa [MO.blk] using hb.symm
theorem St.allocB {z : Value} (h : St H0 w0 H w l) (t : TypeId) (cs : List Value) (hz : ∀ w, (zeroValue t).run P w = .ok z w) (hv : z.cells = cs.toArray) (h1 : ∀ u ∈ cs, u.oneCell' = true) :
 ∃ w1, (Instr.alloc t true (.tuple #[])).run P w = .ok (.pointer (some ⟨w.heap.size, 0, Option.none⟩)) w1 ∧ St H0 w0 H w1 (.box w.heap.size t cs :: l) ∧ w1.heap.size = w.heap.size + 1 := by
 refine ⟨w.alloc (.cells cs.toArray t (0, 0)), by simp [Instr.alloc, hz, newVar, newRow, hv], ?_, by simp⟩
 refine h.push _ _ ⟨heap_alloc_new w _, h.size, h1⟩ ?_
 intro b hb; simpa [MO.blk] using hb.symm
theorem St.store0B (h : St H0 w0 H w l) {i b t0 n : Nat} {cs cs' c : List Value} {l' : List MO} {v : Value} (hi : l[i]? = some (.box b t0 cs)) (ts : ∀ w, (sizeOf t).run P w = .ok n w)
 (hv : v.cells = c.toArray) (hcn : c.length = n) (h1' : ∀ u ∈ c, u.oneCell' = true) (hj : n ≤ cs.length) (hcs' : c ++ cs.drop n = cs') (hl : l.set i (.box b t0 cs') = l') :
 ∃ w1, (Instr.storeAt t (.pointer (some ⟨b, 0, Option.none⟩)) v).run P w = .ok () w1 ∧ St H0 w0 H w1 l' ∧ w1.heap.size = w.heap.size := by
 subst hl
 have hn : v.cells.size = n := by rw [hv]; simpa using hcn
 have h1 : ∀ u ∈ v.cells.toList, u.oneCell' = true := by rw [hv]; exact h1'
 have hcs : cs.take 0 ++ v.cells.toList ++ cs.drop (0 + n) = cs' := by rw [hv]; simpa using hcs'
 obtain ⟨g1, g2, g3⟩ := h.ok i _ hi
 have hst := run_storeCells_at P b 0 t0 v.cells.toList 0 cs.toArray w g1 (by simp [hn]; omega) h1
 simp only [Nat.add_zero, Array.length_toList, hn, hcs] at hst
 refine ⟨w.setRow b cs'.toArray, ?_, h.upd (o' := .box b t0 cs') hi (grownBy_setRow w b cs'.toArray) (Nat.le_refl _) ⟨setRow_heap w b _ _ _ _ g1, g2, ?_⟩ (fun c hc => .inl hc), by simp [World.setRow]⟩
 · simp [Instr.storeAt, Instr.sureAddr, storeVar, ts, hn, hst]
 · subst hcs
   intro u hu
   simp only [List.append_assoc, List.mem_append] at hu
   rcases hu with hu | hu | hu
   · exact g3 u (List.mem_of_mem_take hu)
   · exact h1 u hu
   · exact g3 u (List.mem_of_mem_drop hu)
theorem St.sealBoxB (h : St H0 w0 H w l) {i b t : Nat} {cs : List Value} {l' : List MO} (hi : l[i]? = some (.box b t cs)) (hl : l.eraseIdx i = l') :
 ∃ H1, St H0 w0 H1 w l' ∧ Inc H H1 ∧ CAt (sg b (b + 1) H1) ⟨b, 0, Option.none⟩ cs := by
 subst hl
 obtain ⟨H1, h1, h2, h3⟩ := h.sealed hi
 refine ⟨H1, h1, h2, ⟨cs.toArray, t, (0, 0), sg_iff.2 ⟨Nat.le_refl _, Nat.lt_succ_self _, h3 b _ rfl (h.ok i _ hi).1, rfl⟩, rfl, fun j c hc => by simpa using hc⟩⟩
def bw (hi : Nat) (H : GH) : GH := fun b => if b < hi then H b else Option.none
theorem bwI : Inc (bw hi H) H := fun b o h => by
 unfold bw at h
 split at h
 · exact h
 · cases h
theorem bw_of (h : Sl H w) : Inc H (bw w.heap.size H) := fun b o hb => by
 unfold bw
 rw [if_pos (Array.getElem?_eq_some_iff.1 (h _ _ hb)).1]; exact hb
theorem bw_mono (h : Inc H H') : Inc (bw hi H) (bw hi H') := fun b o hb => by
 unfold bw at hb ⊢
 split at hb
 · rename_i hlt; rw [if_pos hlt]; exact h _ _ hb
 · cases hb
theorem bw_keep {lo' hi' : Nat} (h : ∀ b, b < lo' ∨ hi' ≤ b → ∀ o, H b = some o → H' b = some o) (ho : hi ≤ lo') : Inc (bw hi H) (bw hi H') := fun b o hb => by
 unfold bw at hb ⊢
 split at hb
 · rename_i hlt; rw [if_pos hlt]; exact h _ (by omega) _ hb
 · cases hb
end
end Go.Mr
namespace Go.Pu
def okI (n : Int) : Prop := -9223372036854775808 ≤ n ∧ n ≤ 9223372036854775807
def okL {A : Type} (ok : A → Prop) (xs : List A) : Prop := xs.length ≤ 9223372036854775807 ∧ ∀ x ∈ xs, ok x
section
variable {α β S X : Type}
theorem forL_inv {body : Nat → α → S → Option (Lp S X)} (I : Nat → S → Prop) {l : List α} {s : S} (h0 : I 0 s)
 (hb : ∀ i x s, l[i]? = some x → I i s → ∃ s', body i x s = some (.nx s') ∧ I (i + 1) s') : ∃ s', forL l body s = some (.go s') ∧ I l.length s' := by
 have key : ∀ (m p : List α) (s : S), l = p ++ m → I p.length s → ∃ s', forLFrom body m p.length s = some (.go s') ∧ I l.length s' := by
  intro m
  induction m with
  | nil =>
   intro p s hm hi
   refine ⟨s, rfl, ?_⟩
   rw [hm, List.append_nil]; exact hi
  | cons x m ih =>
   intro p s hm hi
   have hx : l[p.length]? = some x := by rw [hm]; simp
   obtain ⟨s', h1, h2⟩ := hb p.length x s hx hi
   obtain ⟨s'', h3, h4⟩ := ih (p ++ [x]) s' (by rw [hm]; simp) (by simpa using h2)
   refine ⟨s'', ?_, h4⟩
   rw [forLFrom, h1]
   simpa using h3
 exact key l [] s rfl h0
theorem forL_fold {body : Nat → α → S → Option (Lp S X)} (g : S → α → S) {l : List α} {s : S} (h : ∀ i x t, l[i]? = some x → body i x t = some (.nx (g t x))) : forL l body s = some (.go (l.foldl g s)) := by
 obtain ⟨s', h1, h2⟩ := forL_inv (X := X) (body := body) (fun i t => t = (l.take i).foldl g s) (l := l) (s := s) (by simp) (fun i x t hx ht => ⟨g t x, h i x t hx, by
  subst ht
  rw [List.take_add_one, hx]
  simp⟩)
 rw [h1, h2, List.take_length]
theorem forL_foldI {body : Nat → α → S → Option (Lp S X)} (g : S → α → S) {l : List α} {s : S} (I : Nat → S → Prop) (h0 : I 0 s) (h : ∀ i x t, l[i]? = some x → I i t → body i x t = some (.nx (g t x)) ∧ I (i + 1) (g t x)) : forL l body s = some (.go (l.foldl g s)) ∧ I l.length (l.foldl g s) := by
 obtain ⟨s', h1, h2, h3⟩ := forL_inv (X := X) (body := body) (fun i t => t = (l.take i).foldl g s ∧ I i t) (l := l) (s := s) ⟨by simp, h0⟩ (fun i x t hx ht => ⟨g t x, (h i x t hx ht.2).1, by
  obtain ⟨rfl, _⟩ := ht
  rw [List.take_add_one, hx]
  simp, (h i x t hx ht.2).2⟩)
 rw [List.take_length] at h2
 subst h2
 exact ⟨h1, h3⟩
def anyI (p : Nat → α → Bool) : List α → Nat → Bool
 | [], _ => false
 | y :: l, i => p i y || anyI p l (i + 1)
theorem anyI_any (p : α → Bool) (l : List α) (i : Nat) : anyI (fun _ y => p y) l i = l.any p := by
 induction l generalizing i with
 | nil => rfl
 | cons y l ih => simp [anyI, ih]
theorem anyI_false {p : Nat → α → Bool} : ∀ {l : List α} {k : Nat}, anyI p l k = false ↔ ∀ i y, l[i]? = some y → p (k + i) y = false := by
 intro l
 induction l with
 | nil => intro k; simp [anyI]
 | cons y l ih =>
  intro k
  simp only [anyI, Bool.or_eq_false_iff, ih]
  constructor
  · rintro ⟨h1, h2⟩ i z hz
    cases i with
    | zero => simp at hz; subst hz; simpa using h1
    | succ i => have := h2 i z (by simpa using hz); rwa [show k + 1 + i = k + (i + 1) by omega] at this
  · intro h
    refine ⟨by simpa using h 0 y rfl, fun i z hz => ?_⟩
    have := h (i + 1) z (by simpa using hz); rwa [show k + (i + 1) = k + 1 + i by omega] at this
theorem forL_any {body : Nat → α → Unit → Option (Lp Unit X)} {p : Nat → α → Bool} {v : X} {l : List α} {u : Unit} (h : ∀ i y, l[i]? = some y → body i y () = (bif p i y then some (.rt v) else some (.nx ()))) :
 forL l body u = some (bif anyI p l 0 then .rt v else .go ()) := by
 have key : ∀ (m : List α) (k : Nat), (∀ i y, m[i]? = some y → body (k + i) y () = (bif p (k + i) y then some (.rt v) else some (.nx ()))) → forLFrom body m k () = some (bif anyI p m k then .rt v else .go ()) := by
  intro m
  induction m with
  | nil => intro k _; rfl
  | cons y m ih =>
   intro k hm
   have h0 := hm 0 y rfl
   rw [Nat.add_zero] at h0
   rw [forLFrom, h0]
   cases hp : p k y with
   | true => simp [anyI, hp]
   | false =>
    simp only [cond_false, anyI, hp, Bool.false_or]
    exact ih (k + 1) fun i z hz => by have := hm (i + 1) z (by simpa using hz); rwa [show k + (i + 1) = k + 1 + i by omega] at this
 exact key l 0 fun i y hy => by rw [Nat.zero_add]; exact h i y hy
def findI (p : Nat → α → Bool) : List α → Nat → Option (Nat × α)
 | [], _ => none
 | y :: l, i => bif p i y then some (i, y) else findI p l (i + 1)
theorem forL_find {body : Nat → α → Unit → Option (Lp Unit X)} {p : Nat → α → Bool} {v : Nat → α → X} {l : List α} {u : Unit} (h : ∀ i y, l[i]? = some y → body i y () = (bif p i y then some (.rt (v i y)) else some (.nx ()))) :
 forL l body u = some (match findI p l 0 with | some z => .rt (v z.1 z.2) | none => .go ()) := by
 have key : ∀ (m : List α) (k : Nat), (∀ i y, m[i]? = some y → body (k + i) y () = (bif p (k + i) y then some (.rt (v (k + i) y)) else some (.nx ()))) → forLFrom body m k () = some (match findI p m k with | some z => .rt (v z.1 z.2) | none => .go ()) := by
  intro m
  induction m with
  | nil => intro k _; rfl
  | cons y m ih =>
   intro k hm
   have h0 := hm 0 y rfl
   rw [Nat.add_zero] at h0
   rw [forLFrom, h0]
   cases hp : p k y with
   | true => simp [findI, hp]
   | false =>
    simp only [cond_false, findI, hp]
    exact ih (k + 1) fun i z hz => by have := hm (i + 1) z (by simpa using hz); rwa [show k + (i + 1) = k + 1 + i by omega] at this
 exact key l 0 fun i y hy => by rw [Nat.zero_add]; exact h i y hy
theorem findI_none {p : Nat → α → Bool} : ∀ {l : List α} {k : Nat}, findI p l k = none ↔ anyI p l k = false := by
 intro l
 induction l with
 | nil => intro k; simp [findI, anyI]
 | cons y l ih =>
  intro k
  simp only [findI, anyI]
  cases p k y <;> simp [ih]
theorem findI_some {p : Nat → α → Bool} : ∀ {l : List α} {k : Nat} {z : Nat × α}, findI p l k = some z → k ≤ z.1 ∧ l[z.1 - k]? = some z.2 ∧ p z.1 z.2 = true ∧ anyI p l k = true := by
 intro l
 induction l with
 | nil => intro k z h; simp [findI] at h
 | cons y l ih =>
  intro k z h
  simp only [findI] at h
  cases hp : p k y with
  | true => rw [hp] at h; simp at h; subst h; simp [anyI, hp]
  | false =>
   rw [hp] at h
   simp only [cond_false] at h
   obtain ⟨h1, h2, h3, h4⟩ := ih h
   refine ⟨by omega, ?_, h3, by simp [anyI, h4]⟩
   rw [show z.1 - k = (z.1 - (k + 1)) + 1 by omega, List.getElem?_cons_succ]; exact h2
theorem iter_any {xs : List α} {body : Int → Option (Lp Int X)} {p : Nat → α → Bool} {v : X} (h : ∀ (i : Nat) y, xs[i]? = some y → body (i : Int) = (bif p i y then some (.rt v) else some (.nx ((i : Int) + 1)))) (he : body (xs.length : Int) = some (.bk (xs.length : Int))) :
 iter body 0 = some (bif anyI p xs 0 then .rt v else .go (xs.length : Int)) := by
 have key : ∀ (m : List α) (k : Nat), k + m.length = xs.length → (∀ i y, m[i]? = some y → xs[k + i]? = some y) → iter body (k : Int) = some (bif anyI p m k then .rt v else .go (xs.length : Int)) := by
  intro m
  induction m with
  | nil =>
   intro k hk _
   simp only [List.length_nil, Nat.add_zero] at hk
   subst hk
   rw [iter_bk he]; rfl
  | cons y m ih =>
   intro k hk hm
   have h0 := h k y (by have := hm 0 y rfl; simpa using this)
   cases hp : p k y with
   | true => rw [hp] at h0; rw [iter_rt h0]; simp [anyI, hp]
   | false =>
    rw [hp] at h0
    rw [iter_nx h0]
    simp only [anyI, hp, Bool.false_or]
    exact ih (k + 1) (by simp at hk; omega) fun i z hz => by have := hm (i + 1) z (by simpa using hz); rwa [show k + (i + 1) = k + 1 + i by omega] at this
 have := key xs 0 (by simp) (by simp)
 simpa using this
theorem iter_while {xs : List α} {body : Int → Option (Lp Int X)} {p : α → Bool} (h : ∀ (i : Nat) y, xs[i]? = some y → body (i : Int) = (bif p y then some (.nx ((i : Int) + 1)) else some (.bk (i : Int)))) (he : body (xs.length : Int) = some (.bk (xs.length : Int))) :
 iter body 0 = some (.go ((xs.takeWhile p).length : Int)) := by
 have key : ∀ (m : List α) (k : Nat), k + m.length = xs.length → (∀ i y, m[i]? = some y → xs[k + i]? = some y) → iter body (k : Int) = some (.go ((k + (m.takeWhile p).length : Nat) : Int)) := by
  intro m
  induction m with
  | nil =>
   intro k hk _
   simp only [List.length_nil, Nat.add_zero] at hk
   subst hk
   rw [iter_bk he]; rfl
  | cons y m ih =>
   intro k hk hm
   have h0 := h k y (by have := hm 0 y rfl; simpa using this)
   cases hp : p y with
   | true =>
    rw [hp] at h0
    rw [iter_nx h0, List.takeWhile_cons, if_pos hp]
    have := ih (k + 1) (by simp at hk; omega) fun i z hz => by have := hm (i + 1) z (by simpa using hz); rwa [show k + (i + 1) = k + 1 + i by omega] at this
    rw [show ((k : Int) + 1) = ((k + 1 : Nat) : Int) by simp, this]
    simp; omega
   | false =>
    rw [hp] at h0
    rw [iter_bk h0, List.takeWhile_cons, if_neg (by simp [hp])]; simp
 have := key xs 0 (by simp) (by simp)
 simpa using this
theorem ix_get {xs : List α} {i : Nat} : ix xs (i : Int) = xs[i]? := by simp [ix]
theorem ix_of {xs : List α} {i : Int} (h0 : 0 ≤ i) (h1 : i < xs.length) : ∃ x, ix xs i = some x ∧ xs[i.toNat]? = some x := by
 refine ⟨xs[i.toNat]'(by omega), ?_, List.getElem?_eq_getElem (by omega)⟩
 unfold ix; rw [if_pos h0]; exact List.getElem?_eq_getElem (by omega)
theorem wr_pred {i n : Nat} (hi : 0 < i) (h : i < n) (hn : n ≤ 9223372036854775807) : wr ((i : Int) - 1) = ((i - 1 : Nat) : Int) := by rw [wr_of _ (by omega) (by omega)]; omega
theorem wr_succ {i n : Nat} (h : i < n) (hn : n ≤ 9223372036854775807) : wr ((i : Int) + 1) = (i : Int) + 1 := wr_of _ (by omega) (by omega)
theorem app_ok {xs ys : List α} (h : xs.length + ys.length ≤ lim) : app xs ys = some (xs ++ ys) := by unfold app; rw [if_pos h]
theorem cut_ok {xs : List α} {a b : Nat} (h : a ≤ b) (hb : b ≤ xs.length) : cut xs (a : Int) (b : Int) = some ((xs.take b).drop a) := by unfold cut; rw [if_pos (by omega)]; simp
theorem put_ok {xs : List α} {i : Nat} {x : α} (h : i < xs.length) : put xs (i : Int) x = some (xs.set i x) := by unfold put; rw [if_pos (by omega)]; simp
theorem mk2_ok {z : α} {n : Nat} (h : n ≤ lim) : mk2 z (n : Int) (n : Int) = some (List.replicate n z) := by unfold mk2; rw [if_pos (by unfold lim at h ⊢; omega)]; simp
theorem len_eq (xs : List α) : len xs = (xs.length : Int) := rfl
@[simp] theorem bif_ff {c d : Bool} : (bif c then d else false) = (c && d) := by cases c <;> rfl
@[simp] theorem bif_tt {c d : Bool} : (bif c then true else d) = (c || d) := by cases c <;> rfl
def adj (r : α → α → Bool) : List α → Bool
 | a :: b :: l => r a b && adj r (b :: l)
 | _ => true
theorem anyI_adj {q : α → Bool} {r : α → α → Bool} {l : List α} {p : Nat → α → Bool} (h0 : ∀ y, l[0]? = some y → p 0 y = q y) (h : ∀ (i : Nat) x y, l[i]? = some x → l[i + 1]? = some y → p (i + 1) y = (q y || !r x y)) :
 anyI p l 0 = !(l.all (fun y => !q y) && adj r l) := by
 have key : ∀ (m : List α) (k : Nat) (x : α), l[k]? = some x → (∀ i y, m[i]? = some y → l[k + 1 + i]? = some y) → anyI p m (k + 1) = !(m.all (fun y => !q y) && adj r (x :: m)) := by
  intro m
  induction m with
  | nil => intro k x _ _; rfl
  | cons y m ih =>
   intro k x hx hm
   have hy : l[k + 1]? = some y := by simpa using hm 0 y rfl
   simp only [anyI, List.all_cons, adj]
   rw [h k x y hx hy, ih (k + 1) y hy fun i z hz => by have := hm (i + 1) z (by simpa using hz); rwa [show k + 1 + (i + 1) = k + 1 + 1 + i by omega] at this]
   cases q y <;> cases r x y <;> cases m.all (fun y => !q y) <;> simp
 cases l with
 | nil => rfl
 | cons x m =>
  simp only [anyI, List.all_cons]
  rw [h0 x rfl, Nat.zero_add, key m 0 x rfl (by intro i y hy; rw [show 0 + 1 + i = i + 1 by omega]; simpa using hy)]
  cases q x <;> simp
def tot (wt : α → Nat) : List α → Nat
 | [] => 0
 | y :: l => wt y + tot wt l
theorem tot_mem {wt : α → Nat} {l : List α} {y : α} (h : y ∈ l) : wt y ≤ tot wt l := by
 induction l with
 | nil => cases h
 | cons x l ih =>
  simp only [tot]
  rcases List.mem_cons.1 h with rfl | h
  · omega
  · have := ih h; omega
theorem sz_loop {sz : α → Int → Option Int} {wt : α → Nat} : ∀ {l : List α} {i : Nat} {s : Int}, (∀ y ∈ l, ∀ s : Int, 0 ≤ s → s ≤ 1048576 → ∃ t, sz y s = some t ∧ (t < 0 ∨ t + wt y = s)) → 0 ≤ s → s ≤ 1048576 →
 ∃ q, forLFrom (X := Int) (fun _ y s => bd (sz y s) fun t => bif decide (t < 0) then some (.rt (-1)) else some (.nx t)) l i s = some q ∧ match q with | .rt v => v = -1 | .go t => 0 ≤ t ∧ t + tot wt l = s := by
 intro l
 induction l with
 | nil => intro i s _ h0 _; exact ⟨_, rfl, h0, by simp [tot]⟩
 | cons y l ih =>
  intro i s h h0 h1
  obtain ⟨t, h2, h3⟩ := h y (by simp) s h0 h1
  simp only [forLFrom, h2, bd_some]
  by_cases ht : t < 0
  · simp only [ht, decide_true, cond_true]
    exact ⟨_, rfl, rfl⟩
  · simp only [ht, decide_false, cond_false]
    obtain ⟨q, h4, h5⟩ := ih (i := i + 1) (s := t) (fun z hz => h z (by simp [hz])) (by omega) (by omega)
    refine ⟨q, h4, ?_⟩
    cases q with
    | rt v => exact h5
    | go u => exact ⟨h5.1, by simp only [tot]; omega⟩
theorem sz_list {sz : α → Int → Option Int} {wt : α → Nat} {l : List α} {s : Int} {f : Nat → α → Int → Option (Lp Int Int)} (hf : ∀ i y s, f i y s = bd (sz y s) fun t => bif decide (t < 0) then some (.rt (-1)) else some (.nx t))
 (h : ∀ y ∈ l, ∀ s : Int, 0 ≤ s → s ≤ 1048576 → ∃ t, sz y s = some t ∧ (t < 0 ∨ t + wt y = s)) (hl : l.length ≤ 9223372036854775807) (h0 : 0 ≤ s) (h1 : s ≤ 1048576) :
 ∃ r, (bif (decide ((wr (s - (len l))) < 0)) then some (-1) else bdR (forL (S := Int) (X := Int) l f (wr (s - (len l)))) (fun s => some s) (fun x => some x)) = some r ∧ (r < 0 ∨ r + (l.length + tot wt l : Nat) = s) := by
 have e : f = fun _ y s => bd (sz y s) fun t => bif decide (t < 0) then some (.rt (-1)) else some (.nx t) := by funext i y s; exact hf i y s
 subst e
 rw [wr_of _ (by rw [len_eq]; omega) (by rw [len_eq]; omega)]
 by_cases hn : s - len l < 0
 · simp only [hn, decide_true, cond_true]
   exact ⟨_, rfl, .inl (by omega)⟩
 · simp only [hn, decide_false, cond_false]
   obtain ⟨q, h2, h3⟩ := sz_loop (l := l) (i := 0) (s := s - len l) h (by omega) (by rw [len_eq]; omega)
   unfold forL
   rw [h2]
   cases q with
   | rt v => simp only at h3; subst h3; exact ⟨-1, rfl, .inl (by omega)⟩
   | go t => exact ⟨t, rfl, .inr (by rw [len_eq] at h3; omega)⟩
theorem to_list {f : Nat → α → List β → Option (Lp (List β) Empty)} {g : α → Option β} {h : α → β} {z : β} {l : List α} (hf : ∀ i y s, f i y s = bd (g y) fun r => bd (ix s (i : Int)) fun _ => bd (put s (i : Int) r) fun xs => some (.nx xs)) (hg : ∀ y ∈ l, g y = some (h y))
 (hl : l.length ≤ lim) : bd (mk2 z (len l) (len l)) (fun xs => bdR (forL (S := List β) (X := Empty) l f xs) (fun s => some s) (fun x => nomatch x)) = some (l.map h) := by
 rw [len_eq, mk2_ok hl, bd_some]
 obtain ⟨s', h1, h2, h3⟩ := forL_inv (X := Empty) (body := f) (fun i t => t = (l.take i).map h ++ List.replicate (l.length - i) z ∧ i ≤ l.length) (l := l) (s := List.replicate l.length z) (by simp) (fun i x t hx ht => by
  obtain ⟨rfl, _⟩ := ht
  have hi := (List.getElem?_eq_some_iff.1 hx).1
  have hm : x ∈ l := List.mem_of_getElem? hx
  have hlen : ((l.take i).map h ++ List.replicate (l.length - i) z).length = l.length := by simp; omega
  obtain ⟨u, hu, _⟩ := ix_of (xs := (l.take i).map h ++ List.replicate (l.length - i) z) (i := (i : Int)) (by omega) (by omega)
  refine ⟨_, by rw [hf, hg x hm, bd_some, hu, bd_some, put_ok (by omega)]; rfl, ?_, by omega⟩
  rw [List.set_append_right _ _ (by simp; omega), List.length_map, List.length_take, Nat.min_eq_left (by omega), Nat.sub_self]
  obtain ⟨m, hm'⟩ : ∃ m, l.length - i = m + 1 := ⟨l.length - i - 1, by omega⟩
  rw [hm', List.replicate_succ, List.set_cons_zero, List.take_add_one, hx]
  simp [show l.length - (i + 1) = m by omega])
 rw [h1]
 simp only [bdR_go, h2, List.take_length, Nat.sub_self, List.replicate_zero, List.append_nil]
theorem eq_list {f : Nat → α → Unit → Option (Lp Unit Bool)} {eq : α → α → Option Bool} {l : List α} (hf : ∀ i y u, f i y u = bd (ix l (i : Int)) fun x => bd (eq y x) fun r => bif !r then some (.rt false) else some (.nx ())) (he : ∀ y ∈ l, eq y y = some true) :
 (bif (!((len l) == (len l))) then some false else bdR (forL (S := Unit) (X := Bool) l f ()) (fun _ => some true) (fun x => some x)) = some true := by
 rw [forL_any (p := fun _ _ => false) (v := false) (fun i y hy => by
  rw [hf, ix_get, hy, bd_some, he y (List.mem_of_getElem? hy), bd_some]; rfl)]
 have : anyI (fun _ _ => false) l 0 = false := anyI_false.2 fun _ _ _ => rfl
 rw [this]; simp
theorem mark_end {F : α → Int → α × Int} {wt : α → Nat} : ∀ {l : List α} {k : Int}, (∀ y ∈ l, ∀ k : Int, 0 ≤ k → k + wt y ≤ 9223372036854775807 → (F y k).2 = k + wt y) → 0 ≤ k → k + tot wt l ≤ 9223372036854775807 → (markFrom F l k).2 = k + tot wt l := by
 intro l
 induction l with
 | nil => intro k _ _ _; simp [markFrom, tot]
 | cons y l ih =>
  intro k h h0 h1
  simp only [tot] at h1 ⊢
  have e := h y (by simp) k h0 (by omega)
  simp only [markFrom]
  rw [ih (fun z hz => h z (by simp [hz])) (by omega) (by omega), e]; omega
theorem held_list {F : α → Int → α × Int} {wt : α → Nat} {f : Nat → α → Int → Option (Lp Int Int)} : ∀ {l : List α} {k : Int} {i : Nat}, (∀ y ∈ l, ∀ k : Int, 0 ≤ k → k + wt y ≤ 9223372036854775807 → (F y k).2 = k + wt y ∧ ∀ i, f i (F y k).1 k = some (.nx (F y k).2)) → 0 ≤ k → k + tot wt l ≤ 9223372036854775807 →
 forLFrom f (markFrom F l k).1 i k = some (.go (markFrom F l k).2) := by
 intro l
 induction l with
 | nil => intro k i _ _ _; rfl
 | cons y l ih =>
  intro k i h h0 h1
  simp only [tot] at h1
  obtain ⟨e, hb⟩ := h y (by simp) k h0 (by omega)
  simp only [markFrom, forLFrom, hb]
  exact ih (fun z hz => h z (by simp [hz])) (by omega) (by omega)
theorem forLFrom_nx {α S X : Type} {body : Nat → α → S → Option (Lp S X)} {a : α} {l : List α} {i : Nat} {s s' : S} (h : body i a s = some (.nx s')) : forLFrom body (a :: l) i s = forLFrom body l (i + 1) s' := by
 simp only [forLFrom, h]
theorem forLFrom_nil {α S X : Type} {body : Nat → α → S → Option (Lp S X)} {i : Nat} {s : S} : forLFrom body [] i s = some (.go s) := rfl
end
end Go.Pu
namespace Go.Mr
open Go.RowKit Go.Pu
def hpOf (w : World) : GH := fun b => w.heap[b]?
theorem sl_hpOf (w : World) : Sl (hpOf w) w := fun _ _ h => h
def RdT (P : Program) (w : World) (t : TypeId) {A : Type} (En : Enc A) (ok : A → Prop) : Prop :=
 ∀ {H : Type} {enc : TypeId × Value → H} {base : Nat} {spare : Nat → Bool} {held : Bool} {fuel : Nat} {cs : List Value} {x : DataW H × List MemPlace}, DataW.trod enc P w base spare held fuel t cs = some x → ∃ a, En.rel (hpOf w) cs a ∧ ok a
section
variable {P : Program} {w : World} {t e k : Nat} {A : Type} {En : Enc A} {ok : A → Prop}
theorem okI_wf {n : Int} (h : (Lit.int .i64 n).wf = true) : okI n := by
 simp [Lit.wf, IntKind.min, IntKind.max, IntKind.signed, IntKind.bits] at h
 exact h
theorem RdT.int (ht : P.underlying t = some (.int .i64)) : RdT P w t eI okI := fun h => by
 obtain ⟨n, rfl, _, hw⟩ := DataW.trod_int ht h; exact ⟨n, rfl, okI_wf hw⟩
theorem cell_block {p : Addr} {c : Value} (h : w.cell? p = some c) : p.spot = Option.none ∧ ∃ arr e fr, w.heap[p.block]? = some (.cells arr e fr) ∧ arr[p.off]? = some c := by
 have hs := World.cell?_spot h
 refine ⟨hs, ?_⟩
 unfold World.cell? at h
 split at h
 · rename_i arr e fr hb
   split at h
   · cases h
   · exact ⟨arr, e, fr, hb, h⟩
 · cases h
theorem cat_of_cells {base : Nat} {p : Addr} {cs : List Value} (hk : 0 < k) (h : w.cells? base p k = some cs) : cs.length = k ∧ CAt (hpOf w) p cs := by
 obtain ⟨_, hl, hc⟩ := World.cells?_some h
 refine ⟨hl, ?_⟩
 obtain ⟨c0, h0⟩ : ∃ c0, cs[0]? = some c0 := ⟨cs[0]'(by omega), List.getElem?_eq_getElem (by omega)⟩
 have := hc 0 hk
 rw [h0, Addr.add_zero'] at this
 obtain ⟨hs, arr, e, fr, hb, _⟩ := cell_block this
 refine ⟨arr, e, fr, hb, hs, fun j c hj => ?_⟩
 have hjk : j < k := by rw [← hl]; exact (List.getElem?_eq_some_iff.1 hj).1
 have h2 := hc j hjk
 rw [hj] at h2
 obtain ⟨_, arr', e', fr', hb', hc'⟩ := cell_block h2
 have hbl : (p.add j).block = p.block := by unfold Addr.add; split <;> rfl
 rw [hbl, hb] at hb'
 cases hb'
 rw [addr_eta hs] at hc'
 exact hc'
theorem RdT.slice (ht : P.underlying t = some (.slice e)) (hc : P.cellsOf e = k) (hk : 0 < k) (he : RdT P w e En ok) : RdT P w t (eL En k) (okL ok) := fun {H enc base spare held fuel cs x} h => by
 rcases DataW.trod_slice ht h with ⟨rfl, _⟩ | ⟨a, len, cap, elems, rest, n, _, rfl, _, _, hle, hm, hlen, hel, _⟩
 · exact ⟨[], ⟨_, rfl, RSl.nil _ _ _⟩, by simp, by simp⟩
 · rw [hc] at hel
   have key : ∀ m, m ≤ len → ∃ xs : List A, xs.length = m ∧ ∀ i x, xs[i]? = some x → ∃ cs, cs.length = k ∧ CAt (hpOf w) (a.add (i * k)) cs ∧ En.rel (hpOf w) cs x ∧ ok x := by
    intro m
    induction m with
    | zero => intro _; exact ⟨[], rfl, by simp⟩
    | succ m ih =>
     intro hlt
     obtain ⟨xs, h1, h2⟩ := ih (by omega)
     have h3 := hel m (by omega)
     rw [List.getElem?_eq_getElem (by omega)] at h3
     obtain ⟨cs', h4, h5⟩ := Option.bind_eq_some_iff.1 h3
     obtain ⟨y, hy, hok⟩ := he h5
     obtain ⟨h6, h7⟩ := cat_of_cells hk h4
     refine ⟨xs ++ [y], by simp [h1], fun i x hx => ?_⟩
     rcases Nat.lt_or_ge i xs.length with hi | hi
     · rw [List.getElem?_append_left hi] at hx; exact h2 i x hx
     · have : i = xs.length := by have := (List.getElem?_eq_some_iff.1 hx).1; simp at this; omega
       subst this
       simp at hx; subst hx
       rw [h1]
       exact ⟨cs', h6, h7, hy, hok⟩
   obtain ⟨xs, h1, h2⟩ := key len (Nat.le_refl _)
   subst h1
   refine ⟨xs, ⟨_, rfl, some a, cap, rfl, ⟨by omega, nofun, hle⟩, fun i x hx => let ⟨cs, g1, g2, g3, _⟩ := h2 i x hx; ⟨a, cs, rfl, g1, g2, g3⟩⟩, by simp only [maxLen] at hm; omega, fun x hx => ?_⟩
   obtain ⟨i, hi⟩ := List.mem_iff_getElem?.1 hx
   obtain ⟨_, _, _, _, h⟩ := h2 i x hi
   exact h
variable {H : Type} {enc : TypeId × Value → H} {base b0 : Nat} {spare : Nat → Bool} {held : Bool} {r : Reach} {v : Value} {d : DataW H} {ps : List MemPlace}
theorem arg_slice (ht : P.underlying t = some (.slice e)) (hc : P.cellsOf e = k) (hk : 0 < k) (he : RdT P w e En ok) (hval : Value.okWide P w r b0 t v) (h : DataW.Trod enc P w base spare held t v d ps) : ∃ xs : List A, RSl (hpOf w) En k v xs ∧ okL ok xs := by
 obtain ⟨a, len, cap, rfl⟩ := WideShapes.okWide_slice ht hval
 obtain ⟨fuel, h⟩ := h
 obtain ⟨xs, ⟨v', h1, h2⟩, h3⟩ := RdT.slice ht hc hk he h
 simp only [Value.cells, List.cons.injEq, and_true] at h1
 subst h1
 exact ⟨xs, h2, h3⟩
theorem arg_struct {fs : Array Field} (ht : P.underlying t = some (.struct fs)) (he : RdT P w t En ok) (hval : Value.okWide P w r b0 t v) (h : DataW.Trod enc P w base spare held t v d ps) : ∃ (x : A) (cs : List Value), v = .agg cs.toArray ∧ En.rel (hpOf w) cs x ∧ ok x := by
 obtain ⟨cs, rfl, _⟩ := WideShapes.okWide_struct ht hval
 obtain ⟨fuel, h⟩ := h
 obtain ⟨x, hx, ho⟩ := he h
 exact ⟨x, _, by simp [Value.cells], hx, ho⟩
theorem trod_stays {W W' : World} (hl : laidOutB P = true) (hr : P.readableRec t = true) (hrow : t < P.types.size) (hb : Below W.heap.size W W') {ps : List MemPlace} (hp : ∀ p ∈ ps, p.block < W.heap.size)
 (h : DataW.Trod enc P W base (fun _ => true) true t v d ps) : DataW.Trod enc P W' base (fun b => decide (b < W.heap.size)) true t v d ps :=
 WideElems.Trod_stays hl hr hrow h (fun p h => hb.same (hp p h)) (fun p h => by simpa using hp p h)
end
end Go.Mr
namespace Go.PF
def okS (s : ByteArray) : Prop := s.size ≤ 9223372036854775807
end Go.PF
namespace Go.Mr
open Go.RowKit Go.Pu
theorem RdT.stringS {P : Program} {w : World} {t : TypeId} (ht : P.underlying t = some .string) : RdT P w t eS PF.okS := fun h => by
 obtain ⟨n, rfl, _, hw⟩ := DataW.trod_string ht h
 refine ⟨n, rfl, ?_⟩
 unfold maxLen at hw; unfold PF.okS; omega
theorem arg_string {H : Type} {enc : TypeId × Value → H} {P : Program} {w : World} {t : TypeId} {base b0 : Nat} {spare : Nat → Bool} {held : Bool} {r : Reach} {v : Value} {d : DataW H} {ps : List MemPlace} (ht : P.underlying t = some .string)
 (hval : Value.okWide P w r b0 t v) (h : DataW.Trod enc P w base spare held t v d ps) : ∃ s : ByteArray, v = .string s ∧ PF.okS s := by
 obtain ⟨s, rfl⟩ := WideShapes.okWide_string ht hval
 obtain ⟨fuel, h⟩ := h
 obtain ⟨n, h1, _, h2⟩ := DataW.trod_string ht h
 refine ⟨s, rfl, ?_⟩
 simp [Value.cells] at h1
 subst h1
 unfold maxLen at h2; unfold PF.okS; omega
end Go.Mr
namespace Go.Pu
def catS (a b : ByteArray) : Option ByteArray := if a.size + b.size ≤ 9223372036854775807 then some (a ++ b) else none
end Go.Pu
namespace Go.Mr
open Go.RowKit Go.Pu
def TabH (P : Program) (name : String) (k : IntKind) (zs : List Int) (H : GH) : Prop := ∃ g e fr, P.globalNamed name = some g ∧ H g = some (.cells (zs.map fun z => Value.int k z).toArray e fr)
@[reducible] def TabI (P : Program) (H : GH) : Prop := TabH P "internal/strconv.uint64pow10" .u64 Lib.pow10Tab H
section
variable {P : Program} {f : Fm} {w : World} {d : Option Tmp} {ty : TypeId} {pos : String} {aft : Array Edge} {gd : Option (Nat × Bool)} {x y : Operand} {t t' : TypeId}
theorem E.addT {a b c : ByteArray} (hx : ev f x = .string a) (hy : ev f y = .string b) (h : catS a b = some c) : (execOp (ev f) ⟨d, .binOp .add t x y t', ty, pos, aft, gd⟩).run P w = .ok (.value (.string c)) w :=
 E.addS (catS := catS) hx hy h fun a b c h => by
  unfold catS at h; split at h
  · rename_i hh; cases h; exact ⟨hh, rfl⟩
  · cases h
end
end Go.Mr
namespace Go.Mr
open Go.RowKit Go.Pu Go.Sort
open Go.Proofs (OneCell CmpLays1 sortWorld ltOf)
section
variable {P : Program} {w w' : World} {H0 H H' : GH} {w0 : World} {l : List MO} {e n : Nat} {v : Value} {A : Type} {En : Enc A}
def El1 {A : Type} (En : Enc A) (H : GH) (xs : List A) : Type := { p : Value × A // En.rel H [p.1] p.2 ∧ p.2 ∈ xs }
def El1.enc {H : GH} {xs : List A} (p : El1 En H xs) : Value := p.1.1
def El1.x {H : GH} {xs : List A} (p : El1 En H xs) : A := p.1.2
theorem El1.oneCell {H : GH} {xs : List A} : OneCell (El1.enc (En := En) (H := H) (xs := xs)) := fun p => Enc.one1 p.2.1
theorem els1_arr {H : GH} {cells : List Value} {xs : List A} (h : Els H En 1 cells xs) (ys : List A) (hs : ∀ x ∈ xs, x ∈ ys) : ∃ d : List (El1 En H ys), d.map El1.enc = cells ∧ d.map El1.x = xs := by
 induction h with
 | nil => exact ⟨[], rfl, rfl⟩
 | snoc hp hc hx ih =>
  rename_i cells xs c x
  obtain ⟨d, h1, h2⟩ := ih (fun y hy => hs y (by simp [hy]))
  match c, hc, hx with
  | [c0], _, hx => exact ⟨d ++ [⟨(c0, x), hx, hs x (by simp)⟩], by rw [List.map_append, h1]; rfl, by rw [List.map_append, h2]; rfl⟩
theorem els1_of {H : GH} {ys : List A} (d : List (El1 En H ys)) : Els H En 1 (d.map El1.enc) (d.map El1.x) := by
 rw [← List.reverse_reverse d]
 generalize d.reverse = d
 induction d with
 | nil => exact .nil
 | cons p d ih => rw [List.reverse_cons, List.map_append, List.map_append]; exact .snoc ih rfl p.2.1
theorem heap_sorted1 {α : Type} [Inhabited α] {enc : α → Value} {w : World} {g m : Nat} {os : Array Obj} {cur : Array Value} {e : TypeId} {fr : Nat × Nat} (d : Array α) (hb : w.heap[g]? = some (.cells cur e fr)) :
 (sortWorld enc w g 0 m d os).heap[g]? = some (.cells (putCells enc 0 d cur) e fr) := by
 have hg : g < w.heap.size := (Array.getElem?_eq_some_iff.1 hb).1
 unfold sortWorld
 rw [heap_grow_old _ _ (by simpa using hg)]
 simp [putRow, mapBlock, Sort.ahead, Array.getElem?_modify, hb, onCells]
theorem grownBy_sorted1 {α : Type} [Inhabited α] {enc : α → Value} {w : World} {g m : Nat} {os : Array Obj} (d : Array α) : w.grownBy (sortWorld enc w g 0 m d os) (some g) := by
 unfold sortWorld
 refine ⟨rfl, rfl, rfl, by simp, fun k hk hne => ?_⟩
 rw [heap_grow_old _ _ (by simpa using hk)]
 have : g ≠ k := fun e => hne (by rw [e])
 simp [putRow, mapBlock, Sort.ahead, Array.getElem?_modify, this]
theorem take_putCells1 {α : Type} [Inhabited α] {enc : α → Value} (cur : Array Value) (ts : List α) (n : Nat) (hn : n ≤ ts.length) (h : ts.length ≤ cur.size) : (putCells enc 0 ts.toArray cur).toList.take n = (ts.take n).map enc := by
 apply List.ext_getElem?
 intro j
 by_cases hj : j < n
 · rw [List.getElem?_take_of_lt hj, Array.getElem?_toList]
   simp [putCells, hj, show j < cur.size by omega, show j < ts.length by omega]
 · rw [List.getElem?_take_eq_none (by omega), List.getElem?_eq_none (by simp; omega)]
theorem St.turned (h : St H0 w0 H w l) {i g cap m n' : Nat} {cells : List Value} (hi : l[i]? = some (.row e 1 (.slice (some ⟨g, 0, Option.none⟩) n cap) n cells)) {α : Type} [Inhabited α] {enc : α → Value} (h1 : OneCell enc) (d : List α) (os : Array Obj)
 (hn : n' ≤ d.length) (hd : d.length ≤ n) :
 St H0 w0 H (sortWorld enc w g 0 m d.toArray os) (l.set i (.row e 1 (.slice (some ⟨g, 0, Option.none⟩) n' cap) n' ((d.take n').map enc))) := by
 obtain ⟨⟨k1, k2⟩, k3⟩ := h.ok i _ hi
 rcases k2 with ⟨h3, _⟩ | ⟨g', cap', cur, hv, hg, hh, hle, hcm, hsz, htk⟩
 · cases h3
 cases hv
 refine h.upd hi (grownBy_sorted1 _) (by unfold sortWorld; simp [Sort.ahead, Go.Sort.grow]) ⟨⟨by simp; omega, .inr ⟨g, cap, _, rfl, hg, heap_sorted1 _ hh, by omega, hcm, by simp [putCells, hsz], ?_⟩⟩, ?_⟩ (fun b hb => .inl hb)
 · rw [Nat.mul_one]; exact take_putCells1 cur d n' hn (by omega)
 · intro u hu
   obtain ⟨y, _, rfl⟩ := List.mem_map.1 hu
   exact h1 y
theorem St.holds1 (h : St H0 w0 H w l) {i g cap : Nat} {cells : List Value} (hi : l[i]? = some (.row e 1 (.slice (some ⟨g, 0, Option.none⟩) n cap) n cells)) {α : Type} [Inhabited α] {enc : α → Value} (d : List α) (hd : d.map enc = cells) :
 Holds enc w g 0 d.toArray ∧ g < w.heap.size ∧ d.length = n ∧ n ≤ cap ∧ cap ≤ maxLen := by
 obtain ⟨⟨k1, k2⟩, k3⟩ := h.ok i _ hi
 rcases k2 with ⟨h3, _⟩ | ⟨g', cap', cur, hv, hg, hh, hle, hcm, hsz, htk⟩
 · cases h3
 cases hv
 have hl : d.length = n := by rw [← hd] at k1; simpa using k1
 refine ⟨fun j hj => ?_, (Array.getElem?_eq_some_iff.1 hh).1, hl, hle, hcm⟩
 simp only [List.size_toArray] at hj
 have hc : cells[j]? = some (enc d[j]) := by rw [← hd]; simp [hj]
 rw [Nat.zero_add]
 constructor
 · rw [cell_of_row w g _ _ _ _ hh]
   rw [← htk, List.getElem?_take] at hc
   split at hc
   · simpa [hj] using hc
   · cases hc
 · simp [World.frozen?, hh]
theorem St.sl_sorted (h : St H0 w0 H w l) {i g cap m : Nat} {cells : List Value} (hi : l[i]? = some (.row e 1 (.slice (some ⟨g, 0, Option.none⟩) n cap) n cells)) {α : Type} [Inhabited α] {enc : α → Value} (d : Array α) (os : Array Obj) :
 Sl H (sortWorld enc w g 0 m d os) := fun b ob hb => by
 have hw := h.sl b ob hb
 have hne : some b ≠ some g := fun e => by cases e; rw [h.out i _ g hi rfl] at hb; cases hb
 rw [(grownBy_sorted1 (os := os) (m := m) d).block b (Array.getElem?_eq_some_iff.1 hw).1 hne]; exact hw
theorem Run.grown {B : Nat} (hr : Run B H w H' w') (hB : B = w.heap.size) : ∃ q os', w' = grow (w.drewN q) os' := by
 obtain ⟨hb, _, _, _, hd⟩ := hr
 refine ⟨w'.drawn - w.drawn, w'.heap.extract w.heap.size w'.heap.size, ?_⟩
 have h1 : w'.heap = w.heap ++ w'.heap.extract w.heap.size w'.heap.size := by
  apply Array.ext_getElem?
  intro k
  by_cases hk : k < w.heap.size
  · rw [hb.block k (by omega), Array.getElem?_append_left hk]
  · rw [Array.getElem?_append_right (by omega), Array.getElem?_extract]
    split
    · congr 1; omega
    · rw [Array.getElem?_eq_none (by omega)]
 have h2 : w.drawn + (w'.drawn - w.drawn) = w'.drawn := by omega
 cases w; cases w'
 have := hb.os; have := hb.tape; have := hb.output
 simp only [Go.Sort.grow, World.drewN] at *
 subst_vars
 simp only [World.mk.injEq, and_true]
 exact ⟨h1, trivial, h2.symm⟩
theorem keeps_append {A : Type} [DecidableEq A] [Inhabited A] (xs : List A) (y : A) (j : Nat) (hj : j < xs.length) : Go.Lib.keeps (xs ++ [y]).toArray j = Go.Lib.keeps xs.toArray j := by
 have h1 : (xs ++ [y]).toArray[j]! = xs.toArray[j]! := by
  rw [getElem!_pos _ j (by simp; omega), getElem!_pos _ j (by simpa using hj)]; simp [List.getElem_append_left hj]
 have h2 : (xs ++ [y]).toArray[j - 1]! = xs.toArray[j - 1]! := by
  rw [getElem!_pos _ (j - 1) (by simp; omega), getElem!_pos _ (j - 1) (by simp; omega)]; simp [List.getElem_append_left (show j - 1 < xs.length by omega)]
 simp only [Go.Lib.keeps, h1, h2]
theorem compactUpTo_append {A : Type} [DecidableEq A] [Inhabited A] (xs : List A) (y : A) (m : Nat) (hm : m ≤ xs.length) : Go.Lib.compactUpTo (xs ++ [y]).toArray m = Go.Lib.compactUpTo xs.toArray m := by
 induction m with
 | zero => rfl
 | succ m ih =>
  rw [Go.Lib.compactUpTo_succ, Go.Lib.compactUpTo_succ, ih (by omega), keeps_append xs y m (by omega)]
  have h1 : (xs ++ [y]).toArray[m]! = xs.toArray[m]! := by
   rw [getElem!_pos _ m (by simp; omega), getElem!_pos _ m (by simp; omega)]; simp [List.getElem_append_left (show m < xs.length by omega)]
  rw [h1]
theorem compactL_snoc {A : Type} [DecidableEq A] : ∀ (xs : List A) (y : A), compactL (xs ++ [y]) = if xs.getLast? = some y then compactL xs else compactL xs ++ [y]
 | [], y => by simp [compactL]
 | [x], y => by
  by_cases h : x = y
  · subst h; simp [compactL]
  · simp [compactL, h]
 | x :: x' :: xs, y => by
  have ih := compactL_snoc (x' :: xs) y
  simp only [List.cons_append] at ih
  by_cases h : x = x'
  · simp only [List.cons_append, compactL, h, if_true]
    rw [ih]; simp [List.getLast?_cons_cons]
  · simp only [List.cons_append, compactL, h, if_false]
    rw [ih]
    simp only [List.getLast?_cons_cons]
    split <;> simp
theorem compactL_eq {A : Type} [DecidableEq A] [Inhabited A] (xs : List A) : Go.Lib.compactUpTo xs.toArray xs.length = compactL xs := by
 rw [← List.reverse_reverse xs]
 generalize xs.reverse = ys
 induction ys with
 | nil => rfl
 | cons y ys ih =>
  rw [List.reverse_cons]
  generalize ys.reverse = xs at ih ⊢
  rw [compactL_snoc, List.length_append, List.length_singleton, Go.Lib.compactUpTo_succ, compactUpTo_append xs y _ (Nat.le_refl _), ih]
  have hy : (xs ++ [y]).toArray[xs.length]! = y := by rw [getElem!_pos _ _ (by simp)]; simp
  rw [hy]
  rcases Nat.eq_zero_or_pos xs.length with h0 | h0
  · have : xs = [] := List.eq_nil_of_length_eq_zero h0
    subst this; simp [Go.Lib.keeps]
  · have hp : (xs ++ [y]).toArray[xs.length - 1]! = xs[xs.length - 1] := by rw [getElem!_pos _ _ (by simp; omega)]; simp [List.getElem_append_left (show xs.length - 1 < xs.length by omega)]
    have hg : xs.getLast? = some xs[xs.length - 1] := by rw [List.getLast?_eq_getElem?, List.getElem?_eq_getElem]
    simp only [Go.Lib.keeps, hy, hp, hg, Option.some.injEq]
    by_cases h : xs[xs.length - 1] = y
    · have : ¬ xs.length = 0 := by omega
      simp [h, this]
    · have : ¬ y = xs[xs.length - 1] := fun e => h e.symm
      simp [h, this]
theorem compactL_le {A : Type} [DecidableEq A] : ∀ (xs : List A), (compactL xs).length ≤ xs.length
 | [] => by simp [compactL]
 | [x] => by simp [compactL]
 | x :: x' :: xs => by
  have ih := compactL_le (x' :: xs)
  by_cases h : x = x'
  · simp only [compactL, h, if_true]; simp at ih ⊢; omega
  · simp only [compactL, h, if_false]; simp at ih ⊢; omega
theorem sortF_some {f : A → A → Option Int} {xs r : List A} (h : sortF f xs = some r) : (∃ cf, SortOk f xs cf) ∧ r = xs.mergeSort (leF f) := by
 unfold sortF at h
 split at h
 · rename_i hh; cases h; exact ⟨hh, rfl⟩
 · cases h
theorem St.sortF {G : GH} (hG : Inc G H) (h : St H0 w0 H w l) {i : Nat} {cells : List Value} (hi : l[i]? = some (.row e 1 v n cells)) {xs r : List A} (he : Els G En 1 cells xs) {fv : Value} {f : A → A → Option Int} {fid : Nat}
 (hf : ∀ (H2 : GH) (w2 : World), Inc H H2 → Sl H2 w2 → ∀ c x, En.rel H2 [c] x → ∀ d y, En.rel H2 [d] y → ∀ r, f x y = some r → ∃ fi cs, fv = .func (.func fi) #[] cs ∧ (∀ args w, (callFunc fi args).run P w = .ok (.enter fi args) w) ∧ Calls P fi (#[c, d] ++ cs) w2 (Sc H2 w2 (.int .i64 r)))
 (k0 : ∀ (p : Option Addr) (cap : Nat) (fv : Value) (w : World), Calls P fid #[.slice p 0 cap, fv] w fun e w' => e = .returned (.tuple #[]) ∧ w' = w)
 (k1 : ∀ (α : Type) [Inhabited α] (enc : α → Value) (_ : OneCell enc) (cf : α → α → Int) (_ : SWO (ltOf cf)) (g : Nat) (cb : Array Value) (blk off cap : Nat) (d : Array α) (w : World)
  (_ : ∀ args w, (callFunc g args).run P w = .ok (.enter g args) w) (_ : CmpLays1 P g cb enc cf blk off d.size w) (_ : Holds enc w blk off d) (_ : blk < w.heap.size) (_ : d.size < 4611686018427387904),
  Calls P fid #[.slice (some ⟨blk, off, Option.none⟩) d.size cap, .func (.func g) #[] cb] w fun e w' => e = .returned (.tuple #[]) ∧ ∃ d' n os, PermIn 0 d.size d d' ∧ SortedIn (ltOf cf) 0 d.size d' ∧ w' = sortWorld enc w blk off n d' os)
 (hr : Pu.sortF f xs = some r) :
 Calls P fid #[v, fv] w fun e' w' => e' = .returned (.tuple #[]) ∧ ∃ cells', St H0 w0 H w' (l.set i (.row e 1 v n cells')) ∧ Els G En 1 cells' r ∧ cells'.Perm cells := by
 obtain ⟨⟨cf, hlim, hc, hirr, htr, hntr, hanti⟩, rfl⟩ := sortF_some hr
 obtain ⟨⟨g1, g2⟩, g3⟩ := h.ok i _ hi
 have hlen := he.length
 have hset : l.set i (.row e 1 v n cells) = l := by
  apply List.ext_getElem?
  intro j
  rw [List.getElem?_set]
  split
  · rename_i hij; subst hij; rw [hi]; simp [(List.getElem?_eq_some_iff.1 hi).1]
  · rfl
 rcases g2 with ⟨rfl, rfl⟩ | ⟨g, cap, cur, rfl, hg, hh, hle, hcm, hsz, htk⟩
 · have : xs = [] := by rw [g1] at hlen; apply List.eq_nil_of_length_eq_zero; omega
   subst this
   refine (k0 Option.none 0 fv w).mono ?_
   rintro _ _ ⟨rfl, rfl⟩
   exact ⟨rfl, cells, by rw [hset]; exact h, by simpa using he, List.Perm.refl _⟩
 · match xs, he, hlen, hlim, hc, hirr, htr, hntr, hanti with
   | [], he, hlen, _, _, _, _, _, _ =>
    have : n = 0 := by rw [g1] at hlen; simpa using hlen
    subst this
    refine (k0 (some ⟨g, 0, Option.none⟩) cap fv w).mono ?_
    rintro _ _ ⟨rfl, rfl⟩
    exact ⟨rfl, cells, by rw [hset]; exact h, by simpa using he, List.Perm.refl _⟩
   | x0 :: xs0, he, hlen, hlim, hc, hirr, htr, hntr, hanti =>
    generalize hxs : x0 :: xs0 = xs at *
    obtain ⟨d, hd1, hd2⟩ := els1_arr he xs (fun _ hx => hx)
    have hx0 : xs[0]? = some x0 := by rw [← hxs]; rfl
    obtain ⟨c0, hc0, hr0⟩ := els1_some he hx0
    have hx0m : x0 ∈ xs := by rw [← hxs]; simp
    haveI : Inhabited (El1 En G xs) := ⟨⟨(c0, x0), hr0, hx0m⟩⟩
    obtain ⟨fi, cs, rfl, heg, _⟩ := hf H w (Inc.rfl H) h.sl c0 x0 (En.mono hG hr0) c0 x0 (En.mono hG hr0) _ (hc x0 hx0m x0 hx0m)
    obtain ⟨hH, hblk, hdl, hcap, hcm2⟩ := h.holds1 hi d hd1
    let cf' : El1 En G xs → El1 En G xs → Int := fun p q => cf p.x q.x
    have hlt : ∀ p q, ltOf cf' p q = decide (cf p.x q.x < 0) := fun p q => rfl
    have hO : SWO (ltOf cf') := ⟨fun p => by rw [hlt, decide_eq_false_iff_not]; exact hirr _ p.2.2,
     fun p q s a b => by rw [hlt, decide_eq_true_eq] at *; exact htr _ p.2.2 _ q.2.2 _ s.2.2 a b,
     fun p q s a b => by rw [hlt, decide_eq_false_iff_not] at *; exact hntr _ p.2.2 _ q.2.2 _ s.2.2 a b⟩
    have hcmp : CmpLays1 P fi cs El1.enc cf' g 0 d.toArray.size w := fun m os dk hs p q => by
     have hsl := h.sl_sorted hi (enc := El1.enc) (m := m) dk os
     obtain ⟨fi', cs', hfv, _, hcall⟩ := hf H _ (Inc.rfl H) hsl _ _ (En.mono hG p.2.1) _ _ (En.mono hG q.2.1) _ (hc _ p.2.2 _ q.2.2)
     cases hfv
     refine hcall.mono ?_
     rintro _ W' ⟨rfl, hrun⟩
     exact ⟨rfl, hrun.grown rfl⟩
    have hK := k1 _ El1.enc El1.oneCell cf' hO fi cs g 0 cap d.toArray w heg hcmp hH hblk (by have hdx := congrArg List.length hd2; simp only [List.length_map] at hdx; simp only [lim] at hlim; simp only [List.size_toArray]; omega)
    simp only [List.size_toArray, hdl] at hK
    refine hK.mono ?_
    rintro _ _ ⟨rfl, d', m, os, hp, hso, rfl⟩
    have hd'l : d'.size = n := by rw [hp.1]; simp [hdl]
    have hT := h.turned (m := m) (n' := n) hi El1.oneCell d'.toList os (by simp [hd'l]) (by simp [hd'l])
    have hpm : d'.toList.Perm d := by
     have := hp.2.2
     rw [show (n : Nat) = d'.size from hd'l.symm] at this
     rw [Array.extract_size, hd'l] at this
     rw [show n = d.toArray.size by simp [hdl]] at this
     rw [Array.extract_size] at this
     simpa using this
    refine ⟨rfl, _, by simpa using hT, ?_, by rw [List.take_of_length_le (by simp [hd'l]), ← hd1]; exact hpm.map El1.enc⟩
    have hE : Els G En 1 (d'.toList.map El1.enc) (d'.toList.map El1.x) := els1_of _
    rw [List.take_of_length_le (by simp [hd'l])]
    have : d'.toList.map El1.x = xs.mergeSort (leF f) := by
     have hpx : (d'.toList.map El1.x).Perm xs := (hpm.map El1.x).trans (by rw [hd2])
     have hmem : ∀ y ∈ d'.toList.map El1.x, y ∈ xs := fun y hy => hpx.mem_iff.1 hy
     have hms : (xs.mergeSort (leF f)).Perm xs := List.mergeSort_perm _ _
     have hle : ∀ x ∈ xs, ∀ y ∈ xs, leF f x y = !decide (cf y x < 0) := fun x hx y hy => by simp [leF, hc y hy x hx]
     refine List.Perm.eq_of_pairwise (le := fun x y => x ∈ xs ∧ y ∈ xs ∧ leF f x y = true) ?_ ?_ ?_ (hpx.trans hms.symm)
     · intro a b _ _ h1 h2
       obtain ⟨ha, hb, h1⟩ := h1
       obtain ⟨_, _, h2⟩ := h2
       rw [hle _ ha _ hb] at h1
       rw [hle _ hb _ ha] at h2
       simp only [Bool.not_eq_true', decide_eq_false_iff_not] at h1 h2
       exact hanti a ha b hb h2 h1
     · rw [List.pairwise_iff_getElem]
       intro a b ha hb hab
       refine ⟨hmem _ (List.getElem_mem _), hmem _ (List.getElem_mem _), ?_⟩
       rw [hle _ (hmem _ (List.getElem_mem _)) _ (hmem _ (List.getElem_mem _))]
       simp only [List.length_map, Array.length_toList] at ha hb
       have := hso a b (Nat.zero_le _) hab (by omega)
       rw [hlt, getElem!_pos d' b (by omega), getElem!_pos d' a (by omega)] at this
       simpa using this
     · have hpw : (xs.mergeSort (leF f)).Pairwise fun x y => leF f x y = true := by
        let le' : El1 En G xs → El1 En G xs → Bool := fun p q => !decide (cf q.x p.x < 0)
        have hm := List.map_mergeSort (r := le') (s := leF f) (f := El1.x) (l := d) (fun a _ b _ => (hle _ a.2.2 _ b.2.2).symm)
        rw [hd2] at hm
        rw [← hm, List.pairwise_map]
        have hs' := List.pairwise_mergeSort (le := le') ?_ ?_ d
        · refine hs'.imp ?_
          intro a b hab
          exact (hle a.x a.2.2 b.x b.2.2).trans hab
        · intro a b c h1 h2
          simp only [le', Bool.not_eq_true', decide_eq_false_iff_not] at h1 h2 ⊢
          exact hntr _ c.2.2 _ b.2.2 _ a.2.2 h2 h1
        · intro a b
          simp only [le', Bool.or_eq_true, Bool.not_eq_true', decide_eq_false_iff_not]
          by_cases h1 : cf b.x a.x < 0
          · right
            intro h2
            exact hirr _ b.2.2 (htr _ b.2.2 _ a.2.2 _ b.2.2 h1 h2)
          · exact .inl h1
       rw [List.pairwise_iff_getElem] at hpw ⊢
       intro a b ha hb hab
       exact ⟨hms.mem_iff.1 (List.getElem_mem _), hms.mem_iff.1 (List.getElem_mem _), hpw a b ha hb hab⟩
    rw [← this]
    exact hE
theorem St.compactF {G : GH} [DecidableEq A] [Inhabited A] (h : St H0 w0 H w l) {i : Nat} {cells : List Value} (hi : l[i]? = some (.row e 1 v n cells)) {xs : List A} (he : Els G En 1 cells xs) {fid : Nat} {enc : A → Value} (h1 : OneCell enc)
 (henc : ∀ (H : GH) c x, En.rel H [c] x → c = enc x) (hrel : ∀ (H : GH) x, En.rel H [enc x] x) (z : A)
 (k0 : ∀ (w : World), Calls P fid #[.slice Option.none 0 0] w fun e w' => e = .returned (.slice Option.none 0 0) ∧ w' = w)
 (k1 : ∀ (blk off cap : Nat) (d : Array A) (w : World) (_ : Holds enc w blk off d) (_ : d.size ≤ 9223372036854775807) (_ : d.size ≤ cap),
  Calls P fid #[.slice (some ⟨blk, off, Option.none⟩) d.size cap] w fun e w' => e = .returned (.slice (some ⟨blk, off, Option.none⟩) (Go.Lib.compactUpTo d d.size).length cap) ∧
   ∃ q, w' = Go.Sort.putRow enc (Sort.ahead w q) blk off (Go.Lib.compactUpTo d d.size ++ List.replicate (d.size - (Go.Lib.compactUpTo d d.size).length) z).toArray) :
 Calls P fid #[v] w fun e' w' => ∃ v' n' cells', e' = .returned v' ∧ St H0 w0 H w' (l.set i (.row e 1 v' n' cells')) ∧ Els G En 1 cells' (compactL xs) := by
 obtain ⟨⟨g1, g2⟩, g3⟩ := h.ok i _ hi
 have hlen := he.length
 have hset : l.set i (.row e 1 v n cells) = l := by
  apply List.ext_getElem?
  intro j
  rw [List.getElem?_set]
  split
  · rename_i hij; subst hij; rw [hi]; simp [(List.getElem?_eq_some_iff.1 hi).1]
  · rfl
 rcases g2 with ⟨rfl, rfl⟩ | ⟨g, cap, cur, rfl, hg, hh, hle, hcm, hsz, htk⟩
 · have : xs = [] := by rw [g1] at hlen; apply List.eq_nil_of_length_eq_zero; omega
   subst this
   refine (k0 w).mono ?_
   rintro _ _ ⟨rfl, rfl⟩
   exact ⟨_, _, cells, rfl, by rw [hset]; exact h, by simpa [compactL] using he⟩
 · have hcells : xs.map enc = cells := by
    clear hi g1 g3 hset htk hlen
    induction he with
    | nil => rfl
    | snoc hp hc hx ih =>
     rename_i cells xs c x
     match c, hc, hx with
     | [c0], _, hx => rw [List.map_append, ih, henc _ _ _ hx]; rfl
   obtain ⟨hH, hblk, hdl, hcap, hcm2⟩ := h.holds1 hi xs hcells
   have hK := k1 g 0 cap xs.toArray w hH (by simp [hdl]; simp only [maxLen] at hcm; omega) (by simp [hdl]; omega)
   simp only [List.size_toArray, hdl] at hK
   have hcl : Go.Lib.compactUpTo xs.toArray n = compactL xs := by rw [← hdl]; exact compactL_eq xs
   rw [hcl] at hK
   refine hK.mono ?_
   rintro _ _ ⟨rfl, q, rfl⟩
   have hcle : (compactL xs).length ≤ n := by rw [← hdl]; exact compactL_le xs
   have hT := h.turned (m := q) (n' := (compactL xs).length) hi h1 (compactL xs ++ List.replicate (n - (compactL xs).length) z) #[] (by simp) (by simp; omega)
   unfold sortWorld at hT
   rw [grow_empty, List.take_left'  rfl] at hT
   refine ⟨_, _, _, rfl, hT, ?_⟩
   generalize compactL xs = ys
   rw [← List.reverse_reverse ys]
   generalize ys.reverse = ys
   induction ys with
   | nil => exact .nil
   | cons y ys ih => rw [List.reverse_cons, List.map_append]; exact .snoc ih rfl (hrel _ _)
end
end Go.Mr
namespace Go.Proofs
open Go.Shelf Go.RowKit Go.Lib Go.Sort
theorem compact_none {P : Program} {ρ : Ren} (L : SlLaysE.n43 P ρ) (w : World) :
 Calls P (ρ.f 43) #[.slice none 0 0] w fun e w' => e = .returned (.slice none 0 0) ∧ w' = w := by
 have mixed := L.mixed; have t0 := L.t0; have a0 := L.a0; have z0 := L.z0; have v0 := L.v0; have t3 := L.t3; have a3 := L.a3; have z3 := L.z3; have v3 := L.v3; have t4 := L.t4; have a4 := L.a4; have z4 := L.z4; have v4 := L.v4; have t22 := L.t22; have a22 := L.a22; have z22 := L.z22; have v22 := L.v22; have a23 := L.a23; have z23 := L.z23
 obtain ⟨_, _, FG⟩ := L.f43
 go_enter FG, SlBodyN.n43_ntmps ρ
 go_wp2
 go_ret
 exact ⟨rfl, rfl⟩
end Go.Proofs
namespace Go.Mr
open Go.RowKit Go.Pu
section
variable {P : Program} {w w' : World} {H0 H Hs : GH} {w0 : World} {l l0 T : List MO} {N : Nat} {f : Fm}
variable {J : List MO → World → Prop}
@[reducible] def iterPost (K : Nat → World → Prop) (Kx : World → Prop) (n : Nat) : Ending → World → Prop := fun e W' => (∃ v, e = .returned v) ∧ (K n W' ∨ Kx W')
@[reducible] def rndQ {S X : Type} (id : Nat) (J : List MO → S → World → Prop) (E : List MO → X → World → Prop) (T : List MO) (o : Lp S X) : FQ := fun e _ W =>
 match o with
 | .nx s => e = .normal ∧ J T s W
 | .bk s => e = .exit id ∧ J T s W
 | .rt x => e = .ret ∧ E T x W
end
end Go.Mr
namespace Go.Mr
open Go.RowKit Go.Pu
section
variable {δ : List Nat} {P : Program} {N : Nat} {f : Fm} {w : World} {ops : Array Oper} {S : World → Prop} {M : Fm → World → Prop} {n : Nat} {ls l' : Array Bool}
theorem E.asB {o : Oper} {a b : Bool} (h : (execOp (ev f) o).run P w = .ok (.value (.bool a)) w) (e : a = b) : (execOp (ev f) o).run P w = .ok (.value (.bool b)) w := e ▸ h
end
end Go.Mr
namespace Go.Pu
def ixS (s : ByteArray) (i : Int) : Option Int := if 0 ≤ i then (s.data[i.toNat]?).map fun b => (b.toNat : Int) else none
theorem ixS_some {s : ByteArray} {i b : Int} (h : ixS s i = some b) : 0 ≤ i ∧ ∃ u : UInt8, s.data[i.toNat]? = some u ∧ b = (u.toNat : Int) := by
 unfold ixS at h
 split at h
 · rename_i h0
   cases hu : s.data[i.toNat]? with
   | none => rw [hu] at h; cases h
   | some u => rw [hu] at h; cases h; exact ⟨h0, u, rfl, rfl⟩
 · cases h
def ltB : List UInt8 → List UInt8 → Bool
 | _, [] => false
 | [], _ :: _ => true
 | a :: x, b :: y => a < b || (a == b && ltB x y)
def ltS (s t : ByteArray) : Bool := ltB s.toList t.toList
end Go.Pu
namespace Go.Mr
open Go.RowKit Go.Pu
theorem ltB_eq : ∀ (x y : List UInt8), Op.bytesLess x y = ltB x y
 | x, [] => by cases x <;> rfl
 | [], _ :: _ => rfl
 | a :: x, b :: y => by show (_ || (_ && _)) = (_ || (_ && _)); rw [ltB_eq x y]
section
variable {P : Program} {f : Fm} {w : World} {d : Option Tmp} {ty : TypeId} {pos : String} {aft : Array Edge} {gd : Option (Nat × Bool)} {x y : Operand} {t t' : TypeId}
theorem E.lssS {a b : ByteArray} (hx : ev f x = .string a) (hy : ev f y = .string b) :
 (execOp (ev f) ⟨d, .binOp .lss t x y t', ty, pos, aft, gd⟩).run P w = .ok (.value (.bool (ltS a b))) w := by
 simp [execOp, eqGuard, binOp, hx, hy, Op.stringOp, ltS, ltB_eq]
theorem E.ixS {s : ByteArray} {k : IntKind} {i b : Int} (ht : ∀ w, (underlying t).run P w = .ok .string w) (hx : ev f x = .string s) (hy : ev f y = .int k i) (h : ixS s i = some b) :
 (execOp (ev f) ⟨d, .index t x y, ty, pos, aft, gd⟩).run P w = .ok (.value (.int .u8 b)) w := by
 obtain ⟨h0, u, hu, rfl⟩ := ixS_some h
 have hu' : s[i.toNat]? = some u := by
  obtain ⟨h1, h2⟩ := Array.getElem?_eq_some_iff.1 hu
  exact (getElem?_pos s i.toNat h1).trans (congrArg some h2)
 simp [execOp, Instr.index, ht, hx, hy, h0, hu', asIntOf]
end
theorem E.lenS {P : Program} {f : Fm} {w : World} {d : Option Tmp} {ty t : TypeId} {pos : String} {aft : Array Edge} {gd : Option (Nat × Bool)} {x : Operand} {s : ByteArray} (ht : ∀ w, (underlying t).run P w = .ok .string w) (hx : ev f x = .string s) :
 (execOp (ev f) ⟨d, .call ⟨.builtin .len, #[x], #[t]⟩, ty, pos, aft, gd⟩).run P w = .ok (.value (.int .i64 (s.size : Int))) w := by
 simp [execOp, resolve, invoke, builtin, Builtin.len_, hx, ht, goInt]
end Go.Mr
namespace Go.Pu
inductive Fo where
 | nil : Fo
 | node (op : Int) (a b : Fo) (text : ByteArray) : Fo
@[ext] structure FoN where
 op : Int
 a : Fo
 b : Fo
 text : ByteArray
end Go.Pu
namespace Go.Mr
open Go.RowKit Go.Pu
@[reducible] def NilT (v : Value) (b : Bool) : Prop := v = .pointer none ∧ b = true ∨ ∃ q, v = .pointer (some q) ∧ b = false
section
variable {α : Type} {H H' : GH} {E : Enc α} {v : Value} {x : Option α}
end
section
variable {P : Program} {f : Fm} {w : World} {d : Option Tmp} {ty : TypeId} {pos : String} {aft : Array Edge} {gd : Option (Nat × Bool)} {x y : Operand} {t t' : TypeId}
end
end Go.Mr
namespace Go.Mr
open Go.RowKit Go.ChangeShapes Go.WideShapes
theorem vars_stay {H : Type} {enc : TypeId × Value → H} {P : Program} {W W' : World} {nm : String} {g : Nat} {gt : TypeId} {gs : List (DataW H)} {q : List MemPlace} (hl : laidOutB P = true) (hg : P.globalNamed nm = some g) (hty : (P.globals[g]?).map (·.type) = some gt)
 (hr : P.readableRec gt = true) (hrow : gt < P.types.size) (hb : Below W.heap.size W W') (hp : ∀ x ∈ q, x.block < W.heap.size) (hV : DataW.TrodVars enc P W (fun _ => true) [nm] gs q) :
 DataW.TrodVars enc P W' (fun b => decide (b < W.heap.size)) [nm] gs q := by
 obtain ⟨g', t, cs, fuel, d, p', rfl, hg', ht, hvar, hd, rfl⟩ := trodVars_one hV
 obtain rfl := Option.some.inj (hg.symm.trans hg')
 obtain rfl := Option.some.inj (hty.symm.trans ht)
 have hlt : g < W.heap.size := by
  unfold World.var? at hvar
  rw [hg, Option.bind_some] at hvar
  cases hh : W.heap[g]? with
  | none => rw [hh] at hvar; cases hvar
  | some o => exact (Array.getElem?_eq_some_iff.1 hh).1
 have hvar' : W'.var? P nm = some cs := by
  unfold World.var? at hvar ⊢
  rw [hg, Option.bind_some] at hvar ⊢
  rw [hb.block g hlt]; exact hvar
 obtain ⟨fuel', hd'⟩ := trod_stays (v := .agg cs) hl hr hrow hb (fun x hx => hp x (List.mem_append_right _ hx)) ⟨fuel, hd⟩
 exact trodVars_mk1 hg hty hvar' hd'
theorem post_law1 {H : Type} {enc : TypeId × Value → H} {P : Program} {f : Func} {s : ChangeSpec} {W W' : World} {args : Array Value} {ds gs : List (DataW H)} {p q : List MemPlace} {tb : TypeId} {nm : String}
 (hW : DataW.Whole enc P f.params.toList s.vars false W args.toList ds gs (p ++ q)) (hv : s.vars = [nm]) (hf : (s.fn H (ds ++ gs)) = { results := [.lit (.bool true)], args := ds, vars := gs }) (hrt : f.resultTypes.toList = [tb]) (hrs : f.resultTypes.size = 1)
 (htb : P.underlying tb = some .bool) (hA : DataW.TrodAll enc P W' 0 (fun b => decide (b < W.heap.size)) true f.params.toList args.toList ds p) (hV : DataW.TrodVars enc P W' (fun b => decide (b < W.heap.size)) [nm] gs q) (hb : Below W.heap.size W W') :
 s.post enc P f false true false false W args (.bool true) W' := by
 refine ⟨ds, gs, p ++ q, [], p, q, hW, ?_, ?_, ?_, hb.frame _, fun h => by cases h⟩
 · rw [hf, hrt, hrs]
   exact trodAll_cons_mk (shut_bool htb _) ChangeShapes.trodAll_mk0
 · rw [hf]; exact hA
 · rw [hf, hv]; exact hV
end Go.Mr
namespace Go.Mr
open Go.RowKit Go.Pu
section
variable {P : Program} {w : World}
end
section
variable {P : Program} {f : Fm} {w w' : World} {d : Option Tmp} {ty : TypeId} {pos : String} {aft : Array Edge} {gd : Option (Nat × Bool)} {x y : Operand} {v u : Value}
variable {H0 H H' : GH} {w0 : World} {l : List MO} {t e k n : Nat} {z : Value} {A : Type} {En : Enc A}
theorem els_dropQ {cells : List Value} {xs : List A} (h : Els H En k cells xs) : ∀ m, m ≤ xs.length → Els H En k (cells.drop (m * k)) (xs.drop m) := by
 induction h with
 | nil => intro m hm; simp; exact .nil
 | snoc hs hc hx ih =>
  rename_i cells xs c x
  intro m hm
  have hl := hs.length
  rcases Nat.lt_or_ge xs.length m with hlt | hge
  · have : m = xs.length + 1 := by simp at hm; omega
    subst this
    rw [List.drop_of_length_le (by rw [List.length_append, hl, hc, Nat.add_mul, Nat.one_mul]; exact Nat.le_refl _), List.drop_of_length_le (by simp)]
    exact .nil
  · rw [List.drop_append_of_le_length hge, List.drop_append_of_le_length (by rw [hl]; exact Nat.mul_le_mul_right _ hge)]
    exact .snoc (ih m hge) hc hx
end
end Go.Mr
namespace Go.Mr
open Go.RowKit Go.Pu Go.Shelf Go.Sort
section
variable {P : Program} {H0 H : GH} {w0 w : World} {l : List MO} {e n : Nat} {v : Value} {A : Type} {En : Enc A}
abbrev OC := { v : Value // v.oneCell' = true }
instance : Inhabited OC := ⟨⟨.int .i64 0, rfl⟩⟩
variable {f : Fm} {d : Option Tmp} {ty : TypeId} {pos : String} {aft : Array Edge} {gd : Option (Nat × Bool)} {x : Operand} {k : Nat} {z : Value}
end
end Go.Mr
namespace Go.Mr
open Go.RowKit Go.Pu
@[reducible] def OP {α : Type} (R : Addr → α → Prop) (v : Value) (x : Option α) : Prop := match x with | none => v = .pointer none | some y => ∃ q, v = .pointer (some q) ∧ R q y
section
variable {H0 Hr H : GH} {w0 w : World} {l0 l : List MO} {e k n : Nat} {v : Value}
end
section
variable {f : Fm}
end
section
variable {P : Program} {f : Fm} {w : World} {d : Option Tmp} {ty : TypeId} {pos : String} {aft : Array Edge} {gd : Option (Nat × Bool)} {x y : Operand} {t t' : TypeId}
end
end Go.Mr
namespace Go.Mr
open Go.RowKit Go.Pu
structure SP (B : World → Prop) (ps : List (List Nat × (World → Prop))) (ls : Array Bool) (w : World) : Prop where
 base : B w
 ph : ∀ p ∈ ps, (∀ h ∈ p.1, ls.getD h true = false) → p.2 w
theorem SP.nil {B : World → Prop} {ls : Array Bool} {w : World} (hB : B w) : SP B [] ls w := ⟨hB, nofun⟩
theorem SP.iff {B : World → Prop} {ps : List (List Nat × (World → Prop))} {i : Nat} (hi : (ps.all fun p => !p.1.contains i) = true) {ls : Array Bool} {w : World} : SP B ps (ls.setIfInBounds i true) w ↔ SP B ps ls w := by
 have key : ∀ p ∈ ps, ∀ h ∈ p.1, (ls.setIfInBounds i true).getD h true = ls.getD h true := fun p hp h hh => by
  refine getD_set_ne true fun e => ?_
  have := List.all_eq_true.1 hi p hp
  rw [e] at this
  simp [hh] at this
 exact ⟨fun k => ⟨k.base, fun p hp hn => k.ph p hp fun h hh => by rw [key p hp h hh]; exact hn h hh⟩, fun k => ⟨k.base, fun p hp hn => k.ph p hp fun h hh => by rw [← key p hp h hh]; exact hn h hh⟩⟩
section
variable {P : Program} {ops : Array Oper} {Q : Exit → Act → World → Prop} {md : Region.Mode}
def wpAnyI (P : Program) (md : Region.Mode) (ops : Array Oper) (Q : Exit → Act → World → Prop) (S : Array Bool → World → Prop) : Nat → Array Bool → Act → World → Prop
 | 0, ls, a, w => Region.ready md ops ls = [] ∧ Q .normal a w
 | n + 1, ls, a, w => (Region.ready md ops ls = [] → Q .normal a w) ∧
  ∀ i ∈ Region.ready md ops ls, wpOp P ops Q i (fun a w => S (ls.setIfInBounds i true) w ∧ wpAnyI P md ops Q S n (ls.setIfInBounds i true) a w) a w
theorem wpAnyI.held {S : Array Bool → World → Prop} : ∀ (n : Nat) (ls : Array Bool) (a : Act) (w : World), wpAnyI P md ops Q S n ls a w → wpAnyH P md ops Q (fun _ => True) n ls a w
 | 0, _, _, _, h => h
 | n + 1, _, _, _, h => ⟨h.1, fun i hi => wpOp_mono (fun _ _ k => ⟨trivial, wpAnyI.held n _ _ _ k.2⟩) (h.2 i hi)⟩
theorem wpAnyI.first {S : Array Bool → World → Prop} {i : Nat} {oi : Oper} {v : Value} (C : Nat → Prop) (hi : ops[i]? = some oi) (hsel : ∀ (j : Nat) (o : Oper) cs b, ops[j]? = some o → o.op ≠ .select cs b)
 (hQ : ∀ c a w, Q (.panic c) (a.put oi.dst v) w → Q (.panic c) a w) (hSi : ∀ ls w, S (ls.setIfInBounds i true) w ↔ S ls w)
 (hC : ∀ j, C j → ∃ oj, ops[j]? = some oj ∧ ∃ e ∈ oj.after, Region.binds md e = true ∧ (C e.on ∨ e.on = i)) : ∀ (n : Nat) (ls : Array Bool) (a : Act) (w : World),
  (∀ j oj, ops[j]? = some oj → j ≠ i → ls.getD j true = false → (∀ e ∈ oj.after, Region.binds md e = true → e.on ≠ i) → oi.apart ops oj = true) →
  i ∈ Region.ready md ops ls → (∀ j, C j → ls.getD j true = false) → YieldsIf P ops (fun w' => ∃ ls', (∀ j, C j → ls'.getD j true = false) ∧ S ls' w') oi v a → S ls w →
  wpAnyI P md ops Q S n (ls.setIfInBounds i true) (a.put oi.dst v) w → wpAnyI P md ops Q S (n + 1) ls a w := by
 intro n
 induction n with
 | zero =>
  intro ls a w _ hr hn hy hS H
  refine ⟨fun h => (by rw [h] at hr; cases hr), fun j hj => ?_⟩
  by_cases hji : j = i
  · subst hji; exact hy.wpOp hi ⟨ls, hn, hS⟩ ⟨(hSi ls w).2 hS, H⟩
  · have hm := ready_mono hj hji
    rw [H.1] at hm
    cases hm
 | succ n ih =>
  intro ls a w hfree hr hn hy hS H
  refine ⟨fun h => (by rw [h] at hr; cases hr), fun j hj => ?_⟩
  by_cases hji : j = i
  · subst hji; exact hy.wpOp hi ⟨ls, hn, hS⟩ ⟨(hSi ls w).2 hS, H⟩
  · have h1 := H.2 j (ready_mono hj hji)
    obtain ⟨hun, oj, hoj, hall⟩ := mem_ready.1 hj
    have hir := (mem_ready.1 hr).1
    have off : ∀ k, ls.getD k true = false → ls.getD k false = true → False := fun k h0 h1 => by
     rcases Nat.lt_or_ge k ls.size with h' | h'
     · simp [h'] at h0 h1; rw [h0] at h1; cases h1
     · simp [Array.getElem?_eq_none h'] at h1
    have hno : ∀ e ∈ oj.after, Region.binds md e = true → e.on ≠ i := fun e he hb heq => off i hir (heq ▸ hall e he hb)
    have hCj : ¬ C j := fun hc => by
     obtain ⟨oj', ho', e, he, hb, hd⟩ := hC j hc
     rw [hoj] at ho'; cases ho'
     rcases hd with hd | hd
     · exact off _ (hn _ hd) (hall e he hb)
     · exact hno e he hb hd
    have hn' : ∀ k, C k → (ls.setIfInBounds j true).getD k true = false := fun k hk => by
     rw [getD_set_ne true (fun (e : j = k) => hCj (by rw [e]; exact hk))]; exact hn k hk
    have h2 := wpOp_putIf hoj (hfree j oj hoj hji hun hno) (fun cs b => hsel i oi cs b hi) (fun cs b => hsel j oj cs b hoj) hQ hy h1
    refine wpOp_mono (fun a' w' h3 => ?_) h2
    have e := Array.setIfInBounds_comm (xs := ls) true true hji
    have hS' : S (ls.setIfInBounds j true) w' := (hSi _ _).1 (by rw [e]; exact h3.2.1)
    refine ⟨hS', ih (ls.setIfInBounds j true) a' w' (fun k ok hk hki hun' hno' => ?_) (ready_mono hr (Ne.symm hji)) hn' h3.1 hS' (by rw [e]; exact h3.2.2)⟩
    refine hfree k ok hk hki ?_ hno'
    by_cases hjk : j = k
    · subst hjk; exact hun
    · rw [getD_set_ne true hjk] at hun'; exact hun'
def certB (ops : Array Oper) (C : List Nat) (i : Nat) (ls : Array Bool) (ps : List (List Nat × (World → Prop))) : Bool :=
 (C.all fun j => !ls.getD j true && match ops[j]? with | some oj => oj.after.any fun e => Region.binds .any e && (C.contains e.on || e.on == i) | none => false) && ps.all fun p => !p.1.contains i
end
def FB {δ : List Nat} (P : Program) (N : Nat) (ops : Array Oper) (B : World → Prop) (M : Fm → World → Prop) (ps : List (List Nat × (World → Prop))) (n : Nat) (ls : Array Bool) (f : Fm) (w : World) : Prop :=
 ∀ a, Fr (δ := δ) N a f → wpAnyI P .any ops (lift (δ := δ) N fun e f w => e = .normal ∧ M f w) (SP B ps) n ls a w
def FC {δ : List Nat} (P : Program) (N : Nat) (ops : Array Oper) (B : World → Prop) (M : Fm → World → Prop) (ps : List (List Nat × (World → Prop))) (n : Nat) (ls : Array Bool) (i : Nat) (f : Fm) (w : World) : Prop :=
 ∀ a, Fr (δ := δ) N a f → wpOp P ops (lift (δ := δ) N fun e f w => e = .normal ∧ M f w) i (fun a w => SP B ps (ls.setIfInBounds i true) w ∧ wpAnyI P .any ops (lift (δ := δ) N fun e f w => e = .normal ∧ M f w) (SP B ps) n (ls.setIfInBounds i true) a w) a w
section
variable {δ : List Nat} {P : Program} {N : Nat} {f : Fm} {w w' : World} {ops : Array Oper} {B : World → Prop} {M : Fm → World → Prop} {ps : List (List Nat × (World → Prop))} {n : Nat} {ls l' : Array Bool} {H : GH}
theorem FW.drawB {Q : FQ} {id : Nat} {l : List Oper} (B : World → Prop) (M : Fm → World → Prop) (hm : P.follows .mixedOrders = true) (hs : Sl H w)
 (h : ∀ w1, Run w.heap.size H w H w1 → FB (δ := δ) P N l.toArray B M [] l.length (Array.replicate l.length false) f w1) (hQ : ∀ f w, M f w → Q .normal f w) : FW (ρ := none) (δ := δ) P N (.region id l.toArray true) Q f w := by
 intro n a ha
 refine wpIn_wide.2 ?_
 refine Code.wp_mono (Q := lift (δ := δ) N fun e f w => e = .normal ∧ M f w) (fun e a w ⟨f, hf, he, hM⟩ => he ▸ ⟨f, hf, hQ f w hM⟩) (wp_region_held (S := fun _ => True) hm (wpAnyI.held (S := SP B []) _ _ _ _ ?_))
 have := h _ (run_drew hs) a ha
 simpa using this
theorem FB.take0 {S' : World → Prop} {i d : Nat} {o : Oper} {v : Value} (C : List Nat) (hi : ops[i]? = some o) (hs : Region.noSelect ops = true) (hf : Region.free .any ops ls i = true) (hr : (Region.ready .any ops ls).contains i = true)
 (hl : ls.setIfInBounds i true = l') (hc : certB ops C i ls ps = true) (hS : SP B ps ls w) (hd : o.dst = some d) (hlt : Nat.blt d N = true)
 (hy : ∀ a, Fr (δ := δ) N a f → YieldsIf P ops S' o v a) (hS' : ∀ ls' w', (∀ j ∈ C, ls'.getD j true = false) → SP B ps ls' w' → S' w')
 (h : FB (δ := δ) P N ops B M ps n l' (upd f d v) w) : FB (δ := δ) P N ops B M ps (n + 1) ls f w := by
 subst hl
 intro a ha
 unfold certB at hc
 rw [Bool.and_eq_true] at hc
 have hC := List.all_eq_true.1 hc.1
 refine wpAnyI.first (v := v) (fun j => j ∈ C) hi (Region.noSelect_spec hs) (fun c a w hq => ?_) (fun ls w => SP.iff hc.2) (fun j hj => ?_) n ls a w (Region.free_spec hi hf) (by simpa using hr) (fun j hj => ?_) ?_ hS ?_
 · obtain ⟨_, _, h0, _⟩ := hq; cases h0
 · have := hC j hj
   rw [Bool.and_eq_true] at this
   cases ho : ops[j]? with
   | none => rw [ho] at this; cases this.2
   | some oj =>
    rw [ho] at this
    obtain ⟨e, he, hb⟩ := Array.any_eq_true'.1 this.2
    rw [Bool.and_eq_true, Bool.or_eq_true] at hb
    exact ⟨oj, rfl, e, he, hb.1, hb.2.imp (fun h => by simpa using h) fun h => by simpa using h⟩
 · have := hC j hj
   rw [Bool.and_eq_true] at this
   simpa using this.1
 · exact (hy a ha).imp (fun ⟨h1, h2⟩ => ⟨h1, fun w' ⟨ls', k1, k2⟩ => h2 w' (hS' ls' w' k1 k2)⟩) id
 · rw [hd]; exact h _ (ha.put (nblt hlt) v)
theorem FB.take {i d : Nat} {o : Oper} {v : Value} (hi : ops[i]? = some o) (hs : Region.noSelect ops = true) (hf : Region.free .any ops ls i = true) (hr : (Region.ready .any ops ls).contains i = true)
 (hl : ls.setIfInBounds i true = l') (hc : certB ops [] i ls ps = true) (hS : SP B ps ls w) (hw : wF ops f o = true) (hd : o.dst = some d) (hlt : Nat.blt d N = true) (hrun : ∀ w', B w' → (execOp (ev f) o).run P w' = .ok (.value v) w')
 (h : FB (δ := δ) P N ops B M ps n l' (upd f d v) w) : FB (δ := δ) P N ops B M ps (n + 1) ls f w :=
 FB.take0 (S' := B) [] hi hs hf hr hl hc hS hd hlt (fun a ha => .inl ⟨by rw [ha.yielded]; exact hw, fun w' hw' => by rw [ha.eval]; exact hrun w' hw'⟩) (fun _ _ _ k => k.base) h
theorem FB.skip {i : Nat} {o : Oper} (hi : ops[i]? = some o) (hs : Region.noSelect ops = true) (hf : Region.free .any ops ls i = true) (hr : (Region.ready .any ops ls).contains i = true)
 (hl : ls.setIfInBounds i true = l') (hc : certB ops [] i ls ps = true) (hS : SP B ps ls w) {d : Nat} (hw : wF ops f o = false) (hd : o.dst = some d) (hlt : Nat.blt d N = true)
 (h : FB (δ := δ) P N ops B M ps n l' (upd f d undef) w) : FB (δ := δ) P N ops B M ps (n + 1) ls f w :=
 FB.take0 (S' := B) [] hi hs hf hr hl hc hS hd hlt (fun a ha => .inr ⟨by rw [ha.yielded]; exact hw, rfl⟩) (fun _ _ _ k => k.base) h
theorem FB.done (hr : Region.ready .any ops ls = []) (h : M f w) : FB (δ := δ) P N ops B M ps n ls f w := fun _ ha => by
 cases n with
 | zero => exact ⟨hr, ⟨f, ha, rfl, h⟩⟩
 | succ n => exact ⟨fun _ => ⟨f, ha, rfl, h⟩, fun i hi => by rw [hr] at hi; cases hi⟩
theorem FB.all {rs : List Nat} (hr : Region.ready .any ops ls = rs) (hne : rs ≠ []) (h : ∀ i ∈ rs, FC (δ := δ) P N ops B M ps n ls i f w) : FB (δ := δ) P N ops B M ps (n + 1) ls f w :=
 fun a ha => ⟨fun h0 => absurd (hr ▸ h0) hne, fun i hi => h i (hr ▸ hi) a ha⟩
theorem FB.all1 {i : Nat} (hr : Region.ready .any ops ls = [i]) (h : FC (δ := δ) P N ops B M ps n ls i f w) : FB (δ := δ) P N ops B M ps (n + 1) ls f w :=
 FB.all hr (by simp) fun j hj => by simp at hj; subst hj; exact h
theorem FB.all2 {i j : Nat} (hr : Region.ready .any ops ls = [i, j]) (h1 : FC (δ := δ) P N ops B M ps n ls i f w) (h2 : FC (δ := δ) P N ops B M ps n ls j f w) : FB (δ := δ) P N ops B M ps (n + 1) ls f w :=
 FB.all hr (by simp) fun m hm => by
  simp at hm; rcases hm with rfl | rfl
  · exact h1
  · exact h2
def bs (n m : Nat) : Array Bool := ((List.range n).map fun i => m.testBit i).toArray
theorem FB.t {i d : Nat} {o : Oper} {v : Value} (l' : Array Bool) (hi : ops[i]? = some o) (hS : SP B ps ls w) (hw : wF ops f o = true) (hrun : ∀ w', B w' → (execOp (ev f) o).run P w' = .ok (.value v) w')
 (h : FB (δ := δ) P N ops B M ps n l' (upd f d v) w) (hd : o.dst = some d := by rfl) (hlt : Nat.blt d N = true := by rfl) (hs : Region.noSelect ops = true := by kernel_rfl) (hf : Region.free .any ops ls i = true := by kernel_rfl)
 (hr : (Region.ready .any ops ls).contains i = true := by kernel_rfl) (hl : ls.setIfInBounds i true = l' := by kernel_rfl) (hc : certB ops [] i ls ps = true := by kernel_rfl) : FB (δ := δ) P N ops B M ps (n + 1) ls f w :=
 FB.take hi hs hf hr hl hc hS hw hd hlt hrun h
theorem FC.val {i d : Nat} {o : Oper} {v : Value} (hi : ops[i]? = some o) (hl : ls.setIfInBounds i true = l') (hw : wF ops f o = true) (hd : o.dst = some d) (hlt : Nat.blt d N = true)
 (hr : (execOp (ev f) o).run P w = .ok (.value v) w') (h : SP B ps l' w' ∧ FB (δ := δ) P N ops B M ps n l' (upd f d v) w') : FC (δ := δ) P N ops B M ps n ls i f w := by
 subst hl
 intro a ha
 unfold wpOp
 simp only [hi]
 rw [ha.yielded, if_pos (show Region.wanted o (yF ops f) = true from hw)]
 refine .inl ?_
 unfold Oper.wp
 rw [ha.eval, hr, Oper.upon_value, hd]
 exact ⟨h.1, h.2 _ (ha.put (nblt hlt) v)⟩
theorem FC.call {i d fid : Nat} {o : Oper} {args : Array Value} {R : Ending → World → Prop} (hi : ops[i]? = some o) (hl : ls.setIfInBounds i true = l') (hw : wF ops f o = true) (hd : o.dst = some d) (hlt : Nat.blt d N = true)
 (hr : (execOp (ev f) o).run P w = .ok (.enter fid args) w) (hc : Calls P fid args w R)
 (h : ∀ e w', R e w' → ∃ v, e = .returned v ∧ SP B ps l' w' ∧ FB (δ := δ) P N ops B M ps n l' (upd f d v) w') : FC (δ := δ) P N ops B M ps n ls i f w := by
 subst hl
 intro a ha
 unfold wpOp
 simp only [hi]
 rw [ha.yielded, if_pos (show Region.wanted o (yF ops f) = true from hw)]
 refine .inl ?_
 unfold Oper.wp
 rw [ha.eval, hr, Oper.upon_enter, hd]
 refine hc.mono fun e w' r => ?_
 obtain ⟨v, rfl, hS, hv⟩ := h e w' r
 exact ⟨hS, hv _ (ha.put (nblt hlt) v)⟩
end
section
variable {P : Program} {f : Fm} {d : Option Tmp} {ty : TypeId} {pos : String} {aft : Array Edge} {gd : Option (Nat × Bool)} {x : Operand} {H0 H H' : GH} {w0 w w' : World} {l : List MO} {e k n : Nat} {z v : Value}
end
section
variable {ρ : Option Nat} {δ : List Nat} {P : Program} {N : Nat} {Q : FQ} {f : Fm} {w : World} {ops : Array Oper} {o : Oper} {rest : List Oper}
theorem FL.v {d : Nat} {v : Value} {w' : World} (hr : (execOp (ev f) o).run P w = .ok (.value v) w') (h : FL (ρ := ρ) (δ := δ) P N ops Q rest (upd f d v) w')
 (hw : wF ops f o = true := by rfl) (hd : o.dst = some d := by rfl) (hlt : Nat.blt d N = true := by rfl) : FL (ρ := ρ) (δ := δ) P N ops Q (o :: rest) f w := FL.val hw hd hlt hr h
end
end Go.Mr
namespace Go.Mr
open Go.RowKit Go.Pu
structure KeyNow (P : Program) (kt : TypeId) {K : Type} [BEq K] (ek : K → Value) : Prop where
 kd : ∃ kd, (∀ w, (underlying kt).run P w = .ok kd w) ∧ ∀ a b, Instr.sameNow kd (ek a) (ek b) = some (a == b)
 eq : ∀ a b : K, (a == b) = true → a = b
 bits : ∀ a, Instr.sameBits 10000 (ek a) (ek a) = true
 chk : ∀ e a w, (Instr.checkKey e 10000 kt (ek a)).run P w = .ok () w
section
variable {H0 H : GH} {w0 w : World} {l : List MO} {P : Program} {K V : Type} {ek : K → Value} {en : V → Value} {kt et t : TypeId} {o : Obj} {m : List (K × V)} {i b : Nat}
end
end Go.Mr
namespace Go.Mr
open Go.RowKit Go.Pu
section
variable {H0 H : GH} {w0 w : World} {l : List MO} {P : Program} {t e tn : TypeId} {v : Value} {n : Nat}
theorem E.appendZ {f : Fm} {d : Option Tmp} {ty : TypeId} {pos : String} {aft : Array Edge} {gd : Option (Nat × Bool)} {x y : Operand} {u z : Value} {w' : World} (hx : ev f x = v) (hy : ev f y = u) (hr : ∀ ty, (Builtin.append_ #[t, tn] ty #[v, u]).run P w = .ok z w') :
 (execOp (ev f) ⟨d, .call ⟨.builtin .append, #[x, y], #[t, tn]⟩, ty, pos, aft, gd⟩).run P w = .ok (.value z) w' := by
 simp [execOp, resolve, invoke, builtin, hx, hy, hr]
end
end Go.Mr
namespace Go.Pu
def insL {α : Type} (xs : List α) (i : Int) (ys : List α) : Option (List α × List α) :=
 if 0 ≤ i ∧ i ≤ xs.length ∧ ys.length = 1 ∧ xs.length + 1 ≤ lim then some (xs.take i.toNat ++ ys ++ xs.drop i.toNat, ys) else none
end Go.Pu
namespace Go.Mr
open Go.RowKit Go.Pu
def errV (ty : TypeId) (ea : Addr) (b : Bool) : Value := bif b then .iface ty (.pointer (some ea)) else .nilIface
def TabE (g : Nat) (ty : TypeId) (ea : Addr) (H : GH) : Prop := CAt H ⟨g, 0, Option.none⟩ [errV ty ea true]
theorem TabE.mono {g ty : Nat} {ea : Addr} {H H' : GH} (h : TabE g ty ea H) (i : Inc H H') : TabE g ty ea H' := CAt.mono h i
theorem TabE.now {g ty : Nat} {ea : Addr} {H : GH} {w : World} (h : TabE g ty ea H) (hs : Sl H w) : WAt w ⟨g, 0, Option.none⟩ [errV ty ea true] := CAt.now h hs
section
variable {H0 H : GH} {w0 w w' : World} {l : List MO} {P : Program} {t e tn : TypeId} {u v z : Value} {n k : Nat}
theorem run_copyK (te : TE P t e k z) {g o dl dc : Nat} {cur : Array Value} (hg : w.heap[g]? = some (.cells cur e (0, 0))) {m : Nat} {cs : List Value} (hs : Src w k u m cs) (h0 : 0 < m) (hm : m ≤ dl) (hfit : o + m * k ≤ cur.size) (h1 : ∀ c ∈ cs, c.oneCell' = true) (ty : TypeId) :
 (Builtin.copy_ #[t, t] ty #[.slice (some ⟨g, o, Option.none⟩) dl dc, u]).run P w = .ok (goInt m) (w.setRow g (cur.toList.take o ++ cs ++ cur.toList.drop (o + m * k)).toArray) := by
 obtain ⟨info, hi, _, hsz, _⟩ := te.i
 rcases hs with ⟨ad, c, rfl, hl, hc⟩ | ⟨_, rfl, _⟩
 · have hst := run_storeCells_at P g o e cs 0 cur w hg (by rw [hl]; omega) h1
   simp only [Nat.add_zero, hl] at hst
   have hld := run_loadCells_list (P := P) w ad cs hc
   rw [hl] at hld
   have hmin : Nat.min m dl = m := Nat.min_eq_left hm
   subst hsz
   simp [Builtin.copy_, run_underlying te.u, Builtin.lenOf, Builtin.firstCells, sizeOf, typeInfo, hi, hmin, hld, hst]
 · omega
theorem E.copy {f : Fm} {d : Option Tmp} {ty : TypeId} {pos : String} {aft : Array Edge} {gd : Option (Nat × Bool)} {x y : Operand} (hx : ev f x = v) (hy : ev f y = u) (hr : ∀ ty, (Builtin.copy_ #[t, t] ty #[v, u]).run P w = .ok z w') :
 (execOp (ev f) ⟨d, .call ⟨.builtin .copy, #[x, y], #[t, t]⟩, ty, pos, aft, gd⟩).run P w = .ok (.value z) w' := by
 simp [execOp, resolve, invoke, builtin, hx, hy, hr]
theorem E.cap {f : Fm} {d : Option Tmp} {ty : TypeId} {pos : String} {aft : Array Edge} {gd : Option (Nat × Bool)} {x : Operand} {a : Option Addr} {len cap : Nat} (te : TE P t e k z) (hx : ev f x = .slice a len cap) :
 (execOp (ev f) ⟨d, .call ⟨.builtin .cap, #[x], #[t]⟩, ty, pos, aft, gd⟩).run P w = .ok (.value (.int .i64 cap)) w := by
 simp [execOp, resolve, invoke, builtin, Builtin.cap_, hx, run_underlying te.u, goInt]
theorem E.callE {f : Fm} {d : Option Tmp} {ty : TypeId} {pos : String} {aft : Array Edge} {gd : Option (Nat × Bool)} {fid : Nat} {xs : Array Operand} {ts : Array TypeId} {args : Array Value} (ha : xs.map (ev f) = args) (he : (callFunc fid args).run P w = .ok (.value v) w) :
 (execOp (ev f) ⟨d, .call ⟨.value (.func fid), xs, ts⟩, ty, pos, aft, gd⟩).run P w = .ok (.value v) w := by
 subst ha
 simp [execOp, resolve, invoke, ev, Deferred.ofValue, he]
theorem E.addW {f : Fm} {d : Option Tmp} {ty : TypeId} {pos : String} {aft : Array Edge} {gd : Option (Nat × Bool)} {x y : Operand} {t t' : TypeId} {a b c : Int} (hx : ev f x = .int .i64 a) (hy : ev f y = .int .i64 b) (h : Pu.wr (a + b) = c) :
 (execOp (ev f) ⟨d, .binOp .add t x y t', ty, pos, aft, gd⟩).run P w = .ok (.value (.int .i64 c)) w := h ▸ E.add hx hy
theorem E.subW {f : Fm} {d : Option Tmp} {ty : TypeId} {pos : String} {aft : Array Edge} {gd : Option (Nat × Bool)} {x y : Operand} {t t' : TypeId} {a b c : Int} (hx : ev f x = .int .i64 a) (hy : ev f y = .int .i64 b) (h : Pu.wr (a - b) = c) :
 (execOp (ev f) ⟨d, .binOp .sub t x y t', ty, pos, aft, gd⟩).run P w = .ok (.value (.int .i64 c)) w := h ▸ E.sub hx hy
theorem run_part (te : TE P t e k z) {g len cap : Nat} {p q : Nat} {lo hi : Option Value} (h1 : p ≤ q) (h2 : q ≤ cap) (h3 : p < cap) (hlo : (lo = none ∧ p = 0) ∨ lo = some (.int .i64 p)) (hhi : (hi = none ∧ q = len) ∨ hi = some (.int .i64 q)) (w : World) :
 (Instr.slice t (.slice (some ⟨g, 0, Option.none⟩) len cap) lo hi none).run P w = .ok (.slice (some ⟨g, p * k, Option.none⟩) (q - p) (cap - p)) w := by
 have := run_slice_ab (w := w) te (a := some ⟨g, 0, Option.none⟩) (len := len) (cap := cap) (p := (p : Int)) (q := (q : Int)) (lo := lo) (hi := hi) (by omega) (by omega) (by omega) (hlo.imp (fun h => ⟨h.1, by omega⟩) fun h => ⟨_, h⟩) (hhi.imp (fun h => ⟨h.1, by omega⟩) fun h => ⟨_, h⟩)
 rw [if_neg (by omega)] at this
 simpa [Addr.add_lit] using this
structure Rw (w : World) (e k g n cap : Nat) (cur : Array Value) (cells : List Value) : Prop where
 hp : w.heap[g]? = some (.cells cur e (0, 0))
 le : n ≤ cap
 cm : cap ≤ maxLen
 sz : cur.size = cap * k
 tk : cur.toList.take (n * k) = cells
 ln : cells.length = n * k
theorem St.rw (h : St H0 w0 H w l) {i : Nat} {g cap : Nat} {cells : List Value} (hi : l[i]? = some (.row e k (.slice (some ⟨g, 0, Option.none⟩) n cap) n cells)) : ∃ cur, Rw w e k g n cap cur cells := by
 obtain ⟨⟨h1, h2⟩, _⟩ := h.ok i _ hi
 rcases h2 with ⟨hv, _⟩ | ⟨g', cap', cur, hv, hg, hh, hle, hcm, hsz, htk⟩
 · cases hv
 · cases hv; exact ⟨cur, hh, hle, hcm, hsz, htk, h1⟩
theorem Rw.src {g cap : Nat} {cur : Array Value} {cells : List Value} (h : Rw w e k g n cap cur cells) {a : Nat} (ha : a ≤ n) (c : Nat) : Src w k (.slice (some ⟨g, a * k, Option.none⟩) (n - a) c) (n - a) (cells.drop (a * k)) := by
 refine .inl ⟨_, c, rfl, ?_, fun j u hj => ?_⟩
 · rw [List.length_drop, h.ln, Nat.sub_mul]
 · rw [Addr.add_lit, cell_of_row w g (a * k + j) _ _ _ h.hp]
   rw [List.getElem?_drop, ← h.tk, List.getElem?_take] at hj
   split at hj
   · simpa using hj
   · cases hj
theorem St.copyIn (h : St H0 w0 H w l) (te : TE P t e k z) {i g cap p m : Nat} {cells cs : List Value} (hi : l[i]? = some (.row e k (.slice (some ⟨g, 0, Option.none⟩) n cap) n cells)) (hs : Src w k u m cs) (h1 : ∀ c ∈ cs, c.oneCell' = true) (h0 : 0 < m) (hpm : p + m ≤ n) (dc : Nat) :
 ∃ w1, (∀ ty, (Builtin.copy_ #[t, t] ty #[.slice (some ⟨g, p * k, Option.none⟩) (n - p) dc, u]).run P w = .ok (goInt m) w1) ∧ St H0 w0 H w1 (l.set i (.row e k (.slice (some ⟨g, 0, Option.none⟩) n cap) n (cells.take (p * k) ++ cs ++ cells.drop ((p + m) * k)))) := by
 obtain ⟨cur, r⟩ := h.rw hi
 obtain ⟨⟨_, g2⟩, g3⟩ := h.ok i _ hi
 have hg : w0.heap.size ≤ g := by
  rcases g2 with ⟨hv, _⟩ | ⟨g', cap', cur', hv, hg, _⟩
  · cases hv
  · cases hv; exact hg
 have hcl : cs.length = m * k := by
  rcases hs with ⟨ad, c, rfl, hl, hc⟩ | ⟨_, rfl, _⟩
  · exact hl
  · omega
 have q1 : p * k + m * k ≤ n * k := by rw [← Nat.add_mul]; exact Nat.mul_le_mul_right _ hpm
 have q2 : n * k ≤ cap * k := Nat.mul_le_mul_right _ r.le
 have hr := fun ty => run_copyK (P := P) (dc := dc) te r.hp hs h0 (show m ≤ n - p by omega) (o := p * k) (by rw [r.sz]; omega) h1 ty
 refine ⟨_, hr, h.upd hi (grownBy_setRow w g _) (Nat.le_refl _) ⟨⟨?_, .inr ⟨g, cap, _, rfl, hg, setRow_heap w g _ _ _ _ r.hp, r.le, r.cm, ?_, ?_⟩⟩, ?_⟩ (fun b hb => .inl hb)⟩
 · simp only [List.length_append, List.length_take, List.length_drop, r.ln, hcl, Nat.add_mul]; omega
 · simp only [List.size_toArray, List.length_append, List.length_take, List.length_drop, Array.length_toList, hcl, r.sz]; omega
 · rw [← r.tk]
   apply List.ext_getElem?
   intro j
   have hcs : cur.toList.length = cap * k := by simpa using r.sz
   simp only [List.append_assoc, List.getElem?_take, List.getElem?_append, List.length_take, List.getElem?_drop, hcl, hcs, Nat.add_mul]
   rw [Nat.min_eq_left (show p * k ≤ cap * k by omega), Nat.min_eq_left (show n * k ≤ cap * k by omega), Nat.min_eq_left (show p * k ≤ n * k by omega)]
   by_cases c1 : j < n * k
   · rw [if_pos c1]
     by_cases c2 : j < p * k
     · rw [if_pos c2, if_pos c2, if_pos c2, if_pos c2, if_pos (by omega)]
     · rw [if_neg c2, if_neg c2]
       by_cases c3 : j - p * k < m * k
       · rw [if_pos c3, if_pos c3]
       · rw [if_neg c3, if_neg c3, if_pos (by omega)]
   · rw [if_neg c1, if_neg (by omega), if_neg (by omega), if_neg (by omega)]
 · intro c hc
   simp only [List.mem_append] at hc
   rcases hc with (hc | hc) | hc
   · exact g3 c (List.mem_of_mem_take hc)
   · exact h1 c hc
   · exact g3 c (List.mem_of_mem_drop hc)
theorem St.shift (h : St H0 w0 H w l) (te : TE P t e k z) {i g cap p : Nat} {cells : List Value} (hi : l[i]? = some (.row e k (.slice (some ⟨g, 0, Option.none⟩) n cap) n cells)) (hp : p < n) (hroom : n + 1 ≤ cap) (dc sc : Nat) :
 ∃ w1, (∀ ty, (Builtin.copy_ #[t, t] ty #[.slice (some ⟨g, (p + 1) * k, Option.none⟩) (n + 1 - (p + 1)) dc, .slice (some ⟨g, p * k, Option.none⟩) (n + 1 - p) sc]).run P w = .ok (goInt ((n - p : Nat) : Int)) w1) ∧
  St H0 w0 H w1 (l.set i (.row e k (.slice (some ⟨g, 0, Option.none⟩) (n + 1) cap) (n + 1) (cells.take ((p + 1) * k) ++ cells.drop (p * k)))) := by
 obtain ⟨cur, r⟩ := h.rw hi
 obtain ⟨⟨_, g2⟩, g3⟩ := h.ok i _ hi
 have hg : w0.heap.size ≤ g := by
  rcases g2 with ⟨hv, _⟩ | ⟨g', cap', cur', hv, hg, _⟩
  · cases hv
  · cases hv; exact hg
 obtain ⟨info, hinf, _, hsz, _⟩ := te.i
 have q1 : p * k ≤ n * k := Nat.mul_le_mul_right _ (by omega)
 have q2 : n * k + k ≤ cap * k := by have := Nat.mul_le_mul_right k hroom; rwa [Nat.add_mul, Nat.one_mul] at this
 have q3 : (p + 1) * k = p * k + k := by rw [Nat.add_mul, Nat.one_mul]
 have q4 : (n + 1) * k = n * k + k := by rw [Nat.add_mul, Nat.one_mul]
 have q5 : p * k + k ≤ n * k := by rw [← q3]; exact Nat.mul_le_mul_right _ (by omega)
 have hdl : (cells.drop (p * k)).length = (n - p) * k := by rw [List.length_drop, r.ln, Nat.sub_mul]
 have hdl' : (cells.drop (p * k)).length = n * k - p * k := by rw [List.length_drop, r.ln]
 have h1 : ∀ c ∈ cells.drop (p * k), c.oneCell' = true := fun c hc => g3 c (List.mem_of_mem_drop hc)
 have hst := run_storeCells_at P g ((p + 1) * k) e (cells.drop (p * k)) 0 cur w r.hp (by rw [hdl', r.sz]; omega) h1
 simp only [Nat.add_zero] at hst
 have hsrc := r.src (a := p) (by omega) sc
 obtain ⟨ad, c, he, hl, hc⟩ := hsrc.resolve_right (by rintro ⟨q, _⟩; cases q)
 injection he with e1 e2 e3
 injection e1 with e1
 subst e1
 have hld := run_loadCells_list (P := P) w ⟨g, p * k, Option.none⟩ (cells.drop (p * k)) hc
 rw [hdl] at hld
 have hmin : Nat.min (n + 1 - p) (n + 1 - (p + 1)) = n - p := by rw [show n + 1 - (p + 1) = n - p by omega]; exact Nat.min_eq_right (by omega)
 refine ⟨w.setRow g (cur.toList.take ((p + 1) * k) ++ cells.drop (p * k) ++ cur.toList.drop ((p + 1) * k + (cells.drop (p * k)).length)).toArray, fun ty => ?_, h.upd hi (grownBy_setRow w g _) (Nat.le_refl _) ⟨⟨?_, .inr ⟨g, cap, _, rfl, hg, setRow_heap w g _ _ _ _ r.hp, hroom, r.cm, ?_, ?_⟩⟩, ?_⟩ (fun b hb => .inl hb)⟩
 · subst hsz
   have hmin2 : Nat.min (n + 1 - p) (n - p) = n - p := Nat.min_eq_right (by omega)
   rw [Nat.add_sub_add_right n 1 p]
   generalize w.setRow g (cur.toList.take ((p + 1) * info.size) ++ cells.drop (p * info.size) ++ cur.toList.drop ((p + 1) * info.size + (cells.drop (p * info.size)).length)).toArray = W1 at hst ⊢
   generalize cells.drop (p * info.size) = D at hst hld
   simp [Builtin.copy_, run_underlying te.u, hinf, hmin2, hld, hst, Builtin.lenOf, Builtin.firstCells, sizeOf, typeInfo]
 · simp only [List.length_append, List.length_take, hdl', r.ln, q3, q4]; omega
 · simp only [List.size_toArray, List.length_append, List.length_take, List.length_drop, Array.length_toList, hdl', r.sz, q3]; omega
 · rw [show List.take ((p + 1) * k) cells = List.take ((p + 1) * k) cur.toList by rw [← r.tk, List.take_take, Nat.min_eq_left (by omega)]]
   rw [List.take_left']
   rw [List.length_append, List.length_take, Array.length_toList, r.sz, hdl', q3, q4]; omega
 · intro c hc
   simp only [List.mem_append] at hc
   rcases hc with hc | hc
   · exact g3 c (List.mem_of_mem_take hc)
   · exact h1 c hc
theorem zeroCells_made (te : TE P t e k z) (m : Nat) : Builtin.zeroCells z.cells m = madeCells z.cells (m * k) := by simp only [Builtin.zeroCells, madeCells, te.zs]
theorem St.growZ (h : St H0 w0 H w l) (te : TE P t e k z) {kn : IntKind} (htn : P.underlying tn = some (.int kn)) {i g cap p : Nat} {cells : List Value} (hi : l[i]? = some (.row e k (.slice (some ⟨g, 0, Option.none⟩) n cap) n cells)) (hp : p < n) (hroom : cap < n + 1) (hb : n + 1 ≤ lim)
 (h1 : ∀ u ∈ z.cells.toList, u.oneCell' = true) :
 ∃ g' cap' w1, (∀ ty, (Builtin.append_ #[t, tn] ty #[.slice (some ⟨g, 0, Option.none⟩) p cap, .int .i64 ((n + 1 - p : Nat) : Int)]).run P w = .ok (.slice (some ⟨g', 0, Option.none⟩) (n + 1) cap') w1) ∧
  St H0 w0 H w1 (.row e k (.slice (some ⟨g', 0, Option.none⟩) (n + 1) cap') (n + 1) (cells.take (p * k) ++ (madeCells z.cells ((n + 1 - p) * k)).toList) :: l) := by
 obtain ⟨cur, r⟩ := h.rw hi
 obtain ⟨_, g3⟩ := h.ok i _ hi
 obtain ⟨info, hinf, hz, hsz, hby⟩ := te.i
 have hlim : lim = 4294967296 := rfl
 have hbytes : (n + 1) * info.bytes ≤ 140737488355328 := Nat.le_trans (Nat.mul_le_mul hb hby) (by rw [hlim]; decide)
 have hkb : (n + 1 - p) * info.bytes ≤ 140737488355328 := Nat.le_trans (Nat.mul_le_mul_right _ (by omega)) hbytes
 have hpk : p * k ≤ n * k := Nat.mul_le_mul_right _ (by omega)
 have hold : (Builtin.firstCells info.size p (.slice (some ⟨g, 0, Option.none⟩) p cap)).run P w.drew = .ok (cells.take (p * k)).toArray w.drew :=
  run_firstCells_some (P := P) w.drew info.size p ⟨g, 0, Option.none⟩ p cap (cells.take (p * k)) (by rw [hsz, List.length_take, r.ln, Nat.min_eq_left hpk]) (fun j u hu => by
   rw [Addr.add_lit, Nat.zero_add]
   have : w.drew.cell? ⟨g, j, Option.none⟩ = w.cell? ⟨g, j, Option.none⟩ := rfl
   rw [this, cell_of_row w g j _ _ _ r.hp]
   rw [List.getElem?_take] at hu
   split at hu
   · rw [← r.tk, List.getElem?_take] at hu
     split at hu
     · simpa using hu
     · cases hu
   · cases hu)
 have hsum : p + (n + 1 - p) = n + 1 := by omega
 have hr := fun ty => Go.Lib.run_append_grow_zeros (P := P) w t tn ty e info z .i64 kn te.u htn hinf hz (some ⟨g, 0, Option.none⟩) p cap (cells.take (p * k)) hold (n + 1 - p) (by omega) (by rw [hsz]; exact te.kp) (by omega) (by omega) (by omega) (growslice_fits (by omega) (by rw [hsum]; exact hbytes))
 rw [hsum] at hr
 refine ⟨w.heap.size, grownCap w (n + 1) cap e, _, hr, ?_⟩
 have hge := grownCap_ge w (n + 1) cap e
 have hcm : grownCap w (n + 1) cap e ≤ maxLen := grownCap_le_maxLen w (n + 1) cap e (by simp only [maxLen]; omega)
 have hm : ∀ n, ∀ u ∈ (madeCells z.cells n).toList, u.oneCell' = true := by
  intro n u hu
  simp only [madeCells, Array.toList_map, Array.toList_range, List.mem_map] at hu
  obtain ⟨j, _, rfl⟩ := hu
  have hk := te.kp
  have hlt : j % z.cells.size < z.cells.size := Nat.mod_lt _ (by rw [te.zs]; exact hk)
  rw [getElem!_pos z.cells _ hlt]
  exact h1 _ (by simp)
 have hS : St H0 w0 H w.drew l := h.call (run_drew h.sl)
 have hln : (cells.take (p * k) ++ (madeCells z.cells ((n + 1 - p) * k)).toList).length = (n + 1) * k := by
  rw [List.length_append, List.length_take, r.ln, Nat.min_eq_left hpk, Array.length_toList, size_madeCells, ← Nat.add_mul, hsum]
 refine hS.push _ _ ⟨⟨hln, .inr ⟨w.heap.size, grownCap w (n + 1) cap e, _, rfl, h.size, heap_alloc_new w.drew _, hge, hcm, ?_, ?_⟩⟩, ?_⟩ ?_
 · rw [zeroCells_made te, zeroCells_made te]
   simp only [Array.size_append, List.size_toArray, size_madeCells, List.length_take, r.ln, Nat.min_eq_left hpk]
   rw [← Nat.add_mul, hsum, ← Nat.add_mul]
   congr 1; omega
 · rw [zeroCells_made te, zeroCells_made te]
   simp only [Array.toList_append, List.append_assoc]
   rw [← List.append_assoc, ← hln]
   exact List.take_left
 · intro c hc
   rcases List.mem_append.1 hc with hc | hc
   · exact g3 c (List.mem_of_mem_take hc)
   · exact hm _ c hc
 · intro b hb; simpa [MO.blk, Value.ownBlock] using hb.symm
theorem St.apart (h : St H0 w0 H w l) {i j g g2 cap cap2 n2 : Nat} {c1 : List Value} {c2 : List Value} (hi : l[i]? = some (.row e k (.slice (some ⟨g, 0, Option.none⟩) n cap) n c1)) (hj : l[j]? = some (.row e k (.slice (some ⟨g2, 0, Option.none⟩) n2 cap2) n2 c2)) (hij : i ≠ j)
 {tS tR : TypeId} (ht : P.underlying tS = some (.slice e)) (hz : ∀ w, (Go.sizeOf e).run P w = .ok k w) (hk : 0 < k) (hcap : 0 < cap) (o la ca lb cb : Nat) :
 (Extern.SlicesOverlaps.overlaps #[tS, tS] #[tR] #[.slice (some ⟨g2, 0, Option.none⟩) la ca, .slice (some ⟨g, o, Option.none⟩) lb cb]).run P w = .ok (.bool false) w := by
 obtain ⟨cur, r⟩ := h.rw hi
 obtain ⟨cur2, r2⟩ := h.rw hj
 have hne : g2 ≠ g := fun e0 => by
  subst e0
  exact hij (h.dis i j _ _ g2 hi hj rfl rfl)
 have hsz : cur.size ≠ 0 := by rw [r.sz]; exact Nat.mul_ne_zero (by omega) (by omega)
 refine Go.Lib.run_overlaps_apart w tS tR e ht k hz ⟨g2, 0, Option.none⟩ ⟨g, o, Option.none⟩ la ca lb cb hne e e cur2.size cur.size ?_ ?_ hsz ?_ ?_
 · simp [World.shape?, r2.hp]
 · simp [World.shape?, r.hp]
 · simp [World.frozen?, r2.hp]
 · simp [World.frozen?, r2.hp]
end
end Go.Mr
namespace Go.Mr
open Go.RowKit
theorem tabE_of_var {P : Program} {W : World} {nm : String} {g ty : Nat} {ea : Addr} (hg : P.globalNamed nm = some g) (hv : W.var? P nm = some #[.iface ty (.pointer (some ea))]) : TabE g ty ea (fun b => W.heap[b]?) := by
 unfold World.var? at hv
 obtain ⟨g1, h1, h2⟩ := Option.bind_eq_some_iff.1 hv
 obtain rfl := Option.some.inj (hg.symm.trans h1)
 cases hb : W.heap[g]? with
 | none => rw [hb] at h2; cases h2
 | some o =>
  rw [hb] at h2
  cases o with
  | cells arr e fr =>
   simp only [Option.some.injEq] at h2
   subst h2
   exact ⟨_, e, fr, hb, rfl, fun j c hc => by simpa [errV] using hc⟩
  | _ => cases h2
end Go.Mr
namespace Go.Mr
open Go.RowKit Go.Pu
section
variable {P : Program} {f : Fm} {w : World} {d : Option Tmp} {ty : TypeId} {pos : String} {aft : Array Edge} {gd : Option (Nat × Bool)} {x y : Operand}
variable {k yk : IntKind} {a b : Int} {t t' : TypeId}
theorem wrk_eq (k : IntKind) (n : Int) : k.wrap n = wrk k.signed k.bits n := rfl
theorem E.shr (hx : ev f x = .int k a) (hy : ev f y = .int yk b) (hb : ¬ b < 0) : (execOp (ev f) ⟨d, .binOp .shr t x y t', ty, pos, aft, gd⟩).run P w = .ok (.value (.int k (shrK k.bits a b))) w := by
 simp [execOp, eqGuard, binOp, hx, hy, Op.shift, shrK, hb]
theorem E.conv {s : TypeDesc} (hs : ∀ w, (underlying t).run P w = .ok s w) (ht : ∀ w, (underlying t').run P w = .ok (.int k) w) (hx : ev f x = .int yk a) :
 (execOp (ev f) ⟨d, .convert t t' x, ty, pos, aft, gd⟩).run P w = .ok (.value (.int k (wrk k.signed k.bits a))) w := by
 simp [execOp, convert, hs, ht, hx, Conv.intToInt, wrk_eq]
end
end Go.Mr
namespace Go.Mr
open Go.RowKit Go.Pu
section
variable {H0 H G G' : GH} {w0 w : World} {l : List MO} {P : Program} {t e n : Nat} {v u : Value} {α : Type} {En : Enc α} {cells c0 : List Value} {xs ys : List α} {j : Int} {x : α} {i : Nat}
structure Pend (G : GH) (En : Enc α) (cells : List Value) (xs : List α) (j : Int) (u : Value) : Prop where
 pd : ∃ c0, Els G En 1 c0 xs ∧ 0 ≤ j ∧ j < xs.length ∧ cells = c0.take (j.toNat * 1) ++ [u] ++ c0.drop (j.toNat * 1 + 1)
end
end Go.Mr
namespace Go.Mr
open Go.RowKit Go.Pu
def iC (xs : List Int) : List Value := xs.map (Value.int .i64)
def iP (xs : List Int) : Array (Nat × Value) := ((xs.zipIdx 0).map fun p => (p.2, Value.int .i64 p.1)).toArray
theorem els_ints (G : GH) (xs : List Int) : Els G eI 1 (iC xs) xs := by
 have key : ∀ ys : List Int, Els G eI 1 (iC ys.reverse) ys.reverse := by
  intro ys
  induction ys with
  | nil => exact .nil
  | cons x ys ih =>
   have := Els.snoc (c := [Value.int .i64 x]) (x := x) ih rfl (show eI.rel G [Value.int .i64 x] x from rfl)
   unfold iC at this ⊢
   rw [List.reverse_cons, List.map_append]
   exact this
 have := key xs.reverse
 rwa [List.reverse_reverse] at this
theorem flat_ints (xs : List Int) : ((xs.map (Value.int .i64)).map (·.cells.toList)).flatten = iC xs := by
 unfold iC
 induction xs with
 | nil => rfl
 | cons x xs ih => rw [List.map_cons, List.map_cons, List.flatten_cons, ih]; rfl
theorem St.ints {P : Program} {H0 H : GH} {w0 w : World} {l : List MO} {t e : Nat} {z : Value} (h : St H0 w0 H w l) (te : TE P t e 1 z) (G : GH) (n : Nat) (xs : List Int) (hn : xs.length = n := by rfl) (hsm : Nat.ble n 1000 = true := by rfl) :
 ∃ v w1, (Instr.buildSlice t n (iP xs)).run P w = .ok v w1 ∧ St H0 w0 H w1 (.row e 1 v n (iC xs) :: l) ∧ Els G eI 1 (iC xs) xs := by
 subst hn
 have hl : (xs.map (Value.int .i64)).length = xs.length := List.length_map _
 obtain ⟨v, w1, h1, h2⟩ := h.buildSlice (P := P) te (xs.map (Value.int .i64)) (parts := iP xs) (cells := iC xs) (by
  unfold iP
  show List.map _ _ = _
  rw [List.zipIdx_map, List.map_map]; rfl) (fun v hv => by obtain ⟨x, _, rfl⟩ := List.mem_map.1 hv; rfl) (flat_ints xs) (fun c hc => by unfold iC at hc; obtain ⟨x, _, rfl⟩ := List.mem_map.1 hc; rfl) (by have := Nat.le_of_ble_eq_true hsm; rw [hl]; omega)
 rw [hl] at h1 h2
 exact ⟨v, w1, h1, h2, els_ints G xs⟩
section
variable {δ : List Nat} {P : Program} {N : Nat} {f : Fm} {w w' : World} {ops : Array Oper} {B : World → Prop} {M : Fm → World → Prop} {ps : List (List Nat × (World → Prop))} {n : Nat} {ls l' : Array Bool}
end
end Go.Mr
namespace Go.Pu
def cmpS (a b : ByteArray) : Int := Go.Lib.compareBytes a.data.toList b.data.toList
end Go.Pu
namespace Go.Pu
def bytesS (ns : List Int) : ByteArray := ns.foldl (fun r n => r.push (UInt8.ofNat n.toNat)) ByteArray.empty
end Go.Pu
namespace Go.Mr
open Go.RowKit Go.Pu
section
variable {P : Program} {f : Fm} {w : World} {d : Option Tmp} {ty : TypeId} {pos : String} {aft : Array Edge} {gd : Option (Nat × Bool)} {x : Operand} {v : Value}
variable {H0 H G : GH} {w0 : World} {l : List MO} {t t' e n : Nat}
theorem els_bytes {cells : List Value} {xs : List Int} (h : Els G (eN .u8) 1 cells xs) : cells = xs.map (Value.int .u8) := by
 induction h with
 | nil => rfl
 | snoc hp hc hx ih => rw [List.map_append, ← ih]; exact congrArg _ hx
theorem E.bytes {m : Nat} {cells : List Value} {xs : List Int} (hs : P.underlying t = some (.slice e)) (he : P.underlying e = some (.int .u8)) (hd : P.underlying t' = some .string)
 (S : St H0 w0 H w l) {i e' : Nat} (hi : l[i]? = some (.row e' 1 v m cells)) (hE : Els G (eN .u8) 1 cells xs) (hx : ev f x = v) :
 (execOp (ev f) ⟨d, .convert t t' x, ty, pos, aft, gd⟩).run P w = .ok (.value (.string (bytesS xs))) w := by
 have hc := els_bytes hE
 have key : ∃ a ln cp, v = .slice a ln cp ∧ (Conv.bytesToString v).run P w = .ok (.string (bytesS xs)) w := by
  rcases S.row_src hi with ⟨ad, c, rfl, hl, hnews⟩ | ⟨rfl, rfl, rfl⟩
  · refine ⟨_, _, _, rfl, ?_⟩
    refine run_bytesToString w ad m c xs ?_
    have h := run_loadCells_list (P := P) w ad cells hnews
    rw [hc] at h hl
    rw [show (xs.map (Value.int .u8)).length = m by rw [hl, Nat.mul_one]] at h
    exact h
  · have : xs = [] := by simpa using hc.symm
    subst this
    exact ⟨_, _, _, rfl, rfl⟩
 obtain ⟨a, ln, cp, rfl, hk⟩ := key
 have h2 := run_convert_bytes_string (P := P) w t t' e a ln cp hs he hd
 rw [hk] at h2
 simp [execOp, hx, h2]
end
end Go.Mr
namespace Go.Mr
open Go.RowKit Go.Pu
section
variable {ρ : Option Nat} {P : Program} {ops : Array Oper} {Q : Exit → Act → World → Prop} {md : Region.Mode}
end
section
variable {δ : List Nat} {P : Program} {N : Nat} {f : Fm} {w : World} {H : GH}
end
end Go.Mr
namespace Go.Mr
open Go.RowKit Go.Pu
section
variable {H : GH} {A A2 : Type} {En : Enc A} {E2 : Enc A2} {k k2 B lo hi : Nat} {v v2 : Value} {xs : List A} {x2 : List A2}
theorem New.apart (h : RSl (up B H) En k v xs) (n : New H [v2]) : ∀ b ∈ bl [v], b ∉ bl [v2] := fun b hb hb2 => by
 have h0 := h.dom b hb
 have := n b hb2
 unfold up at h0
 split at h0
 · exact h0 rfl
 · exact h0 (by rw [this]; rfl)
end
end Go.Mr
namespace Go.Mr
open Go.RowKit Go.Pu
section
variable {H H' H2 G : GH} {A A' : Type} {En : Enc A} {E' : Enc A'} {k k' B : Nat} {v v' : Value} {xs : List A} {ys : List A'} {c : List Value}
theorem nd_two (h : ∀ b ∈ bl [v], b ∉ bl [v']) : (bl [v, v']).Nodup := by
 have e : bl [v, v'] = bl [v] ++ bl [v'] := bl_app [v] [v']
 rw [e]
 exact List.nodup_append.2 ⟨nd_one v, nd_one v', fun a ha b hb e => h a ha (e ▸ hb)⟩
theorem New.two (h : New H [v]) (h' : New H [v']) : New H [v, v'] := fun b hb => by
 have e : bl [v, v'] = bl [v] ++ bl [v'] := bl_app [v] [v']
 rw [e] at hb
 rcases List.mem_append.1 hb with hb | hb
 · exact h b hb
 · exact h' b hb
end
end Go.Mr
namespace Go.Pu
theorem wr_top (x : Int) : wr x ≤ 9223372036854775807 := by unfold wr; omega
theorem wr_le0 {x : Int} (h : 0 ≤ x) : wr x ≤ x := by unfold wr; omega
theorem bytesS_one (n : Int) : (bytesS [n]).size = 1 := rfl
def mtxB (s : Int × ByteArray) : Option (Lp (Int × ByteArray) Empty) :=
 bif decide (0 < s.1) then bd (catS (bytesS [wrk false 8 (wr (48 + s.1.tmod 10))]) s.2) (fun z => some (.nx (wr (s.1.tdiv 10), z))) else some (.bk (s.1, s.2))
theorem mtx_one {k : Int} {b : ByteArray} (h0 : 0 < k) (hs : b.size ≤ 1000) : mtxB (k, b) = some (.nx (wr (k.tdiv 10), bytesS [wrk false 8 (wr (48 + k.tmod 10))] ++ b)) ∧ (bytesS [wrk false 8 (wr (48 + k.tmod 10))] ++ b).size = 1 + b.size := by
 have hc : catS (bytesS [wrk false 8 (wr (48 + k.tmod 10))]) b = some (bytesS [wrk false 8 (wr (48 + k.tmod 10))] ++ b) := by
  unfold catS; rw [if_pos (by rw [bytesS_one]; omega)]
 refine ⟨?_, by rw [ByteArray.size_append, bytesS_one]⟩
 unfold mtxB
 simp only [decide_eq_true h0, cond_true]
 rw [hc]; rfl
theorem mtx_end {k : Int} {b : ByteArray} (h0 : ¬ 0 < k) : mtxB (k, b) = some (.bk (k, b)) := by
 unfold mtxB
 simp only [decide_eq_false h0, cond_false]
theorem mtx_go : ∀ (n : Nat) (b : ByteArray) (k : Int), k < 10 ^ n → b.size + n ≤ 1000 → ∃ r, iter mtxB (k, b) = some (.go r) ∧ r.2.size ≤ b.size + n
 | 0, b, k, hk, _ => ⟨(k, b), iter_bk (mtx_end (by simp at hk ⊢; omega)), Nat.le_refl _⟩
 | n + 1, b, k, hk, hs => by
  by_cases h0 : 0 < k
  · obtain ⟨h1, hz⟩ := mtx_one h0 (b := b) (by omega)
    have hk' : wr (k.tdiv 10) < 10 ^ n := by
     have h1 : k.tdiv 10 = k / 10 := Int.tdiv_eq_ediv_of_nonneg (by omega)
     have h2 := wr_le0 (x := k.tdiv 10) (by rw [h1]; omega)
     have h3 : (10 : Int) ^ (n + 1) = 10 ^ n * 10 := by rw [Int.pow_succ]
     rw [h3] at hk
     generalize (10 : Int) ^ n = p at *
     omega
    obtain ⟨r, h3, h2⟩ := mtx_go n (bytesS [wrk false 8 (wr (48 + k.tmod 10))] ++ b) (wr (k.tdiv 10)) hk' (by rw [hz]; omega)
    refine ⟨r, ?_, by rw [hz] at h2; omega⟩
    rw [iter_nx h1]; exact h3
  · exact ⟨(k, b), iter_bk (mtx_end h0), by show b.size ≤ b.size + (n + 1); omega⟩
theorem mtx_some (k : Int) : ∃ r, iter mtxB (k, ByteArray.mk #[]) = some (.go r) ∧ r.2.size ≤ 100 := by
 have hb : (ByteArray.mk #[]).size = 0 := rfl
 by_cases h0 : 0 < k
 · obtain ⟨h1, hz⟩ := mtx_one h0 (b := ByteArray.mk #[]) (by decide)
   obtain ⟨r, h3, h2⟩ := mtx_go 19 (bytesS [wrk false 8 (wr (48 + k.tmod 10))] ++ ByteArray.mk #[]) (wr (k.tdiv 10)) (by have := wr_top (k.tdiv 10); omega) (by rw [hz]; decide)
   refine ⟨r, ?_, by rw [hz, hb] at h2; omega⟩
   rw [iter_nx h1]; exact h3
 · exact ⟨(k, ByteArray.mk #[]), iter_bk (mtx_end h0), by show (ByteArray.mk #[]).size ≤ 100; decide⟩
end Go.Pu
