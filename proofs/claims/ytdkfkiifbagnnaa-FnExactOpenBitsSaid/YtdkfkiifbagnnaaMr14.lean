/- Marks: fresh sealed data whose cells are written, element by element; spans of fresh blocks. -/
import Derived.Test.YtdkfkiifbagnnaaMr13
namespace Go.Mr
open Go.RowKit Go.Pu

section
variable {P : Program} {w w' : World} {H0 H H' Hs : GH} {w0 : World} {l : List MO} {t e k : Nat} {v u : Value} {A : Type} {En : Enc A} {B lo hi : Nat}

/-- what is fresh, in a span of blocks -/
def sg (lo hi : Nat) (H : GH) : GH := fun b => if b < hi then up lo H b else none
theorem sg_iff {b : Nat} {o : Obj} : sg lo hi H b = some o ↔ lo ≤ b ∧ b < hi ∧ H b = some o ∧ okO o = true := by
  unfold sg
  split
  · rename_i h; rw [up_iff]; constructor
    · rintro ⟨a, b, c⟩; exact ⟨a, h, b, c⟩
    · rintro ⟨a, _, b, c⟩; exact ⟨a, b, c⟩
  · rename_i h; constructor
    · nofun
    · rintro ⟨_, a, _⟩; exact absurd a h
theorem sgI : Inc (sg lo hi H) H := fun _ _ h => (sg_iff.1 h).2.2.1
theorem sg_up {lo' : Nat} (h : lo' ≤ lo) (hi' : Inc H H') : Inc (sg lo hi H) (up lo' H') := fun b o hb => by
  obtain ⟨a, b, c, d⟩ := sg_iff.1 hb
  exact up_iff.2 ⟨by omega, hi' _ _ c, d⟩
theorem sg_of (h : Sl H w) : Inc (up lo H) (sg lo w.heap.size H) := fun b o hb => by
  obtain ⟨a, c, d⟩ := up_iff.1 hb
  exact sg_iff.2 ⟨a, (Array.getElem?_eq_some_iff.1 (h _ _ c)).1, c, d⟩
theorem sg_mono (h : Inc H H') : Inc (sg lo hi H) (sg lo hi H') := fun b o hb => by
  obtain ⟨a, b, c, d⟩ := sg_iff.1 hb
  exact sg_iff.2 ⟨a, b, h _ _ c, d⟩
theorem sg_keep {lo' hi' : Nat} (h : ∀ b, b < lo' ∨ hi' ≤ b → ∀ o, H b = some o → H' b = some o) (ho : hi ≤ lo' ∨ hi' ≤ lo) : Inc (sg lo hi H) (sg lo hi H') := fun b o hb => by
  obtain ⟨a, b, c, d⟩ := sg_iff.1 hb
  exact sg_iff.2 ⟨a, b, h _ (by omega) _ c, d⟩

/-- what is said of a datum rests on the blocks of its slices alone -/
def LocE (En : Enc A) : Prop := ∀ (H H' : GH) cs x, En.rel H cs x → (∀ b ∈ bl cs, H' b = H b) → En.rel H' cs x
/-- no memory in it -/
def FlatE (En : Enc A) : Prop := ∀ (H H' : GH) cs x, En.rel H cs x → En.rel H' cs x ∧ bl cs = []
theorem FlatE.loc (h : FlatE En) : LocE En := fun H H' cs x hr _ => (h H H' cs x hr).1
theorem FlatE.rel (h : FlatE En) (H H' : GH) (cs : List Value) (x : A) : En.rel H cs x → En.rel H' cs x := fun hr => (h H H' cs x hr).1
theorem eI_flat : FlatE eI := by rintro H H' cs x rfl; exact ⟨rfl, rfl⟩
theorem eB_flat : FlatE eB := by rintro H H' cs x rfl; exact ⟨rfl, rfl⟩
theorem eS_flat : FlatE eS := by rintro H H' cs x rfl; exact ⟨rfl, rfl⟩
theorem eL_loc (h : FlatE En) : LocE (eL En k) := by
  rintro H H' cs x ⟨v, rfl, hr⟩ hb
  exact ⟨v, rfl, hr.only h.rel hb⟩

theorem Nest.mono {G G' : GH} {xs : List A} {c : List Value} (h : Nest G En k v xs c) (hi : Inc G G') : Nest G' En k v xs c :=
  ⟨h.1.mono hi, h.2.1.mono hi, fun a len cap hv hne => (h.2.2.1 a len cap hv hne).mono hi, h.2.2.2⟩
theorem Nest.rsl {G : GH} {xs : List A} {c : List Value} (h : Nest G En k v xs c) : RSl G En k v xs := h.1
theorem Nest.dom {G : GH} {xs : List A} {c : List Value} (h : Nest G En k v xs c) : ∀ b, b ∈ bl [v] ∨ b ∈ bl c → G b ≠ none := fun b hb => by
  rcases hb with hb | hb
  · exact h.1.dom b hb
  · exact h.2.1.dom b hb

theorem bl_sub {c : List Value} {i j : Nat} : ∀ b ∈ bl ((c.drop i).take j), b ∈ bl c := fun b hb => by
  obtain ⟨u, hu, hn⟩ := mem_bl hb
  exact List.mem_filterMap.2 ⟨u, List.mem_of_mem_drop (List.mem_of_mem_take hu), hn⟩
theorem Els.at {G : GH} {xs : List A} {c : List Value} (h : Els G En k c xs) {i : Nat} {x : A} (hx : xs[i]? = some x) : ((c.drop (i * k)).take k).length = k ∧ En.rel G ((c.drop (i * k)).take k) x := by
  obtain ⟨ci, h1, h2, h3⟩ := h.get i x hx
  have e : (c.drop (i * k)).take k = ci := by
    apply List.ext_getElem?
    intro j
    by_cases hj : j < k
    · rw [List.getElem?_take_of_lt hj, List.getElem?_drop]
      have : j < ci.length := by omega
      rw [h3 j ci[j] (by simp [this])]; simp [this]
    · rw [List.getElem?_eq_none (by simp; omega), List.getElem?_eq_none (by omega)]
  rw [e]; exact ⟨h1, h2⟩
theorem Els.mk' {G : GH} : ∀ (xs : List A) (c : List Value), c.length = xs.length * k → (∀ (i : Nat) x, xs[i]? = some x → En.rel G ((c.drop (i * k)).take k) x) → Els G En k c xs := by
  intro xs
  rw [← List.reverse_reverse xs]
  generalize xs.reverse = d
  induction d with
  | nil => intro c hl _; simp at hl; subst hl; exact .nil
  | cons x d ih =>
    intro c hl h
    rw [List.reverse_cons] at hl h ⊢
    have hl' : c.length = d.reverse.length * k + k := by rw [hl, List.length_append, Nat.add_mul]; simp
    have hc : c = c.take (d.reverse.length * k) ++ c.drop (d.reverse.length * k) := (List.take_append_drop _ _).symm
    rw [hc]
    refine .snoc (ih _ (by rw [List.length_take]; omega) fun i y hy => ?_) (by rw [List.length_drop]; omega) ?_
    · have hi : i < d.reverse.length := (List.getElem?_eq_some_iff.1 hy).1
      have := h i y (by rw [List.getElem?_append_left hi]; exact hy)
      have hm : i * k + k ≤ d.reverse.length * k := by rw [show i * k + k = (i + 1) * k by rw [Nat.add_mul, Nat.one_mul]]; exact Nat.mul_le_mul_right _ hi
      rw [List.drop_take, List.take_take, Nat.min_eq_left (by omega)]; exact this
    · have := h d.reverse.length x (by simp)
      rw [List.take_of_length_le (by rw [List.length_drop]; omega)] at this
      exact this
/-- the same datum at a ghost that agrees on its blocks -/
theorem Nest.same {G G' : GH} {xs : List A} {c : List Value} (h : Nest G En k v xs c) (hE : LocE En) (hb : ∀ b, b ∈ bl [v] ∨ b ∈ bl c → G' b = G b) : Nest G' En k v xs c := by
  obtain ⟨h1, h2, h3, h4, h5⟩ := h
  have hE2 : Els G' En k c xs := Els.mk' xs c h2.length fun i x hx => hE G G' _ x (h2.at hx).2 fun b hb' => hb b (.inr (bl_sub b hb'))
  have hC : ∀ a len cap, v = .slice (some a) len cap → xs ≠ [] → CAt G' a c := fun a len cap hv hne => by
    obtain ⟨arr, e, fr, g4, g5⟩ := h3 a len cap hv hne
    refine ⟨arr, e, fr, ?_, g5⟩
    rw [hb a.block (.inl ?_)]; exact g4
    subst hv
    obtain ⟨_, _, hv, _⟩ := h1
    cases hv
    refine mem_bl1 ?_
    have : xs.length ≠ 0 := fun e => hne (List.eq_nil_of_length_eq_zero e)
    simp only [neb]; rw [if_neg this]
  refine ⟨?_, hE2, hC, h4, h5⟩
  obtain ⟨a, cap, rfl, g1, g2⟩ := h1
  refine ⟨a, cap, rfl, g1, fun i x hx => ?_⟩
  obtain ⟨p, cs, rfl, g3, g4, g6⟩ := g2 i x hx
  obtain ⟨arr, e, fr, q1, q2, q3⟩ := hC p _ _ rfl (by intro e; subst e; simp at hx)
  have hat := hE2.at hx
  refine ⟨p, _, rfl, hat.1, ⟨arr, e, fr, ?_, ?_, fun j u hu => ?_⟩, hat.2⟩
  · rw [show (p.add (i * k)).block = p.block by unfold Addr.add; split <;> rfl]; exact q1
  · unfold Addr.add; split
    · exact q2
    · rfl
  · rw [List.getElem?_take] at hu
    split at hu
    · rw [List.getElem?_drop] at hu
      have := q3 _ _ hu
      have ho : (p.add (i * k)).off = p.off + i * k := by unfold Addr.add; split <;> simp_all
      rw [ho, Nat.add_assoc]; exact this
    · cases hu

/-- a round on the element at p: the blocks are what they were at Hs, but for the slices among its cells ci, and for the cells themselves, which are ci' now -/
structure Wr (Hs H : GH) (p : Addr) (ci ci' : List Value) : Prop where
  out : ∀ b, b ≠ p.block → b ∉ bl ci → H b = Hs b
  arr : ∃ arr arr' e, Hs p.block = some (.cells arr e (0, 0)) ∧ H p.block = some (.cells arr' e (0, 0)) ∧ arr'.size = arr.size ∧ (∀ (j : Nat) u, ci'[j]? = some u → arr'[p.off + j]? = some u) ∧
    ∀ j, j < p.off ∨ p.off + ci.length ≤ j → arr'[j]? = arr[j]?
  len : ci'.length = ci.length
  spot : p.spot = none
  blk : bl ci' = bl ci
  own : p.block ∉ bl ci

theorem Wr.now {p : Addr} {ci ci' : List Value} (h : Wr Hs H p ci ci') (hs : Sl H w) : WAt w p ci' := by
  obtain ⟨arr, arr', e, _, h2, _, h4, _⟩ := h.arr
  exact CAt.now ⟨arr', e, (0, 0), h2, h.spot, h4⟩ hs

theorem addr_eta {p : Addr} (h : p.spot = none) (j : Nat) : p.add j = ⟨p.block, p.off + j, none⟩ := by
  unfold Addr.add
  split
  · rename_i h0; subst h0; cases p; simp_all
  · rfl
theorem bl_set {c : List Value} : ∀ {j : Nat} {u0 u : Value}, c[j]? = some u0 → neb u0 = none → neb u = none → bl (c.set j u) = bl c := by
  induction c with
  | nil => intro j u0 u h; simp at h
  | cons x c ih =>
    intro j u0 u h h0 h1
    cases j with
    | zero => simp at h; subst h; simp [bl, h0, h1]
    | succ j =>
      have := ih (j := j) (by simpa using h) h0 h1
      simp only [List.set_cons_succ]
      unfold bl at this ⊢
      rw [List.filterMap_cons, List.filterMap_cons, this]

/-- one cell of the element is written -/
theorem Wr.poke {p : Addr} {ci ci' : List Value} (h : Wr Hs H p ci ci') (S : St H0 w0 H w l) (hs0 : Sl H0 w0) (hB : w0.heap.size ≤ p.block) {j : Nat} {u0 : Value} (hj : ci'[j]? = some u0) (h0 : neb u0 = none) (h1 : neb u = none)
    (ts : ∀ w, (sizeOf t).run P w = .ok 1 w) (hu : u.cells = #[u]) (ho : u.oneCell' = true) {c2 : List Value} (hc2 : ci'.set j u = c2) :
    ∃ w1 H1, (Instr.storeAt t (.pointer (some (p.add j))) u).run P w = .ok () w1 ∧ St H0 w0 H1 w1 l ∧ Wr Hs H1 p ci c2 ∧ ∀ b, b ≠ p.block → H1 b = H b := by
  subst hc2
  obtain ⟨arr, arr', e, a1, a2, a3, a4, a5⟩ := h.arr
  have hin := a4 j u0 hj
  have hjl : j < ci.length := by rw [← h.len]; exact (List.getElem?_eq_some_iff.1 hj).1
  have hlt : p.off + j < arr'.size := (Array.getElem?_eq_some_iff.1 hin).1
  obtain ⟨w1, arr2, q1, q2, q3, q4⟩ := S.poke hs0 (P := P) (t := t) (u := u) (b := p.block) (e := e) (fr := (0, 0)) (up_iff.2 ⟨hB, a2, rfl⟩) hlt ts hu ho
  rw [addr_eta h.spot]
  subst q4
  refine ⟨w1, _, q1, q2, ⟨fun b hb hbc => ?_, ⟨arr, arr'.set (p.off + j) u hlt, e, a1, by simp [gset], by simpa using a3, fun i x hi => ?_, fun i hi => ?_⟩, by simpa using h.len, h.spot, ?_, h.own⟩, fun b hb => by unfold gset; rw [if_neg hb]⟩
  · unfold gset; rw [if_neg hb]; exact h.out b hb hbc
  · rw [List.getElem?_set] at hi
    split at hi
    · rename_i hij; subst hij
      split at hi
      · cases hi; simp
      · cases hi
    · rename_i hne
      rw [Array.getElem?_set, if_neg (by omega)]; exact a4 i x hi
  · rw [Array.getElem?_set, if_neg (by omega)]; exact a5 i hi
  · rw [bl_set hj h0 h1]; exact h.blk
theorem Wr.poke0 {p : Addr} {ci ci' : List Value} (h : Wr Hs H p ci ci') (S : St H0 w0 H w l) (hs0 : Sl H0 w0) (hB : w0.heap.size ≤ p.block) {u0 : Value} (hj : ci'[0]? = some u0) (h0 : neb u0 = none) (h1 : neb u = none)
    (ts : ∀ w, (sizeOf t).run P w = .ok 1 w) (hu : u.cells = #[u]) (ho : u.oneCell' = true) {c2 : List Value} (hc2 : ci'.set 0 u = c2) :
    ∃ w1 H1, (Instr.storeAt t (.pointer (some p)) u).run P w = .ok () w1 ∧ St H0 w0 H1 w1 l ∧ Wr Hs H1 p ci c2 ∧ ∀ b, b ≠ p.block → H1 b = H b := by
  have := h.poke (P := P) S hs0 hB hj h0 h1 ts hu ho hc2
  rwa [Addr.add_zero'] at this
/-- a slice among the cells is written by a call -/
theorem Wr.inner {p : Addr} {ci ci' : List Value} (h : Wr Hs H p ci ci') {j : Nat} (hj : ci'[j]? = some u) (ho : ∀ b, b ∉ bl [u] → H' b = H b) : Wr Hs H' p ci ci' := by
  have hsub : ∀ b ∈ bl [u], b ∈ bl ci := fun b hb => by rw [← h.blk]; exact bl_get hj b hb
  obtain ⟨arr, arr', e, a1, a2, a3⟩ := h.arr
  refine ⟨fun b hb hbc => ?_, ⟨arr, arr', e, a1, ?_, a3⟩, h.len, h.spot, h.blk, h.own⟩
  · rw [ho b fun hb' => hbc (hsub b hb')]; exact h.out b hb hbc
  · rw [ho _ fun hb' => h.own (hsub _ hb')]; exact a2
/-- what another slice among the cells holds, behind a cell written -/
theorem Wr.kept {p : Addr} {ci ci' : List Value} (h : Wr Hs H p ci ci') {j k' : Nat} {A' : Type} {E' : Enc A'} {xs : List A'} (hj : ci'[j]? = some u) (r : RSl (up B H) E' k' u xs) (hE : FlatE E') (ho : ∀ b, b ≠ p.block → H' b = H b) : RSl (up B H') E' k' u xs :=
  r.only hE.rel fun b hb => up_same (ho b fun e => h.own (by rw [← e, ← h.blk]; exact bl_get hj b hb))
/-- .. behind a call that writes another one -/
theorem Wr.kept2 {p : Addr} {ci ci' : List Value} (h : Wr Hs H p ci ci') (nd : (bl ci).Nodup) {i j k' : Nat} {v : Value} {A' : Type} {E' : Enc A'} {xs : List A'} (hi : ci'[i]? = some u) (hj : ci'[j]? = some v) (hij : i ≠ j) (r : RSl (up B H) E' k' v xs) (hE : FlatE E')
    (ho : ∀ b, b ∉ bl [u] → H' b = H b) : RSl (up B H') E' k' v xs :=
  r.only hE.rel fun b hb => up_same (ho b (bl_apart' (by rw [h.blk]; exact nd) hi hj hij b hb))

/-- the round begins -/
theorem Nest.begin {xs : List A} {c : List Value} (h : Nest (up B H) En k v xs c) {i : Nat} {y : A} (hy : xs[i]? = some y) (_hk : 0 < k) :
    ∃ p, PtrOf k v (i : Nat) p ∧ Wr H H p ((c.drop (i * k)).take k) ((c.drop (i * k)).take k) ∧ B ≤ p.block ∧ En.rel (up B H) ((c.drop (i * k)).take k) y ∧ (bl ((c.drop (i * k)).take k)).Nodup := by
  obtain ⟨h1, h2, h3, h4, h5⟩ := h
  obtain ⟨hl, hr⟩ := h2.at hy
  have hi : i < xs.length := (List.getElem?_eq_some_iff.1 hy).1
  obtain ⟨a, cap, rfl, g1, g2⟩ := h1
  obtain ⟨p, cs, rfl, _⟩ := g2 i y hy
  obtain ⟨arr, e, fr, q1, q2, q3⟩ := h3 p _ _ rfl (by intro e; subst e; simp at hy)
  obtain ⟨u1, u2, u3⟩ := up_iff.1 q1
  have hfr : fr = (0, 0) := by simpa [okO] using u3
  subst hfr
  have hb : (p.add (i * k)).block = p.block := by unfold Addr.add; split <;> rfl
  have ho : (p.add (i * k)).off = p.off + i * k := by unfold Addr.add; split <;> simp_all
  have hmem : p.block ∈ bl [Value.slice (some p) xs.length cap] := mem_bl1 (by simp only [neb]; rw [if_neg (by omega)])
  refine ⟨p.add (i * k), ⟨p, xs.length, cap, rfl, by omega, by omega, by simp⟩, ⟨fun b _ _ => rfl, ⟨arr, arr, e, by rw [hb]; exact u2, by rw [hb]; exact u2, rfl, fun j u hu => ?_, fun _ _ => rfl⟩, rfl, ?_, rfl, ?_⟩, by rw [hb]; exact u1, hr, ?_⟩
  · rw [List.getElem?_take] at hu
    split at hu
    · rw [List.getElem?_drop] at hu
      rw [ho, Nat.add_assoc]; exact q3 _ _ hu
    · cases hu
  · unfold Addr.add; split
    · exact q2
    · rfl
  · rw [hb]; exact fun hb' => h5 _ hmem (bl_sub _ hb')
  · have : c = c.take (i * k) ++ ((c.drop (i * k)).take k ++ (c.drop (i * k)).drop k) := by rw [List.take_append_drop, List.take_append_drop]
    rw [this, bl_app, bl_app, List.nodup_append, List.nodup_append] at h4
    exact h4.2.1.1

/-- the round is done -/
theorem Nest.round {xs : List A} {c : List Value} (h : Nest (up B Hs) En k v xs c) (hE : LocE En) {i : Nat} {y y' : A} (hy : xs[i]? = some y) (_hk : 0 < k) {p : Addr} (hp : PtrOf k v (i : Nat) p)
    {ci' : List Value} (hw : Wr Hs H p ((c.drop (i * k)).take k) ci') (hr : En.rel (up B H) ci' y') :
    ∃ c', Nest (up B H) En k v (xs.set i y') c' ∧ bl c' = bl c ∧ ∀ b, b ∉ bl [v] → b ∉ bl c → H b = Hs b := by
  obtain ⟨h1, h2, h3, h4, h5⟩ := h
  have hi : i < xs.length := (List.getElem?_eq_some_iff.1 hy).1
  have hlen := h2.length
  obtain ⟨hl, _⟩ := h2.at hy
  have hl' : ci'.length = k := by rw [hw.len, hl]
  have hmul : i * k + k ≤ c.length := by rw [hlen, show i * k + k = (i + 1) * k by rw [Nat.add_mul, Nat.one_mul]]; exact Nat.mul_le_mul_right _ hi
  obtain ⟨a, len, cap, rfl, _, hlt, rfl⟩ := hp
  have hsplit : c = c.take (i * k) ++ ((c.drop (i * k)).take k ++ c.drop (i * k + k)) := by
    rw [show c.drop (i * k + k) = (c.drop (i * k)).drop k by rw [List.drop_drop], List.take_append_drop, List.take_append_drop]
  have hblk : bl (c.take (i * k) ++ ci' ++ c.drop (i * k + k)) = bl c := by
    conv => rhs; rw [hsplit]
    rw [bl_app, bl_app, bl_app, bl_app, hw.blk, List.append_assoc]
  have hxl : xs.length = len := by obtain ⟨_, _, hv, _⟩ := h1; cases hv; rfl
  have hmem : a.block ∈ bl [Value.slice (some a) len cap] := mem_bl1 (by simp only [neb]; rw [if_neg (by omega)])
  have hb : (a.add (((i : Nat) : Int).toNat * k)).block = a.block := by unfold Addr.add; split <;> rfl
  have hspot : a.spot = none := by
    obtain ⟨arr, e, fr, _, q2, _⟩ := h3 a _ _ rfl (by intro e; subst e; simp at hy)
    exact q2
  have ho : (a.add (((i : Nat) : Int).toNat * k)).off = a.off + i * k := by rw [addr_eta hspot]; simp
  have hlist : c.take (i * k) ++ ci' ++ c.drop (i * k + k) = c.take (i * k) ++ (ci' ++ c.drop (i * k + k)) := List.append_assoc ..
  have hget : ∀ m, (c.take (i * k) ++ ci' ++ c.drop (i * k + k))[m]? = if m < i * k then c[m]? else if m < i * k + k then ci'[m - i * k]? else c[m]? := by
    intro m
    have ht : (c.take (i * k)).length = i * k := by rw [List.length_take]; omega
    rw [hlist]
    by_cases m1 : m < i * k
    · rw [List.getElem?_append_left (by omega), List.getElem?_take_of_lt m1, if_pos m1]
    · rw [List.getElem?_append_right (by omega), ht, if_neg m1]
      by_cases m2 : m < i * k + k
      · rw [List.getElem?_append_left (by omega), if_pos m2]
      · rw [List.getElem?_append_right (by omega), hl', List.getElem?_drop, if_neg m2]
        congr 1; omega
  have hother : ∀ (j : Nat), j < xs.length → j ≠ i → ((c.take (i * k) ++ ci' ++ c.drop (i * k + k)).drop (j * k)).take k = (c.drop (j * k)).take k := by
    intro j hj hne
    apply List.ext_getElem?
    intro m
    by_cases hm : m < k
    · rw [List.getElem?_take_of_lt hm, List.getElem?_take_of_lt hm, List.getElem?_drop, List.getElem?_drop, hget]
      rcases Nat.lt_or_gt_of_ne hne with hji | hji
      · have : j * k + k ≤ i * k := by rw [show j * k + k = (j + 1) * k by rw [Nat.add_mul, Nat.one_mul]]; exact Nat.mul_le_mul_right _ hji
        rw [if_pos (by omega)]
      · have : i * k + k ≤ j * k := by rw [show i * k + k = (i + 1) * k by rw [Nat.add_mul, Nat.one_mul]]; exact Nat.mul_le_mul_right _ hji
        rw [if_neg (by omega), if_neg (by omega)]
    · rw [List.getElem?_eq_none (by simp; omega), List.getElem?_eq_none (by simp; omega)]
  have hself : ((c.take (i * k) ++ ci' ++ c.drop (i * k + k)).drop (i * k)).take k = ci' := by
    rw [hlist, List.drop_append_of_le_length (by rw [List.length_take]; omega), List.drop_of_length_le (by rw [List.length_take]; omega), List.nil_append, List.take_append_of_le_length (by omega), List.take_of_length_le (by omega)]
  have hapart : ∀ (j : Nat), j < xs.length → j ≠ i → ∀ b ∈ bl ((c.drop (j * k)).take k), b ∉ bl ((c.drop (i * k)).take k) := by
    intro j hj hne b hb1 hb2
    obtain ⟨u1, m1, n1⟩ := mem_bl hb1
    obtain ⟨u2, m2, n2⟩ := mem_bl hb2
    obtain ⟨q1, r1⟩ := List.mem_iff_getElem?.1 m1
    obtain ⟨q2, r2⟩ := List.mem_iff_getElem?.1 m2
    rw [List.getElem?_take] at r1 r2
    split at r1
    · split at r2
      · rw [List.getElem?_drop] at r1 r2
        have hne2 : i * k + q2 ≠ j * k + q1 := by
          rcases Nat.lt_or_gt_of_ne hne with hji | hji
          · have : j * k + k ≤ i * k := by rw [show j * k + k = (j + 1) * k by rw [Nat.add_mul, Nat.one_mul]]; exact Nat.mul_le_mul_right _ hji
            omega
          · have : i * k + k ≤ j * k := by rw [show i * k + k = (i + 1) * k by rw [Nat.add_mul, Nat.one_mul]]; exact Nat.mul_le_mul_right _ hji
            omega
        exact bl_apart' h4 r2 r1 hne2 b (mem_bl1 n1) (mem_bl1 n2)
      · cases r2
    · cases r1
  have hout : ∀ b, b ∉ bl [Value.slice (some a) len cap] → b ∉ bl c → H b = Hs b := fun b b1 b2 => hw.out b (fun e => b1 (by rw [e, hb]; exact hmem)) fun e => b2 (bl_sub b e)
  have hE2 : Els (up B H) En k (c.take (i * k) ++ ci' ++ c.drop (i * k + k)) (xs.set i y') := by
    refine Els.mk' _ _ ?_ fun j x hx => ?_
    · simp only [List.length_append, List.length_take, List.length_drop, List.length_set, hl']
      rw [← hlen]; omega
    · have hj : j < xs.length := by have := (List.getElem?_eq_some_iff.1 hx).1; simpa using this
      by_cases hji : j = i
      · subst hji
        rw [List.getElem?_set_self hj] at hx
        cases hx
        rw [hself]; exact hr
      · rw [List.getElem?_set_ne (Ne.symm hji)] at hx
        rw [hother j hj hji]
        refine hE _ _ _ _ (h2.at hx).2 fun b hb' => up_same (hw.out b (fun e => ?_) (hapart j hj hji b hb'))
        have := h5 a.block hmem
        rw [hb] at e
        exact this (by rw [← e]; exact bl_sub b hb')
  have hC : CAt (up B H) a (c.take (i * k) ++ ci' ++ c.drop (i * k + k)) := by
    obtain ⟨arr, e, fr, q1, q2, q3⟩ := h3 a _ _ rfl (by intro e; subst e; simp at hy)
    obtain ⟨arr1, arr', e', a1, a2, a3, a4, a5⟩ := hw.arr
    rw [hb] at a1 a2
    obtain ⟨u1, u2, u3⟩ := up_iff.1 q1
    rw [a1] at u2; cases u2
    refine ⟨arr', _, (0, 0), up_iff.2 ⟨u1, a2, rfl⟩, q2, fun j u hu => ?_⟩
    rw [hget] at hu
    rw [ho, hl] at a5
    rw [ho] at a4
    split at hu
    · rw [a5 _ (.inl (by omega))]; exact q3 j u hu
    · split at hu
      · have := a4 _ _ hu
        rw [show a.off + j = a.off + i * k + (j - i * k) by omega]; exact this
      · rw [a5 _ (.inr (by omega))]; exact q3 j u hu
  refine ⟨_, ⟨?_, hE2, ?_, by rw [hblk]; exact h4, by rw [hblk]; exact h5⟩, hblk, hout⟩
  · obtain ⟨_, _, hv, g1, g2⟩ := h1
    cases hv
    refine ⟨some a, cap, by rw [List.length_set], by rw [List.length_set]; exact g1, fun j x hx => ?_⟩
    have hat := hE2.at hx
    obtain ⟨arr, e, fr, q1, q2, q3⟩ := hC
    refine ⟨a, _, rfl, hat.1, ⟨arr, e, fr, ?_, ?_, fun m u hu => ?_⟩, hat.2⟩
    · rw [show (a.add (j * k)).block = a.block by unfold Addr.add; split <;> rfl]; exact q1
    · rw [addr_eta hspot]
    · rw [addr_eta hspot]
      rw [List.getElem?_take] at hu
      split at hu
      · rw [List.getElem?_drop] at hu
        simp only; rw [Nat.add_assoc]; exact q3 _ _ hu
      · cases hu
  · intro a' len' cap' hv _
    cases hv; exact hC

/-- a slice of elements without memory is such a datum -/
theorem RSl.nest {G : GH} {xs : List A} (h : RSl G En k v xs) (hE : FlatE En) (_hk : 0 < k) : ∃ c, Nest G En k v xs c ∧ bl c = [] := by
  obtain ⟨a, cap, rfl, g1, g2⟩ := h
  have key : ∀ n, n ≤ xs.length → ∃ c, Els G En k c (xs.take n) ∧ bl c = [] ∧ ∀ p, a = some p → ∀ arr e fr, (G p.block = some (.cells arr e fr)) → ∀ (j : Nat) u, c[j]? = some u → arr[p.off + j]? = some u := by
    intro n
    induction n with
    | zero => intro _; exact ⟨[], by simpa using Els.nil, rfl, by simp⟩
    | succ n ih =>
      intro hn
      obtain ⟨c, e1, e2, e3⟩ := ih (by omega)
      have hlt : n < xs.length := by omega
      obtain ⟨p, cs, rfl, k1, ⟨arr, e, fr, k2, k3, k4⟩, k5⟩ := g2 n xs[n] (by simp [hlt])
      have hb : (p.add (n * k)).block = p.block := by unfold Addr.add; split <;> rfl
      have ho : (p.add (n * k)).off = p.off + n * k := by unfold Addr.add; split <;> simp_all
      rw [hb] at k2
      refine ⟨c ++ cs, ?_, ?_, ?_⟩
      · rw [List.take_succ_eq_append_getElem hlt]; exact .snoc e1 k1 k5
      · rw [bl_app, e2, (hE G G cs _ k5).2]; rfl
      · rintro p' hp' arr' e' fr' hG j u hu
        cases hp'
        rw [k2] at hG; cases hG
        have hcl := e1.length
        rw [List.length_take, Nat.min_eq_left (by omega)] at hcl
        rcases Nat.lt_or_ge j c.length with hj | hj
        · rw [List.getElem?_append_left hj] at hu
          exact e3 p rfl arr e fr k2 j u hu
        · rw [List.getElem?_append_right hj, hcl] at hu
          have := k4 _ _ hu
          rw [ho] at this
          rw [show p.off + j = p.off + n * k + (j - n * k) by omega]; exact this
  obtain ⟨c, e1, e2, e3⟩ := key xs.length (Nat.le_refl _)
  rw [List.take_length] at e1
  refine ⟨c, ⟨⟨a, cap, rfl, g1, g2⟩, e1, fun p len cap' hv hne => ?_, by rw [e2]; exact List.nodup_nil, fun b _ => by rw [e2]; simp⟩, e2⟩
  cases hv
  obtain ⟨x, hx⟩ : ∃ x, xs[0]? = some x := by
    cases xs with
    | nil => exact absurd rfl hne
    | cons x xs => exact ⟨x, rfl⟩
  obtain ⟨p', cs, hp', _, ⟨arr, e, fr, k2, k3, _⟩, _⟩ := g2 0 x hx
  cases hp'
  rw [Nat.zero_mul, Addr.add_zero'] at k2 k3
  exact ⟨arr, e, fr, k2, k3, e3 p rfl arr e fr k2⟩

/-! the law function's spans -/
theorem CAt.same {G G' : GH} {p : Addr} {cs : List Value} (h : CAt G p cs) (hb : G' p.block = G p.block) : CAt G' p cs := by
  obtain ⟨arr, e, fr, h1, h2⟩ := h
  exact ⟨arr, e, fr, by rw [hb]; exact h1, h2⟩
/-- a datum in a span, turned by a call that writes it alone -/
theorem Nest.span {xs ys : List A} {c c' : List Value} (h : Nest (sg lo hi Hs) En k v xs c) (hE : LocE En) (hB : B ≤ lo) (hn : Nest (up B H') En k v ys c') (hc : bl c' = bl c) : Nest (sg lo hi H') En k v ys c' :=
  hn.same hE fun b hb => by
    rw [hc] at hb
    have h0 := h.dom b hb
    cases h1 : sg lo hi Hs b with
    | none => exact absurd h1 h0
    | some o =>
      obtain ⟨a, b, _, _⟩ := sg_iff.1 h1
      unfold sg up
      rw [if_pos b, if_neg (by omega), if_neg (by omega)]
theorem Nest.outside {xs : List A} {c : List Value} (h : Nest (sg lo hi Hs) En k v xs c) (ho : ∀ b, b ∉ bl [v] → b ∉ bl c → ∀ o, H b = some o → H' b = some o) : ∀ b, b < lo ∨ hi ≤ b → ∀ o, H b = some o → H' b = some o := fun b hb => by
  have key : ¬ (b ∈ bl [v] ∨ b ∈ bl c) := fun hm => by
    have h0 := h.dom b hm
    cases h1 : sg lo hi Hs b with
    | none => exact absurd h1 h0
    | some o => obtain ⟨a, b, _, _⟩ := sg_iff.1 h1; omega
  exact ho b (fun h => key (.inl h)) fun h => key (.inr h)
theorem RSl.span {xs ys : List A} (h : RSl (sg lo hi Hs) En k v xs) (hE : FlatE En) (hB : B ≤ lo) (hn : RSl (up B H') En k v ys) : RSl (sg lo hi H') En k v ys :=
  hn.only hE.rel fun b hb => by
    have h0 := h.dom b hb
    cases h1 : sg lo hi Hs b with
    | none => exact absurd h1 h0
    | some o =>
      obtain ⟨a, b, _, _⟩ := sg_iff.1 h1
      unfold sg up
      rw [if_pos b, if_neg (by omega), if_neg (by omega)]
theorem RSl.outside {xs : List A} (h : RSl (sg lo hi Hs) En k v xs) (ho : ∀ b, b ∉ bl [v] → H' b = H b) : ∀ b, b < lo ∨ hi ≤ b → ∀ o, H b = some o → H' b = some o := fun b hb o hH => by
  rw [ho b fun hm => ?_]
  · exact hH
  · have h0 := h.dom b hm
    cases h1 : sg lo hi Hs b with
    | none => exact absurd h1 h0
    | some o => obtain ⟨a, b, _, _⟩ := sg_iff.1 h1; omega
theorem weak {F : Nat → Prop} (h : ∀ b, F b → H' b = H b) : ∀ b, F b → ∀ o, H b = some o → H' b = some o := fun b hb o ho => by rw [h b hb]; exact ho

theorem Wr.opens {p : Addr} {ci cs : List Value} (h : Wr Hs H p ci ci) (e : ci = cs) : Wr Hs H p ci cs := e ▸ h

/-- the loop of a mark: every element in its turn -/
theorem FW.mark {ρ : Option Nat} {δ : List Nat} {N : Nat} {f : Fm} {c : Code} {F : A → Int → A × Int} {a0 : List A} {k0 : Int} (I : Nat → List A → Int → Fm → World → Prop) (Dn : FQ) (h0 : I 0 a0 k0 f w)
    (hbody : ∀ i y xs m f w, I i xs m f w → a0[i]? = some y → xs[i]? = some y → FW (ρ := ρ) (δ := δ) P N c (fun e f w => e = .normal ∧ I (i + 1) (xs.set i (F y m).1) (F y m).2 f w) f w)
    (hend : ∀ f w, I a0.length (markFrom F a0 k0).1 (markFrom F a0 k0).2 f w → FW (ρ := ρ) (δ := δ) P N c (fun e f w => e ≠ .normal ∧ Dn e f w) f w) : FW (ρ := ρ) (δ := δ) P N (.loop c) Dn f w := by
  refine FW.loopG (fun m f w => ∃ i xs k, i + m = a0.length ∧ I i xs k f w ∧ xs.length = a0.length ∧ xs.drop i = a0.drop i ∧ xs.take i ++ (markFrom F (a0.drop i) k).1 = (markFrom F a0 k0).1 ∧ (markFrom F (a0.drop i) k).2 = (markFrom F a0 k0).2) (m := a0.length) ?_
    ⟨0, a0, k0, by omega, h0, rfl, rfl, by simp, by simp⟩
  rintro m f w ⟨i, xs, k, hm, hI, hl, hd, h1, h2⟩
  cases m with
  | zero =>
    have hi : i = a0.length := by omega
    subst hi
    rw [List.drop_length] at h1 h2
    rw [List.take_of_length_le (by omega)] at h1
    simp only [markFrom, List.append_nil] at h1 h2
    subst h1 h2
    exact (hend f w hI).mono fun e f w ⟨he, h⟩ => then_of he h
  | succ m =>
    have hlt : i < a0.length := by omega
    have hx : a0[i]? = some a0[i] := List.getElem?_eq_getElem hlt
    have hxs : xs[i]? = some a0[i] := by
      have := congrArg (·[0]?) hd
      simp only [List.getElem?_drop, Nat.add_zero] at this
      rw [this]; exact hx
    refine (hbody i a0[i] xs k f w hI hx hxs).mono ?_
    rintro e f' w' ⟨rfl, h⟩
    refine ⟨m, by omega, i + 1, _, _, by omega, h, by simpa using hl, ?_, ?_, ?_⟩
    · rw [List.drop_set_of_lt (by omega)]
      have := congrArg (List.drop 1) hd
      rwa [List.drop_drop, List.drop_drop] at this
    · rw [← h1, List.drop_eq_getElem_cons hlt, markFrom]
      rw [show xs.take i ++ (F a0[i] k).1 :: (markFrom F (a0.drop (i + 1)) (F a0[i] k).2).1 = (xs.take i ++ [(F a0[i] k).1]) ++ (markFrom F (a0.drop (i + 1)) (F a0[i] k).2).1 by simp]
      congr 1
      rw [List.take_succ_eq_append_getElem (by simpa using (by omega : i < xs.length)), List.take_set_of_le (Nat.le_refl _), List.getElem_set_self]
    · rw [← h2, List.drop_eq_getElem_cons hlt, markFrom]

/-- what a mark of a slice without inner ones comes to -/
@[reducible] def M1 (H0 : GH) (w0 : World) (Ha : GH) (l : List MO) {A : Type} (En : Enc A) (k : Nat) (v : Value) (r : List A × Int) : Ending → World → Prop := fun e w' =>
  ∃ H' : GH, e = .returned (.int .i64 r.2) ∧ St H0 w0 H' w' l ∧ RSl (up w0.heap.size H') En k v r.1 ∧ ∀ b, b ∉ bl [v] → H' b = Ha b
/-- .. with inner ones -/
@[reducible] def M2 (H0 : GH) (w0 : World) (Ha : GH) (l : List MO) {A : Type} (En : Enc A) (k : Nat) (v : Value) (c0 : List Value) (r : List A × Int) : Ending → World → Prop := fun e w' =>
  ∃ (H' : GH) (c' : List Value), e = .returned (.int .i64 r.2) ∧ St H0 w0 H' w' l ∧ Nest (up w0.heap.size H') En k v r.1 c' ∧ bl c' = bl c0 ∧ ∀ b, b ∉ bl [v] → b ∉ bl c0 → ∀ o, Ha b = some o → H' b = some o
theorem Nest.nil {G : GH} : Nest G En k (.slice Option.none 0 0) [] [] := ⟨RSl.nil _ _ _, .nil, (fun _ _ _ hv => by cases hv), List.nodup_nil, fun _ _ h => by cases h⟩

/-! variables of the law function: where they lie is told -/
theorem St.boxB (h : St H0 w0 H w l) (t : TypeId) (cs : List Value) {v : Value} (hv : v.cells = cs.toArray) (h1 : ∀ u ∈ cs, u.oneCell' = true) :
    ∃ w1, (Instr.box t v).run P w = .ok (.pointer (some ⟨w.heap.size, 0, Option.none⟩)) w1 ∧ St H0 w0 H w1 (.box w.heap.size t cs :: l) ∧ w1.heap.size = w.heap.size + 1 := by
  refine ⟨w.alloc (.cells cs.toArray t (0, 0)), by simp [Instr.box, newVar, newRow, hv], ?_, by simp⟩
  refine h.push _ _ ⟨heap_alloc_new w _, h.size, h1⟩ ?_
  intro b hb; simpa [MO.blk] using hb.symm
theorem St.allocB {z : Value} (h : St H0 w0 H w l) (t : TypeId) (cs : List Value) (hz : ∀ w, (zeroValue t).run P w = .ok z w) (hv : z.cells = cs.toArray) (h1 : ∀ u ∈ cs, u.oneCell' = true) :
    ∃ w1, (Instr.alloc t true (.tuple #[])).run P w = .ok (.pointer (some ⟨w.heap.size, 0, Option.none⟩)) w1 ∧ St H0 w0 H w1 (.box w.heap.size t cs :: l) ∧ w1.heap.size = w.heap.size + 1 := by
  refine ⟨w.alloc (.cells cs.toArray t (0, 0)), by simp [Instr.alloc, hz, newVar, newRow, hv], ?_, by simp⟩
  refine h.push _ _ ⟨heap_alloc_new w _, h.size, h1⟩ ?_
  intro b hb; simpa [MO.blk] using hb.symm
theorem St.store0B (h : St H0 w0 H w l) {i b t0 n : Nat} {cs cs' c : List Value} {l' : List MO} {v : Value} (hi : l[i]? = some (.box b t0 cs)) (ts : ∀ w, (sizeOf t).run P w = .ok n w)
    (hv : v.cells = c.toArray) (hcn : c.length = n) (h1' : ∀ u ∈ c, u.oneCell' = true) (hj : n ≤ cs.length) (hcs' : c ++ cs.drop n = cs') (hl : l.set i (.box b t0 cs') = l') :
    ∃ w1, (Instr.storeAt t (.pointer (some ⟨b, 0, Option.none⟩)) v).run P w = .ok () w1 ∧ St H0 w0 H w1 l' ∧ w1.heap.size = w.heap.size := by
  subst hl
  have hn : v.cells.size = n := by rw [hv]; simpa using hcn
  have h1 : ∀ u ∈ v.cells.toList, u.oneCell' = true := by rw [hv]; exact h1'
  have hcs : cs.take 0 ++ v.cells.toList ++ cs.drop (0 + n) = cs' := by rw [hv]; simpa using hcs'
  obtain ⟨g1, g2, g3⟩ := h.ok i _ hi
  have hst := run_storeCells_at P b 0 t0 v.cells.toList 0 cs.toArray w g1 (by simp [hn]; omega) h1
  simp only [Nat.add_zero, Array.length_toList, hn, hcs] at hst
  refine ⟨w.setRow b cs'.toArray, ?_, h.upd (o' := .box b t0 cs') hi (grownBy_setRow w b cs'.toArray) (Nat.le_refl _) ⟨setRow_heap w b _ _ _ _ g1, g2, ?_⟩ (fun c hc => .inl hc), by simp [World.setRow]⟩
  · simp [Instr.storeAt, Instr.sureAddr, storeVar, ts, hn, hst]
  · subst hcs
    intro u hu
    simp only [List.append_assoc, List.mem_append] at hu
    rcases hu with hu | hu | hu
    · exact g3 u (List.mem_of_mem_take hu)
    · exact h1 u hu
    · exact g3 u (List.mem_of_mem_drop hu)
theorem St.sealBoxB (h : St H0 w0 H w l) {i b t : Nat} {cs : List Value} {l' : List MO} (hi : l[i]? = some (.box b t cs)) (hl : l.eraseIdx i = l') :
    ∃ H1, St H0 w0 H1 w l' ∧ Inc H H1 ∧ CAt (sg b (b + 1) H1) ⟨b, 0, Option.none⟩ cs := by
  subst hl
  obtain ⟨H1, h1, h2, h3⟩ := h.sealed hi
  refine ⟨H1, h1, h2, ⟨cs.toArray, t, (0, 0), sg_iff.2 ⟨Nat.le_refl _, Nat.lt_succ_self _, h3 b _ rfl (h.ok i _ hi).1, rfl⟩, rfl, fun j c hc => by simpa using hc⟩⟩
/-- what lies below a block -/
def bw (hi : Nat) (H : GH) : GH := fun b => if b < hi then H b else Option.none
theorem bwI : Inc (bw hi H) H := fun b o h => by
  unfold bw at h
  split at h
  · exact h
  · cases h
theorem bw_of (h : Sl H w) : Inc H (bw w.heap.size H) := fun b o hb => by
  unfold bw
  rw [if_pos (Array.getElem?_eq_some_iff.1 (h _ _ hb)).1]; exact hb
theorem bw_mono (h : Inc H H') : Inc (bw hi H) (bw hi H') := fun b o hb => by
  unfold bw at hb ⊢
  split at hb
  · rename_i hlt; rw [if_pos hlt]; exact h _ _ hb
  · cases hb
theorem bw_keep {lo' hi' : Nat} (h : ∀ b, b < lo' ∨ hi' ≤ b → ∀ o, H b = some o → H' b = some o) (ho : hi ≤ lo') : Inc (bw hi H) (bw hi H') := fun b o hb => by
  unfold bw at hb ⊢
  split at hb
  · rename_i hlt; rw [if_pos hlt]; exact h _ (by omega) _ hb
  · cases hb
end
end Go.Mr
