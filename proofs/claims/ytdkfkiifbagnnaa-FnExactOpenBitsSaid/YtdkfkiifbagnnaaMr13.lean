/- Writing into fresh data that is sealed: the marks. -/
import Derived.Test.YtdkfkiifbagnnaaMr12
namespace Go.Mr
open Go.RowKit Go.Pu

section
variable {P : Program} {w w' : World} {H0 H H' : GH} {w0 : World} {l : List MO} {e k n t : Nat} {v u : Value} {A : Type} {En : Enc A}

/-- the ghost heap with another object at b -/
def gset (H : GH) (b : Nat) (o : Obj) : GH := fun c => if c = b then some o else H c

/-- one cell of a fresh block is written -/
theorem St.poke (h : St H0 w0 H w l) (hs0 : Sl H0 w0) {b : Nat} {arr : Array Value} {fr : Nat × Nat} (hb : up w0.heap.size H b = some (.cells arr e fr)) {j : Nat} (hj : j < arr.size) (ts : ∀ w, (sizeOf t).run P w = .ok 1 w) (hu : u.cells = #[u]) (h1 : u.oneCell' = true) :
    ∃ w1 arr', (Instr.storeAt t (.pointer (some ⟨b, j, Option.none⟩)) u).run P w = .ok () w1 ∧ St H0 w0 (gset H b (.cells arr' e (0, 0))) w1 l ∧
      fr = (0, 0) ∧ arr' = arr.set j u hj := by
  obtain ⟨hB, hH, hok⟩ := up_iff.1 hb
  have hfr : fr = (0, 0) := by simpa [okO] using hok
  subst hfr
  have hw := h.sl b _ hH
  have hst := run_storeCells_at P b j e [u] 0 arr w hw (by simp; omega) (by simpa using h1)
  simp only [Nat.add_zero, List.length_singleton] at hst
  have harr : (List.take j arr.toList ++ [u] ++ List.drop (j + 1) arr.toList).toArray = arr.set j u hj := by
    apply Array.ext'
    simp [List.set_eq_take_append_cons_drop, hj]
  rw [harr] at hst
  refine ⟨w.setRow b (arr.set j u hj), arr.set j u hj, ?_, ?_, rfl, rfl⟩
  · simp [Instr.storeAt, Instr.sureAddr, storeVar, ts, hu, hst]
  · have hg := grownBy_setRow w b (arr.set j u hj)
    have hnb : ∀ (i : Nat) (o : MO), l[i]? = some o → o.blk ≠ some b := fun i o hi e => by
      have := h.out i o b hi e; rw [hH] at this; cases this
    have hbs : b < w.heap.size := (Array.getElem?_eq_some_iff.1 hw).1
    refine ⟨⟨h.run.bel.grown hg h.size (fun c hc => by cases hc; exact hB), fun c hc => ?_, fun c o hc => ?_, fun c o hc => ?_, Nat.le_trans h.run.drw (Nat.le_refl _), fun c o hc => ?_⟩, fun i o hi => (h.ok i o hi).kept hg.size fun c hc => ?_, fun i o c hi hc => ?_, h.dis⟩
    · unfold gset; rw [if_neg (by omega)]; exact h.run.agr c hc
    · unfold gset at hc
      split at hc
      · rename_i he; subst he; cases hc; exact setRow_heap w c _ _ _ _ hw
      · rename_i hne
        have := h.sl c o hc
        rw [hg.block c (Array.getElem?_eq_some_iff.1 this).1 (by simpa using hne)]; exact this
    · have hlt : c < w0.heap.size := (Array.getElem?_eq_some_iff.1 (hs0 c o hc)).1
      unfold gset; rw [if_neg (by omega)]; exact h.inc c o hc
    · unfold gset at hc
      split at hc
      · cases hc; exact .inr rfl
      · exact h.run.cel c o hc
    · exact hg.block c ((h.ok i o hi).lt c hc).2 (fun e => hnb i o hi (by rw [hc, e]))
    · unfold gset
      rw [if_neg (fun e => hnb i o hi (by rw [hc, e]))]
      exact h.out i o c hi hc

/-- one element of a fresh slice of plain elements is written -/
theorem St.pokeEl (h : St H0 w0 H w l) (hs0 : Sl H0 w0) {xs ys : List A} (r : RSl (up w0.heap.size H) En 1 v xs) (hE : ∀ (H H' : GH) cs x, En.rel H cs x → En.rel H' cs x) {i : Int} {x : A} (hput : put xs i x = some ys)
    {p : Addr} (hp : PtrOf 1 v i p) (ts : ∀ w, (sizeOf t).run P w = .ok 1 w) (hu : u.cells = #[u]) (h1 : u.oneCell' = true) (hx : En.rel H [u] x) :
    ∃ w1 H1, (Instr.storeAt t (.pointer (some p)) u).run P w = .ok () w1 ∧ St H0 w0 H1 w1 l ∧ RSl (up w0.heap.size H1) En 1 v ys ∧ ∀ b, b ∉ bl [v] → H1 b = H b := by
  obtain ⟨h0, h2, rfl⟩ := put_some hput
  obtain ⟨a, cap, rfl, g1, g2⟩ := r
  obtain ⟨a', len, cap', hv, _, hlt, rfl⟩ := hp
  cases hv
  have hi : i.toNat < xs.length := by omega
  obtain ⟨p', cs, hp', g3, ⟨arr, e, fr, g4, g5, g6⟩, g7⟩ := g2 i.toNat xs[i.toNat] (by simp [hi])
  cases hp'
  rw [Nat.mul_one] at g4 g5 g6
  have hblk : (a'.add i.toNat).block = a'.block := by unfold Addr.add; split <;> rfl
  match cs, g3 with
  | [c0], _ =>
    have hin := g6 0 c0 rfl
    rw [Nat.add_zero] at hin
    have hj : (a'.add i.toNat).off < arr.size := (Array.getElem?_eq_some_iff.1 hin).1
    obtain ⟨w1, arr', q1, q2, q3, q4⟩ := h.poke hs0 (P := P) (t := t) (u := u) g4 hj ts hu h1
    have hpe : (⟨(a'.add i.toNat).block, (a'.add i.toNat).off, Option.none⟩ : Addr) = a'.add (i.toNat * 1) := by
      rw [Nat.mul_one, ← g5]
    rw [hpe] at q1
    rw [hblk] at q2
    refine ⟨w1, _, q1, q2, ?_, fun b hb => ?_⟩
    · refine ⟨some a', cap, by simp, by simpa using g1, fun m y hy => ?_⟩
      have hm : m < xs.length := by have := (List.getElem?_eq_some_iff.1 hy).1; simpa using this
      obtain ⟨p', cs', hp', k3, ⟨arr2, e2, fr2, k4, k5, k6⟩, k7⟩ := g2 m xs[m] (by simp [hm])
      cases hp'
      rw [Nat.mul_one] at k4 k5 k6
      have hblk2 : (a'.add m).block = a'.block := by unfold Addr.add; split <;> rfl
      rw [hblk2] at k4
      rw [hblk] at g4
      rw [g4] at k4
      cases k4
      have hB := (up_iff.1 g4).1
      have hnew : up w0.heap.size (gset H a'.block (.cells arr' e (0, 0))) a'.block = some (.cells arr' e (0, 0)) := up_iff.2 ⟨hB, by simp [gset], rfl⟩
      by_cases hmi : m = i.toNat
      · subst hmi
        rw [List.getElem?_set_self hi] at hy
        cases hy
        refine ⟨a', [u], rfl, rfl, ⟨arr', e, (0, 0), ?_, ?_, fun j c hc => ?_⟩, hE _ _ _ _ hx⟩
        · rw [Nat.mul_one, hblk2]; exact hnew
        · rw [Nat.mul_one]; exact k5
        · rw [Nat.mul_one]
          cases j with
          | zero => simp at hc; subst hc; rw [q4]; simp
          | succ j => simp at hc
      · rw [List.getElem?_set_ne (Ne.symm hmi)] at hy
        simp [hm] at hy
        subst hy
        refine ⟨a', cs', rfl, k3, ⟨arr', e, (0, 0), ?_, ?_, fun j c hc => ?_⟩, hE _ _ _ _ k7⟩
        · rw [Nat.mul_one, hblk2]; exact hnew
        · rw [Nat.mul_one]; exact k5
        · rw [Nat.mul_one]
          have hc' := k6 j c hc
          have hj0 : j = 0 := by have := (List.getElem?_eq_some_iff.1 hc).1; omega
          subst hj0
          rw [q4, Array.getElem?_set]
          split
          · rename_i he
            exfalso
            apply hmi
            have off : ∀ q : Nat, (a'.add q).off = if q = 0 then a'.off else a'.off + q := fun q => by unfold Addr.add; split <;> rfl
            rw [off, off] at he
            split at he <;> split at he <;> omega
          · exact hc'
    · unfold gset
      split
      · rename_i he
        exfalso
        apply hb
        rw [he]
        refine mem_bl1 ?_
        simp only [neb]
        rw [if_neg (by omega)]
      · rfl

/-- nested data: the cells c of the slice v, the slices among them in blocks of their own -/
def Nest {A : Type} (G : GH) (En : Enc A) (k : Nat) (v : Value) (xs : List A) (c : List Value) : Prop :=
  RSl G En k v xs ∧ Els G En k c xs ∧ (∀ a len cap, v = .slice (some a) len cap → xs ≠ [] → CAt G a c) ∧ (bl c).Nodup ∧ ∀ b ∈ bl [v], b ∉ bl c

theorem St.sealRowN {xs : List A} (h : St H0 w0 H w l) {i : Nat} {cells : List Value} {l' : List MO} (hi : l[i]? = some (.row e k v n cells)) (he : Els (up w0.heap.size H) En k cells xs) (nd : (bl cells).Nodup) (hk : 0 < k) (hl : l.eraseIdx i = l') :
    ∃ H1, St H0 w0 H1 w l' ∧ Inc H H1 ∧ Nest (up w0.heap.size H1) En k v xs cells ∧ New H [v] := by
  obtain ⟨H1, h1, h2, h3, h4⟩ := h.sealRowU hi he hk hl
  refine ⟨H1, h1, h2, ⟨h3, he.mono (up_mono h2), ?_, nd, fun b hb hc => ?_⟩, h4⟩
  · rintro a len cap rfl hne
    obtain ⟨x, hx⟩ : ∃ x, xs[0]? = some x := by
      cases xs with
      | nil => exact absurd rfl hne
      | cons x xs => exact ⟨x, rfl⟩
    obtain ⟨a', cap', hv, _, g2⟩ := h3
    cases hv
    obtain ⟨p, cs, hp, _, ⟨arr, t, fr, g4, g5, _⟩, _⟩ := g2 0 x hx
    cases hp
    rw [Nat.zero_mul, Addr.add_zero'] at g4 g5
    obtain ⟨⟨k1, k2⟩, _⟩ := h.ok i _ hi
    rcases k2 with ⟨hv, _⟩ | ⟨g, cap', cur, hv, hg, hh, hle, hcm, hsz, htk⟩
    · cases hv
    · cases hv
      have hnow := h1.sl _ _ (upI _ _ g4)
      simp only at hnow
      rw [hh] at hnow
      cases hnow
      refine ⟨_, _, _, g4, rfl, fun j c hc => ?_⟩
      rw [← htk, List.getElem?_take] at hc
      split at hc
      · simpa using hc
      · cases hc
  · have := h4 b hb
    exact Els.dom (he.mono upI) b hc this

theorem RSl.only {G G' : GH} {xs : List A} (r : RSl G En k v xs) (hE : ∀ (H H' : GH) cs x, En.rel H cs x → En.rel H' cs x) (h : ∀ b ∈ bl [v], G' b = G b) : RSl G' En k v xs := by
  obtain ⟨a, cap, rfl, g1, g2⟩ := r
  refine ⟨a, cap, rfl, g1, fun i x hx => ?_⟩
  obtain ⟨p, cs, rfl, g3, ⟨arr, e, fr, g4, g5⟩, g6⟩ := g2 i x hx
  refine ⟨p, cs, rfl, g3, ⟨arr, e, fr, ?_, g5⟩, hE _ _ _ _ g6⟩
  have hb : (p.add (i * k)).block = p.block := by unfold Addr.add; split <;> rfl
  rw [hb] at g4 ⊢
  rw [h p.block ?_]
  · exact g4
  · refine mem_bl1 ?_
    have : 0 < xs.length := Nat.lt_of_le_of_lt (Nat.zero_le _) (List.getElem?_eq_some_iff.1 hx).1
    simp only [neb]
    rw [if_neg (by omega)]

theorem els1_mk {G : GH} : ∀ (c : List Value) (xs : List A), c.length = xs.length → (∀ (j : Nat) u x, c[j]? = some u → xs[j]? = some x → En.rel G [u] x) → Els G En 1 c xs := by
  intro c
  rw [← List.reverse_reverse c]
  generalize c.reverse = d
  induction d with
  | nil => intro xs hl _; have : xs = [] := List.eq_nil_of_length_eq_zero (by simpa using hl.symm); subst this; exact .nil
  | cons u d ih =>
    intro xs hl h
    rw [List.reverse_cons] at hl h ⊢
    rcases List.eq_nil_or_concat xs with rfl | ⟨ys, y, rfl⟩
    · simp at hl
    · have hl' : d.reverse.length = ys.length := by simpa using hl
      rw [List.concat_eq_append] at h ⊢
      refine .snoc (ih ys hl' fun j u' x hu hx => h j u' x ?_ ?_) rfl (h d.reverse.length u y ?_ ?_)
      · rw [List.getElem?_append_left (List.getElem?_eq_some_iff.1 hu).1]; exact hu
      · rw [List.getElem?_append_left (List.getElem?_eq_some_iff.1 hx).1]; exact hx
      · simp
      · rw [hl']; simp

theorem bl_get {c : List Value} {i : Nat} {u : Value} (h : c[i]? = some u) : ∀ b ∈ bl [u], b ∈ bl c := fun b hb => by
  obtain ⟨u', hu, hn⟩ := mem_bl hb
  simp only [List.mem_singleton] at hu
  subst hu
  exact List.mem_filterMap.2 ⟨u', List.mem_of_getElem? h, hn⟩
/-- two cells of different places do not share a block -/
theorem bl_apart : ∀ {c : List Value} {i j : Nat} {u u' : Value}, (bl c).Nodup → c[i]? = some u → c[j]? = some u' → i < j → ∀ b ∈ bl [u], b ∉ bl [u'] := by
  intro c
  induction c with
  | nil => intro i j u u' _ h; simp at h
  | cons x c ih =>
    intro i j u u' nd hi hj hij b hb hb'
    have nd' : (bl [x] ++ bl c).Nodup := by rw [← bl_app]; exact nd
    rw [List.nodup_append] at nd'
    cases j with
    | zero => omega
    | succ j =>
      cases i with
      | zero => simp at hi; subst hi; exact nd'.2.2 b hb b (bl_get (by simpa using hj) b hb') rfl
      | succ i => exact ih nd'.2.1 (by simpa using hi) (by simpa using hj) (by omega) b hb hb'
theorem bl_apart' {c : List Value} {i j : Nat} {u u' : Value} (nd : (bl c).Nodup) (hi : c[i]? = some u) (hj : c[j]? = some u') (hij : i ≠ j) : ∀ b ∈ bl [u'], b ∉ bl [u] := fun b hb hb' => by
  rcases Nat.lt_or_gt_of_ne hij with h | h
  · exact bl_apart nd hi hj h b hb' hb
  · exact bl_apart nd hj hi h b hb hb'

theorem up_same {B : Nat} {H H' : GH} {b : Nat} (h : H' b = H b) : up B H' b = up B H b := by unfold up; rw [h]

/-- one of the inner slices is written -/
theorem Nest.step {B : Nat} {k' : Nat} {xs : List (List A)} {c : List Value} (h : Nest (up B H) (eL En k') 1 v xs c) (hE : ∀ (H H' : GH) cs x, En.rel H cs x → En.rel H' cs x) {i : Nat} {vi : Value} {yi : List A}
    (hc : c[i]? = some vi) (hi : i < xs.length) (hr : RSl (up B H') En k' vi yi) (hH : ∀ b, b ∉ bl [vi] → H' b = H b) : Nest (up B H') (eL En k') 1 v (xs.set i yi) c := by
  obtain ⟨h1, h2, h3, h4, h5⟩ := h
  have hlen := h2.length
  rw [Nat.mul_one] at hlen
  have keep : ∀ (j : Nat) u x, j ≠ i → c[j]? = some u → xs[j]? = some x → (eL En k').rel (up B H') [u] x := fun j u x hne hu hx => by
    obtain ⟨c0, q1, q2⟩ := els1_some h2 hx
    rw [hu] at q1
    cases q1
    obtain ⟨u', he, hR⟩ := eL_open q2
    cases he
    exact ⟨_, rfl, hR.only hE fun b hb => up_same (hH b (bl_apart' h4 hc hu (Ne.symm hne) b hb))⟩
  have hout : ∀ b ∈ bl [v], H' b = H b := fun b hb => hH b fun hb' => h5 b hb (bl_get hc b hb')
  have hE2 : Els (up B H') (eL En k') 1 c (xs.set i yi) := by
    refine els1_mk c _ (by simpa using hlen) fun j u x hu hx => ?_
    by_cases hji : j = i
    · subst hji
      rw [hc] at hu; cases hu
      rw [List.getElem?_set_self hi] at hx
      cases hx
      exact ⟨_, rfl, hr⟩
    · rw [List.getElem?_set_ne (Ne.symm hji)] at hx
      exact keep j u x hji hu hx
  have hC : ∀ a len cap, v = .slice (some a) len cap → xs.set i yi ≠ [] → CAt (up B H') a c := by
    intro a len cap hv hne
    have hne' : xs ≠ [] := by intro e; subst e; simp at hi
    obtain ⟨arr, e, fr, g4, g5⟩ := h3 a len cap hv hne'
    refine ⟨arr, e, fr, ?_, g5⟩
    subst hv
    rw [up_same (hout a.block ?_)]; exact g4
    obtain ⟨_, _, hv, _⟩ := h1
    cases hv
    exact mem_bl1 (by simp only [neb]; rw [if_neg (by omega)])
  refine ⟨?_, hE2, hC, h4, h5⟩
  obtain ⟨a, cap, rfl, g1, g2⟩ := h1
  refine ⟨a, cap, by simp, by simpa using g1, fun j x hx => ?_⟩
  have hj : j < xs.length := by have := (List.getElem?_eq_some_iff.1 hx).1; simpa using this
  obtain ⟨p, cs, rfl, _⟩ := g2 j xs[j] (by simp [hj])
  obtain ⟨u, q1, q2⟩ := els1_some hE2 hx
  obtain ⟨arr, e, fr, g4, g5, g6⟩ := hC p _ _ rfl (by intro e; rw [e] at hx; simp at hx)
  have hb : (p.add (j * 1)).block = p.block := by unfold Addr.add; split <;> rfl
  have ho : (p.add (j * 1)).off = p.off + j := by unfold Addr.add; split <;> simp_all
  refine ⟨p, [u], rfl, rfl, ⟨arr, e, fr, by rw [hb]; exact g4, by unfold Addr.add; split <;> simp_all, fun m z hz => ?_⟩, q2⟩
  cases m with
  | zero => simp at hz; subst hz; rw [ho]; exact g6 j u q1
  | succ m => simp at hz
end
end Go.Mr
