/- Calls that turn a row in place: what the kit's shelf says of them, told of rows of one's own. -/
import Derived.Test.YtdkfkiifbagnnaaMr8
import Derived.Shelf.SlSortCmp.Kit1
import Derived.Sort.LotA
import Derived.Lib.SlicesCompact
import Derived.Shelf.SlicesE.Compact
import Derived.Ground.SlgnProg
namespace Go.Mr
open Go.RowKit Go.Pu Go.Sort
open Go.Proofs (OneCell CmpLays1 sortWorld ltOf)

section
variable {P : Program} {w w' : World} {H0 H H' : GH} {w0 : World} {l : List MO} {e n : Nat} {v : Value} {A : Type} {En : Enc A}

/-- an element of one cell, as it lies -/
def El1 {A : Type} (En : Enc A) (H : GH) (xs : List A) : Type := { p : Value × A // En.rel H [p.1] p.2 ∧ p.2 ∈ xs }
def El1.enc {H : GH} {xs : List A} (p : El1 En H xs) : Value := p.1.1
def El1.x {H : GH} {xs : List A} (p : El1 En H xs) : A := p.1.2
theorem El1.oneCell {H : GH} {xs : List A} : OneCell (El1.enc (En := En) (H := H) (xs := xs)) := fun p => Enc.one1 p.2.1

/-- the row as an array of such elements -/
theorem els1_arr {H : GH} {cells : List Value} {xs : List A} (h : Els H En 1 cells xs) (ys : List A) (hs : ∀ x ∈ xs, x ∈ ys) : ∃ d : List (El1 En H ys), d.map El1.enc = cells ∧ d.map El1.x = xs := by
  induction h with
  | nil => exact ⟨[], rfl, rfl⟩
  | snoc hp hc hx ih =>
    rename_i cells xs c x
    obtain ⟨d, h1, h2⟩ := ih (fun y hy => hs y (by simp [hy]))
    match c, hc, hx with
    | [c0], _, hx => exact ⟨d ++ [⟨(c0, x), hx, hs x (by simp)⟩], by rw [List.map_append, h1]; rfl, by rw [List.map_append, h2]; rfl⟩

theorem els1_of {H : GH} {ys : List A} (d : List (El1 En H ys)) : Els H En 1 (d.map El1.enc) (d.map El1.x) := by
  rw [← List.reverse_reverse d]
  generalize d.reverse = d
  induction d with
  | nil => exact .nil
  | cons p d ih => rw [List.reverse_cons, List.map_append, List.map_append]; exact .snoc ih rfl p.2.1

theorem heap_sorted1 {α : Type} [Inhabited α] {enc : α → Value} {w : World} {g m : Nat} {os : Array Obj} {cur : Array Value} {e : TypeId} {fr : Nat × Nat} (d : Array α) (hb : w.heap[g]? = some (.cells cur e fr)) :
    (sortWorld enc w g 0 m d os).heap[g]? = some (.cells (putCells enc 0 d cur) e fr) := by
  have hg : g < w.heap.size := (Array.getElem?_eq_some_iff.1 hb).1
  unfold sortWorld
  rw [heap_grow_old _ _ (by simpa using hg)]
  simp [putRow, mapBlock, Sort.ahead, Array.getElem?_modify, hb, onCells]
theorem grownBy_sorted1 {α : Type} [Inhabited α] {enc : α → Value} {w : World} {g m : Nat} {os : Array Obj} (d : Array α) : w.grownBy (sortWorld enc w g 0 m d os) (some g) := by
  unfold sortWorld
  refine ⟨rfl, rfl, rfl, by simp, fun k hk hne => ?_⟩
  rw [heap_grow_old _ _ (by simpa using hk)]
  have : g ≠ k := fun e => hne (by rw [e])
  simp [putRow, mapBlock, Sort.ahead, Array.getElem?_modify, this]
theorem take_putCells1 {α : Type} [Inhabited α] {enc : α → Value} (cur : Array Value) (ts : List α) (n : Nat) (hn : n ≤ ts.length) (h : ts.length ≤ cur.size) : (putCells enc 0 ts.toArray cur).toList.take n = (ts.take n).map enc := by
  apply List.ext_getElem?
  intro j
  by_cases hj : j < n
  · rw [List.getElem?_take_of_lt hj, Array.getElem?_toList]
    simp [putCells, hj, show j < cur.size by omega, show j < ts.length by omega]
  · rw [List.getElem?_take_eq_none (by omega), List.getElem?_eq_none (by simp; omega)]

/-- what the row's block holds otherwise: the row turned in place and cut to n' -/
theorem St.turned (h : St H0 w0 H w l) {i g cap m n' : Nat} {cells : List Value} (hi : l[i]? = some (.row e 1 (.slice (some ⟨g, 0, Option.none⟩) n cap) n cells)) {α : Type} [Inhabited α] {enc : α → Value} (h1 : OneCell enc) (d : List α) (os : Array Obj)
    (hn : n' ≤ d.length) (hd : d.length ≤ n) :
    St H0 w0 H (sortWorld enc w g 0 m d.toArray os) (l.set i (.row e 1 (.slice (some ⟨g, 0, Option.none⟩) n' cap) n' ((d.take n').map enc))) := by
  obtain ⟨⟨k1, k2⟩, k3⟩ := h.ok i _ hi
  rcases k2 with ⟨h3, _⟩ | ⟨g', cap', cur, hv, hg, hh, hle, hcm, hsz, htk⟩
  · cases h3
  cases hv
  refine h.upd hi (grownBy_sorted1 _) (by unfold sortWorld; simp [Sort.ahead, Go.Sort.grow]) ⟨⟨by simp; omega, .inr ⟨g, cap, _, rfl, hg, heap_sorted1 _ hh, by omega, hcm, by simp [putCells, hsz], ?_⟩⟩, ?_⟩ (fun b hb => .inl hb)
  · rw [Nat.mul_one]; exact take_putCells1 cur d n' hn (by omega)
  · intro u hu
    obtain ⟨y, _, rfl⟩ := List.mem_map.1 hu
    exact h1 y

/-- what the row holds, as the shelf says it -/
theorem St.holds1 (h : St H0 w0 H w l) {i g cap : Nat} {cells : List Value} (hi : l[i]? = some (.row e 1 (.slice (some ⟨g, 0, Option.none⟩) n cap) n cells)) {α : Type} [Inhabited α] {enc : α → Value} (d : List α) (hd : d.map enc = cells) :
    Holds enc w g 0 d.toArray ∧ g < w.heap.size ∧ d.length = n ∧ n ≤ cap ∧ cap ≤ maxLen := by
  obtain ⟨⟨k1, k2⟩, k3⟩ := h.ok i _ hi
  rcases k2 with ⟨h3, _⟩ | ⟨g', cap', cur, hv, hg, hh, hle, hcm, hsz, htk⟩
  · cases h3
  cases hv
  have hl : d.length = n := by rw [← hd] at k1; simpa using k1
  refine ⟨fun j hj => ?_, (Array.getElem?_eq_some_iff.1 hh).1, hl, hle, hcm⟩
  simp only [List.size_toArray] at hj
  have hc : cells[j]? = some (enc d[j]) := by rw [← hd]; simp [hj]
  rw [Nat.zero_add]
  constructor
  · rw [cell_of_row w g _ _ _ _ hh]
    rw [← htk, List.getElem?_take] at hc
    split at hc
    · simpa [hj] using hc
    · cases hc
  · simp [World.frozen?, hh]

theorem St.sl_sorted (h : St H0 w0 H w l) {i g cap m : Nat} {cells : List Value} (hi : l[i]? = some (.row e 1 (.slice (some ⟨g, 0, Option.none⟩) n cap) n cells)) {α : Type} [Inhabited α] {enc : α → Value} (d : Array α) (os : Array Obj) :
    Sl H (sortWorld enc w g 0 m d os) := fun b ob hb => by
  have hw := h.sl b ob hb
  have hne : some b ≠ some g := fun e => by cases e; rw [h.out i _ g hi rfl] at hb; cases hb
  rw [(grownBy_sorted1 (os := os) (m := m) d).block b (Array.getElem?_eq_some_iff.1 hw).1 hne]; exact hw

/-- what a run of scalars leaves: draws and blocks laid -/
theorem Run.grown {B : Nat} (hr : Run B H w H' w') (hB : B = w.heap.size) : ∃ q os', w' = grow (w.drewN q) os' := by
  obtain ⟨hb, _, _, _, hd⟩ := hr
  refine ⟨w'.drawn - w.drawn, w'.heap.extract w.heap.size w'.heap.size, ?_⟩
  have h1 : w'.heap = w.heap ++ w'.heap.extract w.heap.size w'.heap.size := by
    apply Array.ext_getElem?
    intro k
    by_cases hk : k < w.heap.size
    · rw [hb.block k (by omega), Array.getElem?_append_left hk]
    · rw [Array.getElem?_append_right (by omega), Array.getElem?_extract]
      split
      · congr 1; omega
      · rw [Array.getElem?_eq_none (by omega)]
  have h2 : w.drawn + (w'.drawn - w.drawn) = w'.drawn := by omega
  cases w; cases w'
  have := hb.os; have := hb.tape; have := hb.output
  simp only [Go.Sort.grow, World.drewN] at *
  subst_vars
  simp only [World.mk.injEq, and_true]
  exact ⟨h1, trivial, h2.symm⟩

theorem keeps_append {A : Type} [DecidableEq A] [Inhabited A] (xs : List A) (y : A) (j : Nat) (hj : j < xs.length) : Go.Lib.keeps (xs ++ [y]).toArray j = Go.Lib.keeps xs.toArray j := by
  have h1 : (xs ++ [y]).toArray[j]! = xs.toArray[j]! := by
    rw [getElem!_pos _ j (by simp; omega), getElem!_pos _ j (by simpa using hj)]; simp [List.getElem_append_left hj]
  have h2 : (xs ++ [y]).toArray[j - 1]! = xs.toArray[j - 1]! := by
    rw [getElem!_pos _ (j - 1) (by simp; omega), getElem!_pos _ (j - 1) (by simp; omega)]; simp [List.getElem_append_left (show j - 1 < xs.length by omega)]
  simp only [Go.Lib.keeps, h1, h2]
theorem compactUpTo_append {A : Type} [DecidableEq A] [Inhabited A] (xs : List A) (y : A) (m : Nat) (hm : m ≤ xs.length) : Go.Lib.compactUpTo (xs ++ [y]).toArray m = Go.Lib.compactUpTo xs.toArray m := by
  induction m with
  | zero => rfl
  | succ m ih =>
    rw [Go.Lib.compactUpTo_succ, Go.Lib.compactUpTo_succ, ih (by omega), keeps_append xs y m (by omega)]
    have h1 : (xs ++ [y]).toArray[m]! = xs.toArray[m]! := by
      rw [getElem!_pos _ m (by simp; omega), getElem!_pos _ m (by simp; omega)]; simp [List.getElem_append_left (show m < xs.length by omega)]
    rw [h1]
theorem compactL_snoc {A : Type} [DecidableEq A] : ∀ (xs : List A) (y : A), compactL (xs ++ [y]) = if xs.getLast? = some y then compactL xs else compactL xs ++ [y]
  | [], y => by simp [compactL]
  | [x], y => by
    by_cases h : x = y
    · subst h; simp [compactL]
    · simp [compactL, h]
  | x :: x' :: xs, y => by
    have ih := compactL_snoc (x' :: xs) y
    simp only [List.cons_append] at ih
    by_cases h : x = x'
    · simp only [List.cons_append, compactL, h, if_true]
      rw [ih]; simp [List.getLast?_cons_cons]
    · simp only [List.cons_append, compactL, h, if_false]
      rw [ih]
      simp only [List.getLast?_cons_cons]
      split <;> simp
theorem compactL_eq {A : Type} [DecidableEq A] [Inhabited A] (xs : List A) : Go.Lib.compactUpTo xs.toArray xs.length = compactL xs := by
  rw [← List.reverse_reverse xs]
  generalize xs.reverse = ys
  induction ys with
  | nil => rfl
  | cons y ys ih =>
    rw [List.reverse_cons]
    generalize ys.reverse = xs at ih ⊢
    rw [compactL_snoc, List.length_append, List.length_singleton, Go.Lib.compactUpTo_succ, compactUpTo_append xs y _ (Nat.le_refl _), ih]
    have hy : (xs ++ [y]).toArray[xs.length]! = y := by rw [getElem!_pos _ _ (by simp)]; simp
    rw [hy]
    rcases Nat.eq_zero_or_pos xs.length with h0 | h0
    · have : xs = [] := List.eq_nil_of_length_eq_zero h0
      subst this; simp [Go.Lib.keeps]
    · have hp : (xs ++ [y]).toArray[xs.length - 1]! = xs[xs.length - 1] := by rw [getElem!_pos _ _ (by simp; omega)]; simp [List.getElem_append_left (show xs.length - 1 < xs.length by omega)]
      have hg : xs.getLast? = some xs[xs.length - 1] := by rw [List.getLast?_eq_getElem?, List.getElem?_eq_getElem]
      simp only [Go.Lib.keeps, hy, hp, hg, Option.some.injEq]
      by_cases h : xs[xs.length - 1] = y
      · have : ¬ xs.length = 0 := by omega
        simp [h, this]
      · have : ¬ y = xs[xs.length - 1] := fun e => h e.symm
        simp [h, this]
theorem compactL_le {A : Type} [DecidableEq A] : ∀ (xs : List A), (compactL xs).length ≤ xs.length
  | [] => by simp [compactL]
  | [x] => by simp [compactL]
  | x :: x' :: xs => by
    have ih := compactL_le (x' :: xs)
    by_cases h : x = x'
    · simp only [compactL, h, if_true]; simp at ih ⊢; omega
    · simp only [compactL, h, if_false]; simp at ih ⊢; omega

/-! slices.SortFunc -/
theorem sortF_some {f : A → A → Option Int} {xs r : List A} (h : sortF f xs = some r) : (∃ cf, SortOk f xs cf) ∧ r = xs.mergeSort (leF f) := by
  unfold sortF at h
  split at h
  · rename_i hh; cases h; exact ⟨hh, rfl⟩
  · cases h

theorem St.sortF {G : GH} (hG : Inc G H) (h : St H0 w0 H w l) {i : Nat} {cells : List Value} (hi : l[i]? = some (.row e 1 v n cells)) {xs r : List A} (he : Els G En 1 cells xs) {fv : Value} {f : A → A → Option Int} {fid : Nat}
    (hf : ∀ (H2 : GH) (w2 : World), Inc H H2 → Sl H2 w2 → ∀ c x, En.rel H2 [c] x → ∀ d y, En.rel H2 [d] y → ∀ r, f x y = some r → ∃ fi cs, fv = .func (.func fi) #[] cs ∧ (∀ args w, (callFunc fi args).run P w = .ok (.enter fi args) w) ∧ Calls P fi (#[c, d] ++ cs) w2 (Sc H2 w2 (.int .i64 r)))
    (k0 : ∀ (p : Option Addr) (cap : Nat) (fv : Value) (w : World), Calls P fid #[.slice p 0 cap, fv] w fun e w' => e = .returned (.tuple #[]) ∧ w' = w)
    (k1 : ∀ (α : Type) [Inhabited α] (enc : α → Value) (_ : OneCell enc) (cf : α → α → Int) (_ : SWO (ltOf cf)) (g : Nat) (cb : Array Value) (blk off cap : Nat) (d : Array α) (w : World)
      (_ : ∀ args w, (callFunc g args).run P w = .ok (.enter g args) w) (_ : CmpLays1 P g cb enc cf blk off d.size w) (_ : Holds enc w blk off d) (_ : blk < w.heap.size) (_ : d.size < 4611686018427387904),
      Calls P fid #[.slice (some ⟨blk, off, Option.none⟩) d.size cap, .func (.func g) #[] cb] w fun e w' => e = .returned (.tuple #[]) ∧ ∃ d' n os, PermIn 0 d.size d d' ∧ SortedIn (ltOf cf) 0 d.size d' ∧ w' = sortWorld enc w blk off n d' os)
    (hr : Pu.sortF f xs = some r) :
    Calls P fid #[v, fv] w fun e' w' => e' = .returned (.tuple #[]) ∧ ∃ cells', St H0 w0 H w' (l.set i (.row e 1 v n cells')) ∧ Els G En 1 cells' r ∧ cells'.Perm cells := by
  obtain ⟨⟨cf, hlim, hc, hirr, htr, hntr, hanti⟩, rfl⟩ := sortF_some hr
  obtain ⟨⟨g1, g2⟩, g3⟩ := h.ok i _ hi
  have hlen := he.length
  have hset : l.set i (.row e 1 v n cells) = l := by
    apply List.ext_getElem?
    intro j
    rw [List.getElem?_set]
    split
    · rename_i hij; subst hij; rw [hi]; simp [(List.getElem?_eq_some_iff.1 hi).1]
    · rfl
  rcases g2 with ⟨rfl, rfl⟩ | ⟨g, cap, cur, rfl, hg, hh, hle, hcm, hsz, htk⟩
  · have : xs = [] := by rw [g1] at hlen; apply List.eq_nil_of_length_eq_zero; omega
    subst this
    refine (k0 Option.none 0 fv w).mono ?_
    rintro _ _ ⟨rfl, rfl⟩
    exact ⟨rfl, cells, by rw [hset]; exact h, by simpa using he, List.Perm.refl _⟩
  · match xs, he, hlen, hlim, hc, hirr, htr, hntr, hanti with
    | [], he, hlen, _, _, _, _, _, _ =>
      have : n = 0 := by rw [g1] at hlen; simpa using hlen
      subst this
      refine (k0 (some ⟨g, 0, Option.none⟩) cap fv w).mono ?_
      rintro _ _ ⟨rfl, rfl⟩
      exact ⟨rfl, cells, by rw [hset]; exact h, by simpa using he, List.Perm.refl _⟩
    | x0 :: xs0, he, hlen, hlim, hc, hirr, htr, hntr, hanti =>
      generalize hxs : x0 :: xs0 = xs at *
      obtain ⟨d, hd1, hd2⟩ := els1_arr he xs (fun _ hx => hx)
      have hx0 : xs[0]? = some x0 := by rw [← hxs]; rfl
      obtain ⟨c0, hc0, hr0⟩ := els1_some he hx0
      have hx0m : x0 ∈ xs := by rw [← hxs]; simp
      haveI : Inhabited (El1 En G xs) := ⟨⟨(c0, x0), hr0, hx0m⟩⟩
      obtain ⟨fi, cs, rfl, heg, _⟩ := hf H w (Inc.rfl H) h.sl c0 x0 (En.mono hG hr0) c0 x0 (En.mono hG hr0) _ (hc x0 hx0m x0 hx0m)
      obtain ⟨hH, hblk, hdl, hcap, hcm2⟩ := h.holds1 hi d hd1
      let cf' : El1 En G xs → El1 En G xs → Int := fun p q => cf p.x q.x
      have hlt : ∀ p q, ltOf cf' p q = decide (cf p.x q.x < 0) := fun p q => rfl
      have hO : SWO (ltOf cf') := ⟨fun p => by rw [hlt, decide_eq_false_iff_not]; exact hirr _ p.2.2,
        fun p q s a b => by rw [hlt, decide_eq_true_eq] at *; exact htr _ p.2.2 _ q.2.2 _ s.2.2 a b,
        fun p q s a b => by rw [hlt, decide_eq_false_iff_not] at *; exact hntr _ p.2.2 _ q.2.2 _ s.2.2 a b⟩
      have hcmp : CmpLays1 P fi cs El1.enc cf' g 0 d.toArray.size w := fun m os dk hs p q => by
        have hsl := h.sl_sorted hi (enc := El1.enc) (m := m) dk os
        obtain ⟨fi', cs', hfv, _, hcall⟩ := hf H _ (Inc.rfl H) hsl _ _ (En.mono hG p.2.1) _ _ (En.mono hG q.2.1) _ (hc _ p.2.2 _ q.2.2)
        cases hfv
        refine hcall.mono ?_
        rintro _ W' ⟨rfl, hrun⟩
        exact ⟨rfl, hrun.grown rfl⟩
      have hK := k1 _ El1.enc El1.oneCell cf' hO fi cs g 0 cap d.toArray w heg hcmp hH hblk (by have hdx := congrArg List.length hd2; simp only [List.length_map] at hdx; simp only [lim] at hlim; simp only [List.size_toArray]; omega)
      simp only [List.size_toArray, hdl] at hK
      refine hK.mono ?_
      rintro _ _ ⟨rfl, d', m, os, hp, hso, rfl⟩
      have hd'l : d'.size = n := by rw [hp.1]; simp [hdl]
      have hT := h.turned (m := m) (n' := n) hi El1.oneCell d'.toList os (by simp [hd'l]) (by simp [hd'l])
      have hpm : d'.toList.Perm d := by
        have := hp.2.2
        rw [show (n : Nat) = d'.size from hd'l.symm] at this
        rw [Array.extract_size, hd'l] at this
        rw [show n = d.toArray.size by simp [hdl]] at this
        rw [Array.extract_size] at this
        simpa using this
      refine ⟨rfl, _, by simpa using hT, ?_, by rw [List.take_of_length_le (by simp [hd'l]), ← hd1]; exact hpm.map El1.enc⟩
      have hE : Els G En 1 (d'.toList.map El1.enc) (d'.toList.map El1.x) := els1_of _
      rw [List.take_of_length_le (by simp [hd'l])]
      have : d'.toList.map El1.x = xs.mergeSort (leF f) := by
        have hpx : (d'.toList.map El1.x).Perm xs := (hpm.map El1.x).trans (by rw [hd2])
        have hmem : ∀ y ∈ d'.toList.map El1.x, y ∈ xs := fun y hy => hpx.mem_iff.1 hy
        have hms : (xs.mergeSort (leF f)).Perm xs := List.mergeSort_perm _ _
        have hle : ∀ x ∈ xs, ∀ y ∈ xs, leF f x y = !decide (cf y x < 0) := fun x hx y hy => by simp [leF, hc y hy x hx]
        refine List.Perm.eq_of_pairwise (le := fun x y => x ∈ xs ∧ y ∈ xs ∧ leF f x y = true) ?_ ?_ ?_ (hpx.trans hms.symm)
        · intro a b _ _ h1 h2
          obtain ⟨ha, hb, h1⟩ := h1
          obtain ⟨_, _, h2⟩ := h2
          rw [hle _ ha _ hb] at h1
          rw [hle _ hb _ ha] at h2
          simp only [Bool.not_eq_true', decide_eq_false_iff_not] at h1 h2
          exact hanti a ha b hb h2 h1
        · rw [List.pairwise_iff_getElem]
          intro a b ha hb hab
          refine ⟨hmem _ (List.getElem_mem _), hmem _ (List.getElem_mem _), ?_⟩
          rw [hle _ (hmem _ (List.getElem_mem _)) _ (hmem _ (List.getElem_mem _))]
          simp only [List.length_map, Array.length_toList] at ha hb
          have := hso a b (Nat.zero_le _) hab (by omega)
          rw [hlt, getElem!_pos d' b (by omega), getElem!_pos d' a (by omega)] at this
          simpa using this
        · have hpw : (xs.mergeSort (leF f)).Pairwise fun x y => leF f x y = true := by
            let le' : El1 En G xs → El1 En G xs → Bool := fun p q => !decide (cf q.x p.x < 0)
            have hm := List.map_mergeSort (r := le') (s := leF f) (f := El1.x) (l := d) (fun a _ b _ => (hle _ a.2.2 _ b.2.2).symm)
            rw [hd2] at hm
            rw [← hm, List.pairwise_map]
            have hs' := List.pairwise_mergeSort (le := le') ?_ ?_ d
            · refine hs'.imp ?_
              intro a b hab
              exact (hle a.x a.2.2 b.x b.2.2).trans hab
            · intro a b c h1 h2
              simp only [le', Bool.not_eq_true', decide_eq_false_iff_not] at h1 h2 ⊢
              exact hntr _ c.2.2 _ b.2.2 _ a.2.2 h2 h1
            · intro a b
              simp only [le', Bool.or_eq_true, Bool.not_eq_true', decide_eq_false_iff_not]
              by_cases h1 : cf b.x a.x < 0
              · right
                intro h2
                exact hirr _ b.2.2 (htr _ b.2.2 _ a.2.2 _ b.2.2 h1 h2)
              · exact .inl h1
          rw [List.pairwise_iff_getElem] at hpw ⊢
          intro a b ha hb hab
          exact ⟨hms.mem_iff.1 (List.getElem_mem _), hms.mem_iff.1 (List.getElem_mem _), hpw a b ha hb hab⟩
      rw [← this]
      exact hE

/-! slices.Compact -/
theorem St.compactF {G : GH} [DecidableEq A] [Inhabited A] (h : St H0 w0 H w l) {i : Nat} {cells : List Value} (hi : l[i]? = some (.row e 1 v n cells)) {xs : List A} (he : Els G En 1 cells xs) {fid : Nat} {enc : A → Value} (h1 : OneCell enc)
    (henc : ∀ (H : GH) c x, En.rel H [c] x → c = enc x) (hrel : ∀ (H : GH) x, En.rel H [enc x] x) (z : A)
    (k0 : ∀ (w : World), Calls P fid #[.slice Option.none 0 0] w fun e w' => e = .returned (.slice Option.none 0 0) ∧ w' = w)
    (k1 : ∀ (blk off cap : Nat) (d : Array A) (w : World) (_ : Holds enc w blk off d) (_ : d.size ≤ 9223372036854775807) (_ : d.size ≤ cap),
      Calls P fid #[.slice (some ⟨blk, off, Option.none⟩) d.size cap] w fun e w' => e = .returned (.slice (some ⟨blk, off, Option.none⟩) (Go.Lib.compactUpTo d d.size).length cap) ∧
        ∃ q, w' = Go.Sort.putRow enc (Sort.ahead w q) blk off (Go.Lib.compactUpTo d d.size ++ List.replicate (d.size - (Go.Lib.compactUpTo d d.size).length) z).toArray) :
    Calls P fid #[v] w fun e' w' => ∃ v' n' cells', e' = .returned v' ∧ St H0 w0 H w' (l.set i (.row e 1 v' n' cells')) ∧ Els G En 1 cells' (compactL xs) := by
  obtain ⟨⟨g1, g2⟩, g3⟩ := h.ok i _ hi
  have hlen := he.length
  have hset : l.set i (.row e 1 v n cells) = l := by
    apply List.ext_getElem?
    intro j
    rw [List.getElem?_set]
    split
    · rename_i hij; subst hij; rw [hi]; simp [(List.getElem?_eq_some_iff.1 hi).1]
    · rfl
  rcases g2 with ⟨rfl, rfl⟩ | ⟨g, cap, cur, rfl, hg, hh, hle, hcm, hsz, htk⟩
  · have : xs = [] := by rw [g1] at hlen; apply List.eq_nil_of_length_eq_zero; omega
    subst this
    refine (k0 w).mono ?_
    rintro _ _ ⟨rfl, rfl⟩
    exact ⟨_, _, cells, rfl, by rw [hset]; exact h, by simpa [compactL] using he⟩
  · have hcells : xs.map enc = cells := by
      clear hi g1 g3 hset htk hlen
      induction he with
      | nil => rfl
      | snoc hp hc hx ih =>
        rename_i cells xs c x
        match c, hc, hx with
        | [c0], _, hx => rw [List.map_append, ih, henc _ _ _ hx]; rfl
    obtain ⟨hH, hblk, hdl, hcap, hcm2⟩ := h.holds1 hi xs hcells
    have hK := k1 g 0 cap xs.toArray w hH (by simp [hdl]; simp only [maxLen] at hcm; omega) (by simp [hdl]; omega)
    simp only [List.size_toArray, hdl] at hK
    have hcl : Go.Lib.compactUpTo xs.toArray n = compactL xs := by rw [← hdl]; exact compactL_eq xs
    rw [hcl] at hK
    refine hK.mono ?_
    rintro _ _ ⟨rfl, q, rfl⟩
    have hcle : (compactL xs).length ≤ n := by rw [← hdl]; exact compactL_le xs
    have hT := h.turned (m := q) (n' := (compactL xs).length) hi h1 (compactL xs ++ List.replicate (n - (compactL xs).length) z) #[] (by simp) (by simp; omega)
    unfold sortWorld at hT
    rw [grow_empty, List.take_left'  rfl] at hT
    refine ⟨_, _, _, rfl, hT, ?_⟩
    generalize compactL xs = ys
    rw [← List.reverse_reverse ys]
    generalize ys.reverse = ys
    induction ys with
    | nil => exact .nil
    | cons y ys ih => rw [List.reverse_cons, List.map_append]; exact .snoc ih rfl (hrel _ _)
end
end Go.Mr
namespace Go.Proofs
open Go.Shelf Go.RowKit Go.Lib Go.Sort
theorem compact_none {P : Program} {ρ : Ren} (L : SlLaysE.n43 P ρ) (w : World) :
    Calls P (ρ.f 43) #[.slice none 0 0] w fun e w' => e = .returned (.slice none 0 0) ∧ w' = w := by
  have mixed := L.mixed; have t0 := L.t0; have a0 := L.a0; have z0 := L.z0; have v0 := L.v0; have t3 := L.t3; have a3 := L.a3; have z3 := L.z3; have v3 := L.v3; have t4 := L.t4; have a4 := L.a4; have z4 := L.z4; have v4 := L.v4; have t22 := L.t22; have a22 := L.a22; have z22 := L.z22; have v22 := L.v22; have a23 := L.a23; have z23 := L.z23
  obtain ⟨_, _, FG⟩ := L.f43
  go_enter FG, SlBodyN.n43_ntmps ρ
  go_wp2
  go_ret
  exact ⟨rfl, rfl⟩
end Go.Proofs
