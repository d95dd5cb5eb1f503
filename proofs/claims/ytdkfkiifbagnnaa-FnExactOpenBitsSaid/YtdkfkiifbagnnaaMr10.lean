/- Rows that come in and go out; rows lent; tails cleared; rows cut. -/
import Derived.Test.YtdkfkiifbagnnaaMr8
namespace Go.Mr
open Go.RowKit Go.Pu

section
variable {P : Program} {w w' : World} {H0 H H' : GH} {w0 : World} {l : List MO} {t e k n : Nat} {v z : Value} {A : Type} {En : Enc A}

theorem St.reidx (h : St H0 w0 H w l) (l' : List MO) (φ : Nat → Nat) (hφ : ∀ (j : Nat) (o : MO), l'[j]? = some o → l[φ j]? = some o) (inj : ∀ j j', j < l'.length → j' < l'.length → φ j = φ j' → j = j') : St H0 w0 H w l' :=
  ⟨h.run, fun j o hj => h.ok _ o (hφ j o hj), fun j o b hj hb => h.out _ o b (hφ j o hj) hb, fun i j oi oj b hi hj h1 h2 =>
    inj i j (List.getElem?_eq_some_iff.1 hi).1 (List.getElem?_eq_some_iff.1 hj).1 (h.dis _ _ oi oj b (hφ i oi hi) (hφ j oj hj) h1 h2)⟩

/-- the object number i is put first -/
theorem St.front (h : St H0 w0 H w l) (i : Nat) {o : MO} (hi : l[i]? = some o) {l' : List MO} (hl : o :: l.eraseIdx i = l') : St H0 w0 H w l' := by
  subst hl
  refine h.reidx _ (fun j => if j = 0 then i else if j - 1 < i then j - 1 else j) (fun j o' hj => ?_) (fun j j' h1 h2 he => ?_)
  · cases j with
    | zero => simp at hj; subst hj; simpa using hi
    | succ j =>
      simp only [List.getElem?_cons_succ, List.getElem?_eraseIdx] at hj
      simp only [Nat.add_one_ne_zero, if_false, Nat.add_sub_cancel]
      split at hj
      · rename_i hlt; rw [if_pos hlt]; exact hj
      · rename_i hlt; rw [if_neg hlt]; exact hj
  · have key : ∀ m, (if m = 0 then i else if m - 1 < i then m - 1 else m) = if m = 0 then i else if m - 1 < i then m - 1 else m := fun _ => rfl
    by_cases a1 : j = 0 <;> by_cases a2 : j' = 0 <;> by_cases a3 : j - 1 < i <;> by_cases a4 : j' - 1 < i <;> simp only [a1, a2, a3, a4, if_true, if_false] at he <;> omega

/-- what was lent comes back -/
theorem Run.lend {Hl : GH} (_hi : Inc H Hl) (hs : Sl H w) (hr : Run w.heap.size Hl w H' w') : Run w.heap.size H w H w' :=
  ⟨hr.bel, fun _ _ => rfl, fun b o hb => by
    have := hs b o hb
    rw [hr.bel.block b (Array.getElem?_eq_some_iff.1 this).1]; exact this, Inc.rfl H, hr.drw, fun _ _ h => .inl h⟩

/-- v[a:], v a row of n elements -/
def TailOf (k : Nat) (v : Value) (a : Int) (v' : Value) : Prop := ∃ p len cap, v = .slice p len cap ∧ 0 ≤ a ∧ a ≤ len ∧ len ≤ cap ∧
  v' = .slice (if cap = a.toNat then p else p.map (·.add (a.toNat * k))) (len - a.toNat) (cap - a.toNat)

theorem St.tail {G : GH} (h : St H0 w0 H w l) (te : TE P t e k z) {i : Nat} {cells : List Value} (hi : l[i]? = some (.row e k v n cells)) {xs ys : List A} (he : Els G En k cells xs) {a : Int} {kk : IntKind} (hc : Pu.cut xs a (len xs) = some ys) :
    ∃ v', (∀ w, (Instr.slice t v (some (.int kk a)) Option.none Option.none).run P w = .ok v' w) ∧ TailOf k v a v' := by
  obtain ⟨h0, h1, h2, rfl⟩ := cut_some hc
  have hn := h.row_n hi he te.kp
  obtain ⟨⟨g1, g2⟩, g3⟩ := h.ok i _ hi
  simp only [Pu.len] at h1
  rcases g2 with ⟨rfl, h3⟩ | ⟨g, cap, cur, rfl, hg, hh, hle, hcm, hsz, htk⟩
  · exact ⟨.slice (if 0 = a.toNat then Option.none else Option.map (fun q : Addr => q.add (a.toNat * k)) Option.none) (0 - a.toNat) (0 - a.toNat), fun w => by
      have := run_slice_ab (w := w) te (a := Option.none) (len := 0) (cap := 0) (p := a) (q := 0) h0 (by omega) (by omega) (.inr ⟨kk, rfl⟩) (.inl ⟨rfl, rfl⟩)
      simpa using this, _, _, _, rfl, h0, by omega, by omega, rfl⟩
  · exact ⟨.slice (if cap = a.toNat then some ⟨g, 0, Option.none⟩ else Option.map (fun q : Addr => q.add (a.toNat * k)) (some ⟨g, 0, Option.none⟩)) (n - a.toNat) (cap - a.toNat), fun w => by
      have := run_slice_ab (w := w) te (a := some ⟨g, 0, Option.none⟩) (len := n) (cap := cap) (p := a) (q := n) h0 (by omega) (by omega) (.inr ⟨kk, rfl⟩) (.inl ⟨rfl, rfl⟩)
      simpa using this, _, _, _, rfl, h0, by omega, hle, rfl⟩

theorem els_take {cells : List Value} {xs : List A} (h : Els H En k cells xs) : ∀ m, m ≤ xs.length → Els H En k (cells.take (m * k)) (xs.take m) := by
  induction h with
  | nil => intro m hm; simp; exact .nil
  | snoc hs hc hx ih =>
    rename_i cells xs c x
    intro m hm
    have hl := hs.length
    rcases Nat.lt_or_ge xs.length m with hlt | hge
    · have : m = xs.length + 1 := by simp at hm; omega
      subst this
      have t1 : List.take ((xs.length + 1) * k) (cells ++ c) = cells ++ c := List.take_of_length_le (by rw [List.length_append, hl, hc, Nat.add_mul, Nat.one_mul]; exact Nat.le_refl _)
      have t2 : List.take (xs.length + 1) (xs ++ [x]) = xs ++ [x] := List.take_of_length_le (by simp)
      rw [t1, t2]
      exact .snoc hs hc hx
    · rw [List.take_append_of_le_length hge, List.take_append_of_le_length (by rw [hl]; exact Nat.mul_le_mul_right _ hge)]
      exact ih m hge

theorem St.clearTail {G : GH} (h : St H0 w0 H w l) (te : TE P t e k z) {i : Nat} {cells : List Value} (hi : l[i]? = some (.row e k v n cells)) {xs : List A} (he : Els G En k cells xs) {a : Int} {v' : Value} (hv : TailOf k v a v')
    {x0 : A} (hz : En.rel G z.cells.toList x0) (h1 : ∀ u ∈ z.cells.toList, u.oneCell' = true) :
    ∃ w1 cells', (∀ ty, (Builtin.clear_ #[t] ty #[v']).run P w = .ok (.tuple #[]) w1) ∧ St H0 w0 H w1 (l.set i (.row e k v n cells')) ∧ Els G En k cells' (clearL x0 xs a) := by
  unfold clearL
  have hn := h.row_n hi he te.kp
  obtain ⟨⟨g1, g2⟩, g3⟩ := h.ok i _ hi
  have hlen := he.length
  have hset : l.set i (.row e k v n cells) = l := by
    apply List.ext_getElem?
    intro j
    rw [List.getElem?_set]
    split
    · rename_i hij; subst hij; rw [hi]; simp [(List.getElem?_eq_some_iff.1 hi).1]
    · rfl
  obtain ⟨p, len, cap, rfl, h0, ha, hlc, rfl⟩ := hv
  have hlenn : len = n := by
    rcases g2 with ⟨hv, h3⟩ | ⟨g, cap', cur, hv, _⟩ <;> cases hv <;> omega
  subst hlenn
  obtain ⟨info, hinf, hzz, hsz, hby⟩ := te.i
  have hzv : ∀ w, (zeroValue e).run P w = .ok z w := fun w => by simp [zeroValue, typeInfo, hinf, hzz]
  by_cases hfull : len - a.toNat = 0
  · refine ⟨w, cells, fun ty => ?_, by rw [hset]; exact h, ?_⟩
    · rw [hfull]; cases (if cap = a.toNat then p else p.map (·.add (a.toNat * k))) <;> simp [Builtin.clear_, run_underlying te.u]
    · rw [List.take_of_length_le (by omega), show xs.length - a.toNat = 0 by omega]; simpa using he
  · rcases g2 with ⟨hv, h3⟩ | ⟨g, cap', cur, hv, hg, hh, hle, hcm, hszc, htk⟩
    · omega
    · cases hv
      rw [if_neg (by omega)]
      obtain ⟨m, hm⟩ : ∃ m, len - a.toNat = m + 1 := ⟨len - a.toNat - 1, by omega⟩
      have hzs : (Builtin.zeroCells z.cells (m + 1)) = madeCells z.cells ((m + 1) * k) := by simp only [Builtin.zeroCells, madeCells, te.zs]
      have hml : (madeCells z.cells ((m + 1) * k)).toList.length = (m + 1) * k := by simp [size_madeCells]
      have hmul : a.toNat * k + (m + 1) * k = len * k := by rw [← Nat.add_mul]; congr 1; omega
      have hmul2 : len * k ≤ cap * k := Nat.mul_le_mul_right _ hlc
      have hm1 : ∀ u ∈ (madeCells z.cells ((m + 1) * k)).toList, u.oneCell' = true := by
        intro u hu
        simp only [madeCells, Array.toList_map, Array.toList_range, List.mem_map] at hu
        obtain ⟨j, _, rfl⟩ := hu
        have hk := te.kp
        have hlt : j % z.cells.size < z.cells.size := Nat.mod_lt _ (by rw [te.zs]; exact hk)
        rw [getElem!_pos z.cells _ hlt]
        exact h1 _ (by simp)
      have hst := run_storeCells_at P g (a.toNat * k) e (madeCells z.cells ((m + 1) * k)).toList 0 cur w hh (by rw [hml]; omega) hm1
      simp only [Nat.add_zero, hml] at hst
      have hcr : ∀ ty, (Builtin.clear_ #[t] ty #[.slice (Option.map (fun q : Addr => q.add (a.toNat * k)) (some ⟨g, 0, Option.none⟩)) (len - a.toNat) (cap - a.toNat)]).run P w = .ok (.tuple #[]) (w.setRow g (List.take (a.toNat * k) cur.toList ++ (madeCells z.cells ((m + 1) * k)).toList ++ List.drop (a.toNat * k + (m + 1) * k) cur.toList).toArray) := by
        intro ty
        rw [hm]
        simp only [Option.map_some, Addr.add_lit, Nat.zero_add]
        simp [Builtin.clear_, run_underlying te.u, hzv, hzs, hst]
      refine ⟨_, cells.take (a.toNat * k) ++ (madeCells z.cells ((m + 1) * k)).toList, hcr, ?_, ?_⟩
      · refine h.upd hi (grownBy_setRow w g _) (Nat.le_refl _) ⟨⟨?_, .inr ⟨g, cap, _, rfl, hg, setRow_heap w g _ _ _ _ hh, hle, hcm, ?_, ?_⟩⟩, ?_⟩ (fun b hb => .inl hb)
        · rw [List.length_append, hml, List.length_take, g1]; omega
        · simp only [List.size_toArray, List.length_append, List.length_take, List.length_drop, Array.length_toList, hml, hszc]; omega
        · simp only [List.append_assoc]
          rw [← htk, List.take_take, Nat.min_eq_left (by omega), ← List.append_assoc, List.take_left']
          rw [List.length_append, hml, List.length_take, Array.length_toList, hszc]; omega
        · intro c hc
          simp only [List.mem_append] at hc
          rcases hc with hc | hc
          · exact g3 c (List.mem_of_mem_take hc)
          · exact hm1 c hc
      · rw [show xs.length - a.toNat = m + 1 by omega]
        exact (els_take he a.toNat (by omega)).app (Els.made te.zs hz _)

/-- v[:b], v a row of one's own -/
theorem St.cutRow {G : GH} (h : St H0 w0 H w l) (te : TE P t e k z) {i : Nat} {cells : List Value} (hi : l[i]? = some (.row e k v n cells)) {xs ys : List A} (he : Els G En k cells xs) {b : Int} {kk : IntKind} (hc : Pu.cut xs 0 b = some ys) :
    ∃ v' n' cells', (∀ w, (Instr.slice t v Option.none (some (.int kk b)) Option.none).run P w = .ok v' w) ∧ St H0 w0 H w (l.set i (.row e k v' n' cells')) ∧ Els G En k cells' ys ∧ ((bl cells).Nodup → (bl cells').Nodup) := by
  obtain ⟨h0, h1, h2, rfl⟩ := cut_some hc
  have hn := h.row_n hi he te.kp
  obtain ⟨⟨g1, g2⟩, g3⟩ := h.ok i _ hi
  have hle : b.toNat * k ≤ n * k := Nat.mul_le_mul_right _ (by omega)
  have hels : Els G En k (cells.take (b.toNat * k)) (List.drop (Int.toNat 0) (List.take b.toNat xs)) := by
    simpa using els_take he b.toNat (by omega)
  have hnd : (bl cells).Nodup → (bl (cells.take (b.toNat * k))).Nodup := fun h => h.sublist ((List.take_sublist _ _).filterMap _)
  have hone : ∀ u ∈ cells.take (b.toNat * k), u.oneCell' = true := fun u hu => g3 u (List.mem_of_mem_take hu)
  rcases g2 with ⟨rfl, h3⟩ | ⟨g, cap, cur, rfl, hg, hh, hlc, hcm, hsz, htk⟩
  · have hb0 : b.toNat = 0 := by omega
    have hr : ∀ w, (Instr.slice t (.slice Option.none 0 0) Option.none (some (.int kk b)) Option.none).run P w = .ok (.slice Option.none 0 0) w := fun w => by
      have := run_slice_ab (w := w) te (a := Option.none) (len := 0) (cap := 0) (p := 0) (q := b) (Int.le_refl 0) (by omega) (by omega) (.inl ⟨rfl, rfl⟩) (.inr ⟨kk, rfl⟩)
      simpa [hb0] using this
    refine ⟨_, b.toNat, _, hr, ?_, hels, hnd⟩
    rw [show .slice Option.none 0 0 = Value.slice Option.none 0 0 from rfl]
    refine h.upd hi ⟨rfl, rfl, rfl, Nat.le_refl _, fun _ _ _ => rfl⟩ (Nat.le_refl _) ⟨⟨?_, .inl ⟨rfl, hb0⟩⟩, hone⟩ (fun b hb => .inl hb)
    rw [List.length_take, g1]; omega
  · have hr : ∀ w, (Instr.slice t (.slice (some ⟨g, 0, Option.none⟩) n cap) Option.none (some (.int kk b)) Option.none).run P w = .ok (.slice (some ⟨g, 0, Option.none⟩) b.toNat cap) w := fun w => by
      have := run_slice_ab (w := w) te (a := some ⟨g, 0, Option.none⟩) (len := n) (cap := cap) (p := 0) (q := b) (Int.le_refl 0) (by omega) (by omega) (.inl ⟨rfl, rfl⟩) (.inr ⟨kk, rfl⟩)
      simpa [Addr.add_lit] using this
    refine ⟨_, b.toNat, _, hr, ?_, hels, hnd⟩
    refine h.upd hi ⟨rfl, rfl, rfl, Nat.le_refl _, fun _ _ _ => rfl⟩ (Nat.le_refl _) ⟨⟨?_, .inr ⟨g, cap, cur, rfl, hg, hh, by omega, hcm, hsz, ?_⟩⟩, hone⟩ (fun b hb => .inl hb)
    · rw [List.length_take, g1]; omega
    · rw [← htk, List.take_take, Nat.min_eq_left hle]

theorem St.selT {a L : List MO} (h : St H0 w0 H w (a ++ L)) (is : List Nat) (hnd : is.Nodup) {l' : List MO} (hl : is.map (a[·]?) = l'.map some) : St H0 w0 H w (l' ++ L) := by
  have hlen : is.length = l'.length := by simpa using congrArg List.length hl
  have key : ∀ (j : Nat) (o : MO), l'[j]? = some o → ∃ i, is[j]? = some i ∧ a[i]? = some o := by
    intro j o hj
    have h1 : (l'.map some)[j]? = some (some o) := by simp [hj]
    rw [← hl, List.getElem?_map] at h1
    cases hi : is[j]? with
    | none => rw [hi] at h1; cases h1
    | some i => rw [hi] at h1; exact ⟨i, rfl, by simpa using h1⟩
  refine h.reidx _ (fun j => if j < l'.length then is.getD j 0 else a.length + (j - l'.length)) (fun j o hj => ?_) (fun j j' h1 h2 he => ?_)
  · by_cases hlt : j < l'.length
    · rw [List.getElem?_append_left hlt] at hj
      obtain ⟨i, g1, g2⟩ := key j o hj
      have : is.getD j 0 = i := by rw [List.getD_eq_getElem?_getD, g1]; rfl
      rw [if_pos hlt, this, List.getElem?_append_left (List.getElem?_eq_some_iff.1 g2).1]; exact g2
    · rw [List.getElem?_append_right (by omega)] at hj
      rw [if_neg hlt, List.getElem?_append_right (by omega)]
      simpa using hj
  · have small : ∀ j, j < l'.length → is.getD j 0 < a.length := fun j hlt => by
      obtain ⟨i, g1, g2⟩ := key j l'[j] (by simp [hlt])
      have : is.getD j 0 = i := by rw [List.getD_eq_getElem?_getD, g1]; rfl
      rw [this]; exact (List.getElem?_eq_some_iff.1 g2).1
    by_cases a1 : j < l'.length <;> by_cases a2 : j' < l'.length <;> simp only [a1, a2, if_true, if_false] at he
    · have e1 : is[j]'(by omega) = is[j']'(by omega) := by
        have x1 : is.getD j 0 = is[j]'(by omega) := by rw [List.getD_eq_getElem?_getD, List.getElem?_eq_getElem (by omega)]; rfl
        have x2 : is.getD j' 0 = is[j']'(by omega) := by rw [List.getD_eq_getElem?_getD, List.getElem?_eq_getElem (by omega)]; rfl
        rw [← x1, ← x2]; exact he
      exact (List.getElem_inj hnd).1 e1
    · have := small j a1; omega
    · have := small j' a2; omega
    · omega
theorem E.clear {f : Fm} {x : Operand} {d : Option Tmp} {ty : TypeId} {pos : String} {aft : Array Edge} {gd : Option (Nat × Bool)} (hx : ev f x = v) (hr : ∀ ty, (Builtin.clear_ #[t] ty #[v]).run P w = .ok (.tuple #[]) w') :
    (execOp (ev f) ⟨d, .call ⟨.builtin .clear, #[x], #[t]⟩, ty, pos, aft, gd⟩).run P w = .ok (.value (.tuple #[])) w' := by
  simp [execOp, resolve, invoke, builtin, hx, hr]
end
end Go.Mr
