/- Parts of slices, rows read and written, sealing, what a call hands back, loops. -/
import Derived.Test.YtdkfkiifbagnnaaMr5
namespace Go.Mr
open Go.RowKit Go.Pu

section
variable {P : Program} {f : Fm} {w w' : World} {d : Option Tmp} {ty : TypeId} {pos : String} {aft : Array Edge} {gd : Option (Nat × Bool)} {x y : Operand} {v u : Value}
variable {H0 H H' : GH} {w0 : World} {l : List MO} {t e k n : Nat} {z : Value}

/-! x[a:b] -/
theorem E.slice {lo hi mx : Option Operand} {a b : Option Value} (te : TE P t e k z) (hx : ev f x = u) (ha : lo.map (ev f) = a) (hb : hi.map (ev f) = b) (hm : mx = none) (hr : (Instr.slice t u a b none).run P w = .ok v w') :
    (execOp (ev f) ⟨d, .slice t x lo hi mx, ty, pos, aft, gd⟩).run P w = .ok (.value v) w' := by
  subst hx ha hb hm; simp [execOp, Instr.sliceAt, run_underlying te.u, hr]

theorem run_slice_ab (te : TE P t e k z) {a : Option Addr} {len cap : Nat} {p q : Int} {lo hi : Option Value} (h0 : 0 ≤ p) (h1 : p ≤ q) (h2 : q ≤ cap)
    (hlo : (lo = none ∧ p = 0) ∨ ∃ kk, lo = some (.int kk p)) (hhi : (hi = none ∧ q = len) ∨ ∃ kk, hi = some (.int kk q)) :
    (Instr.slice t (.slice a len cap) lo hi none).run P w = .ok (.slice (if cap = p.toNat then a else a.map (·.add (p.toNat * k))) (q.toNat - p.toNat) (cap - p.toNat)) w := by
  obtain ⟨info, hi', _, hsz, _⟩ := te.i
  rcases hlo with ⟨rfl, rfl⟩ | ⟨kk, rfl⟩ <;> rcases hhi with ⟨rfl, rfl⟩ | ⟨kk', rfl⟩
  · simp [Instr.slice, run_underlying te.u, Instr.sliceBounds, sizeOf, typeInfo, hi']
  · have : (0 : Int) ≤ q := h1
    simp [Instr.slice, run_underlying te.u, Instr.sliceBounds, Instr.sliceBound, asIntOf, sizeOf, typeInfo, hi', this, h2]
  · simp [Instr.slice, run_underlying te.u, Instr.sliceBounds, Instr.sliceBound, asIntOf, sizeOf, typeInfo, hi', hsz, h0, h1]
  · have hq : (0 : Int) ≤ q := by omega
    obtain ⟨q, rfl⟩ := Int.eq_ofNat_of_zero_le hq
    have h2' : q ≤ cap := by omega
    simp [Instr.slice, run_underlying te.u, Instr.sliceBounds, Instr.sliceBound, asIntOf, sizeOf, typeInfo, hi', hsz, h0, h2', h1]

theorem cut_some {α : Type} {xs ys : List α} {a b : Int} (h : cut xs a b = some ys) : 0 ≤ a ∧ a ≤ b ∧ b ≤ xs.length ∧ ys = (xs.take b.toNat).drop a.toNat := by
  unfold Pu.cut at h
  split at h
  · rename_i h0; cases h; exact ⟨h0.1, h0.2.1, h0.2.2, rfl⟩
  · cases h

theorem RSl.cut {α : Type} {En : Enc α} {v : Value} {xs ys : List α} (h : RSl H En k v xs) (te : TE P t e k z) {a b : Int} (hc : Pu.cut xs a b = some ys) {lo hi : Option Value}
    (hlo : (lo = none ∧ a = 0) ∨ ∃ kk, lo = some (.int kk a)) (hhi : (hi = none ∧ b = (xs.length : Int)) ∨ ∃ kk, hi = some (.int kk b)) :
    ∃ v', (∀ w, (Instr.slice t v lo hi none).run P w = .ok v' w) ∧ RSl H En k v' ys := by
  obtain ⟨p, cap, rfl, ⟨g1, g2, g3⟩, g4⟩ := h
  obtain ⟨h0, h1, h2, rfl⟩ := cut_some hc
  refine ⟨_, fun w => run_slice_ab te h0 h1 (by omega) hlo hhi, if cap = a.toNat then p else p.map (·.add (a.toNat * k)), cap - a.toNat, ?_, ⟨?_, ?_, ?_⟩, ?_⟩
  · have : (List.drop a.toNat (List.take b.toNat xs)).length = b.toNat - a.toNat := by
      rw [List.length_drop, List.length_take, Nat.min_eq_left (by omega)]
    rw [this]
  · have : (List.drop a.toNat (List.take b.toNat xs)).length ≤ xs.length := by
      rw [List.length_drop, List.length_take]; omega
    omega
  · intro hn
    split at hn
    · rename_i hca; omega
    · cases p with
      | none => have := g2 rfl; omega
      | some p => cases hn
  · rw [List.length_drop, List.length_take]; omega
  · intro i x hx
    rw [List.getElem?_drop, List.getElem?_take] at hx
    split at hx
    · rename_i hlt
      obtain ⟨p', cs, rfl, k2, k3, k4⟩ := g4 _ _ hx
      have hne : cap ≠ a.toNat := by
        have := (List.getElem?_eq_some_iff.1 hx).1
        omega
      refine ⟨p'.add (a.toNat * k), cs, by rw [if_neg hne]; rfl, k2, ?_, k4⟩
      rw [addr_add_add, ← Nat.add_mul]; exact k3
    · cases hx

/-! rows read and written -/
theorem St.row_at {α : Type} {G : GH} {En : Enc α} {v : Value} {cells : List Value} {xs : List α} (h : St H0 w0 H w l) {i : Nat} (hi : l[i]? = some (.row e k v n cells)) (he : Els G En k cells xs) (hk : 0 < k)
    {j : Int} {x : α} (hx : ix xs j = some x) : ∃ p c, PtrOf k v j p ∧ c.length = k ∧ WAt w p c ∧ En.rel G c x := by
  obtain ⟨h0, h1, h2⟩ := ix_some hx
  obtain ⟨c, g1, g2, g3⟩ := he.get _ _ h2
  obtain ⟨⟨k1, k2⟩, _⟩ := h.ok i _ hi
  have hl := he.length
  have hn : n = xs.length := by
    rw [k1] at hl
    exact Nat.eq_of_mul_eq_mul_right hk hl
  rcases k2 with ⟨rfl, h3⟩ | ⟨g, cap, cur, rfl, hg, hh, hle, _, hsz, htk⟩
  · omega
  · refine ⟨_, c, ⟨⟨g, 0, none⟩, _, cap, rfl, h0, by omega, rfl⟩, g1, fun m u hu => ?_, g2⟩
    rw [addr_add_add, Addr.add_lit, Nat.zero_add, cell_of_row w g _ _ _ _ hh]
    have := g3 m u hu
    rw [← htk, List.getElem?_take] at this
    split at this
    · simpa using this
    · cases this

theorem Els.put {α : Type} {En : Enc α} {cells : List Value} {xs : List α} (h : Els H En k cells xs) {c : List Value} {x : α} (hc : c.length = k) (hx : En.rel H c x) :
    ∀ j, j < xs.length → Els H En k (cells.take (j * k) ++ c ++ cells.drop (j * k + k)) (xs.set j x) := by
  induction h with
  | nil => intro j hj; simp at hj
  | snoc hs hc0 hx0 ih =>
    rename_i cells xs c0 x0
    intro j hj
    have hl := hs.length
    rcases Nat.lt_or_ge j xs.length with hlt | hge
    · have := ih j hlt
      have hle : j * k + k ≤ cells.length := by
        rw [hl, show j * k + k = (j + 1) * k by rw [Nat.add_mul, Nat.one_mul]]; exact Nat.mul_le_mul_right _ hlt
      rw [List.take_append_of_le_length (by omega), List.drop_append_of_le_length hle, List.set_append_left _ _ hlt, ← List.append_assoc]
      exact .snoc this hc0 hx0
    · have : j = xs.length := by simp at hj; omega
      subst this
      rw [List.set_append_right _ _ (Nat.le_refl _), ← hl, List.take_left, List.drop_of_length_le (by simp [hc0])]
      simpa using Els.snoc hs hc hx

theorem St.putRow (h : St H0 w0 H w l) {i : Nat} {cells : List Value} (hi : l[i]? = some (.row e k v n cells)) {j : Int} {p : Addr} (hp : PtrOf k v j p)
    (ts : ∀ w, (sizeOf t).run P w = .ok k w) (hu : u.cells.size = k) (h1 : ∀ c ∈ u.cells.toList, c.oneCell' = true) {l' : MO → List MO} (hl : ∀ o, l.set i o = l' o) :
    ∃ w1, (Instr.storeAt t (.pointer (some p)) u).run P w = .ok () w1 ∧ St H0 w0 H w1 (l' (.row e k v n (cells.take (j.toNat * k) ++ u.cells.toList ++ cells.drop (j.toNat * k + k)))) := by
  obtain ⟨⟨k1, k2⟩, k3⟩ := h.ok i _ hi
  obtain ⟨a, len, cap, rfl, h0, hlt, rfl⟩ := hp
  rcases k2 with ⟨h3, _⟩ | ⟨g, cap', cur, hv, hg, hh, hle, hcm, hsz, htk⟩
  · cases h3
  · cases hv
    have hlt' : j.toNat < n := by omega
    have hmul : j.toNat * k + k ≤ n * k := by
      rw [show j.toNat * k + k = (j.toNat + 1) * k by rw [Nat.add_mul, Nat.one_mul]]; exact Nat.mul_le_mul_right _ hlt'
    have hmul2 : n * k ≤ cap * k := Nat.mul_le_mul_right _ hle
    have hst := run_storeCells_at P g (j.toNat * k) e u.cells.toList 0 cur w hh (by simp [hu]; omega) h1
    simp only [Nat.add_zero, Array.length_toList, hu] at hst
    refine ⟨w.setRow g (List.take (j.toNat * k) cur.toList ++ u.cells.toList ++ List.drop (j.toNat * k + k) cur.toList).toArray, ?_, ?_⟩
    · simp only [Addr.add_lit, Nat.zero_add]
      simp [Instr.storeAt, Instr.sureAddr, storeVar, ts, hu, hst]
    · rw [← hl]
      refine h.upd hi (grownBy_setRow w g _) (Nat.le_refl _) ⟨⟨?_, .inr ⟨g, cap, _, rfl, hg, setRow_heap w g _ _ _ _ hh, hle, hcm, ?_, ?_⟩⟩, ?_⟩ (fun b hb => .inl hb)
      · simp only [List.length_append, List.length_take, List.length_drop, Array.length_toList, hu, k1]; omega
      · simp only [List.size_toArray, List.length_append, List.length_take, List.length_drop, Array.length_toList, hu, hsz]; omega
      · simp only [List.append_assoc]
        rw [← htk, List.take_take, Nat.min_eq_left (by omega), List.take_append, List.take_take, List.length_take, Array.length_toList, hsz, Nat.min_eq_left (show j.toNat * k ≤ cap * k by omega), Nat.min_eq_right (show j.toNat * k ≤ n * k by omega),
          List.take_append, List.take_of_length_le (show u.cells.toList.length ≤ n * k - j.toNat * k by simp [hu]; omega), Array.length_toList, hu, List.drop_take]
        rw [show n * k - j.toNat * k - k = n * k - (j.toNat * k + k) by omega]
      · intro c hc
        simp only [List.append_assoc, List.mem_append] at hc
        rcases hc with hc | hc | hc
        · exact k3 c (List.mem_of_mem_take hc)
        · exact h1 c hc
        · exact k3 c (List.mem_of_mem_drop hc)

/-- a row that is written no more -/
theorem St.sealRow {α : Type} {En : Enc α} {xs : List α} (h : St H0 w0 H w l) {i : Nat} {cells : List Value} {l' : List MO} (hi : l[i]? = some (.row e k v n cells)) (he : Els H En k cells xs) (hk : 0 < k) (hl : l.eraseIdx i = l') :
    ∃ H1, St H0 w0 H1 w l' ∧ Inc H H1 ∧ RSl H1 En k v xs := by
  subst hl
  obtain ⟨H1, h1, h2, h3⟩ := h.sealed hi
  refine ⟨H1, h1, h2, ?_⟩
  obtain ⟨⟨k1, k2⟩, k3⟩ := h.ok i _ hi
  have hlen := he.length
  have hn : n = xs.length := by rw [k1] at hlen; exact Nat.eq_of_mul_eq_mul_right hk hlen
  subst hn
  rcases k2 with ⟨rfl, h4⟩ | ⟨g, cap, cur, rfl, hg, hh, hle, hcm, hsz, htk⟩
  · have : xs = [] := List.eq_nil_of_length_eq_zero h4
    subst this; exact RSl.nil _ _ _
  · refine ⟨_, cap, rfl, ⟨by omega, (fun e => by cases e), hle⟩, fun j x hx => ?_⟩
    obtain ⟨c, g1, g2, g3⟩ := he.get _ _ hx
    refine ⟨_, c, rfl, g1, ⟨cur, e, (0, 0), ?_, ?_, fun m u hu => ?_⟩, En.mono h2 g2⟩
    · rw [Addr.add_lit]; exact h3 g _ rfl hh
    · rw [Addr.add_lit]
    · rw [Addr.add_lit]
      have := g3 m u hu
      rw [← htk, List.getElem?_take] at this
      split at this
      · simpa using this
      · cases this

/-! what a call hands back -/
/-- a row of the callee's own becomes one of the caller's -/
theorem St.join (h : St H0 w0 H w l) {lo l' : List MO} (k : St H w H' w' lo) (hl : lo ++ l = l') : St H0 w0 H' w' l' := by
  subst hl
  have hc := h.call k.run
  have hlo : ∀ (i : Nat) (o : MO), lo[i]? = some o → ∀ b, o.blk = some b → w.heap.size ≤ b := fun i o hi b hb => ((k.ok i o hi).lt b hb).1
  have hold : ∀ (i : Nat) (o : MO), l[i]? = some o → ∀ b, o.blk = some b → b < w.heap.size := fun i o hi b hb => ((h.ok i o hi).lt b hb).2
  have cases : ∀ (i : Nat) (o : MO), (lo ++ l)[i]? = some o → (lo[i]? = some o ∧ i < lo.length) ∨ (l[i - lo.length]? = some o ∧ lo.length ≤ i) := by
    intro i o hi
    rcases Nat.lt_or_ge i lo.length with hlt | hge
    · rw [List.getElem?_append_left hlt] at hi; exact .inl ⟨hi, hlt⟩
    · rw [List.getElem?_append_right hge] at hi; exact .inr ⟨hi, hge⟩
  refine ⟨hc.run, fun i o hi => ?_, fun i o b hi hb => ?_, fun i j oi oj b hi hj h1 h2 => ?_⟩
  · rcases cases i o hi with ⟨hi, _⟩ | ⟨hi, _⟩
    · have := k.ok i o hi
      cases o with
      | rowo e k' v n cells =>
        obtain ⟨⟨a1, a2⟩, a3⟩ := this
        refine ⟨⟨a1, ?_⟩, a3⟩
        rcases a2 with a2 | ⟨g, off, cap, cur, r1, r2, r3⟩
        · exact .inl a2
        · exact .inr ⟨g, off, cap, cur, r1, Nat.le_trans h.size r2, r3⟩
      | row e k' v n cells =>
        obtain ⟨⟨a1, a2⟩, a3⟩ := this
        refine ⟨⟨a1, ?_⟩, a3⟩
        rcases a2 with a2 | ⟨g, cap, cur, r1, r2, r3⟩
        · exact .inl a2
        · exact .inr ⟨g, cap, cur, r1, Nat.le_trans h.size r2, r3⟩
      | box b t cs => exact ⟨this.1, Nat.le_trans h.size this.2.1, this.2.2⟩
      | raw b o => exact ⟨this.1, Nat.le_trans h.size this.2⟩
      | lb n => exact this
    · exact hc.ok _ o hi
  · rcases cases i o hi with ⟨hi, _⟩ | ⟨hi, _⟩
    · exact k.out i o b hi hb
    · exact hc.out _ o b hi hb
  · rcases cases i oi hi with ⟨hi, _⟩ | ⟨hi, hgi⟩ <;> rcases cases j oj hj with ⟨hj, _⟩ | ⟨hj, hgj⟩
    · exact k.dis i j oi oj b hi hj h1 h2
    · have := hlo i oi hi b h1; have := hold _ oj hj b h2; omega
    · have := hlo j oj hj b h2; have := hold _ oi hi b h1; omega
    · have := h.dis _ _ oi oj b hi hj h1 h2; omega

theorem Run.back {B : Nat} (h : Run B H w H' w') : Run B H w H w' := ⟨h.bel, fun _ _ => rfl, fun b o hb => h.sl b o (h.inc b o hb), Inc.rfl H, h.drw, fun _ _ h => .inl h⟩
theorem St.back (h : St H0 w0 H w l) : Run w0.heap.size H0 w0 H0 w := h.run.back
theorem St.none (h : St H0 w0 H w l) : St H0 w0 H w [] := ⟨h.run, by simp, by simp, by simp⟩

/-- a result that is a value, whatever else was made -/
def Sc (H : GH) (w : World) (v : Value) : Ending → World → Prop := fun e w' => e = .returned v ∧ Run w.heap.size H w H w'
/-- what holds of the result and of what the call has made -/
def Gv (R : Value → GH → World → Prop) : Ending → World → Prop := fun e w' => ∃ v H', e = .returned v ∧ R v H' w'
/-- a row of the call's own, with what it holds -/
def Own {α : Type} (H : GH) (w : World) (H' : GH) (w' : World) (e : TypeId) (k : Nat) (En : Enc α) (v : Value) (xs : List α) : Prop :=
  ∃ n cells, St H w H' w' [.row e k v n cells] ∧ Els H' En k cells xs
end
end Go.Mr
