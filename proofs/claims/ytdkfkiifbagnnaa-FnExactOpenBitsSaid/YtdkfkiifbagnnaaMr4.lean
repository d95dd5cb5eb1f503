/- What the operations on memory come to. -/
import Derived.Test.YtdkfkiifbagnnaaMr3
import Derived.Laws.OwnMore
namespace Go.Mr
open Go.RowKit Go.Pu

/-- slice type t of elements e, k cells each, zero z -/
structure TE (P : Program) (t e k : Nat) (z : Value) : Prop where
  u : P.underlying t = some (.slice e)
  i : ∃ info, P.info? e = some info ∧ info.zero = some z ∧ info.size = k ∧ info.bytes ≤ 4096
  zs : z.cells.size = k
  kp : 0 < k
/-- field i of struct s lies at off -/
def TF (P : Program) (s i off : Nat) : Prop :=
  ∃ fields fd n, P.underlying s = some (.struct fields) ∧ fields[i]? = some fd ∧ fd.offset = off ∧ (∀ w, (sizeOf fd.type).run P w = .ok n w) ∧ n ≠ 0

section
variable {P : Program} {f : Fm} {w w' : World} {d : Option Tmp} {ty : TypeId} {pos : String} {aft : Array Edge} {gd : Option (Nat × Bool)} {x y : Operand} {v u : Value}
variable {H0 H H' : GH} {w0 : World} {l : List MO} {t e k n : Nat} {z : Value}

theorem E.load (hx : ev f x = u) (h : (Instr.loadAt t u).run P w = .ok v w) : (execOp (ev f) ⟨d, .load t x, ty, pos, aft, gd⟩).run P w = .ok (.value v) w := by
  subst hx; simp [execOp, h]
theorem E.store (hx : ev f x = u) (hy : ev f y = v) (h : (Instr.storeAt t u v).run P w = .ok () w') : (execOp (ev f) ⟨none, .store t x y, ty, pos, aft, gd⟩).run P w = .ok .skip w' := by
  subst hx hy; simp [execOp, h]
theorem E.alloc (h : (Instr.alloc t true (.tuple #[])).run P w = .ok v w') : (execOp (ev f) ⟨d, .alloc t, ty, pos, aft, gd⟩).run P w = .ok (.value v) w' := by
  simp [execOp, h]
theorem E.box (hx : ev f x = u) (h : (Instr.box t u).run P w = .ok v w') : (execOp (ev f) ⟨d, .box t x, ty, pos, aft, gd⟩).run P w = .ok (.value v) w' := by
  subst hx; simp [execOp, h]
theorem E.fieldAddr {i off : Nat} {p : Addr} (tf : TF P t i off) (hx : ev f x = .pointer (some p)) : (execOp (ev f) ⟨d, .fieldAddr t x i, ty, pos, aft, gd⟩).run P w = .ok (.value (.pointer (some (p.add off)))) w := by
  obtain ⟨fields, fd, n, h1, h2, h3, h4, h5⟩ := tf
  simp [execOp, hx, Instr.fieldAt, run_underlying h1, h2, Instr.sureAddr, fieldPlace, h4, h5, h3]
theorem E.field {i : Nat} {c : Value} {cs : List Value} (tf : ∃ fields fd, P.underlying t = some (.struct fields) ∧ fields[i]? = some fd ∧ (∀ w, (isAgg fd.type).run P w = .ok false w) ∧ cs[fd.offset]? = some c)
    (hx : ev f x = .agg cs.toArray) : (execOp (ev f) ⟨d, .field t x i, ty, pos, aft, gd⟩).run P w = .ok (.value c) w := by
  obtain ⟨fields, fd, h1, h2, h3, h4⟩ := tf
  simp [execOp, hx, Instr.field, run_underlying h1, h2, asAgg, part, h3, h4]
theorem E.fieldA {i n : Nat} {cs c : List Value} (tf : ∃ fields fd, P.underlying t = some (.struct fields) ∧ fields[i]? = some fd ∧ (∀ w, (isAgg fd.type).run P w = .ok true w) ∧ (∀ w, (sizeOf fd.type).run P w = .ok n w) ∧ (cs.drop fd.offset).take n = c)
    (hx : ev f x = .agg cs.toArray) : (execOp (ev f) ⟨d, .field t x i, ty, pos, aft, gd⟩).run P w = .ok (.value (.agg c.toArray)) w := by
  obtain ⟨fields, fd, h1, h2, h3, h4, h5⟩ := tf
  subst h5
  simp [execOp, hx, Instr.field, run_underlying h1, h2, asAgg, part, h3, h4]

theorem run_isAgg_slice {t e : TypeId} (h : P.underlying t = some (.slice e)) : (isAgg t).run P w = .ok false w := by simp [isAgg, run_underlying h]

theorem run_load1 {p : Addr} {j : Nat} {cs : List Value} {c : Value} (ta : ∀ w, (isAgg t).run P w = .ok false w) (hw : WAt w p cs) (hc : cs[j]? = some c) :
    (Instr.loadAt t (.pointer (some (p.add j)))).run P w = .ok c w := by
  simp [Instr.loadAt, Instr.sureAddr, loadVar, ta, hw j c hc]
theorem run_load0 {p : Addr} {cs : List Value} {c : Value} (ta : ∀ w, (isAgg t).run P w = .ok false w) (hw : WAt w p cs) (hc : cs[0]? = some c) :
    (Instr.loadAt t (.pointer (some p))).run P w = .ok c w := by
  have := run_load1 (P := P) ta hw hc
  rwa [Addr.add_zero'] at this
theorem run_loadA {p : Addr} {cs : List Value} (ta : ∀ w, (isAgg t).run P w = .ok true w) (ts : ∀ w, (sizeOf t).run P w = .ok n w) (hw : WAt w p cs) (hn : cs.length = n) :
    (Instr.loadAt t (.pointer (some p))).run P w = .ok (.agg cs.toArray) w := by
  subst hn
  simp [Instr.loadAt, Instr.sureAddr, loadVar, ta, ts, run_loadCells_list w p cs hw]
theorem WAt.sub {p : Addr} {cs c : List Value} {j n : Nat} (hw : WAt w p cs) (h : (cs.drop j).take n = c) : WAt w (p.add j) c := by
  subst h
  intro i u hu
  rw [List.getElem?_take] at hu
  split at hu
  · rw [List.getElem?_drop] at hu
    have := hw (j + i) u hu
    have e : (p.add j).add i = p.add (j + i) := by
      unfold Addr.add
      by_cases hj : j = 0 <;> by_cases hi : i = 0 <;> simp [hj, hi, Nat.add_assoc]
    rw [e]; exact this
  · cases hu

theorem St.box_now (h : St H0 w0 H w l) {i b t : Nat} {cs : List Value} (hi : l[i]? = some (.box b t cs)) : WAt w ⟨b, 0, none⟩ cs := by
  obtain ⟨h1, _, _⟩ := h.ok i _ hi
  intro j c hc
  rw [Addr.add_lit, Nat.zero_add, cell_of_row w b j _ _ _ h1]
  simpa using hc

theorem St.box (h : St H0 w0 H w l) (t : TypeId) (cs : List Value) {v : Value} (hv : v.cells = cs.toArray) (h1 : ∀ u ∈ cs, u.oneCell' = true) :
    ∃ b w1, (Instr.box t v).run P w = .ok (.pointer (some ⟨b, 0, none⟩)) w1 ∧ St H0 w0 H w1 (.box b t cs :: l) := by
  refine ⟨w.heap.size, w.alloc (.cells cs.toArray t (0, 0)), by simp [Instr.box, newVar, newRow, hv], ?_⟩
  refine h.push _ _ ⟨heap_alloc_new w _, h.size, h1⟩ ?_
  intro b hb; simpa [MO.blk] using hb.symm
theorem St.alloc (h : St H0 w0 H w l) (t : TypeId) (cs : List Value) (hz : ∀ w, (zeroValue t).run P w = .ok z w) (hv : z.cells = cs.toArray) (h1 : ∀ u ∈ cs, u.oneCell' = true) :
    ∃ b w1, (Instr.alloc t true (.tuple #[])).run P w = .ok (.pointer (some ⟨b, 0, none⟩)) w1 ∧ St H0 w0 H w1 (.box b t cs :: l) := by
  refine ⟨w.heap.size, w.alloc (.cells cs.toArray t (0, 0)), by simp [Instr.alloc, hz, newVar, newRow, hv], ?_⟩
  refine h.push _ _ ⟨heap_alloc_new w _, h.size, h1⟩ ?_
  intro b hb; simpa [MO.blk] using hb.symm

theorem grownBy_setRow (w : World) (g : Nat) (cs : Array Value) : w.grownBy (w.setRow g cs) (some g) :=
  ⟨rfl, rfl, rfl, by simp [World.setRow], fun k _ hk => setRow_other w g k _ (fun e => hk (by rw [e]))⟩

/-- a store into a variable's block -/
theorem St.store (h : St H0 w0 H w l) {i b t0 j n : Nat} {cs cs' c : List Value} {l' : List MO} {v : Value} (hi : l[i]? = some (.box b t0 cs)) (ts : ∀ w, (sizeOf t).run P w = .ok n w)
    (hv : v.cells = c.toArray) (hcn : c.length = n) (h1' : ∀ u ∈ c, u.oneCell' = true) (hj : j + n ≤ cs.length) (hcs' : cs.take j ++ c ++ cs.drop (j + n) = cs') (hl : l.set i (.box b t0 cs') = l') :
    ∃ w1, (Instr.storeAt t (.pointer (some (Addr.add ⟨b, 0, none⟩ j))) v).run P w = .ok () w1 ∧ St H0 w0 H w1 l' := by
  subst hl
  have hn : v.cells.size = n := by rw [hv]; simpa using hcn
  have h1 : ∀ u ∈ v.cells.toList, u.oneCell' = true := by rw [hv]; exact h1'
  have hcs : cs.take j ++ v.cells.toList ++ cs.drop (j + n) = cs' := by rw [hv]; exact hcs'
  obtain ⟨g1, g2, g3⟩ := h.ok i _ hi
  have hst := run_storeCells_at P b j t0 v.cells.toList 0 cs.toArray w g1 (by simp [hn]; omega) h1
  simp only [Nat.add_zero, Array.length_toList, hn, hcs] at hst
  refine ⟨w.setRow b cs'.toArray, ?_, h.upd (o' := .box b t0 cs') hi (grownBy_setRow w b cs'.toArray) (Nat.le_refl _) ⟨setRow_heap w b _ _ _ _ g1, g2, ?_⟩ (fun c hc => .inl hc)⟩
  · simp only [Addr.add_lit, Nat.zero_add]
    simp [Instr.storeAt, Instr.sureAddr, storeVar, ts, hn, hst]
  · subst hcs
    intro u hu
    simp only [List.append_assoc, List.mem_append] at hu
    rcases hu with hu | hu | hu
    · exact g3 u (List.mem_of_mem_take hu)
    · exact h1 u hu
    · exact g3 u (List.mem_of_mem_drop hu)
theorem St.store0 (h : St H0 w0 H w l) {i b t0 n : Nat} {cs cs' c : List Value} {l' : List MO} {v : Value} (hi : l[i]? = some (.box b t0 cs)) (ts : ∀ w, (sizeOf t).run P w = .ok n w)
    (hv : v.cells = c.toArray) (hcn : c.length = n) (h1 : ∀ u ∈ c, u.oneCell' = true) (hj : n ≤ cs.length) (hcs : c ++ cs.drop n = cs') (hl : l.set i (.box b t0 cs') = l') :
    ∃ w1, (Instr.storeAt t (.pointer (some ⟨b, 0, none⟩)) v).run P w = .ok () w1 ∧ St H0 w0 H w1 l' := by
  obtain ⟨w1, h2, h3⟩ := h.store (P := P) (t := t) (j := 0) hi ts hv hcn h1 (by omega) (cs' := cs') (by simpa using hcs) hl
  rw [Addr.add_zero'] at h2
  exact ⟨w1, h2, h3⟩

/-- a variable that is written no more -/
theorem St.sealBox (h : St H0 w0 H w l) {i b t : Nat} {cs : List Value} {l' : List MO} (hi : l[i]? = some (.box b t cs)) (hl : l.eraseIdx i = l') :
    ∃ H1, St H0 w0 H1 w l' ∧ Inc H H1 ∧ CAt H1 ⟨b, 0, none⟩ cs := by
  subst hl
  obtain ⟨H1, h1, h2, h3⟩ := h.sealed hi
  refine ⟨H1, h1, h2, ⟨cs.toArray, t, (0, 0), h3 b _ rfl (h.ok i _ hi).1, rfl, fun j c hc => by simpa using hc⟩⟩

/-! rows -/
theorem MO.ok.row_ln {B : Nat} {v : Value} {cells : List Value} (h : (MO.row e k v n cells).ok B w) : Ln v n := by
  rcases h.1.2 with ⟨rfl, rfl⟩ | ⟨g, cap, cur, rfl, _⟩
  · exact ⟨none, 0, rfl⟩
  · exact ⟨_, cap, rfl⟩
theorem St.row_ln (h : St H0 w0 H w l) {i : Nat} {v : Value} {cells : List Value} (hi : l[i]? = some (.row e k v n cells)) : Ln v n := (h.ok i _ hi).row_ln

theorem E.len {t : TypeId} {e : TypeId} {z : Value} {k : Nat} (te : TE P t e k z) (hx : ev f x = v) (hl : Ln v n) : (execOp (ev f) ⟨d, .call ⟨.builtin .len, #[x], #[t]⟩, ty, pos, aft, gd⟩).run P w = .ok (.value (.int .i64 n)) w := by
  obtain ⟨a, c, rfl⟩ := hl
  simp [execOp, resolve, invoke, builtin, Builtin.len_, hx, run_underlying te.u, goInt]
theorem E.lenP {α : Type} {En : Enc α} {xs : List α} {t e k' : Nat} {z : Value} (te : TE P t e k z) (hx : ev f x = v) (hl : RSl H En k' v xs) :
    (execOp (ev f) ⟨d, .call ⟨.builtin .len, #[x], #[t]⟩, ty, pos, aft, gd⟩).run P w = .ok (.value (.int .i64 (Pu.len xs))) w := E.len te hx hl.ln

theorem E.indexAddr {t e : Nat} {z : Value} {kk : IntKind} {i : Int} {p : Addr} (te : TE P t e k z) (hx : ev f x = v) (hy : ev f y = .int kk i) (hp : PtrOf k v i p) :
    (execOp (ev f) ⟨d, .indexAddr t x y, ty, pos, aft, gd⟩).run P w = .ok (.value (.pointer (some p))) w := by
  obtain ⟨a, len, cap, rfl, h0, h1, rfl⟩ := hp
  obtain ⟨info, hi, _, hsz, _⟩ := te.i
  simp [execOp, hx, hy, Instr.indexAt, asIntOf, run_underlying te.u, h0, h1, sizeOf, typeInfo, hi, hsz]

/-- a source of an append -/
def Src (w : World) (k : Nat) (v : Value) (m : Nat) (news : List Value) : Prop :=
  (∃ ad c, v = .slice (some ad) m c ∧ news.length = m * k ∧ ∀ (j : Nat) u, news[j]? = some u → w.cell? (ad.add j) = some u) ∨ (v = .slice none 0 0 ∧ m = 0 ∧ news = [])

theorem St.row_src (h : St H0 w0 H w l) {i : Nat} {v : Value} {cells : List Value} (hi : l[i]? = some (.row e k v n cells)) : Src w k v n cells := by
  obtain ⟨⟨h1, h2⟩, _⟩ := h.ok i _ hi
  rcases h2 with ⟨rfl, rfl⟩ | ⟨g, cap, cur, rfl, hg, hh, hle, _, hsz, htk⟩
  · exact .inr ⟨rfl, rfl, by simpa using h1⟩
  · refine .inl ⟨_, cap, rfl, h1, fun j u hu => ?_⟩
    rw [Addr.add_lit, Nat.zero_add, cell_of_row w g j _ _ _ hh]
    rw [← htk, List.getElem?_take] at hu
    split at hu
    · simpa using hu
    · cases hu

theorem RSl.els {α : Type} {E : Enc α} {v : Value} {xs : List α} (h : RSl H E k v xs) (hs : Sl H w) : ∃ news, Els H E k news xs ∧ (∀ u ∈ news, u.oneCell' = true) ∧
    ∀ a len cap, v = .slice (some a) len cap → ∀ (j : Nat) u, news[j]? = some u → w.cell? (a.add j) = some u := by
  obtain ⟨a, cap, rfl, _, h3⟩ := h
  have key : ∀ n, n ≤ xs.length → ∃ news, Els H E k news (xs.take n) ∧ (∀ u ∈ news, u.oneCell' = true) ∧ ∀ a', a = some a' → ∀ (j : Nat) u, news[j]? = some u → w.cell? (a'.add j) = some u := by
    intro n
    induction n with
    | zero => intro _; exact ⟨[], by simpa using Els.nil, by simp, by simp⟩
    | succ n ih =>
      intro hn
      obtain ⟨news, h1, h1b, h2⟩ := ih (by omega)
      have hlt : n < xs.length := by omega
      obtain ⟨p, cs, rfl, g2, g3, g4⟩ := h3 n xs[n] (List.getElem?_eq_getElem hlt)
      refine ⟨news ++ cs, ?_, ?_, ?_⟩
      · rw [List.take_succ_eq_append_getElem hlt]
        exact .snoc h1 g2 g4
      · intro u hu
        rcases List.mem_append.1 hu with hu | hu
        · exact h1b u hu
        · exact E.one g4 u hu
      · rintro _ ⟨⟩ j u hu
        have hl := h1.length
        rw [List.length_take, Nat.min_eq_left (by omega)] at hl
        rcases Nat.lt_or_ge j news.length with hj | hj
        · rw [List.getElem?_append_left hj] at hu; exact h2 _ rfl j u hu
        · rw [List.getElem?_append_right hj, hl] at hu
          have := g3.now hs (j - n * k) u hu
          rw [show (p.add (n * k)).add (j - n * k) = p.add j by
            rw [hl] at hj
            unfold Addr.add
            by_cases c1 : n * k = 0
            · simp [c1]
            · by_cases c2 : j - n * k = 0
              · have : j = n * k := by omega
                subst this; simp [c1]
              · have : j ≠ 0 := by omega
                simp [c1, c2, this]; omega] at this
          exact this
  obtain ⟨news, h1, h1b, h2⟩ := key xs.length (Nat.le_refl _)
  rw [List.take_length] at h1
  exact ⟨news, h1, h1b, fun a' len' cap' e => by cases e; exact h2 a' rfl⟩

theorem RSl.src {α : Type} {E : Enc α} {v : Value} {xs : List α} (h : RSl H E k v xs) (hs : Sl H w) : ∃ news, Els H E k news xs ∧ (∀ u ∈ news, u.oneCell' = true) ∧ Src w k v xs.length news := by
  obtain ⟨news, h1, h1b, h2⟩ := h.els hs
  refine ⟨news, h1, h1b, ?_⟩
  obtain ⟨a, cap, rfl, h0, h3⟩ := h
  cases a with
  | none =>
    have h0 := h0.2.1 rfl
    subst h0
    have : xs = [] := by
      cases xs with
      | nil => rfl
      | cons x xs => obtain ⟨p, cs, hp, _⟩ := h3 0 x rfl; cases hp
    subst this
    exact .inr ⟨rfl, rfl, by simpa using h1.length⟩
  | some a => exact .inl ⟨a, cap, rfl, h1.length, h2 a _ _ rfl⟩
end
end Go.Mr
