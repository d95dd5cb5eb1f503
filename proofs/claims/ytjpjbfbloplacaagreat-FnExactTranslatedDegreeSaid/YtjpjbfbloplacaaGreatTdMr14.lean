/- Marks: fresh sealed data whose cells are written, element by element; spans of fresh blocks. -/
import Derived.Test.YtjpjbfbloplacaaGreatTdMr13
namespace Go.Mr
open Go.RowKit Go.Pu

section
variable {P : Program} {w w' : World} {H0 H H' Hs : GH} {w0 : World} {l : List MO} {t e k : Nat} {v u : Value} {A : Type} {En : Enc A} {B lo hi : Nat}

def sg (lo hi : Nat) (H : GH) : GH := fun b => if b < hi then up lo H b else none
theorem sg_iff {b : Nat} {o : Obj} : sg lo hi H b = some o ↔ lo ≤ b ∧ b < hi ∧ H b = some o ∧ okO o = true := by
  unfold sg
  split
  · rename_i h; rw [up_iff]; constructor
    · rintro ⟨a, b, c⟩; exact ⟨a, h, b, c⟩
    · rintro ⟨a, _, b, c⟩; exact ⟨a, b, c⟩
  · rename_i h; constructor
    · nofun
    · rintro ⟨_, a, _⟩; exact absurd a h
theorem sgI : Inc (sg lo hi H) H := fun _ _ h => (sg_iff.1 h).2.2.1
theorem sg_of (h : Sl H w) : Inc (up lo H) (sg lo w.heap.size H) := fun b o hb => by
  obtain ⟨a, c, d⟩ := up_iff.1 hb
  exact sg_iff.2 ⟨a, (Array.getElem?_eq_some_iff.1 (h _ _ c)).1, c, d⟩
theorem Nest.mono {G G' : GH} {xs : List A} {c : List Value} (h : Nest G En k v xs c) (hi : Inc G G') : Nest G' En k v xs c :=
  ⟨h.1.mono hi, h.2.1.mono hi, fun a len cap hv hne => (h.2.2.1 a len cap hv hne).mono hi, h.2.2.2⟩
theorem Nest.rsl {G : GH} {xs : List A} {c : List Value} (h : Nest G En k v xs c) : RSl G En k v xs := h.1
structure Wr (Hs H : GH) (p : Addr) (ci ci' : List Value) : Prop where
  out : ∀ b, b ≠ p.block → b ∉ bl ci → H b = Hs b
  arr : ∃ arr arr' e, Hs p.block = some (.cells arr e (0, 0)) ∧ H p.block = some (.cells arr' e (0, 0)) ∧ arr'.size = arr.size ∧ (∀ (j : Nat) u, ci'[j]? = some u → arr'[p.off + j]? = some u) ∧
    ∀ j, j < p.off ∨ p.off + ci.length ≤ j → arr'[j]? = arr[j]?
  len : ci'.length = ci.length
  spot : p.spot = none
  blk : bl ci' = bl ci
  own : p.block ∉ bl ci

theorem addr_eta {p : Addr} (h : p.spot = none) (j : Nat) : p.add j = ⟨p.block, p.off + j, none⟩ := by
  unfold Addr.add
  split
  · rename_i h0; subst h0; cases p; simp_all
  · rfl
@[reducible] def M1 (H0 : GH) (w0 : World) (Ha : GH) (l : List MO) {A : Type} (En : Enc A) (k : Nat) (v : Value) (r : List A × Int) : Ending → World → Prop := fun e w' =>
  ∃ H' : GH, e = .returned (.int .i64 r.2) ∧ St H0 w0 H' w' l ∧ RSl (up w0.heap.size H') En k v r.1 ∧ ∀ b, b ∉ bl [v] → H' b = Ha b
@[reducible] def M2 (H0 : GH) (w0 : World) (Ha : GH) (l : List MO) {A : Type} (En : Enc A) (k : Nat) (v : Value) (c0 : List Value) (r : List A × Int) : Ending → World → Prop := fun e w' =>
  ∃ (H' : GH) (c' : List Value), e = .returned (.int .i64 r.2) ∧ St H0 w0 H' w' l ∧ Nest (up w0.heap.size H') En k v r.1 c' ∧ bl c' = bl c0 ∧ ∀ b, b ∉ bl [v] → b ∉ bl c0 → ∀ o, Ha b = some o → H' b = some o
theorem Nest.nil {G : GH} : Nest G En k (.slice Option.none 0 0) [] [] := ⟨RSl.nil _ _ _, .nil, (fun _ _ _ hv => by cases hv), List.nodup_nil, fun _ _ h => by cases h⟩

theorem St.boxB (h : St H0 w0 H w l) (t : TypeId) (cs : List Value) {v : Value} (hv : v.cells = cs.toArray) (h1 : ∀ u ∈ cs, u.oneCell' = true) :
    ∃ w1, (Instr.box t v).run P w = .ok (.pointer (some ⟨w.heap.size, 0, Option.none⟩)) w1 ∧ St H0 w0 H w1 (.box w.heap.size t cs :: l) ∧ w1.heap.size = w.heap.size + 1 := by
  refine ⟨w.alloc (.cells cs.toArray t (0, 0)), by simp [Instr.box, newVar, newRow, hv], ?_, by simp⟩
  refine h.push _ _ ⟨heap_alloc_new w _, h.size, h1⟩ ?_
  intro b hb; simpa [MO.blk] using hb.symm
theorem St.allocB {z : Value} (h : St H0 w0 H w l) (t : TypeId) (cs : List Value) (hz : ∀ w, (zeroValue t).run P w = .ok z w) (hv : z.cells = cs.toArray) (h1 : ∀ u ∈ cs, u.oneCell' = true) :
    ∃ w1, (Instr.alloc t true (.tuple #[])).run P w = .ok (.pointer (some ⟨w.heap.size, 0, Option.none⟩)) w1 ∧ St H0 w0 H w1 (.box w.heap.size t cs :: l) ∧ w1.heap.size = w.heap.size + 1 := by
  refine ⟨w.alloc (.cells cs.toArray t (0, 0)), by simp [Instr.alloc, hz, newVar, newRow, hv], ?_, by simp⟩
  refine h.push _ _ ⟨heap_alloc_new w _, h.size, h1⟩ ?_
  intro b hb; simpa [MO.blk] using hb.symm
theorem St.store0B (h : St H0 w0 H w l) {i b t0 n : Nat} {cs cs' c : List Value} {l' : List MO} {v : Value} (hi : l[i]? = some (.box b t0 cs)) (ts : ∀ w, (sizeOf t).run P w = .ok n w)
    (hv : v.cells = c.toArray) (hcn : c.length = n) (h1' : ∀ u ∈ c, u.oneCell' = true) (hj : n ≤ cs.length) (hcs' : c ++ cs.drop n = cs') (hl : l.set i (.box b t0 cs') = l') :
    ∃ w1, (Instr.storeAt t (.pointer (some ⟨b, 0, Option.none⟩)) v).run P w = .ok () w1 ∧ St H0 w0 H w1 l' ∧ w1.heap.size = w.heap.size := by
  subst hl
  have hn : v.cells.size = n := by rw [hv]; simpa using hcn
  have h1 : ∀ u ∈ v.cells.toList, u.oneCell' = true := by rw [hv]; exact h1'
  have hcs : cs.take 0 ++ v.cells.toList ++ cs.drop (0 + n) = cs' := by rw [hv]; simpa using hcs'
  obtain ⟨g1, g2, g3⟩ := h.ok i _ hi
  have hst := run_storeCells_at P b 0 t0 v.cells.toList 0 cs.toArray w g1 (by simp [hn]; omega) h1
  simp only [Nat.add_zero, Array.length_toList, hn, hcs] at hst
  refine ⟨w.setRow b cs'.toArray, ?_, h.upd (o' := .box b t0 cs') hi (grownBy_setRow w b cs'.toArray) (Nat.le_refl _) ⟨setRow_heap w b _ _ _ _ g1, g2, ?_⟩ (fun c hc => .inl hc), by simp [World.setRow]⟩
  · simp [Instr.storeAt, Instr.sureAddr, storeVar, ts, hn, hst]
  · subst hcs
    intro u hu
    simp only [List.append_assoc, List.mem_append] at hu
    rcases hu with hu | hu | hu
    · exact g3 u (List.mem_of_mem_take hu)
    · exact h1 u hu
    · exact g3 u (List.mem_of_mem_drop hu)
theorem St.sealBoxB (h : St H0 w0 H w l) {i b t : Nat} {cs : List Value} {l' : List MO} (hi : l[i]? = some (.box b t cs)) (hl : l.eraseIdx i = l') :
    ∃ H1, St H0 w0 H1 w l' ∧ Inc H H1 ∧ CAt (sg b (b + 1) H1) ⟨b, 0, Option.none⟩ cs := by
  subst hl
  obtain ⟨H1, h1, h2, h3⟩ := h.sealed hi
  refine ⟨H1, h1, h2, ⟨cs.toArray, t, (0, 0), sg_iff.2 ⟨Nat.le_refl _, Nat.lt_succ_self _, h3 b _ rfl (h.ok i _ hi).1, rfl⟩, rfl, fun j c hc => by simpa using hc⟩⟩
end
end Go.Mr
