/- A part of a row's element is written; results of several kinds; arrays of ints compared. -/
import Derived.Test.YtdkkikkmnfjgiaaGreatMr14
import Derived.Test.YtdkkikkmnfjgiaaGreatMr31
import Derived.ChangeKeysEq
import Derived.Laws.StructEq
set_option linter.unusedVariables false
namespace Go.Mr
open Go.RowKit Go.Pu
section
variable {P : Program} {H0 H : GH} {w0 w : World} {l : List MO} {e t : TypeId} {k n : Nat} {v u : Value}
theorem St.putRowAt (h : St H0 w0 H w l) {i : Nat} {cells : List Value} (hi : l[i]? = some (.row e k v n cells)) {j : Int} {p : Addr} (hp : PtrOf k v j p) {off m : Nat} (hom : off + m ≤ k)
    (ts : ∀ w, (sizeOf t).run P w = .ok m w) (hu : u.cells.size = m) (h1 : ∀ c ∈ u.cells.toList, c.oneCell' = true) {l' : MO → List MO} (hl : ∀ o, l.set i o = l' o) :
    ∃ w1, (Instr.storeAt t (.pointer (some (p.add off))) u).run P w = .ok () w1 ∧ St H0 w0 H w1 (l' (.row e k v n (cells.take (j.toNat * k + off) ++ u.cells.toList ++ cells.drop (j.toNat * k + off + m)))) := by
  obtain ⟨⟨k1, k2⟩, k3⟩ := h.ok i _ hi
  obtain ⟨a, len, cap, rfl, h0, hlt, rfl⟩ := hp
  rcases k2 with ⟨h3, _⟩ | ⟨g, cap', cur, hv, hg, hh, hle, hcm, hsz, htk⟩
  · cases h3
  · cases hv
    have hlt' : j.toNat < n := by omega
    have hmul : j.toNat * k + k ≤ n * k := by
      rw [show j.toNat * k + k = (j.toNat + 1) * k by rw [Nat.add_mul, Nat.one_mul]]; exact Nat.mul_le_mul_right _ hlt'
    have hmul2 : n * k ≤ cap * k := Nat.mul_le_mul_right _ hle
    generalize j.toNat * k = q at *
    have hst := run_storeCells_at P g (q + off) e u.cells.toList 0 cur w hh (by simp [hu]; omega) h1
    simp only [Nat.add_zero, Array.length_toList, hu] at hst
    refine ⟨w.setRow g (List.take (q + off) cur.toList ++ u.cells.toList ++ List.drop (q + off + m) cur.toList).toArray, ?_, ?_⟩
    · rw [addr_add_add]
      simp only [Addr.add_lit, Nat.zero_add]
      simp [Instr.storeAt, Instr.sureAddr, storeVar, ts, hu, hst]
    · rw [← hl]
      refine h.upd hi (grownBy_setRow w g _) (Nat.le_refl _) ⟨⟨?_, .inr ⟨g, cap, _, rfl, hg, setRow_heap w g _ _ _ _ hh, hle, hcm, ?_, ?_⟩⟩, ?_⟩ (fun b hb => .inl hb)
      · simp only [List.length_append, List.length_take, List.length_drop, Array.length_toList, hu, k1]; omega
      · simp only [List.size_toArray, List.length_append, List.length_take, List.length_drop, Array.length_toList, hu, hsz]; omega
      · simp only [List.append_assoc]
        rw [← htk, List.take_take, Nat.min_eq_left (by omega), List.take_append, List.take_take, List.length_take, Array.length_toList, hsz, Nat.min_eq_left (show q + off ≤ cap * k by omega), Nat.min_eq_right (show q + off ≤ n * k by omega),
          List.take_append, List.take_of_length_le (show u.cells.toList.length ≤ n * k - (q + off) by simp [hu]; omega), Array.length_toList, hu, List.drop_take]
        rw [show n * k - (q + off) - m = n * k - (q + off + m) by omega]
      · intro c hc
        simp only [List.append_assoc, List.mem_append] at hc
        rcases hc with hc | hc | hc
        · exact k3 c (List.mem_of_mem_take hc)
        · exact h1 c hc
        · exact k3 c (List.mem_of_mem_drop hc)
/-- the cells of an element are those that lie at its place -/
theorem St.cells_at (h : St H0 w0 H w l) {i : Nat} {cells : List Value} (hi : l[i]? = some (.row e k v n cells)) {j : Int} {p : Addr} (hp : PtrOf k v j p) {cs : List Value} (hcs : cs.length = k) (hc : WAt w p cs) :
    (cells.drop (j.toNat * k)).take k = cs ∧ j.toNat * k + k ≤ cells.length := by
  obtain ⟨⟨k1, k2⟩, k3⟩ := h.ok i _ hi
  obtain ⟨a, len, cap, rfl, h0, hlt, rfl⟩ := hp
  rcases k2 with ⟨h3, _⟩ | ⟨g, cap', cur, hv, hg, hh, hle, hcm, hsz, htk⟩
  · cases h3
  · cases hv
    have hlt' : j.toNat < n := by omega
    have hmul : j.toNat * k + k ≤ n * k := by
      rw [show j.toNat * k + k = (j.toNat + 1) * k by rw [Nat.add_mul, Nat.one_mul]]; exact Nat.mul_le_mul_right _ hlt'
    refine ⟨?_, by rw [k1]; exact hmul⟩
    apply List.ext_getElem?
    intro m
    rw [List.getElem?_take, List.getElem?_drop]
    by_cases hm : m < k
    · rw [if_pos hm]
      have hm2 : m < cs.length := by omega
      have h2 := hc m cs[m] (List.getElem?_eq_getElem hm2)
      rw [addr_add_add, Addr.add_lit, Nat.zero_add, cell_of_row w g _ _ _ _ hh] at h2
      rw [List.getElem?_eq_getElem hm2, ← h2, ← htk, List.getElem?_take, if_pos (by omega)]
      simp
    · rw [if_neg hm, List.getElem?_eq_none (by omega)]
theorem St.putPart {α : Type} {G : GH} {En : Enc α} {xs ys : List α} {x0 : α} {cells c cs c2 : List Value} (h : St H0 w0 H w l) {i : Nat} (hi : l[i]? = some (.row e k v n cells)) (he : Els G En k cells xs) {j : Int}
    (hy : put xs j x0 = some ys) {p : Addr} (hp : PtrOf k v j p) (hcs : cs.length = k) (hc : WAt w p cs) {off m : Nat} (ts : ∀ w, (sizeOf t).run P w = .ok m w) (hu : u.cells = c.toArray) (hcm : c.length = m) (hom : off + m ≤ k) (h1 : ∀ b ∈ c, b.oneCell' = true)
    (h2 : cs.take off ++ c ++ cs.drop (off + m) = c2) (hr : En.rel G c2 x0) :
    ∃ w1 cells', (Instr.storeAt t (.pointer (some (p.add off))) u).run P w = .ok () w1 ∧ St H0 w0 H w1 (l.set i (.row e k v n cells')) ∧ Els G En k cells' ys ∧ cells' = cells.take (j.toNat * k) ++ c2 ++ cells.drop (j.toNat * k + k) := by
  obtain ⟨h0, h3, rfl⟩ := put_some hy
  obtain ⟨w1, hst, hS⟩ := h.putRowAt (P := P) (l' := fun o => l.set i o) hi hp hom ts (u := u) (by rw [hu]; simpa using hcm) (by rw [hu]; simpa using h1) (fun o => rfl)
  rw [hu] at hS
  obtain ⟨g1, g2⟩ := h.cells_at hi hp hcs hc
  have hlen : c2.length = k := by rw [← h2]; simp only [List.length_append, List.length_take, List.length_drop, hcs, hcm]; omega
  have heq : cells.take (j.toNat * k + off) ++ c ++ cells.drop (j.toNat * k + off + m) = cells.take (j.toNat * k) ++ c2 ++ cells.drop (j.toNat * k + k) := by
    rw [← h2, ← g1]
    generalize j.toNat * k = q at *
    have e1 : cells.take (q + off) = cells.take q ++ (cells.drop q).take off := by rw [List.take_add]
    have e2 : cells.drop (q + off + m) = ((cells.drop q).take k).drop (off + m) ++ cells.drop (q + k) := by
      rw [List.drop_take, List.drop_drop]
      have : cells.drop (q + k) = (cells.drop (q + (off + m))).drop (k - (off + m)) := by rw [List.drop_drop]; congr 1; omega
      rw [this, List.take_append_drop]; congr 1; omega
    rw [e1, e2, List.take_take, Nat.min_eq_left (by omega)]
    simp only [List.append_assoc]
  refine ⟨w1, _, hst, ?_, he.put hlen hr _ (by omega), rfl⟩
  rw [← heq]
  simpa using hS
end
/-! results of several kinds: t: a temporary, c: a variable -/
section
variable {δ : List Nat} {fn : Func} {N : Nat} {P : Program} {w : World} {R : Ending → World → Prop} {f : Fm}
theorem resX_tc {t0 : Nat} {v0 : Value} {t1 y1 : Nat} {v1 : Value} {p1 : Addr} (hr : fn.results = #[.tmp t0, .cell t1 y1]) (h0 : f t0 = v0) (h1 : f t1 = .pointer (some p1)) (l1 : (loadVar y1 p1).run P w = .ok v1 w) (hR : R (.returned (.tuple #[v0, v1])) w) :
    ∀ a, Fr (δ := δ) N a f → ∃ v, (results fn a.tmps).run P w = .ok v w ∧ R (.returned v) w := fun a ha => ⟨_, by simp [results, hr, ha.val, asAddr, h0, h1, l1], hR⟩
theorem resX_ttc {t0 : Nat} {v0 : Value} {t1 : Nat} {v1 : Value} {t2 y2 : Nat} {v2 : Value} {p2 : Addr} (hr : fn.results = #[.tmp t0, .tmp t1, .cell t2 y2]) (h0 : f t0 = v0) (h1 : f t1 = v1) (h2 : f t2 = .pointer (some p2)) (l2 : (loadVar y2 p2).run P w = .ok v2 w) (hR : R (.returned (.tuple #[v0, v1, v2])) w) :
    ∀ a, Fr (δ := δ) N a f → ∃ v, (results fn a.tmps).run P w = .ok v w ∧ R (.returned v) w := fun a ha => ⟨_, by simp [results, hr, ha.val, asAddr, h0, h1, h2, l2], hR⟩
theorem resX_tct {t0 : Nat} {v0 : Value} {t1 y1 : Nat} {v1 : Value} {p1 : Addr} {t2 : Nat} {v2 : Value} (hr : fn.results = #[.tmp t0, .cell t1 y1, .tmp t2]) (h0 : f t0 = v0) (h1 : f t1 = .pointer (some p1)) (l1 : (loadVar y1 p1).run P w = .ok v1 w) (h2 : f t2 = v2) (hR : R (.returned (.tuple #[v0, v1, v2])) w) :
    ∀ a, Fr (δ := δ) N a f → ∃ v, (results fn a.tmps).run P w = .ok v w ∧ R (.returned v) w := fun a ha => ⟨_, by simp [results, hr, ha.val, asAddr, h0, h1, l1, h2], hR⟩
theorem resX_tcc {t0 : Nat} {v0 : Value} {t1 y1 : Nat} {v1 : Value} {p1 : Addr} {t2 y2 : Nat} {v2 : Value} {p2 : Addr} (hr : fn.results = #[.tmp t0, .cell t1 y1, .cell t2 y2]) (h0 : f t0 = v0) (h1 : f t1 = .pointer (some p1)) (l1 : (loadVar y1 p1).run P w = .ok v1 w) (h2 : f t2 = .pointer (some p2)) (l2 : (loadVar y2 p2).run P w = .ok v2 w) (hR : R (.returned (.tuple #[v0, v1, v2])) w) :
    ∀ a, Fr (δ := δ) N a f → ∃ v, (results fn a.tmps).run P w = .ok v w ∧ R (.returned v) w := fun a ha => ⟨_, by simp [results, hr, ha.val, asAddr, h0, h1, l1, h2, l2], hR⟩
theorem resX_ctt {t0 y0 : Nat} {v0 : Value} {p0 : Addr} {t1 : Nat} {v1 : Value} {t2 : Nat} {v2 : Value} (hr : fn.results = #[.cell t0 y0, .tmp t1, .tmp t2]) (h0 : f t0 = .pointer (some p0)) (l0 : (loadVar y0 p0).run P w = .ok v0 w) (h1 : f t1 = v1) (h2 : f t2 = v2) (hR : R (.returned (.tuple #[v0, v1, v2])) w) :
    ∀ a, Fr (δ := δ) N a f → ∃ v, (results fn a.tmps).run P w = .ok v w ∧ R (.returned v) w := fun a ha => ⟨_, by simp [results, hr, ha.val, asAddr, h0, l0, h1, h2], hR⟩
theorem resX_ctc {t0 y0 : Nat} {v0 : Value} {p0 : Addr} {t1 : Nat} {v1 : Value} {t2 y2 : Nat} {v2 : Value} {p2 : Addr} (hr : fn.results = #[.cell t0 y0, .tmp t1, .cell t2 y2]) (h0 : f t0 = .pointer (some p0)) (l0 : (loadVar y0 p0).run P w = .ok v0 w) (h1 : f t1 = v1) (h2 : f t2 = .pointer (some p2)) (l2 : (loadVar y2 p2).run P w = .ok v2 w) (hR : R (.returned (.tuple #[v0, v1, v2])) w) :
    ∀ a, Fr (δ := δ) N a f → ∃ v, (results fn a.tmps).run P w = .ok v w ∧ R (.returned v) w := fun a ha => ⟨_, by simp [results, hr, ha.val, asAddr, h0, l0, h1, h2, l2], hR⟩
theorem resX_cct {t0 y0 : Nat} {v0 : Value} {p0 : Addr} {t1 y1 : Nat} {v1 : Value} {p1 : Addr} {t2 : Nat} {v2 : Value} (hr : fn.results = #[.cell t0 y0, .cell t1 y1, .tmp t2]) (h0 : f t0 = .pointer (some p0)) (l0 : (loadVar y0 p0).run P w = .ok v0 w) (h1 : f t1 = .pointer (some p1)) (l1 : (loadVar y1 p1).run P w = .ok v1 w) (h2 : f t2 = v2) (hR : R (.returned (.tuple #[v0, v1, v2])) w) :
    ∀ a, Fr (δ := δ) N a f → ∃ v, (results fn a.tmps).run P w = .ok v w ∧ R (.returned v) w := fun a ha => ⟨_, by simp [results, hr, ha.val, asAddr, h0, l0, h1, l1, h2], hR⟩
theorem resX_tttt {t0 : Nat} {v0 : Value} {t1 : Nat} {v1 : Value} {t2 : Nat} {v2 : Value} {t3 : Nat} {v3 : Value} (hr : fn.results = #[.tmp t0, .tmp t1, .tmp t2, .tmp t3]) (h0 : f t0 = v0) (h1 : f t1 = v1) (h2 : f t2 = v2) (h3 : f t3 = v3) (hR : R (.returned (.tuple #[v0, v1, v2, v3])) w) :
    ∀ a, Fr (δ := δ) N a f → ∃ v, (results fn a.tmps).run P w = .ok v w ∧ R (.returned v) w := fun a ha => ⟨_, by simp [results, hr, ha.val, asAddr, h0, h1, h2, h3], hR⟩
theorem resX_tttc {t0 : Nat} {v0 : Value} {t1 : Nat} {v1 : Value} {t2 : Nat} {v2 : Value} {t3 y3 : Nat} {v3 : Value} {p3 : Addr} (hr : fn.results = #[.tmp t0, .tmp t1, .tmp t2, .cell t3 y3]) (h0 : f t0 = v0) (h1 : f t1 = v1) (h2 : f t2 = v2) (h3 : f t3 = .pointer (some p3)) (l3 : (loadVar y3 p3).run P w = .ok v3 w) (hR : R (.returned (.tuple #[v0, v1, v2, v3])) w) :
    ∀ a, Fr (δ := δ) N a f → ∃ v, (results fn a.tmps).run P w = .ok v w ∧ R (.returned v) w := fun a ha => ⟨_, by simp [results, hr, ha.val, asAddr, h0, h1, h2, h3, l3], hR⟩
theorem resX_ttct {t0 : Nat} {v0 : Value} {t1 : Nat} {v1 : Value} {t2 y2 : Nat} {v2 : Value} {p2 : Addr} {t3 : Nat} {v3 : Value} (hr : fn.results = #[.tmp t0, .tmp t1, .cell t2 y2, .tmp t3]) (h0 : f t0 = v0) (h1 : f t1 = v1) (h2 : f t2 = .pointer (some p2)) (l2 : (loadVar y2 p2).run P w = .ok v2 w) (h3 : f t3 = v3) (hR : R (.returned (.tuple #[v0, v1, v2, v3])) w) :
    ∀ a, Fr (δ := δ) N a f → ∃ v, (results fn a.tmps).run P w = .ok v w ∧ R (.returned v) w := fun a ha => ⟨_, by simp [results, hr, ha.val, asAddr, h0, h1, h2, l2, h3], hR⟩
theorem resX_ttcc {t0 : Nat} {v0 : Value} {t1 : Nat} {v1 : Value} {t2 y2 : Nat} {v2 : Value} {p2 : Addr} {t3 y3 : Nat} {v3 : Value} {p3 : Addr} (hr : fn.results = #[.tmp t0, .tmp t1, .cell t2 y2, .cell t3 y3]) (h0 : f t0 = v0) (h1 : f t1 = v1) (h2 : f t2 = .pointer (some p2)) (l2 : (loadVar y2 p2).run P w = .ok v2 w) (h3 : f t3 = .pointer (some p3)) (l3 : (loadVar y3 p3).run P w = .ok v3 w) (hR : R (.returned (.tuple #[v0, v1, v2, v3])) w) :
    ∀ a, Fr (δ := δ) N a f → ∃ v, (results fn a.tmps).run P w = .ok v w ∧ R (.returned v) w := fun a ha => ⟨_, by simp [results, hr, ha.val, asAddr, h0, h1, h2, l2, h3, l3], hR⟩
theorem resX_tctt {t0 : Nat} {v0 : Value} {t1 y1 : Nat} {v1 : Value} {p1 : Addr} {t2 : Nat} {v2 : Value} {t3 : Nat} {v3 : Value} (hr : fn.results = #[.tmp t0, .cell t1 y1, .tmp t2, .tmp t3]) (h0 : f t0 = v0) (h1 : f t1 = .pointer (some p1)) (l1 : (loadVar y1 p1).run P w = .ok v1 w) (h2 : f t2 = v2) (h3 : f t3 = v3) (hR : R (.returned (.tuple #[v0, v1, v2, v3])) w) :
    ∀ a, Fr (δ := δ) N a f → ∃ v, (results fn a.tmps).run P w = .ok v w ∧ R (.returned v) w := fun a ha => ⟨_, by simp [results, hr, ha.val, asAddr, h0, h1, l1, h2, h3], hR⟩
theorem resX_tctc {t0 : Nat} {v0 : Value} {t1 y1 : Nat} {v1 : Value} {p1 : Addr} {t2 : Nat} {v2 : Value} {t3 y3 : Nat} {v3 : Value} {p3 : Addr} (hr : fn.results = #[.tmp t0, .cell t1 y1, .tmp t2, .cell t3 y3]) (h0 : f t0 = v0) (h1 : f t1 = .pointer (some p1)) (l1 : (loadVar y1 p1).run P w = .ok v1 w) (h2 : f t2 = v2) (h3 : f t3 = .pointer (some p3)) (l3 : (loadVar y3 p3).run P w = .ok v3 w) (hR : R (.returned (.tuple #[v0, v1, v2, v3])) w) :
    ∀ a, Fr (δ := δ) N a f → ∃ v, (results fn a.tmps).run P w = .ok v w ∧ R (.returned v) w := fun a ha => ⟨_, by simp [results, hr, ha.val, asAddr, h0, h1, l1, h2, h3, l3], hR⟩
theorem resX_tcct {t0 : Nat} {v0 : Value} {t1 y1 : Nat} {v1 : Value} {p1 : Addr} {t2 y2 : Nat} {v2 : Value} {p2 : Addr} {t3 : Nat} {v3 : Value} (hr : fn.results = #[.tmp t0, .cell t1 y1, .cell t2 y2, .tmp t3]) (h0 : f t0 = v0) (h1 : f t1 = .pointer (some p1)) (l1 : (loadVar y1 p1).run P w = .ok v1 w) (h2 : f t2 = .pointer (some p2)) (l2 : (loadVar y2 p2).run P w = .ok v2 w) (h3 : f t3 = v3) (hR : R (.returned (.tuple #[v0, v1, v2, v3])) w) :
    ∀ a, Fr (δ := δ) N a f → ∃ v, (results fn a.tmps).run P w = .ok v w ∧ R (.returned v) w := fun a ha => ⟨_, by simp [results, hr, ha.val, asAddr, h0, h1, l1, h2, l2, h3], hR⟩
theorem resX_cttt {t0 y0 : Nat} {v0 : Value} {p0 : Addr} {t1 : Nat} {v1 : Value} {t2 : Nat} {v2 : Value} {t3 : Nat} {v3 : Value} (hr : fn.results = #[.cell t0 y0, .tmp t1, .tmp t2, .tmp t3]) (h0 : f t0 = .pointer (some p0)) (l0 : (loadVar y0 p0).run P w = .ok v0 w) (h1 : f t1 = v1) (h2 : f t2 = v2) (h3 : f t3 = v3) (hR : R (.returned (.tuple #[v0, v1, v2, v3])) w) :
    ∀ a, Fr (δ := δ) N a f → ∃ v, (results fn a.tmps).run P w = .ok v w ∧ R (.returned v) w := fun a ha => ⟨_, by simp [results, hr, ha.val, asAddr, h0, l0, h1, h2, h3], hR⟩
theorem resX_cttc {t0 y0 : Nat} {v0 : Value} {p0 : Addr} {t1 : Nat} {v1 : Value} {t2 : Nat} {v2 : Value} {t3 y3 : Nat} {v3 : Value} {p3 : Addr} (hr : fn.results = #[.cell t0 y0, .tmp t1, .tmp t2, .cell t3 y3]) (h0 : f t0 = .pointer (some p0)) (l0 : (loadVar y0 p0).run P w = .ok v0 w) (h1 : f t1 = v1) (h2 : f t2 = v2) (h3 : f t3 = .pointer (some p3)) (l3 : (loadVar y3 p3).run P w = .ok v3 w) (hR : R (.returned (.tuple #[v0, v1, v2, v3])) w) :
    ∀ a, Fr (δ := δ) N a f → ∃ v, (results fn a.tmps).run P w = .ok v w ∧ R (.returned v) w := fun a ha => ⟨_, by simp [results, hr, ha.val, asAddr, h0, l0, h1, h2, h3, l3], hR⟩
theorem resX_ctct {t0 y0 : Nat} {v0 : Value} {p0 : Addr} {t1 : Nat} {v1 : Value} {t2 y2 : Nat} {v2 : Value} {p2 : Addr} {t3 : Nat} {v3 : Value} (hr : fn.results = #[.cell t0 y0, .tmp t1, .cell t2 y2, .tmp t3]) (h0 : f t0 = .pointer (some p0)) (l0 : (loadVar y0 p0).run P w = .ok v0 w) (h1 : f t1 = v1) (h2 : f t2 = .pointer (some p2)) (l2 : (loadVar y2 p2).run P w = .ok v2 w) (h3 : f t3 = v3) (hR : R (.returned (.tuple #[v0, v1, v2, v3])) w) :
    ∀ a, Fr (δ := δ) N a f → ∃ v, (results fn a.tmps).run P w = .ok v w ∧ R (.returned v) w := fun a ha => ⟨_, by simp [results, hr, ha.val, asAddr, h0, l0, h1, h2, l2, h3], hR⟩
theorem resX_cctt {t0 y0 : Nat} {v0 : Value} {p0 : Addr} {t1 y1 : Nat} {v1 : Value} {p1 : Addr} {t2 : Nat} {v2 : Value} {t3 : Nat} {v3 : Value} (hr : fn.results = #[.cell t0 y0, .cell t1 y1, .tmp t2, .tmp t3]) (h0 : f t0 = .pointer (some p0)) (l0 : (loadVar y0 p0).run P w = .ok v0 w) (h1 : f t1 = .pointer (some p1)) (l1 : (loadVar y1 p1).run P w = .ok v1 w) (h2 : f t2 = v2) (h3 : f t3 = v3) (hR : R (.returned (.tuple #[v0, v1, v2, v3])) w) :
    ∀ a, Fr (δ := δ) N a f → ∃ v, (results fn a.tmps).run P w = .ok v w ∧ R (.returned v) w := fun a ha => ⟨_, by simp [results, hr, ha.val, asAddr, h0, l0, h1, l1, h2, h3], hR⟩
end
/-- two arrays of ints -/
theorem run_eqArr2 {P : Program} {w : World} {t e : TypeId} {ie : TypeInfo} (hu : P.underlying t = some (.array 2 e)) (hi : P.info? e = some ie) (hc : P.cellsOf e = 1) (he : P.underlying e = some (.int .i64)) (ha : ∀ w, (isAgg e).run P w = .ok false w) (a b c d : Int) :
    (Op.equalIn 10000 t (.agg #[.int .i64 a, .int .i64 b]) (.agg #[.int .i64 c, .int .i64 d])).run P w = .ok ((a == c) && (b == d)) w := by
  rw [show (10000 : Nat) = 9999 + 1 from rfl, run_equalIn_array w 9999 _ _ hu hi, hc]
  have hp : ∀ (xs : Array Value) (i : Nat) (v : Value) w, xs[i]? = some v → (part e xs i).run P w = .ok v w := fun xs i v w h => by
    simp [part, ha, h]
  have hq : ∀ (x y : Int) w, (Op.equalIn 9999 e (.int .i64 x) (.int .i64 y)).run P w = .ok (x == y) w := fun x y w => by
    exact run_equalIn_int w 9998 e _ .i64 x y he
  simp only [List.range_succ, List.range_zero, List.nil_append, List.cons_append, Op.eqItems, Sem.run_bind]
  rw [hp _ _ (.int .i64 a) _ rfl]
  simp only [Result.andThen_ok]
  rw [hp _ _ (.int .i64 c) _ rfl]
  simp only [Result.andThen_ok]
  rw [hq]
  simp only [Result.andThen_ok]
  by_cases h : a = c
  · simp only [h, beq_self_eq_true, Bool.not_true, Bool.false_eq_true, if_false, Sem.run_bind, Bool.true_and]
    rw [hp _ _ (.int .i64 b) _ rfl]
    simp only [Result.andThen_ok]
    rw [hp _ _ (.int .i64 d) _ rfl]
    simp only [Result.andThen_ok]
    rw [hq]
    simp only [Result.andThen_ok]
    cases b == d <;> simp
  · simp [h]
end Go.Mr
