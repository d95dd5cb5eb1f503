/- A row one of whose elements is a slice of ours that is still written: the element's place, until the slice is sealed. -/
import Derived.Test.YtdkfkiifbagnnaaMr26
namespace Go.Mr
open Go.RowKit Go.Pu
section
variable {H0 H G G' : GH} {w0 w : World} {l : List MO} {P : Program} {t e n : Nat} {v u : Value} {α : Type} {En : Enc α} {cells c0 : List Value} {xs ys : List α} {j : Int} {x : α} {i : Nat}
/-- cells: those of xs, but u at j -/
structure Pend (G : GH) (En : Enc α) (cells : List Value) (xs : List α) (j : Int) (u : Value) : Prop where
  pd : ∃ c0, Els G En 1 c0 xs ∧ 0 ≤ j ∧ j < xs.length ∧ cells = c0.take (j.toNat * 1) ++ [u] ++ c0.drop (j.toNat * 1 + 1)
theorem St.pend (h : St H0 w0 H w l) (hi : l[i]? = some (.row e 1 v n c0)) (he : Els G En 1 c0 xs) (hx : ix xs j = some x) {p : Addr} (hp : PtrOf 1 v j p) (ts : ∀ w, (sizeOf t).run P w = .ok 1 w)
    (hu : u.cells = [u].toArray) (h1 : ∀ b ∈ [u], b.oneCell' = true) :
    ∃ w1 cells', (Instr.storeAt t (.pointer (some p)) u).run P w = .ok () w1 ∧ St H0 w0 H w1 (l.set i (.row e 1 v n cells')) ∧ Pend G En cells' xs j u := by
  obtain ⟨g0, g1, _⟩ := ix_some hx
  obtain ⟨w1, hst, hS⟩ := h.putRow (P := P) (l' := fun o => l.set i o) hi hp ts (u := u) (by rw [hu]; rfl) (by rw [hu]; simpa using h1 u (by simp)) (fun o => rfl)
  rw [hu] at hS
  exact ⟨w1, _, hst, hS, _, he, g0, g1, rfl⟩
theorem Pend.mono (h : Pend G En cells xs j u) (hi : Inc G G') : Pend G' En cells xs j u := by
  obtain ⟨c0, h1, h2⟩ := h
  exact ⟨c0, h1.mono hi, h2⟩
theorem Pend.close (h : Pend G En cells xs j u) (hr : En.rel G [u] x) (hy : put xs j x = some ys) : Els G En 1 cells ys := by
  obtain ⟨c0, h1, h2, h3, h4⟩ := h
  obtain ⟨_, _, rfl⟩ := put_some hy
  rw [h4]
  exact h1.put rfl hr _ (by omega)
theorem Pend.put (h : Pend G En cells xs j u) (x : α) : ∃ ys, put xs j x = some ys := by
  obtain ⟨c0, h1, h2, h3, h4⟩ := h
  exact ⟨_, by unfold Go.Pu.put; rw [if_pos ⟨h2, h3⟩]⟩
/-- a cell's place -/
theorem St.cell_at (h : St H0 w0 H w l) (hi : l[i]? = some (.row e 1 v n cells)) (h0 : 0 ≤ j) (hx : cells[j.toNat]? = some u) : ∃ p, PtrOf 1 v j p ∧ WAt w p [u] := by
  have h1 := (List.getElem?_eq_some_iff.1 hx).1
  obtain ⟨⟨k1, k2⟩, _⟩ := h.ok i _ hi
  rcases k2 with ⟨rfl, h3⟩ | ⟨g, cap, cur, rfl, hg, hh, hle, _, hsz, htk⟩
  · omega
  · refine ⟨_, ⟨⟨g, 0, Option.none⟩, _, cap, rfl, h0, by omega, rfl⟩, fun m z hz => ?_⟩
    rw [addr_add_add, Addr.add_lit, Nat.zero_add, cell_of_row w g _ _ _ _ hh]
    have hm : m = 0 := by
      rcases Nat.eq_zero_or_pos m with h | h
      · exact h
      · rw [List.getElem?_eq_none (by simp; omega)] at hz; cases hz
    subst hm
    rw [← htk, List.getElem?_take] at hx
    split at hx
    · cases hz; simpa using hx
    · cases hx
/-- the element's place -/
theorem St.pend_at (h : St H0 w0 H w l) (hi : l[i]? = some (.row e 1 v n cells)) (hp : Pend G En cells xs j u) : ∃ p, PtrOf 1 v j p ∧ WAt w p [u] := by
  obtain ⟨c0, h1, h2, h3, h4⟩ := hp
  have hl := h1.length
  refine h.cell_at hi h2 ?_
  rw [h4, List.append_assoc, List.getElem?_append_right (by simp; omega), List.singleton_append, show j.toNat - (List.take (j.toNat * 1) c0).length = 0 by simp; omega]
  rfl
theorem St.pend_atA (h : St H0 w0 H w l) (hi : l[i]? = some (.row e 1 v n cells)) (hp : Pend G En cells xs j u) :
    ∃ p, PtrOf 1 v j p ∧ WAt w p [u] ∧ ∀ (H' : GH) (w' : World) (l' : List MO) (i' : Nat), St H0 w0 H' w' l' → l'[i']? = some (.row e 1 v n cells) → WAt w' p [u] := by
  obtain ⟨p, h1, h2⟩ := h.pend_at hi hp
  refine ⟨p, h1, h2, fun H' w' l' i' h' hi' => ?_⟩
  obtain ⟨q, g1, g2⟩ := h'.pend_at hi' hp
  rw [h1.uniq g1]; exact g2
/-- a row of ours and nil -/
theorem St.nilTest {k te' ke : Nat} {z : Value} (te : TE P t te' ke z) (h : St H0 w0 H w l) (hi : l[i]? = some (.row e k v n cells)) (he : Els G En k cells xs) (hk : 0 < k) :
    ∃ b, (∀ (f : Fm) (x y : Operand) (n c : Nat) (d : Option Tmp) (t' ty : TypeId) (pos : String) (aft : Array Edge) (gd : Option (Nat × Bool)) (w : World), ev f x = v → ev f y = .slice Option.none n c →
      (execOp (ev f) ⟨d, .binOp .eql t x y t', ty, pos, aft, gd⟩).run P w = .ok (.value (.bool b)) w) ∧ (b = true → xs = []) := by
  obtain ⟨⟨k1, k2⟩, _⟩ := h.ok i _ hi
  have hl := he.length
  rcases k2 with ⟨rfl, h3⟩ | ⟨g, cap, cur, rfl, hg, hh, hle, _, hsz, htk⟩
  · refine ⟨true, fun f x y n c d t' ty pos aft gd w h1 h2 => ?_, fun _ => ?_⟩
    · simp [execOp, h1, h2, Go.Lib.run_eql_slice_nil w t te' Option.none _ _ n c te.u, eqGuard_at_slice]
    · rw [h3] at k1
      cases xs with
      | nil => rfl
      | cons x xs =>
        have h1 : 1 * k ≤ (xs.length + 1) * k := Nat.mul_le_mul_right k (by omega)
        have h2 : (xs.length + 1) * k = 0 := by rw [← List.length_cons (a := x), ← hl, k1]; simp
        omega
  · refine ⟨false, fun f x y m c d t' ty pos aft gd w h1 h2 => ?_, nofun⟩
    simp [execOp, h1, h2, Go.Lib.run_eql_slice_nil w t te' (some _) _ _ m c te.u, eqGuard_at_slice]
end
end Go.Mr
