/- slices.Sort of a row of one's own ints. -/
import Derived.Test.YtdkfkiifbagnnaaMr9
import Derived.Shelf.Sort.Plain
import Derived.Shelf.Slices.In.SortNone
namespace Go.Mr
open Go.RowKit Go.Pu Go.Sort
open Go.Proofs (OneCell CmpLays1 sortWorld ltOf)
section
variable {P : Program} {w w' : World} {H0 H H' : GH} {w0 : World} {l : List MO} {e n : Nat} {v : Value}
theorem els_eI {G : GH} {cells : List Value} {xs : List Int} (h : Els G eI 1 cells xs) : cells = xs.map (Value.int .i64) := by
  induction h with
  | nil => rfl
  | snoc _ _ hx ih => rw [ih, eI_open hx]; simp
theorem eI_els {G : GH} (xs : List Int) : Els G eI 1 (xs.map (Value.int .i64)) xs := by
  rw [← List.reverse_reverse xs]
  generalize xs.reverse = d
  induction d with
  | nil => exact .nil
  | cons p d ih => rw [List.reverse_cons, List.map_append]; exact .snoc ih rfl rfl
theorem sortI_some {xs r : List Int} (h : sortI xs = some r) : xs.length ≤ lim ∧ r = xs.mergeSort (fun x y => decide (x ≤ y)) := by
  unfold sortI at h
  split at h
  · rename_i hh; cases h; exact ⟨hh, rfl⟩
  · cases h
theorem St.sortInts {G : GH} (h : St H0 w0 H w l) {i : Nat} {cells : List Value} (hi : l[i]? = some (.row e 1 v n cells)) {xs r : List Int} (he : Els G eI 1 cells xs) {fid : Nat}
    (k0 : ∀ (p : Option Addr) (cap : Nat) (w : World), Calls P fid #[.slice p 0 cap] w fun e w' => e = .returned (.tuple #[]) ∧ w' = w)
    (k1 : ∀ (blk off cap : Nat) (zs : List Int) (w : World) (_ : Holds (Value.int .i64) w blk off zs.toArray) (_ : blk < w.heap.size) (_ : zs.length < 4611686018427387904),
      Calls P fid #[.slice (some ⟨blk, off, Option.none⟩) zs.length cap] w fun e w' => e = .returned (.tuple #[]) ∧ ∃ n os, w' = sortWorld (Value.int .i64) w blk off n (zs.mergeSort fun x y => decide (x ≤ y)).toArray os)
    (hr : sortI xs = some r) :
    Calls P fid #[v] w fun e' w' => e' = .returned (.tuple #[]) ∧ ∃ cells', St H0 w0 H w' (l.set i (.row e 1 v n cells')) ∧ Els G eI 1 cells' r := by
  obtain ⟨hlim, rfl⟩ := sortI_some hr
  obtain ⟨⟨g1, g2⟩, g3⟩ := h.ok i _ hi
  have hlen := he.length
  have hset : l.set i (.row e 1 v n cells) = l := by
    apply List.ext_getElem?
    intro j
    rw [List.getElem?_set]
    split
    · rename_i hij; subst hij; rw [hi]; simp [(List.getElem?_eq_some_iff.1 hi).1]
    · rfl
  rcases g2 with ⟨rfl, rfl⟩ | ⟨g, cap, cur, rfl, hg, hh, hle, hcm, hsz, htk⟩
  · have : xs = [] := by rw [g1] at hlen; apply List.eq_nil_of_length_eq_zero; omega
    subst this
    refine (k0 Option.none 0 w).mono ?_
    rintro _ _ ⟨rfl, rfl⟩
    exact ⟨rfl, cells, by rw [hset]; exact h, by simpa using he⟩
  · have hc := els_eI he
    obtain ⟨hH, hblk, hdl, hcap, hcm2⟩ := h.holds1 hi (enc := Value.int .i64) xs hc.symm
    have hK := k1 g 0 cap xs w hH hblk (by unfold lim at hlim; omega)
    rw [hdl] at hK
    refine hK.mono ?_
    rintro _ _ ⟨rfl, m, os, rfl⟩
    have hT := h.turned (m := m) (n' := n) hi (enc := Value.int .i64) (fun _ => rfl) (xs.mergeSort fun x y => decide (x ≤ y)) os (by simp [hdl]) (by simp [hdl])
    refine ⟨rfl, _, hT, ?_⟩
    rw [List.take_of_length_le (by simp [hdl])]
    exact eI_els _
end
end Go.Mr
