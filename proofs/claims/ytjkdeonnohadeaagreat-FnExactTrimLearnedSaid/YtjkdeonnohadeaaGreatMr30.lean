/- slices.Reverse on a row of one's own, of whatever elements of one cell: the cells are turned round. -/
import Derived.Test.YtjkdeonnohadeaaGreatMr9
namespace Go.Mr
open Go.RowKit Go.Pu Go.Sort
open Go.Proofs (OneCell CmpLays1 sortWorld ltOf)
section
variable {P : Program} {w w' : World} {H0 H H' : GH} {w0 : World} {l : List MO} {e n : Nat} {v : Value} {A : Type} {En : Enc A}
theorem bl_reverse (c : List Value) : bl c.reverse = (bl c).reverse := by unfold bl; rw [List.filterMap_reverse]
theorem nd_reverse {c : List Value} (h : (bl c).Nodup) : (bl c.reverse).Nodup := by rw [bl_reverse]; exact List.pairwise_reverse.2 (h.imp fun hab => Ne.symm hab)
theorem St.reverseF {G : GH} (h : St H0 w0 H w l) {i : Nat} {cells : List Value} (hi : l[i]? = some (.row e 1 v n cells)) {xs : List A} (he : Els G En 1 cells xs) {fid : Nat}
    (k0 : ∀ (p : Option Addr) (cap : Nat) (w : World), Calls P fid #[.slice p 0 cap] w fun e w' => e = .returned (.tuple #[]) ∧ w' = w)
    (k1 : ∀ (α : Type) [Inhabited α] (enc : α → Value) (_ : OneCell enc) (blk off cap : Nat) (zs : List α) (w : World) (_ : Holds enc w blk off zs.toArray) (_ : zs.length ≤ 9223372036854775807),
      Calls P fid #[.slice (some ⟨blk, off, Option.none⟩) zs.length cap] w fun e w' => e = .returned (.tuple #[]) ∧ ∃ n, w' = Go.Sort.putRow enc (Sort.ahead w n) blk off zs.reverse.toArray) :
    Calls P fid #[v] w fun e' w' => e' = .returned (.tuple #[]) ∧ ∃ cells', St H0 w0 H w' (l.set i (.row e 1 v n cells')) ∧ Els G En 1 cells' xs.reverse ∧ cells' = cells.reverse := by
  obtain ⟨⟨g1, g2⟩, g3⟩ := h.ok i _ hi
  have hlen := he.length
  have hset : l.set i (.row e 1 v n cells) = l := by
    apply List.ext_getElem?
    intro j
    rw [List.getElem?_set]
    split
    · rename_i hij; subst hij; rw [hi]; simp [(List.getElem?_eq_some_iff.1 hi).1]
    · rfl
  have hnil : n = 0 → xs = [] ∧ cells = [] := fun hn => by
    subst hn
    have : cells = [] := List.eq_nil_of_length_eq_zero (by simpa using g1)
    subst this
    exact ⟨List.eq_nil_of_length_eq_zero (by simp at hlen; omega), rfl⟩
  rcases g2 with ⟨rfl, rfl⟩ | ⟨g, cap, cur, rfl, hg, hh, hle, hcm, hsz, htk⟩
  · obtain ⟨rfl, rfl⟩ := hnil rfl
    refine (k0 Option.none 0 w).mono ?_
    rintro _ _ ⟨rfl, rfl⟩
    exact ⟨rfl, [], by rw [hset]; exact h, by simpa using he, rfl⟩
  · rcases Nat.eq_zero_or_pos n with h0 | hpos
    · obtain ⟨rfl, rfl⟩ := hnil h0
      subst h0
      refine (k0 (some ⟨g, 0, Option.none⟩) cap w).mono ?_
      rintro _ _ ⟨rfl, rfl⟩
      exact ⟨rfl, [], by rw [hset]; exact h, by simpa using he, rfl⟩
    · have hxl : xs.length = n := by rw [g1] at hlen; omega
      obtain ⟨x0, hx0⟩ : ∃ x0, xs[0]? = some x0 := ⟨_, List.getElem?_eq_getElem (by omega)⟩
      obtain ⟨d, hd1, hd2⟩ := els1_arr he xs (fun _ hx => hx)
      obtain ⟨c0, hc0, hr0⟩ := els1_some he hx0
      haveI : Inhabited (El1 En G xs) := ⟨⟨(c0, x0), hr0, List.mem_of_getElem? hx0⟩⟩
      obtain ⟨hH, hblk, hdl, hcap, hcm2⟩ := h.holds1 hi d hd1
      have hK := k1 _ El1.enc El1.oneCell g 0 cap d w hH (by rw [hdl]; simp only [maxLen] at hcm; omega)
      rw [hdl] at hK
      refine hK.mono ?_
      rintro _ _ ⟨rfl, m, rfl⟩
      have hT := h.turned (m := m) (n' := n) hi El1.oneCell d.reverse #[] (by simp [hdl]) (by simp [hdl])
      unfold sortWorld at hT
      rw [grow_empty, List.take_of_length_le (by simp [hdl])] at hT
      refine ⟨rfl, _, hT, ?_, by rw [List.map_reverse, hd1]⟩
      have hE : Els G En 1 (d.reverse.map El1.enc) (d.reverse.map El1.x) := els1_of _
      have e : d.reverse.map El1.x = xs.reverse := by rw [List.map_reverse, hd2]
      rw [e] at hE; exact hE
end
end Go.Mr
