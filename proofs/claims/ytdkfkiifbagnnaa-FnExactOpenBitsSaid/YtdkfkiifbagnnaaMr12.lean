/- Fresh data: what a call has made lies above the heap that it began with, each slice in a block of its own. -/
import Derived.Test.YtdkfkiifbagnnaaMr11
namespace Go.Mr
open Go.RowKit Go.Pu

/-- cells that may be written -/
def okO : Obj → Bool
  | .cells _ _ fr => fr == (0, 0)
  | _ => false
/-- the ghost heap from block B on: what may be written -/
def up (B : Nat) (H : GH) : GH := fun b => if b < B then none else (H b).filter okO
theorem up_iff {B : Nat} {H : GH} {b : Nat} {o : Obj} : up B H b = some o ↔ B ≤ b ∧ H b = some o ∧ okO o = true := by
  unfold up
  split
  · exact ⟨nofun, fun h => by omega⟩
  · rename_i hlt
    rw [Option.filter_eq_some_iff]
    exact ⟨fun h => ⟨by omega, h.1, h.2⟩, fun h => ⟨h.2.1, h.2.2⟩⟩
theorem upI {B : Nat} {H : GH} : Inc (up B H) H := fun _ _ h => (up_iff.1 h).2.1
theorem up_mono {B : Nat} {H H' : GH} (h : Inc H H') : Inc (up B H) (up B H') := fun b o hb => by
  rw [up_iff] at *; exact ⟨hb.1, h b o hb.2.1, hb.2.2⟩
theorem up_le {B B' : Nat} {H : GH} (h : B ≤ B') : Inc (up B' H) (up B H) := fun b o hb => by
  rw [up_iff] at *; exact ⟨Nat.le_trans h hb.1, hb.2⟩

/-- blocks that are not in H yet -/
def New (H : GH) (cs : List Value) : Prop := ∀ b ∈ bl cs, H b = none
theorem New.anti {H H' : GH} {cs : List Value} (h : New H' cs) (hi : Inc H H') : New H cs := fun b hb => by
  cases hh : H b with
  | none => rfl
  | some o => have := hi b o hh; rw [h b hb] at this; cases this
theorem New.nil {H : GH} : New H [] := fun _ h => by cases h
theorem New.app {H : GH} {a b : List Value} (h1 : New H a) (h2 : New H b) : New H (a ++ b) := fun c hc => by
  rw [bl_app] at hc
  rcases List.mem_append.1 hc with h | h
  · exact h1 c h
  · exact h2 c h

section
variable {P : Program} {w w' : World} {H0 H H' : GH} {w0 : World} {l : List MO} {e k n : Nat} {v : Value} {A : Type} {En : Enc A}

theorem Els.dom {cells : List Value} {xs : List A} (h : Els H En k cells xs) : ∀ b ∈ bl cells, H b ≠ none := by
  induction h with
  | nil => intro b hb; cases hb
  | snoc _ _ hx ih =>
    intro b hb
    rw [bl_app] at hb
    rcases List.mem_append.1 hb with h | h
    · exact ih b h
    · exact En.dom hx b h

/-- cells put behind others, whose blocks were there already -/
theorem nd_app {a b : List Value} (ha : (bl a).Nodup) (hb : (bl b).Nodup) (hd : ∀ x ∈ bl a, H x ≠ none) (hn : New H b) : (bl (a ++ b)).Nodup := by
  rw [bl_app]
  exact List.nodup_append.2 ⟨ha, hb, fun x hx y hy e => hd x hx (e ▸ hn y hy)⟩
theorem nd_one (v : Value) : (bl [v]).Nodup := by
  unfold bl
  cases h : neb v <;> simp [h]
/-- one element's cells put in the place of others -/
theorem nd_put {a b : List Value} {i j : Nat} (hij : i ≤ j) (ha : (bl a).Nodup) (hb : (bl b).Nodup) (hd : ∀ x ∈ bl a, H x ≠ none) (hn : New H b) : (bl (a.take i ++ b ++ a.drop j)).Nodup := by
  have h1 : (bl (a ++ b)).Nodup := nd_app ha hb hd hn
  have h2 : (bl (a.take i ++ a.drop j ++ b)).Nodup := by
    have hs : (a.take i ++ a.drop j).Sublist a := by
      have := (List.Sublist.refl (a.take i)).append (List.drop_sublist_drop_left a hij)
      rwa [List.take_append_drop] at this
    have hs2 : (bl (a.take i ++ a.drop j ++ b)).Sublist (bl (a ++ b)) := (hs.append (List.Sublist.refl b)).filterMap neb
    exact h1.sublist hs2
  have hp : (bl (a.take i ++ b ++ a.drop j)).Perm (bl (a.take i ++ a.drop j ++ b)) := by
    unfold bl
    refine List.Perm.filterMap neb ?_
    rw [List.append_assoc, List.append_assoc]
    exact List.Perm.append_left _ List.perm_append_comm
  exact hp.nodup_iff.2 h2

/-- a row sealed: fresh, in a block that is new -/
theorem St.sealRowU {xs : List A} (h : St H0 w0 H w l) {i : Nat} {cells : List Value} {l' : List MO} (hi : l[i]? = some (.row e k v n cells)) (he : Els (up w0.heap.size H) En k cells xs) (hk : 0 < k) (hl : l.eraseIdx i = l') :
    ∃ H1, St H0 w0 H1 w l' ∧ Inc H H1 ∧ RSl (up w0.heap.size H1) En k v xs ∧ New H [v] := by
  obtain ⟨H1, h1, h2, h3⟩ := h.sealRow hi (he.mono upI) hk hl
  refine ⟨H1, h1, h2, ?_, fun b hb => ?_⟩
  · obtain ⟨a, cap, rfl, g1, g2⟩ := h3
    refine ⟨a, cap, rfl, g1, fun j x hx => ?_⟩
    obtain ⟨p, cs, rfl, g4, ⟨arr, t, fr, g5, g6⟩, _⟩ := g2 j x hx
    obtain ⟨c, q1, q2, q3⟩ := he.get _ _ hx
    obtain ⟨⟨k1, k2⟩, _⟩ := h.ok i _ hi
    rcases k2 with ⟨hv, _⟩ | ⟨g, cap', cur, hv, hg, hh, hle, hcm, hsz, htk⟩
    · cases hv
    · cases hv
      refine ⟨_, c, rfl, q1, ⟨arr, t, fr, ?_, g6.1, fun m u hu => ?_⟩, En.mono (up_mono h2) q2⟩
      · have hnow := h1.sl _ _ g5
        rw [Addr.add_lit] at g5 hnow ⊢
        simp only at g5 hnow ⊢
        rw [hh] at hnow
        cases hnow
        exact up_iff.2 ⟨hg, g5, rfl⟩
      · have h4 := q3 m u hu
        rw [Addr.add_lit] at g5
        have hnow := h1.sl _ _ g5
        simp only at hnow
        rw [hh] at hnow
        cases hnow
        rw [← htk, List.getElem?_take] at h4
        split at h4
        · rw [Addr.add_lit]; simpa using h4
        · cases h4
  · obtain ⟨u, hu, hn⟩ := mem_bl hb
    simp only [List.mem_singleton] at hu
    subst hu
    refine h.out i _ b hi ?_
    cases u <;> simp only [neb] at hn <;> try (cases hn)
    rename_i a m c
    cases a with
    | none => cases hn
    | some a =>
      simp only at hn
      split at hn
      · cases hn
      · exact hn

/-- what a call made is new for the caller -/
theorem New.of_up (hs : Sl H w) {cs : List Value} (hd : ∀ b ∈ bl cs, up w.heap.size H' b ≠ none) : New H cs := fun b hb => by
  cases hh : H b with
  | none => rfl
  | some o =>
    have h1 := (Array.getElem?_eq_some_iff.1 (hs b o hh)).1
    have := hd b hb
    unfold up at this
    rw [if_pos h1] at this
    exact absurd rfl this

/-- the ghost heap below B, and what was made above it -/
def over (B : Nat) (H H' : GH) : GH := fun b => if b < B then H b else (H' b).filter still
theorem okO_cells {o : Obj} (h : okO o = true) : still o = true := by cases o <;> first | rfl | cases h
theorem over_ge {B : Nat} {H H' : GH} {b : Nat} {o : Obj} (hb : B ≤ b) : over B H H' b = some o ↔ H' b = some o ∧ still o = true := by
  unfold over; rw [if_neg (by omega), Option.filter_eq_some_iff]
theorem over_up {B : Nat} {H H' : GH} : Inc (up B H') (over B H H') := fun b o h => by
  have h := up_iff.1 h
  exact (over_ge h.1).2 ⟨h.2.1, okO_cells h.2.2⟩
theorem Run.lendM {Hl : GH} (_hi : Inc H Hl) (hs : Sl H w) (hr : Run w.heap.size Hl w H' w') : Run w.heap.size H w (over w.heap.size H H') w' := by
  refine ⟨hr.bel, fun b hb => by unfold over; rw [if_pos hb], fun b o hb => ?_, fun b o hb => ?_, hr.drw, fun b o hb => ?_⟩
  · by_cases hlt : b < w.heap.size
    · unfold over at hb; rw [if_pos hlt] at hb
      rw [hr.bel.block b hlt]; exact hs b o hb
    · exact hr.sl b o ((over_ge (by omega)).1 hb).1
  · have hlt := (Array.getElem?_eq_some_iff.1 (hs b o hb)).1
    unfold over; rw [if_pos hlt]; exact hb
  · by_cases hlt : b < w.heap.size
    · unfold over at hb; rw [if_pos hlt] at hb; exact .inl hb
    · exact .inr ((over_ge (by omega)).1 hb).2
theorem St.lendM {Hl : GH} {lo : List MO} (hi : Inc H Hl) (hs : Sl H w) (hr : St Hl w H' w' lo) : St H w (over w.heap.size H H') w' lo := by
  refine ⟨Run.lendM hi hs hr.run, hr.ok, fun i o b hi' hb => ?_, hr.dis⟩
  have := ((hr.ok i o hi').lt b hb).1
  unfold over
  rw [if_neg (by omega), hr.out i o b hi' hb]; rfl
theorem up_over {B : Nat} {H H' : GH} : Inc (up B H') (up B (over B H H')) := fun b o h => by
  have h := up_iff.1 h
  exact up_iff.2 ⟨h.1, (over_ge h.1).2 ⟨h.2.1, okO_cells h.2.2⟩, h.2.2⟩
theorem Run.lendX {Hl : GH} (hi : Inc H Hl) (hs : Sl H w) (hr : Run w.heap.size Hl w H' w') : ∃ Hm, Run w.heap.size H w Hm w' ∧ Inc (up w.heap.size H') (up w.heap.size Hm) :=
  ⟨_, Run.lendM hi hs hr, up_over⟩
theorem St.lendX {Hl : GH} {lo : List MO} (hi : Inc H Hl) (hs : Sl H w) (hr : St Hl w H' w' lo) : ∃ Hm, St H w Hm w' lo ∧ Inc (up w.heap.size H') (up w.heap.size Hm) :=
  ⟨_, St.lendM hi hs hr, up_over⟩
theorem Els.any {cells : List Value} {xs : List A} (h : Els H En k cells xs) (hE : ∀ (H H' : GH) cs x, En.rel H cs x → En.rel H' cs x) : Els H' En k cells xs := by
  induction h with
  | nil => exact .nil
  | snoc _ hc hx ih => exact .snoc ih hc (hE _ _ _ _ hx)
end
end Go.Mr
