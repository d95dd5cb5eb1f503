/- Resolvents: the merged list of one package is the sorted list of the other. -/
import Derived.Test.YtjpjbfbloplacaaGreatIpPl3
namespace Go.PF
open Go.Pu

theorem foldl_filter {α : Type} {p : α → Bool} : ∀ {l s : List α}, l.foldl (fun s y => bif p y then s ++ [y] else s) s = s ++ l.filter p := by
  intro l
  induction l with
  | nil => intro s; simp
  | cons y l ih =>
    intro s
    rw [List.foldl_cons, ih]
    cases h : p y <;> simp [h]
/-- a loop that keeps some of the elements -/
theorem forL_filter {α X : Type} {f : Nat → α → List α → Option (Lp (List α) X)} {p : α → Bool} {l : List α} (hf : ∀ i y s, l[i]? = some y → f i y s = bif p y then bd (app s [y]) fun xs => some (.nx xs) else some (.nx s)) (hl : l.length ≤ lim) :
    forL l f [] = some (.go (l.filter p)) := by
  have := (forL_foldI (X := X) (body := f) (fun s y => bif p y then s ++ [y] else s) (l := l) (s := []) (fun i s => s.length ≤ i) (by simp) (fun i x t hx ht => by
    have hi := (List.getElem?_eq_some_iff.1 hx).1
    rw [hf i x t hx]
    cases p x with
    | false => exact ⟨rfl, by simp only [cond_false]; omega⟩
    | true =>
      simp only [cond_true]
      rw [app_ok (by simp; omega), bd_some]
      exact ⟨rfl, by simp; omega⟩)).1
  rw [this, foldl_filter]; rfl

def without (c : List Int) (v : Int) : List Int := c.filter fun y => !(vr y == v)
theorem filter_take {α : Type} {p : α → Bool} {c : List α} {j : Nat} {x : α} (hx : c[j]? = some x) : (c.take (j + 1)).filter p = (c.take j).filter p ++ bif p x then [x] else [] := by
  rw [List.take_add_one, hx, Option.toList_some, List.filter_append]
  cases h : p x <;> simp [List.filter, h]
/-- slices.DeleteFunc's loop -/
theorem del_loop {α : Type} {n : Nat} (hn : n ≤ 9223372036854775806) {c : List α} (hc : c.length = n) {f : α → Option Bool} {g : α → Bool} (h : ∀ y ∈ c, f y = some (g y)) :
    ∀ (m j i : Nat) (s : List α), j + m = n → i ≤ j → s.length = n → s.take i = (c.take j).filter (fun y => !g y) → s.drop j = c.drop j →
      ∃ s' i', iter (S := (List α) × Int × Int) (X := Empty) (fun s32 => (bif (decide (s32.2.2 < (len s32.1))) then bd (ix s32.1 s32.2.2) (fun x143 => bd (f x143) (fun r145 => (bif (!r145) then bd (ix s32.1 s32.2.1) (fun _ => bd (put s32.1 s32.2.1 x143) (fun xs167 => some (Lp.nx (xs167, (wr (s32.2.1 + 1)), (wr (s32.2.2 + 1)))))) else some (Lp.nx (s32.1, s32.2.1, (wr (s32.2.2 + 1))))))) else some (Lp.bk (s32.1, s32.2.1, s32.2.2)))) (s, (i : Int), (j : Int)) =
        some (.go (s', ((i' : Nat) : Int), (n : Int))) ∧ i' ≤ n ∧ s'.length = n ∧ s'.take i' = c.filter (fun y => !g y) := by
  intro m
  induction m with
  | zero =>
    intro j i s hj hi hs ht _
    have : j = n := by omega
    subst this
    refine ⟨s, i, iter_bk ?_, hi, hs, by rw [ht, List.take_of_length_le (by omega)]⟩
    have hd : decide (((j : Nat) : Int) < len s) = false := by rw [len_eq, hs]; simp
    simp only [hd, cond_false]
  | succ m ih =>
    intro j i s hj hi hs ht hd
    have hjn : j < n := by omega
    have hx : s[j]? = some c[j] := by
      have := congrArg (·[0]?) hd
      simp only [List.getElem?_drop, Nat.add_zero] at this
      rw [this]; exact List.getElem?_eq_getElem (by omega)
    have hlt : decide (((j : Nat) : Int) < len s) = true := by rw [len_eq, hs]; simp; omega
    have hg := h c[j] (List.getElem_mem _)
    have e1 : wr ((j : Int) + 1) = ((j + 1 : Nat) : Int) := by rw [wr_of _ (by omega) (by omega)]; simp
    have e2 : wr ((i : Int) + 1) = ((i + 1 : Nat) : Int) := by rw [wr_of _ (by omega) (by omega)]; simp
    cases hgc : g c[j] with
    | true =>
      obtain ⟨s', i', q1, q2⟩ := ih (j + 1) i s (by omega) (by omega) hs (by
        rw [ht, filter_take (List.getElem?_eq_getElem (by omega)), hgc]; simp) (by
        have := congrArg (List.drop 1) hd
        rwa [List.drop_drop, List.drop_drop] at this)
      refine ⟨s', i', ?_, q2⟩
      rw [← q1]
      refine iter_nx ?_
      simp only [hlt, cond_true, ix_get, hx, bd_some, hg, hgc, Bool.not_true, cond_false, e1]
    | false =>
      obtain ⟨s', i', q1, q2⟩ := ih (j + 1) (i + 1) (s.set i c[j]) (by omega) (by omega) (by simpa using hs) (by
        rw [List.take_add_one, List.getElem?_set_self (by omega), List.take_set_of_le (Nat.le_refl _), ht, filter_take (List.getElem?_eq_getElem (show j < c.length by omega)), hgc]; rfl) (by
        rw [List.drop_set_of_lt (by omega)]
        have := congrArg (List.drop 1) hd
        rwa [List.drop_drop, List.drop_drop] at this)
      refine ⟨s', i', ?_, q2⟩
      rw [← q1]
      refine iter_nx ?_
      simp only [hlt, cond_true, ix_get, hx, bd_some, hg, hgc, Bool.not_false, e1, e2]
      rw [List.getElem?_eq_getElem (show i < s.length by omega), bd_some, put_ok (by omega), bd_some]
def putL (c : List Int) (l : Int) : List Int := c.takeWhile (fun y => decide (vr y < vr l)) ++ l :: c.dropWhile (fun y => decide (vr y < vr l))
theorem takeWhile_le {α : Type} {p : α → Bool} (l : List α) : (l.takeWhile p).length ≤ l.length := (List.takeWhile_prefix p).length_le
theorem take_takeWhile {α : Type} {p : α → Bool} (l : List α) : l.take (l.takeWhile p).length = l.takeWhile p := by
  conv => lhs; rw [← List.takeWhile_append_dropWhile (p := p) (l := l)]
  rw [List.takeWhile_append_dropWhile]
  exact List.prefix_iff_eq_take.1 (List.takeWhile_prefix p) |>.symm
theorem drop_takeWhile {α : Type} {p : α → Bool} (l : List α) : l.drop (l.takeWhile p).length = l.dropWhile p := by
  have h := List.takeWhile_append_dropWhile (p := p) (l := l)
  have h2 : l.drop (l.takeWhile p).length = (l.takeWhile p ++ l.dropWhile p).drop (l.takeWhile p).length := by rw [h]
  rw [h2, List.drop_left]
theorem putL_length (c : List Int) (l : Int) : (putL c l).length = c.length + 1 := by
  have := congrArg List.length (List.takeWhile_append_dropWhile (p := fun y => decide (vr y < vr l)) (l := c))
  unfold putL; simp only [List.length_append, List.length_cons] at this ⊢; omega
def joinL : List Int → List Int → Option (List Int)
  | s, [] => some s
  | s, y :: b => bif s.contains (wr (-y)) then none else joinL (bif !s.contains y then putL s y else s) b
abbrev Srt (c : List Int) : Prop := c.Pairwise fun a b => a.natAbs < b.natAbs
/-- numbers of a clause -/
def Sm (c : List Int) : Prop := ∀ l ∈ c, -12 ≤ l ∧ l ≤ 12 ∧ l ≠ 0
theorem putL_mem {c : List Int} {l x : Int} : x ∈ putL c l ↔ x = l ∨ x ∈ c := by
  have h := List.takeWhile_append_dropWhile (p := fun y => decide (vr y < vr l)) (l := c)
  have : x ∈ c ↔ x ∈ c.takeWhile (fun y => decide (vr y < vr l)) ∨ x ∈ c.dropWhile (fun y => decide (vr y < vr l)) := by rw [← List.mem_append, h]
  unfold putL
  rw [this, List.mem_append, List.mem_cons]
  constructor
  · rintro (h | h | h)
    · exact .inr (.inl h)
    · exact .inl h
    · exact .inr (.inr h)
  · rintro (h | h | h)
    · exact .inr (.inl h)
    · exact .inl h
    · exact .inr (.inr h)
theorem putL_srt {c : List Int} {l : Int} (hc : Srt c) (hs : Sm c) (hl : -12 ≤ l ∧ l ≤ 12) (hn : ∀ x ∈ c, x.natAbs ≠ l.natAbs) : Srt (putL c l) := by
  have hv : ∀ x ∈ c, (decide (vr x < vr l) = true ↔ x.natAbs < l.natAbs) := fun x hx => by
    have := hs x hx
    rw [decide_eq_true_eq, vr_abs (by omega) (by omega), vr_abs hl.1 hl.2]; omega
  unfold putL
  induction c with
  | nil => simp
  | cons y c ih =>
    obtain ⟨h1, h2⟩ := List.pairwise_cons.1 hc
    rw [List.takeWhile_cons, List.dropWhile_cons]
    by_cases hy : decide (vr y < vr l) = true
    · rw [if_pos hy, if_pos hy, List.cons_append]
      have ih := ih h2 (fun x hx => hs x (by simp [hx])) (fun x hx => hn x (by simp [hx])) (fun x hx => hv x (by simp [hx]))
      refine List.pairwise_cons.2 ⟨fun x hx => ?_, ih⟩
      rcases (putL_mem (c := c) (l := l)).1 hx with rfl | hx
      · exact (hv y (by simp)).1 hy
      · exact h1 x hx
    · rw [if_neg hy, if_neg hy, List.nil_append]
      have hly : l.natAbs < y.natAbs := by
        have := hn y (by simp)
        have h3 : ¬ y.natAbs < l.natAbs := fun h => hy ((hv y (by simp)).2 h)
        omega
      refine List.pairwise_cons.2 ⟨fun x hx => ?_, hc⟩
      rcases List.mem_cons.1 hx with rfl | hx
      · exact hly
      · have := h1 x hx; omega
theorem joinL_spec : ∀ {b s : List Int}, Srt s → Sm s → Srt b → Sm b →
    (if ∃ y ∈ b, -y ∈ s then joinL s b = none else ∃ t, joinL s b = some t ∧ Srt t ∧ ∀ x, x ∈ t ↔ x ∈ s ∨ x ∈ b) := by
  intro b
  induction b with
  | nil => intro s hs _ _ _; simp only [List.not_mem_nil, false_and, exists_false, if_false, or_false]; exact ⟨s, rfl, hs, fun _ => Iff.rfl⟩
  | cons y b ih =>
    intro s hs hs2 hb hb2
    obtain ⟨h1, h2⟩ := List.pairwise_cons.1 hb
    have hy := hb2 y (by simp)
    have hw : wr (-y) = -y := wr_of _ (by omega) (by omega)
    simp only [joinL, hw]
    by_cases hn : -y ∈ s
    · rw [if_pos ⟨y, by simp, hn⟩, List.contains_iff_mem.2 hn]; rfl
    · have hnc : s.contains (-y) = false := by rw [Bool.eq_false_iff]; exact fun h => hn (List.contains_iff_mem.1 h)
      rw [hnc, cond_false]
      by_cases hin : y ∈ s
      · rw [List.contains_iff_mem.2 hin]
        simp only [Bool.not_true, cond_false]
        have := ih hs hs2 h2 (fun x hx => hb2 x (by simp [hx]))
        have e1 : (∃ z ∈ y :: b, -z ∈ s) ↔ ∃ z ∈ b, -z ∈ s := by
          constructor
          · rintro ⟨z, hz, hz2⟩
            rcases List.mem_cons.1 hz with rfl | hz
            · exact absurd hz2 hn
            · exact ⟨z, hz, hz2⟩
          · rintro ⟨z, hz, hz2⟩; exact ⟨z, by simp [hz], hz2⟩
        simp only [e1]
        split at this
        · rename_i hex; rw [if_pos hex]; exact this
        · rename_i hex
          rw [if_neg hex]
          obtain ⟨t, t1, t2, t3⟩ := this
          refine ⟨t, t1, t2, fun x => ?_⟩
          rw [t3, List.mem_cons]
          constructor
          · rintro (h | h)
            · exact .inl h
            · exact .inr (.inr h)
          · rintro (h | rfl | h)
            · exact .inl h
            · exact .inl hin
            · exact .inr h
      · have hic : s.contains y = false := by rw [Bool.eq_false_iff]; exact fun h => hin (List.contains_iff_mem.1 h)
        rw [hic]
        simp only [Bool.not_false, cond_true]
        have hne : ∀ x ∈ s, x.natAbs ≠ y.natAbs := fun x hx e => by
          have : x = y ∨ x = -y := by omega
          rcases this with rfl | rfl
          · exact hin hx
          · exact hn hx
        have := ih (putL_srt hs hs2 ⟨hy.1, hy.2.1⟩ hne) (fun x hx => by
          rcases putL_mem.1 hx with rfl | hx
          · exact hy
          · exact hs2 x hx) h2 (fun x hx => hb2 x (by simp [hx]))
        have e1 : (∃ z ∈ y :: b, -z ∈ s) ↔ ∃ z ∈ b, -z ∈ putL s y := by
          constructor
          · rintro ⟨z, hz, hz2⟩
            rcases List.mem_cons.1 hz with rfl | hz
            · exact absurd hz2 hn
            · exact ⟨z, hz, putL_mem.2 (.inr hz2)⟩
          · rintro ⟨z, hz, hz2⟩
            rcases putL_mem.1 hz2 with e | hz2
            · have := h1 z hz; omega
            · exact ⟨z, by simp [hz], hz2⟩
        simp only [e1]
        split at this
        · rename_i hex; rw [if_pos hex]; exact this
        · rename_i hex
          rw [if_neg hex]
          obtain ⟨t, t1, t2, t3⟩ := this
          refine ⟨t, t1, t2, fun x => ?_⟩
          rw [t3, putL_mem, List.mem_cons]
          constructor
          · rintro ((h | h) | h)
            · exact .inr (.inl h)
            · exact .inl h
            · exact .inr (.inr h)
          · rintro (h | h | h)
            · exact .inl (.inr h)
            · exact .inl (.inl h)
            · exact .inr h

/-! the sorted list -/
end Go.PF
