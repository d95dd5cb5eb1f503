/- Resolvents: the merged list of one package is the sorted list of the other. -/
import Derived.Test.YtjkhehplbjempaaGreatDoorDtPl3
namespace Go.PF
open Go.Pu

theorem foldl_filter {α : Type} {p : α → Bool} : ∀ {l s : List α}, l.foldl (fun s y => bif p y then s ++ [y] else s) s = s ++ l.filter p := by
  intro l
  induction l with
  | nil => intro s; simp
  | cons y l ih =>
    intro s
    rw [List.foldl_cons, ih]
    cases h : p y <;> simp [h]
/-- a loop that keeps some of the elements -/
theorem forL_filter {α X : Type} {f : Nat → α → List α → Option (Lp (List α) X)} {p : α → Bool} {l : List α} (hf : ∀ i y s, l[i]? = some y → f i y s = bif p y then bd (app s [y]) fun xs => some (.nx xs) else some (.nx s)) (hl : l.length ≤ lim) :
    forL l f [] = some (.go (l.filter p)) := by
  have := (forL_foldI (X := X) (body := f) (fun s y => bif p y then s ++ [y] else s) (l := l) (s := []) (fun i s => s.length ≤ i) (by simp) (fun i x t hx ht => by
    have hi := (List.getElem?_eq_some_iff.1 hx).1
    rw [hf i x t hx]
    cases p x with
    | false => exact ⟨rfl, by simp only [cond_false]; omega⟩
    | true =>
      simp only [cond_true]
      rw [app_ok (by simp; omega), bd_some]
      exact ⟨rfl, by simp; omega⟩)).1
  rw [this, foldl_filter]; rfl

def without (c : List Int) (v : Int) : List Int := c.filter fun y => !(vr y == v)
theorem spec_l2Without_eq {c : List Int} {v : Int} (hl : c.length ≤ lim) : spec_l2Without c v = some (without c v) := by
  unfold spec_l2Without without
  rw [forL_filter (p := fun y => !(vr y == v)) (fun i y s _ => by rfl) hl]; rfl

theorem filter_take {α : Type} {p : α → Bool} {c : List α} {j : Nat} {x : α} (hx : c[j]? = some x) : (c.take (j + 1)).filter p = (c.take j).filter p ++ bif p x then [x] else [] := by
  rw [List.take_add_one, hx, Option.toList_some, List.filter_append]
  cases h : p x <;> simp [List.filter, h]
/-- slices.DeleteFunc's loop -/
theorem del_loop {α : Type} {n : Nat} (hn : n ≤ 9223372036854775806) {c : List α} (hc : c.length = n) {f : α → Option Bool} {g : α → Bool} (h : ∀ y ∈ c, f y = some (g y)) :
    ∀ (m j i : Nat) (s : List α), j + m = n → i ≤ j → s.length = n → s.take i = (c.take j).filter (fun y => !g y) → s.drop j = c.drop j →
      ∃ s' i', iter (S := (List α) × Int × Int) (X := Empty) (fun s32 => (bif (decide (s32.2.2 < (len s32.1))) then bd (ix s32.1 s32.2.2) (fun x143 => bd (f x143) (fun r145 => (bif (!r145) then bd (ix s32.1 s32.2.1) (fun _ => bd (put s32.1 s32.2.1 x143) (fun xs167 => some (Lp.nx (xs167, (wr (s32.2.1 + 1)), (wr (s32.2.2 + 1)))))) else some (Lp.nx (s32.1, s32.2.1, (wr (s32.2.2 + 1))))))) else some (Lp.bk (s32.1, s32.2.1, s32.2.2)))) (s, (i : Int), (j : Int)) =
        some (.go (s', ((i' : Nat) : Int), (n : Int))) ∧ i' ≤ n ∧ s'.length = n ∧ s'.take i' = c.filter (fun y => !g y) := by
  intro m
  induction m with
  | zero =>
    intro j i s hj hi hs ht _
    have : j = n := by omega
    subst this
    refine ⟨s, i, iter_bk ?_, hi, hs, by rw [ht, List.take_of_length_le (by omega)]⟩
    have hd : decide (((j : Nat) : Int) < len s) = false := by rw [len_eq, hs]; simp
    simp only [hd, cond_false]
  | succ m ih =>
    intro j i s hj hi hs ht hd
    have hjn : j < n := by omega
    have hx : s[j]? = some c[j] := by
      have := congrArg (·[0]?) hd
      simp only [List.getElem?_drop, Nat.add_zero] at this
      rw [this]; exact List.getElem?_eq_getElem (by omega)
    have hlt : decide (((j : Nat) : Int) < len s) = true := by rw [len_eq, hs]; simp; omega
    have hg := h c[j] (List.getElem_mem _)
    have e1 : wr ((j : Int) + 1) = ((j + 1 : Nat) : Int) := by rw [wr_of _ (by omega) (by omega)]; simp
    have e2 : wr ((i : Int) + 1) = ((i + 1 : Nat) : Int) := by rw [wr_of _ (by omega) (by omega)]; simp
    cases hgc : g c[j] with
    | true =>
      obtain ⟨s', i', q1, q2⟩ := ih (j + 1) i s (by omega) (by omega) hs (by
        rw [ht, filter_take (List.getElem?_eq_getElem (by omega)), hgc]; simp) (by
        have := congrArg (List.drop 1) hd
        rwa [List.drop_drop, List.drop_drop] at this)
      refine ⟨s', i', ?_, q2⟩
      rw [← q1]
      refine iter_nx ?_
      simp only [hlt, cond_true, ix_get, hx, bd_some, hg, hgc, Bool.not_true, cond_false, e1]
    | false =>
      obtain ⟨s', i', q1, q2⟩ := ih (j + 1) (i + 1) (s.set i c[j]) (by omega) (by omega) (by simpa using hs) (by
        rw [List.take_add_one, List.getElem?_set_self (by omega), List.take_set_of_le (Nat.le_refl _), ht, filter_take (List.getElem?_eq_getElem (show j < c.length by omega)), hgc]; rfl) (by
        rw [List.drop_set_of_lt (by omega)]
        have := congrArg (List.drop 1) hd
        rwa [List.drop_drop, List.drop_drop] at this)
      refine ⟨s', i', ?_, q2⟩
      rw [← q1]
      refine iter_nx ?_
      simp only [hlt, cond_true, ix_get, hx, bd_some, hg, hgc, Bool.not_false, e1, e2]
      rw [List.getElem?_eq_getElem (show i < s.length by omega), bd_some, put_ok (by omega), bd_some]
theorem slices_DeleteFunc_int_int_eq {c : List Int} {f : Int → Option Bool} {g : Int → Bool} (h : ∀ y ∈ c, f y = some (g y)) (hl : c.length ≤ lim) : slices_DeleteFunc_int_int c f = some (c.filter fun y => !g y) := by
  obtain ⟨r, h1, _, h3, h4⟩ := slices_IndexFunc_int_int_ge h
  unfold slices_DeleteFunc_int_int
  rw [h1, bd_some]
  unfold lim at hl
  cases hf : findI (fun _ y => g y) c 0 with
  | none =>
    rw [h4 hf]
    have := findI_none.1 hf
    rw [anyI_any, List.any_eq_false] at this
    simp only [BEq.rfl, cond_true]
    rw [List.filter_eq_self.2]
    intro y hy; have := this y hy; simp only [Bool.not_eq_true] at this; rw [this]; rfl
  | some z =>
    have hz := h3 z hf
    subst hz
    obtain ⟨_, k2, k3, _⟩ := findI_some hf
    rw [Nat.sub_zero] at k2
    have hzl := (List.getElem?_eq_some_iff.1 k2).1
    have hne : (((z.1 : Nat) : Int) == -1) = false := by simp
    rw [hne, cond_false, show wr (((z.1 : Nat) : Int) + 1) = ((z.1 + 1 : Nat) : Int) by rw [wr_of _ (by omega) (by omega)]; simp]
    obtain ⟨s', i', q1, q2, q3, q4⟩ := del_loop (n := c.length) (by omega) rfl h (c.length - (z.1 + 1)) (z.1 + 1) z.1 c (by omega) (by omega) rfl (by
      rw [List.take_add_one, k2]
      have hall : ∀ y ∈ c.take z.1, g y = false := by
        intro y hy
        obtain ⟨i, hi⟩ := List.mem_iff_getElem?.1 hy
        rw [List.getElem?_take] at hi
        split at hi
        · rename_i hlt
          -- no earlier one
          have key : ∀ (l : List Int) (k : Nat) (z : Nat × Int), findI (fun _ y => g y) l k = some z → ∀ i y, l[i]? = some y → k + i < z.1 → g y = false := by
            intro l
            induction l with
            | nil => intro k z _ i y hy; simp at hy
            | cons x l ih =>
              intro k z hz i y hy hlt
              simp only [findI] at hz
              cases hgx : g x with
              | true => rw [hgx] at hz; simp at hz; subst hz; simp at hlt; omega
              | false =>
                rw [hgx] at hz; simp only [cond_false] at hz
                cases i with
                | zero => simp at hy; subst hy; exact hgx
                | succ i => exact ih (k + 1) z hz i y (by simpa using hy) (by omega)
          exact key c 0 z hf i y hi (by omega)
        · cases hi
      rw [List.filter_append, List.filter_eq_self.2 (fun y hy => by rw [hall y hy]; rfl)]
      simp [k3]) rfl
    rw [q1, bdR_go]
    simp only
    rw [show len s' = ((s'.length : Nat) : Int) from rfl, cut_ok (by omega) (Nat.le_refl _), bd_some]
    have hcl : clearL 0 s' (i' : Int) = s'.take i' ++ List.replicate (s'.length - i') 0 := by unfold clearL; simp
    rw [hcl, show (0 : Int) = ((0 : Nat) : Int) from rfl, cut_ok (Nat.zero_le _) (by simp; omega), bd_some, List.drop_zero, List.take_left' (by simp; omega), q4]
theorem slices_Clone_int_int_eq {c : List Int} (hl : c.length ≤ lim) : slices_Clone_int_int c = some c := by
  unfold slices_Clone_int_int; rw [app_ok (by simpa using hl)]; rfl
theorem impl_withoutVar_eq {c : List Int} {v : Int} (hc : ∀ y ∈ c, okI y) (hl : c.length ≤ lim) : impl_withoutVar c v = some (without c v) := by
  unfold impl_withoutVar without
  rw [slices_Clone_int_int_eq hl, bd_some, slices_DeleteFunc_int_int_eq (g := fun y => vr y == v) (fun y hy => by unfold impl_withoutVar_1; rw [impl_abs_eq (hc y hy)]) hl]; rfl

/-! the merged list -/
def putL (c : List Int) (l : Int) : List Int := c.takeWhile (fun y => decide (vr y < vr l)) ++ l :: c.dropWhile (fun y => decide (vr y < vr l))
theorem spec_l1Own_eq {c : List Int} (hl : c.length ≤ lim) : spec_l1Own c = some c := by
  unfold spec_l1Own; rw [app_ok (by simpa using hl)]; rfl
theorem takeWhile_le {α : Type} {p : α → Bool} (l : List α) : (l.takeWhile p).length ≤ l.length := (List.takeWhile_prefix p).length_le
theorem take_takeWhile {α : Type} {p : α → Bool} (l : List α) : l.take (l.takeWhile p).length = l.takeWhile p := by
  conv => lhs; rw [← List.takeWhile_append_dropWhile (p := p) (l := l)]
  rw [List.takeWhile_append_dropWhile]
  exact List.prefix_iff_eq_take.1 (List.takeWhile_prefix p) |>.symm
theorem drop_takeWhile {α : Type} {p : α → Bool} (l : List α) : l.drop (l.takeWhile p).length = l.dropWhile p := by
  have h := List.takeWhile_append_dropWhile (p := p) (l := l)
  have h2 : l.drop (l.takeWhile p).length = (l.takeWhile p ++ l.dropWhile p).drop (l.takeWhile p).length := by rw [h]
  rw [h2, List.drop_left]
theorem spec_l2Put_eq {c : List Int} {l : Int} (hl : c.length + 1 ≤ lim) : spec_l2Put c l = some (putL c l) := by
  unfold spec_l2Put putL
  have hl' : c.length + 1 ≤ 4294967296 := hl
  rw [iter_while (xs := c) (p := fun y => decide (vr y < vr l)) (fun i y hy => by
    have hi := (List.getElem?_eq_some_iff.1 hy).1
    have hd : decide ((i : Int) < len c) = true := by rw [len_eq]; simp; omega
    rw [hd, ix_get, hy]
    simp only [cond_true, bd_some, spec_l2Var_eq]
    rw [wr_succ hi (by omega)]; rfl) (by
    have hd : decide (((c.length : Nat) : Int) < len c) = false := by rw [len_eq]; simp
    rw [hd]; rfl), bdR_go]
  have hk := takeWhile_le (p := fun y => decide (vr y < vr l)) c
  rw [show (0 : Int) = ((0 : Nat) : Int) from rfl, cut_ok (Nat.zero_le _) hk, bd_some, List.drop_zero, take_takeWhile, spec_l1Own_eq (by omega), bd_some, app_ok (by simp; omega), bd_some,
    len_eq, cut_ok hk (Nat.le_refl _), bd_some, List.take_length, drop_takeWhile, app_ok, bd_some]
  · simp
  · have := congrArg List.length (List.takeWhile_append_dropWhile (p := fun y => decide (vr y < vr l)) (l := c))
    simp only [List.length_append] at this ⊢
    simp only [List.length_singleton]
    unfold lim; omega
theorem putL_length (c : List Int) (l : Int) : (putL c l).length = c.length + 1 := by
  have := congrArg List.length (List.takeWhile_append_dropWhile (p := fun y => decide (vr y < vr l)) (l := c))
  unfold putL; simp only [List.length_append, List.length_cons] at this ⊢; omega
def joinL : List Int → List Int → Option (List Int)
  | s, [] => some s
  | s, y :: b => bif s.contains (wr (-y)) then none else joinL (bif !s.contains y then putL s y else s) b
theorem spec_l2Join_eq {a b : List Int} (hl : a.length + b.length ≤ lim) : spec_l2Join a b = some (match joinL a b with | some s => (s, true) | none => ([], false)) := by
  unfold spec_l2Join
  rw [spec_l1Own_eq (by omega), bd_some]
  have key : ∀ (F : Nat → Int → List Int → Option (Lp (List Int) (List Int × Bool))), (∀ i y s, F i y s = bd (PF.spec_l2Has s (wr (-y))) (fun r200 => (bif r200 then some (Lp.rt ([], false)) else bd (PF.spec_l2Has s y) (fun r222 => (bif (!r222) then bd (PF.spec_l2Put s y) (fun r239 => some (Lp.nx r239)) else some (Lp.nx s)))))) →
      ∀ (b : List Int) (i : Nat) (s : List Int), s.length + b.length ≤ lim → forLFrom F b i s = some (match joinL s b with | some s => .go s | none => .rt ([], false)) := by
    intro F hF b
    induction b with
    | nil => intro i s _; rfl
    | cons y b ih =>
      intro i s hs
      simp only [List.length_cons] at hs
      rw [forLFrom, hF, spec_l2Has_eq, bd_some, spec_l2Has_eq, bd_some, joinL]
      cases s.contains (wr (-y)) with
      | true => rfl
      | false =>
        simp only [cond_false]
        cases s.contains y with
        | true => simp only [Bool.not_true, cond_false]; exact ih (i + 1) s (by omega)
        | false =>
          simp only [Bool.not_false, cond_true]
          rw [spec_l2Put_eq (c := s) (by omega), bd_some]
          exact ih (i + 1) _ (by rw [putL_length]; omega)
  unfold forL
  rw [key _ (fun _ _ _ => rfl) b 0 a hl]
  cases joinL a b <;> rfl

abbrev Srt (c : List Int) : Prop := c.Pairwise fun a b => a.natAbs < b.natAbs
/-- numbers of a clause -/
def Sm (c : List Int) : Prop := ∀ l ∈ c, -12 ≤ l ∧ l ≤ 12 ∧ l ≠ 0
theorem putL_mem {c : List Int} {l x : Int} : x ∈ putL c l ↔ x = l ∨ x ∈ c := by
  have h := List.takeWhile_append_dropWhile (p := fun y => decide (vr y < vr l)) (l := c)
  have : x ∈ c ↔ x ∈ c.takeWhile (fun y => decide (vr y < vr l)) ∨ x ∈ c.dropWhile (fun y => decide (vr y < vr l)) := by rw [← List.mem_append, h]
  unfold putL
  rw [this, List.mem_append, List.mem_cons]
  constructor
  · rintro (h | h | h)
    · exact .inr (.inl h)
    · exact .inl h
    · exact .inr (.inr h)
  · rintro (h | h | h)
    · exact .inr (.inl h)
    · exact .inl h
    · exact .inr (.inr h)
theorem putL_srt {c : List Int} {l : Int} (hc : Srt c) (hs : Sm c) (hl : -12 ≤ l ∧ l ≤ 12) (hn : ∀ x ∈ c, x.natAbs ≠ l.natAbs) : Srt (putL c l) := by
  have hv : ∀ x ∈ c, (decide (vr x < vr l) = true ↔ x.natAbs < l.natAbs) := fun x hx => by
    have := hs x hx
    rw [decide_eq_true_eq, vr_abs (by omega) (by omega), vr_abs hl.1 hl.2]; omega
  unfold putL
  induction c with
  | nil => simp
  | cons y c ih =>
    obtain ⟨h1, h2⟩ := List.pairwise_cons.1 hc
    rw [List.takeWhile_cons, List.dropWhile_cons]
    by_cases hy : decide (vr y < vr l) = true
    · rw [if_pos hy, if_pos hy, List.cons_append]
      have ih := ih h2 (fun x hx => hs x (by simp [hx])) (fun x hx => hn x (by simp [hx])) (fun x hx => hv x (by simp [hx]))
      refine List.pairwise_cons.2 ⟨fun x hx => ?_, ih⟩
      rcases (putL_mem (c := c) (l := l)).1 hx with rfl | hx
      · exact (hv y (by simp)).1 hy
      · exact h1 x hx
    · rw [if_neg hy, if_neg hy, List.nil_append]
      have hly : l.natAbs < y.natAbs := by
        have := hn y (by simp)
        have h3 : ¬ y.natAbs < l.natAbs := fun h => hy ((hv y (by simp)).2 h)
        omega
      refine List.pairwise_cons.2 ⟨fun x hx => ?_, hc⟩
      rcases List.mem_cons.1 hx with rfl | hx
      · exact hly
      · have := h1 x hx; omega
theorem joinL_spec : ∀ {b s : List Int}, Srt s → Sm s → Srt b → Sm b →
    (if ∃ y ∈ b, -y ∈ s then joinL s b = none else ∃ t, joinL s b = some t ∧ Srt t ∧ ∀ x, x ∈ t ↔ x ∈ s ∨ x ∈ b) := by
  intro b
  induction b with
  | nil => intro s hs _ _ _; simp only [List.not_mem_nil, false_and, exists_false, if_false, or_false]; exact ⟨s, rfl, hs, fun _ => Iff.rfl⟩
  | cons y b ih =>
    intro s hs hs2 hb hb2
    obtain ⟨h1, h2⟩ := List.pairwise_cons.1 hb
    have hy := hb2 y (by simp)
    have hw : wr (-y) = -y := wr_of _ (by omega) (by omega)
    simp only [joinL, hw]
    by_cases hn : -y ∈ s
    · rw [if_pos ⟨y, by simp, hn⟩, List.contains_iff_mem.2 hn]; rfl
    · have hnc : s.contains (-y) = false := by rw [Bool.eq_false_iff]; exact fun h => hn (List.contains_iff_mem.1 h)
      rw [hnc, cond_false]
      by_cases hin : y ∈ s
      · rw [List.contains_iff_mem.2 hin]
        simp only [Bool.not_true, cond_false]
        have := ih hs hs2 h2 (fun x hx => hb2 x (by simp [hx]))
        have e1 : (∃ z ∈ y :: b, -z ∈ s) ↔ ∃ z ∈ b, -z ∈ s := by
          constructor
          · rintro ⟨z, hz, hz2⟩
            rcases List.mem_cons.1 hz with rfl | hz
            · exact absurd hz2 hn
            · exact ⟨z, hz, hz2⟩
          · rintro ⟨z, hz, hz2⟩; exact ⟨z, by simp [hz], hz2⟩
        simp only [e1]
        split at this
        · rename_i hex; rw [if_pos hex]; exact this
        · rename_i hex
          rw [if_neg hex]
          obtain ⟨t, t1, t2, t3⟩ := this
          refine ⟨t, t1, t2, fun x => ?_⟩
          rw [t3, List.mem_cons]
          constructor
          · rintro (h | h)
            · exact .inl h
            · exact .inr (.inr h)
          · rintro (h | rfl | h)
            · exact .inl h
            · exact .inl hin
            · exact .inr h
      · have hic : s.contains y = false := by rw [Bool.eq_false_iff]; exact fun h => hin (List.contains_iff_mem.1 h)
        rw [hic]
        simp only [Bool.not_false, cond_true]
        have hne : ∀ x ∈ s, x.natAbs ≠ y.natAbs := fun x hx e => by
          have : x = y ∨ x = -y := by omega
          rcases this with rfl | rfl
          · exact hin hx
          · exact hn hx
        have := ih (putL_srt hs hs2 ⟨hy.1, hy.2.1⟩ hne) (fun x hx => by
          rcases putL_mem.1 hx with rfl | hx
          · exact hy
          · exact hs2 x hx) h2 (fun x hx => hb2 x (by simp [hx]))
        have e1 : (∃ z ∈ y :: b, -z ∈ s) ↔ ∃ z ∈ b, -z ∈ putL s y := by
          constructor
          · rintro ⟨z, hz, hz2⟩
            rcases List.mem_cons.1 hz with rfl | hz
            · exact absurd hz2 hn
            · exact ⟨z, hz, putL_mem.2 (.inr hz2)⟩
          · rintro ⟨z, hz, hz2⟩
            rcases putL_mem.1 hz2 with e | hz2
            · have := h1 z hz; omega
            · exact ⟨z, by simp [hz], hz2⟩
        simp only [e1]
        split at this
        · rename_i hex; rw [if_pos hex]; exact this
        · rename_i hex
          rw [if_neg hex]
          obtain ⟨t, t1, t2, t3⟩ := this
          refine ⟨t, t1, t2, fun x => ?_⟩
          rw [t3, putL_mem, List.mem_cons]
          constructor
          · rintro ((h | h) | h)
            · exact .inr (.inl h)
            · exact .inl h
            · exact .inr (.inr h)
          · rintro (h | h | h)
            · exact .inl (.inr h)
            · exact .inl (.inl h)
            · exact .inr h

/-! the sorted list -/
theorem impl_compareLiterals_eq {x y : Int} (hx : okI x) (hy : okI y) : impl_compareLiterals x y = some (if vr x < vr y then -1 else if vr y < vr x then 1 else if y < x then -1 else if x < y then 1 else 0) := by
  have hc : ∀ a b : Int, cmp_Compare_int a b = if a < b then -1 else if b < a then 1 else 0 := fun a b => by
    unfold cmp_Compare_int cmp_isNaN_int
    simp only [BEq.rfl, Bool.not_true, cond_false]
    by_cases h1 : a < b
    · simp [h1]
    · by_cases h2 : b < a <;> simp [h1, h2]
  unfold impl_compareLiterals cmp_Or_int
  rw [impl_abs_eq hx, impl_abs_eq hy, hc, hc]
  by_cases h1 : vr x < vr y
  · simp [h1, forL, forLFrom]
  · by_cases h2 : vr y < vr x
    · simp [h1, h2, forL, forLFrom]
    · by_cases h3 : y < x
      · simp [h1, h2, h3, forL, forLFrom]
      · by_cases h4 : x < y <;> simp [h1, h2, h3, h4, forL, forLFrom]
end Go.PF
