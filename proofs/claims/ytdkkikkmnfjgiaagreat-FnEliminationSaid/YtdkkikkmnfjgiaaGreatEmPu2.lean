/- slices.CompactFunc on a plain list. -/
import Derived.Test.YtdkkikkmnfjgiaaGreatPl1
set_option linter.unusedVariables false
namespace Go.Pu
variable {A : Type}
def compG (f : A → A → Option Bool) : A → List A → Option (List A)
  | _, [] => some []
  | p, y :: l => bd (f y p) fun b => bd (compG f y l) fun r => some (bif b then r else y :: r)
/-- each element that is not the same as the one before it -/
def compF (f : A → A → Option Bool) : List A → Option (List A)
  | [] => some []
  | x :: l => bd (compG f x l) fun r => some (x :: r)
theorem compG_sub {f : A → A → Option Bool} : ∀ {l : List A} {p : A} {r : List A}, compG f p l = some r → r.Sublist l := by
  intro l
  induction l with
  | nil => intro p r h; cases h; exact List.Sublist.refl _
  | cons y l ih =>
    intro p r h
    unfold compG at h
    obtain ⟨b, _, h⟩ := bnd h
    obtain ⟨q, hq, h⟩ := bnd h
    cases h
    cases b with
    | true => exact (ih hq).trans (List.sublist_cons_self _ _)
    | false => exact (ih hq).cons_cons _
theorem compF_sub {f : A → A → Option Bool} {l r : List A} (h : compF f l = some r) : r.Sublist l := by
  cases l with
  | nil => cases h; exact List.Sublist.refl _
  | cons x l => obtain ⟨q, hq, h⟩ := bnd h; cases h; exact (compG_sub hq).cons_cons _
theorem compG_map {B : Type} {f : A → A → Option Bool} {g : B → A} : ∀ {l : List B} {p : B} {r : List A}, compG f (g p) (l.map g) = some r → ∃ r', compG (fun x y => f (g x) (g y)) p l = some r' ∧ r'.map g = r := by
  intro l
  induction l with
  | nil => intro p r h; cases h; exact ⟨[], rfl, rfl⟩
  | cons y l ih =>
    intro p r h
    rw [List.map_cons] at h
    unfold compG at h
    obtain ⟨b, hb, h⟩ := bnd h
    obtain ⟨q, hq, h⟩ := bnd h
    obtain ⟨q', h1, h2⟩ := ih hq
    refine ⟨bif b then q' else y :: q', ?_, ?_⟩
    · unfold compG; rw [hb, bd_some, h1]; rfl
    · cases h; cases b <;> simp [h2]
theorem compF_map {B : Type} {f : A → A → Option Bool} {g : B → A} {l : List B} {r : List A} (h : compF f (l.map g) = some r) : ∃ r', compF (fun x y => f (g x) (g y)) l = some r' ∧ r'.map g = r := by
  cases l with
  | nil => cases h; exact ⟨[], rfl, rfl⟩
  | cons x l =>
    obtain ⟨q, hq, h⟩ := bnd h
    obtain ⟨q', h1, h2⟩ := compG_map hq
    refine ⟨x :: q', ?_, ?_⟩
    · simp only [compF, h1, bd_some]
    · cases h; simp [h2]
/-- as the library's loops have it -/
noncomputable def compL (z : A) (a0 : List A) (a1 : A → A → Option Bool) : Option (List A) :=
  (bif (decide ((len a0) < 2)) then some a0 else bdR (iter (S := Int) (X := (List A)) (fun s22 => (bif (decide (s22 < (len a0))) then bd (ix a0 s22) (fun x135203 => bd (ix a0 (wr (s22 - 1))) (fun x150203 => bd (a1 x135203 x150203) (fun r156197 => (bif r156197 then bd (cut a0 s22 (len a0)) (fun xs162208 => bdR (iter (S := ((List A) × Int × Int)) (X := Empty) (fun s162213 => (bif (decide (s162213.2.2 < ((len s162213.1) - s22))) then bd (ixT s162213.1 s22 s162213.2.2) (fun x258335 => bd (ixT s162213.1 s22 (wr (s162213.2.2 - 1))) (fun x273335 => bd (a1 x258335 x273335) (fun r279329 => (bif (!r279329) then bd (ixT s162213.1 s22 s162213.2.2) (fun x288348 => bd (ix s162213.1 s162213.2.1) (fun x288358 => bd (put s162213.1 s162213.2.1 x288348) (fun xs288365 => some (Lp.nx (xs288365, (wr (s162213.2.1 + 1)), (wr (s162213.2.2 + 1))))))) else some (Lp.nx (s162213.1, s162213.2.1, (wr (s162213.2.2 + 1)))))))) else some (Lp.bk (s162213.1, s162213.2.1, s162213.2.2)))) (a0, s22, 1)) (fun s162213 => bd (cut s162213.1 s162213.2.1 (len s162213.1)) (fun xs288378 => bd (cut (clearL z s162213.1 s162213.2.1) 0 s162213.2.1) (fun xs288388 => some (Lp.rt xs288388)))) (fun x162213 => nomatch x162213)) else some (Lp.nx (wr (s22 + 1))))))) else some (Lp.bk s22))) 1) (fun s22 => some a0) (fun x22 => some x22))
theorem compL_in {f : A → A → Option Bool} {xs : List A} (hn : xs.length ≤ 9223372036854775807) {k : Nat} {body : List A × Int × Int → Option (Lp (List A × Int × Int) Empty)}
    (hb : ∀ s, body s = (bif (decide (s.2.2 < ((len s.1) - (k : Int)))) then bd (ixT s.1 k s.2.2) (fun x => bd (ixT s.1 k (wr (s.2.2 - 1))) (fun y => bd (f x y) (fun r => (bif (!r) then bd (ixT s.1 k s.2.2) (fun x' => bd (ix s.1 s.2.1) (fun _ => bd (put s.1 s.2.1 x') (fun ys => some (Lp.nx (ys, (wr (s.2.1 + 1)), (wr (s.2.2 + 1))))))) else some (Lp.nx (s.1, s.2.1, (wr (s.2.2 + 1)))))))) else some (Lp.bk (s.1, s.2.1, s.2.2)))) :
    ∀ (l : List A) (j i : Nat) (ys : List A) (p : A) (r : List A), xs.drop (k + j) = l → 1 ≤ j → ys.length = xs.length → ys.drop (k + j - 1) = p :: l → i < k + j → compG f p l = some r →
      ∃ ys' i' k2, iter body (ys, (i : Int), (j : Int)) = some (.go (ys', ((i' : Nat) : Int), k2)) ∧ ys'.length = xs.length ∧ i' ≤ xs.length ∧ ys'.take i' = ys.take i ++ r := by
  intro l
  induction l with
  | nil =>
    intro j i ys p r hl hj hy hd hi hr
    have h1 : ys.length - (k + j - 1) = 1 := by rw [← List.length_drop, hd]; rfl
    cases hr
    refine ⟨ys, i, j, iter_bk ?_, hy, by omega, by simp⟩
    rw [hb]
    simp only [show decide ((j : Int) < len ys - (k : Int)) = false by rw [decide_eq_false_iff_not]; unfold len; omega, cond_false]
  | cons y l ih =>
    intro j i ys p r hl hj hy hd hi hr
    have h1 : ys.length - (k + j - 1) = l.length + 2 := by rw [← List.length_drop, hd]; rfl
    have hp : ys[k + j - 1]? = some p := by have := congrArg (·[0]?) hd; simpa [List.getElem?_drop] using this
    have hy1 : ys[k + j]? = some y := by
      have := congrArg (·[1]?) hd
      simp only [List.getElem?_drop, List.getElem?_cons_succ, List.getElem?_cons_zero] at this
      rwa [show k + j - 1 + 1 = k + j by omega] at this
    have hd2 : ys.drop (k + j) = y :: l := by
      have := congrArg (List.drop 1) hd
      rw [List.drop_drop, show k + j - 1 + 1 = k + j by omega] at this
      simpa using this
    unfold compG at hr
    obtain ⟨b, hfb, hr⟩ := bnd hr
    obtain ⟨q, hq, hr⟩ := bnd hr
    cases hr
    have e1 : ixT ys k (j : Int) = some y := by unfold ixT; rw [if_pos (by omega), show (k : Int) + (j : Int) = ((k + j : Nat) : Int) by omega, ← hy1]; unfold ix; rw [if_pos (by omega), Int.toNat_natCast]
    have e2 : ixT ys k (wr ((j : Int) - 1)) = some p := by
      rw [wr_of _ (by omega) (by omega)]
      unfold ixT; rw [if_pos (by omega), show (k : Int) + ((j : Int) - 1) = ((k + j - 1 : Nat) : Int) by omega, ← hp]; simp [ix]
    have hx : xs.drop (k + (j + 1)) = l := by
      have := congrArg (List.drop 1) hl
      rw [List.drop_drop] at this
      simpa [Nat.add_assoc] using this
    cases b with
    | true =>
      obtain ⟨ys', i', k2, g1, g2⟩ := ih (j + 1) i ys y q hx (by omega) hy (by rw [show k + (j + 1) - 1 = k + j by omega]; exact hd2) (by omega) hq
      refine ⟨ys', i', k2, ?_, g2⟩
      rw [← g1]
      refine iter_nx ?_
      rw [hb]
      simp only [show decide ((j : Int) < len ys - (k : Int)) = true by rw [decide_eq_true_eq]; unfold len; omega, cond_true, e1, e2, hfb, bd_some, Bool.not_true, cond_false]
      rw [wr_of _ (by omega) (by omega)]; rfl
    | false =>
      obtain ⟨ys', i', k2, g1, g2, g3, g4⟩ := ih (j + 1) (i + 1) (ys.set i y) y q hx (by omega) (by simp [hy]) (by rw [show k + (j + 1) - 1 = k + j by omega, List.drop_set_of_lt hi]; exact hd2) (by omega) hq
      refine ⟨ys', i', k2, ?_, g2, g3, ?_⟩
      · rw [← g1]
        refine iter_nx ?_
        rw [hb]
        have e3 : ∃ u, ix ys (i : Int) = some u := ⟨_, by simp [ix]; exact List.getElem?_eq_getElem (by omega)⟩
        obtain ⟨u, e3⟩ := e3
        have e4 : put ys (i : Int) y = some (ys.set i y) := by unfold put; rw [if_pos (by omega)]; simp
        simp only [show decide ((j : Int) < len ys - (k : Int)) = true by rw [decide_eq_true_eq]; unfold len; omega, cond_true, e1, e2, e3, e4, hfb, bd_some, Bool.not_false]
        rw [wr_of _ (by omega) (by omega), wr_of _ (by omega) (by omega)]; rfl
      · rw [g4, List.take_add_one]
        have : (ys.set i y)[i]? = some y := List.getElem?_set_self (by omega)
        rw [this]
        simp [List.take_set_of_le]
theorem compL_out {f : A → A → Option Bool} {z : A} {xs : List A} (hn : xs.length ≤ 9223372036854775807) : ∀ (l : List A) (k : Nat) (p : A) (r : List A) (body : Int → Option (Lp Int (List A))), 1 ≤ k → xs.drop (k - 1) = p :: l → compG f p l = some r →
    (∀ s, body s = (bif (decide (s < (len xs))) then bd (ix xs s) (fun x => bd (ix xs (wr (s - 1))) (fun y => bd (f x y) (fun b => (bif b then bd (cut xs s (len xs)) (fun _ => bdR (iter (S := ((List A) × Int × Int)) (X := Empty) (fun t => (bif (decide (t.2.2 < ((len t.1) - s))) then bd (ixT t.1 s t.2.2) (fun x1 => bd (ixT t.1 s (wr (t.2.2 - 1))) (fun y1 => bd (f x1 y1) (fun b1 => (bif (!b1) then bd (ixT t.1 s t.2.2) (fun x2 => bd (ix t.1 t.2.1) (fun _ => bd (put t.1 t.2.1 x2) (fun ys => some (Lp.nx (ys, (wr (t.2.1 + 1)), (wr (t.2.2 + 1))))))) else some (Lp.nx (t.1, t.2.1, (wr (t.2.2 + 1)))))))) else some (Lp.bk (t.1, t.2.1, t.2.2)))) (xs, s, 1)) (fun t => bd (cut t.1 t.2.1 (len t.1)) (fun _ => bd (cut (clearL z t.1 t.2.1) 0 t.2.1) (fun ys => some (Lp.rt ys)))) (fun e => nomatch e)) else some (Lp.nx (wr (s + 1))))))) else some (Lp.bk s))) →
    bdR (iter body (k : Int)) (fun _ => some xs) (fun x => some x) = some (xs.take k ++ r) := by
  intro l
  induction l with
  | nil =>
    intro k p r body hk hd hr hb
    have h1 : xs.length - (k - 1) = 1 := by rw [← List.length_drop, hd]; rfl
    cases hr
    have : body (k : Int) = some (.bk (k : Int)) := by
      rw [hb, show decide ((k : Int) < len xs) = false by rw [decide_eq_false_iff_not]; unfold len; omega]; rfl
    rw [iter_bk this, bdR_go, List.take_of_length_le (by omega), List.append_nil]
  | cons y l ih =>
    intro k p r body hk hd hr hb
    have h1 : xs.length - (k - 1) = l.length + 2 := by rw [← List.length_drop, hd]; rfl
    have hp : xs[k - 1]? = some p := by have := congrArg (·[0]?) hd; simpa [List.getElem?_drop] using this
    have hd2 : xs.drop k = y :: l := by
      have := congrArg (List.drop 1) hd
      rw [List.drop_drop, show k - 1 + 1 = k by omega] at this
      simpa using this
    have hy1 : xs[k]? = some y := by have := congrArg (·[0]?) hd2; simpa [List.getElem?_drop] using this
    unfold compG at hr
    obtain ⟨b, hfb, hr⟩ := bnd hr
    obtain ⟨q, hq, hr⟩ := bnd hr
    cases hr
    have e1 : ix xs (k : Int) = some y := by rw [← hy1]; simp [ix]
    have e2 : ix xs (wr ((k : Int) - 1)) = some p := by
      rw [wr_of _ (by omega) (by omega), show ((k : Int) - 1) = ((k - 1 : Nat) : Int) by omega, ← hp]; simp [ix]
    have ed : decide ((k : Int) < len xs) = true := by rw [decide_eq_true_eq]; unfold len; omega
    have et : xs.take (k + 1) = xs.take k ++ [y] := by rw [List.take_add_one, hy1]; rfl
    cases b with
    | false =>
      have h2 := ih (k + 1) y q body (by omega) (by simpa using hd2) hq hb
      rw [et, List.append_assoc] at h2
      rw [show (bif false then q else y :: q) = [y] ++ q from rfl, ← h2]
      congr 1
      refine iter_nx ?_
      rw [hb]
      simp only [ed, e1, e2, hfb, bd_some, cond_true, cond_false]
      rw [wr_of _ (by omega) (by omega)]; rfl
    | true =>
      obtain ⟨ys', i', k2, g1, g2, g3, g4⟩ := compL_in (f := f) hn (k := k) (fun s => rfl) l 1 k xs y q (by have := congrArg (List.drop 1) hd2; rw [List.drop_drop] at this; simpa using this) (by omega) rfl (by simpa using hd2) (by omega) hq
      have : body (k : Int) = some (.rt (xs.take k ++ q)) := by
        rw [hb]
        simp only [ed, e1, e2, hfb, bd_some, cond_true]
        have e3 : cut xs (k : Int) (len xs) = some (xs.drop k) := by
          unfold cut len
          rw [if_pos (by omega)]; simp
        rw [e3, bd_some]
        have g1' := g1
        simp only [Int.natCast_one] at g1'
        erw [g1']
        rw [bdR_go]
        simp only
        have e4 : cut ys' (i' : Int) (len ys') = some (ys'.drop i') := by
          unfold cut len
          rw [if_pos (by omega)]; simp
        have e5 : cut (clearL z ys' (i' : Int)) 0 (i' : Int) = some (ys'.take i') := by
          unfold cut clearL
          rw [if_pos (by simp; omega)]; simp [g2, g3]
        rw [e4, bd_some, e5, bd_some, g4]
      rw [iter_rt this, bdR_rt]; rfl
theorem compL_eq {f : A → A → Option Bool} {z : A} {xs r : List A} (hn : xs.length ≤ 9223372036854775807) (h : compF f xs = some r) : compL z xs f = some r := by
  unfold compL
  match xs, hn, h with
  | [], _, h => cases h; rfl
  | [x], _, h =>
    cases h; rfl
  | x :: y :: l, hn, h =>
    obtain ⟨q, hq, h⟩ := bnd h
    cases h
    rw [show decide (len (x :: y :: l) < 2) = false by rw [decide_eq_false_iff_not]; unfold len; simp; omega, cond_false]
    exact compL_out (z := z) hn (y :: l) 1 x q _ (by omega) rfl hq (fun _ => rfl)
end Go.Pu
