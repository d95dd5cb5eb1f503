/- Clauses in order: the program's comparison of clauses. -/
import Derived.Test.YtmpfnnkmplkfoaaGreatCrPl5
set_option linter.unusedVariables false
namespace Go.PF
open Go.Pu
def lexC : List Int → List Int → Int
  | [], [] => 0
  | [], _ :: _ => -1
  | _ :: _, [] => 1
  | x :: a, y :: b => bif !(cmpL x y == 0) then cmpL x y else lexC a b
theorem compare_loop {f : Nat → Int → Unit → Option (Lp Unit Int)} {b : List Int} {n : Int}
    (hf : ∀ i y s, f i y s = bif decide (len b ≤ ((i : Nat) : Int)) then some (Lp.rt 1) else bd (ix b ((i : Nat) : Int)) fun x => bd (impl_compareLiterals y x) fun r => bif !(r == 0) then some (Lp.rt r) else some (Lp.nx ())) :
    ∀ {a : List Int} {i : Nat}, i ≤ b.length → n = (i : Int) + a.length → bdR (forLFrom f a i ()) (fun _ => bif decide (n < len b) then some (-1) else some 0) (fun x => some x) = some (lexC a (b.drop i)) := by
  intro a
  induction a with
  | nil =>
    intro i hi hn
    simp only [List.length_nil] at hn
    simp only [forLFrom, bdR_go]
    by_cases h : i < b.length
    · rw [List.drop_eq_getElem_cons h, show decide (n < len b) = true by rw [decide_eq_true_eq, len_eq]; omega]; rfl
    · rw [List.drop_eq_nil_of_le (by omega), show decide (n < len b) = false by rw [decide_eq_false_iff_not, len_eq]; omega]; rfl
  | cons x a ih =>
    intro i hi hn
    simp only [List.length_cons] at hn
    by_cases h : i < b.length
    · have e : f i x () = bif !(cmpL x b[i] == 0) then some (Lp.rt (cmpL x b[i])) else some (Lp.nx ()) := by
        rw [hf, show decide (len b ≤ ((i : Nat) : Int)) = false by rw [decide_eq_false_iff_not, len_eq]; omega, cond_false, ix_get, List.getElem?_eq_getElem h, bd_some, impl_compareLiterals_cmpL, bd_some]
      rw [List.drop_eq_getElem_cons h]
      simp only [forLFrom, e, lexC]
      cases hc : cmpL x b[i] == 0 with
      | true =>
        simp only [Bool.not_true, cond_false]
        exact ih (by omega) (by omega)
      | false => simp only [Bool.not_false, cond_true]; rfl
    · have e : f i x () = some (Lp.rt 1) := by
        rw [hf, show decide (len b ≤ ((i : Nat) : Int)) = true by rw [decide_eq_true_eq, len_eq]; omega]; rfl
      rw [List.drop_eq_nil_of_le (by omega)]
      simp only [forLFrom, e]
      rfl
def cmpC (a b : List Int) : Int := if a.length < b.length then -1 else if b.length < a.length then 1 else lexC a b
theorem slices_CompareFunc_eq (a b : List Int) : slices_CompareFunc_int_int_int_int a b (fun x0 x1 => PF.impl_compareLiterals x0 x1) = some (lexC a b) := by
  unfold slices_CompareFunc_int_int_int_int forL
  have h := compare_loop (b := b) (n := (a.length : Int)) (fun _ _ _ => rfl) (a := a) (i := 0) (Nat.zero_le _) (by omega)
  rw [List.drop_zero] at h
  rw [← h, len_eq a]
theorem impl_compareClauses_eq (a b : List Int) : impl_compareClauses a b = some (cmpC a b) := by
  have hc : ∀ a b : Int, cmp_Compare_int a b = if a < b then -1 else if b < a then 1 else 0 := fun a b => by
    unfold cmp_Compare_int cmp_isNaN_int
    simp only [BEq.rfl, Bool.not_true, cond_false]
    by_cases h1 : a < b
    · simp [h1]
    · by_cases h2 : b < a <;> simp [h1, h2]
  unfold impl_compareClauses
  rw [slices_CompareFunc_eq, bd_some]
  unfold cmp_Or_int cmpC
  rw [hc, len_eq, len_eq]
  by_cases h1 : a.length < b.length
  · simp [h1, forL, forLFrom]
  · by_cases h2 : b.length < a.length
    · simp [h1, h2, forL, forLFrom]
    · by_cases h3 : lexC a b = 0
      · simp [h1, h2, h3, forL, forLFrom]
      · have h4 : (lexC a b == 0) = false := by rw [beq_eq_false_iff_ne]; exact h3
        simp [h1, h2, h4, forL, forLFrom]
/-! a strict total order -/
theorem cmpL_zero {x y : Int} : cmpL x y = 0 ↔ x = y := by
  unfold cmpL
  constructor
  · intro h
    split at h
    · omega
    · split at h
      · omega
      · split at h
        · omega
        · split at h <;> omega
  · rintro rfl; simp
theorem lexC_cons {x y : Int} {a b : List Int} : lexC (x :: a) (y :: b) < 0 ↔ cmpL x y < 0 ∨ (x = y ∧ lexC a b < 0) := by
  simp only [lexC]
  by_cases h : x = y
  · have h0 : cmpL x y = 0 := cmpL_zero.2 h
    rw [show (cmpL x y == 0) = true by rw [beq_iff_eq]; exact h0, Bool.not_true, cond_false, h0]
    exact ⟨fun h1 => .inr ⟨h, h1⟩, fun h1 => h1.elim (fun h2 => absurd h2 (by decide)) fun h2 => h2.2⟩
  · rw [show (cmpL x y == 0) = false by rw [beq_eq_false_iff_ne]; exact fun h1 => h (cmpL_zero.1 h1), Bool.not_false, cond_true]
    exact ⟨.inl, fun h1 => h1.elim id fun h2 => absurd h2.1 h⟩
theorem lexC_irrefl : ∀ a : List Int, ¬ lexC a a < 0
  | [] => by simp [lexC]
  | x :: a => by
    rw [lexC_cons, cmpL_zero.2 rfl]
    rintro (h | h)
    · exact absurd h (by decide)
    · exact lexC_irrefl a h.2
theorem cmpL_trans {x y z : Int} (h1 : cmpL x y < 0) (h2 : cmpL y z < 0) : cmpL x z < 0 := by
  rw [cmpL_neg] at *; omega
theorem lexC_trans : ∀ {a b c : List Int}, lexC a b < 0 → lexC b c < 0 → lexC a c < 0
  | [], [], _, h, _ => absurd h (by simp [lexC])
  | [], _ :: _, [], _, h => absurd h (by simp [lexC])
  | [], _ :: _, _ :: _, _, _ => by simp [lexC]
  | _ :: _, [], _, h, _ => absurd h (by simp [lexC])
  | _ :: _, _ :: _, [], _, h => absurd h (by simp [lexC])
  | x :: a, y :: b, z :: c, h1, h2 => by
    rw [lexC_cons] at *
    rcases h1 with h1 | ⟨rfl, h1⟩
    · rcases h2 with h2 | ⟨rfl, h2⟩
      · exact .inl (cmpL_trans h1 h2)
      · exact .inl h1
    · rcases h2 with h2 | ⟨rfl, h2⟩
      · exact .inl h2
      · exact .inr ⟨rfl, lexC_trans h1 h2⟩
theorem lexC_total : ∀ {a b : List Int}, ¬ lexC a b < 0 → ¬ lexC b a < 0 → a = b
  | [], [], _, _ => rfl
  | [], _ :: _, h, _ => absurd (by simp [lexC]) h
  | _ :: _, [], _, h => absurd (by simp [lexC]) h
  | x :: a, y :: b, h1, h2 => by
    rw [lexC_cons] at *
    have e : x = y := by
      by_cases hx : cmpL x y < 0
      · exact absurd (.inl hx) h1
      · by_cases hy : cmpL y x < 0
        · exact absurd (.inl hy) h2
        · rw [cmpL_neg] at hx hy; omega
    subst e
    rw [lexC_total (fun h => h1 (.inr ⟨rfl, h⟩)) (fun h => h2 (.inr ⟨rfl, h⟩))]
theorem cmpC_neg {a b : List Int} : cmpC a b < 0 ↔ a.length < b.length ∨ (a.length = b.length ∧ lexC a b < 0) := by
  unfold cmpC
  by_cases h1 : a.length < b.length
  · rw [if_pos h1]; exact ⟨fun _ => .inl h1, fun _ => by decide⟩
  · rw [if_neg h1]
    by_cases h2 : b.length < a.length
    · rw [if_pos h2]; exact ⟨fun h => absurd h (by decide), fun h => by omega⟩
    · rw [if_neg h2]; exact ⟨fun h => .inr ⟨by omega, h⟩, fun h => h.elim (fun h => absurd h h1) fun h => h.2⟩
theorem cmpC_irrefl (a : List Int) : ¬ cmpC a a < 0 := by
  rw [cmpC_neg]
  rintro (h | h)
  · omega
  · exact lexC_irrefl a h.2
theorem cmpC_trans {a b c : List Int} (h1 : cmpC a b < 0) (h2 : cmpC b c < 0) : cmpC a c < 0 := by
  rw [cmpC_neg] at *
  rcases h1 with h1 | ⟨e1, h1⟩
  · exact .inl (by omega)
  · rcases h2 with h2 | ⟨e2, h2⟩
    · exact .inl (by omega)
    · exact .inr ⟨by omega, lexC_trans h1 h2⟩
theorem cmpC_total {a b : List Int} (h1 : ¬ cmpC a b < 0) (h2 : ¬ cmpC b a < 0) : a = b := by
  rw [cmpC_neg] at *
  have e : a.length = b.length := by omega
  exact lexC_total (fun h => h1 (.inr ⟨e, h⟩)) (fun h => h2 (.inr ⟨e.symm, h⟩))
theorem cmpC_ntrans {a b c : List Int} (h1 : ¬ cmpC a b < 0) (h2 : ¬ cmpC b c < 0) : ¬ cmpC a c < 0 := by
  intro h
  by_cases h3 : cmpC b a < 0
  · exact h2 (cmpC_trans h3 h)
  · have e := cmpC_total h1 h3
    subst e
    exact h2 h
theorem sort_config {xs : List (List Int)} (hl : xs.length < lim) : slices_SortFunc_impl_config_Lint xs (fun x0 x1 => PF.impl_compareClauses x0 x1) = some (xs.mergeSort (leF fun x0 x1 => PF.impl_compareClauses x0 x1)) := by
  unfold slices_SortFunc_impl_config_Lint sortF
  rw [if_pos]
  exact ⟨cmpC, hl, fun x _ y _ => impl_compareClauses_eq x y, fun x _ => cmpC_irrefl x, fun x _ y _ z _ h1 h2 => cmpC_trans h1 h2, fun x _ y _ z _ h1 h2 => cmpC_ntrans h1 h2, fun x _ y _ h1 h2 => cmpC_total h1 h2⟩
theorem leF_config {x y : List Int} : leF (fun x0 x1 => PF.impl_compareClauses x0 x1) x y = true ↔ ¬ cmpC y x < 0 := by
  unfold leF
  simp only [impl_compareClauses_eq]
  rw [Bool.not_eq_true', decide_eq_false_iff_not]
theorem sorted_config (xs : List (List Int)) : (xs.mergeSort (leF fun x0 x1 => PF.impl_compareClauses x0 x1)).Pairwise fun x y => ¬ cmpC y x < 0 := by
  have := List.pairwise_mergeSort (le := leF fun x0 x1 => PF.impl_compareClauses x0 x1) (fun a b c h1 h2 => by
    rw [leF_config] at *; exact cmpC_ntrans h2 h1) (fun a b => by
    rw [Bool.or_eq_true, leF_config, leF_config]
    by_cases h : cmpC b a < 0
    · exact .inr fun h2 => cmpC_irrefl _ (cmpC_trans h h2)
    · exact .inl h) xs
  exact this.imp fun h => leF_config.1 h
/-! the reference's order -/
def sm (c : List Int) : Prop := ∀ x ∈ c, -12 ≤ x ∧ x ≤ 12 ∧ x ≠ 0
theorem key_lt {x y : Int} (hx : -12 ≤ x ∧ x ≤ 12 ∧ x ≠ 0) (hy : -12 ≤ y ∧ y ≤ 12 ∧ y ≠ 0) : spec_l2Key x < spec_l2Key y ↔ cmpL x y < 0 := by
  have hk : ∀ z : Int, -12 ≤ z ∧ z ≤ 12 ∧ z ≠ 0 → spec_l2Key z = if z < 0 then -2 * z + 1 else 2 * z := fun z hz => by
    unfold spec_l2Key
    by_cases h : z < 0
    · have e : wr (-2 * z) = -2 * z := wr_of _ (by omega) (by omega)
      rw [show decide (z < 0) = true from decide_eq_true h, cond_true, if_pos h, e]
      exact wr_of _ (by omega) (by omega)
    · rw [show decide (z < 0) = false from decide_eq_false h, cond_false, if_neg h]
      exact wr_of _ (by omega) (by omega)
  have ha : ∀ z : Int, -12 ≤ z ∧ z ≤ 12 ∧ z ≠ 0 → impl_abs z = z.natAbs := fun z hz => by
    rw [impl_abs_eq (by unfold okI; omega), vr_abs (by omega) (by omega)]
  rw [cmpL_neg, hk x hx, hk y hy, ha x hx, ha y hy]
  split <;> split <;> omega
theorem before_loop {f : Nat → Int → Unit → Option (Lp Unit Bool)} {b : List Int} (hb : sm b)
    (hf : ∀ i y s, f i y s = bd (ix b ((i : Nat) : Int)) fun x => bif !(y == x) then bd (ix b ((i : Nat) : Int)) fun x2 => some (Lp.rt (decide (spec_l2Key y < spec_l2Key x2))) else some (Lp.nx ())) :
    ∀ {a : List Int} {i : Nat}, sm a → a.length + i = b.length → bdR (forLFrom f a i ()) (fun _ => some false) (fun x => some x) = some (decide (lexC a (b.drop i) < 0)) := by
  intro a
  induction a with
  | nil =>
    intro i _ hi
    simp only [List.length_nil] at hi
    rw [List.drop_eq_nil_of_le (by omega)]; rfl
  | cons x a ih =>
    intro i hs hi
    simp only [List.length_cons] at hi
    have h : i < b.length := by omega
    rw [List.drop_eq_getElem_cons h]
    have e : f i x () = bif !(x == b[i]) then some (Lp.rt (decide (spec_l2Key x < spec_l2Key b[i]))) else some (Lp.nx ()) := by
      rw [hf, ix_get, List.getElem?_eq_getElem h, bd_some, bd_some]
    by_cases hx : x = b[i]
    · have e2 : f i x () = some (Lp.nx ()) := by rw [e, show (x == b[i]) = true by rw [beq_iff_eq]; exact hx]; rfl
      simp only [forLFrom, e2]
      rw [ih (fun z hz => hs z (by simp [hz])) (by omega)]
      congr 1
      rw [decide_eq_decide, lexC_cons]
      exact ⟨fun h1 => .inr ⟨hx, h1⟩, fun h1 => h1.elim (fun h2 => by rw [cmpL_zero.2 hx] at h2; exact absurd h2 (by decide)) fun h2 => h2.2⟩
    · have e2 : f i x () = some (Lp.rt (decide (spec_l2Key x < spec_l2Key b[i]))) := by rw [e, show (x == b[i]) = false by rw [beq_eq_false_iff_ne]; exact hx]; rfl
      simp only [forLFrom, e2]
      show some (decide _) = some (decide _)
      congr 1
      rw [decide_eq_decide, lexC_cons, key_lt (hs x (by simp)) (hb _ (List.getElem_mem h))]
      exact ⟨.inl, fun h1 => h1.elim id fun h2 => absurd h2.1 hx⟩
theorem spec_l2Before_eq {a b : List Int} (ha : sm a) (hb : sm b) : spec_l2Before a b = some (decide (cmpC a b < 0)) := by
  unfold spec_l2Before
  by_cases h : a.length = b.length
  · rw [show (len a == len b) = true by rw [beq_iff_eq, len_eq, len_eq]; omega, Bool.not_true, cond_false]
    unfold forL
    rw [before_loop hb (fun _ _ _ => rfl) ha (by omega), List.drop_zero]
    congr 1
    rw [decide_eq_decide, cmpC_neg]
    exact ⟨fun h1 => .inr ⟨h, h1⟩, fun h1 => h1.elim (fun h2 => by omega) fun h2 => h2.2⟩
  · rw [show (len a == len b) = false by rw [beq_eq_false_iff_ne, len_eq, len_eq]; omega, Bool.not_false, cond_true]
    congr 1
    rw [decide_eq_decide, cmpC_neg, len_eq, len_eq]
    exact ⟨fun h1 => .inl (by omega), fun h1 => h1.elim (fun h2 => by omega) fun h2 => absurd h2.1 h⟩
/-! sorted lists of clauses -/
abbrev SrtC (xs : List (List Int)) : Prop := xs.Pairwise fun a b => cmpC a b < 0
theorem srt_ext : ∀ {xs ys : List (List Int)}, SrtC xs → SrtC ys → (∀ x, x ∈ xs ↔ x ∈ ys) → xs = ys
  | [], [], _, _, _ => rfl
  | [], y :: _, _, _, h => absurd ((h y).2 (by simp)) (by simp)
  | x :: _, [], _, _, h => absurd ((h x).1 (by simp)) (by simp)
  | x :: xs, y :: ys, h1, h2, h => by
    obtain ⟨a1, a2⟩ := List.pairwise_cons.1 h1
    obtain ⟨b1, b2⟩ := List.pairwise_cons.1 h2
    have e : x = y := by
      rcases List.mem_cons.1 ((h x).1 (by simp)) with e | m1
      · exact e
      · rcases List.mem_cons.1 ((h y).2 (by simp)) with e | m2
        · exact e.symm
        · exact absurd (cmpC_trans (a1 y m2) (b1 x m1)) (cmpC_irrefl x)
    subst e
    rw [srt_ext a2 b2 fun z => ?_]
    constructor
    · intro hz
      rcases List.mem_cons.1 ((h z).1 (by simp [hz])) with e | m
      · subst e; exact absurd (a1 z hz) (cmpC_irrefl z)
      · exact m
    · intro hz
      rcases List.mem_cons.1 ((h z).2 (by simp [hz])) with e | m
      · subst e; exact absurd (b1 z hz) (cmpC_irrefl z)
      · exact m
theorem srt_with {xs : List (List Int)} {c : List Int} (h : SrtC xs) (hc : c ∉ xs) : SrtC ((xs ++ [c]).mergeSort (leF fun x0 x1 => PF.impl_compareClauses x0 x1)) := by
  have nd : (xs ++ [c]).Nodup := by
    rw [List.nodup_append]
    refine ⟨h.imp fun {a b} h e => by subst e; exact cmpC_irrefl _ h, by simp, fun a ha b hb e => ?_⟩
    rw [List.mem_singleton] at hb
    subst hb; subst e
    exact hc ha
  have nd2 : ((xs ++ [c]).mergeSort (leF fun x0 x1 => PF.impl_compareClauses x0 x1)).Nodup := (List.mergeSort_perm (xs ++ [c]) _).nodup_iff.2 nd
  refine ((sorted_config (xs ++ [c])).and nd2).imp fun {a b} ⟨h1, h2⟩ => ?_
  by_cases h3 : cmpC a b < 0
  · exact h3
  · exact absurd (cmpC_total h3 h1) h2
end Go.PF
