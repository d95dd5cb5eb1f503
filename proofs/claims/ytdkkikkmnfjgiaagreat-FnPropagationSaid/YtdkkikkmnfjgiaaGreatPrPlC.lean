/- Clauses in order: the program's comparison of clauses. Clauses in order: places in a sorted list, binary search, insertion. Configurations of clauses: the reference's step and the program's step come to the same. Bits of small numbers: shifts, ands, xors on Go's ints as operations on natural numbers. Bits as truths of variables: models. Loops over lists, told by what holds at each place. -/
import Derived.Test.YtdkkikkmnfjgiaaGreatPrPlA
import Derived.Test.YtdkkikkmnfjgiaaGreatPl1
import Derived.Test.YtdkkikkmnfjgiaaGreatPrPlB
set_option linter.unusedVariables false
namespace Go.PF
open Go.Pu
def lexC : List Int → List Int → Int
  | [], [] => 0
  | [], _ :: _ => -1
  | _ :: _, [] => 1
  | x :: a, y :: b => bif !(cmpL x y == 0) then cmpL x y else lexC a b
theorem compare_loop {f : Nat → Int → Unit → Option (Lp Unit Int)} {b : List Int} {n : Int}
    (hf : ∀ i y s, f i y s = bif decide (len b ≤ ((i : Nat) : Int)) then some (Lp.rt 1) else bd (ix b ((i : Nat) : Int)) fun x => bd (impl_compareLiterals y x) fun r => bif !(r == 0) then some (Lp.rt r) else some (Lp.nx ())) :
    ∀ {a : List Int} {i : Nat}, i ≤ b.length → n = (i : Int) + a.length → bdR (forLFrom f a i ()) (fun _ => bif decide (n < len b) then some (-1) else some 0) (fun x => some x) = some (lexC a (b.drop i)) := by
  intro a
  induction a with
  | nil =>
    intro i hi hn
    simp only [List.length_nil] at hn
    simp only [forLFrom, bdR_go]
    by_cases h : i < b.length
    · rw [List.drop_eq_getElem_cons h, show decide (n < len b) = true by rw [decide_eq_true_eq, len_eq]; omega]; rfl
    · rw [List.drop_eq_nil_of_le (by omega), show decide (n < len b) = false by rw [decide_eq_false_iff_not, len_eq]; omega]; rfl
  | cons x a ih =>
    intro i hi hn
    simp only [List.length_cons] at hn
    by_cases h : i < b.length
    · have e : f i x () = bif !(cmpL x b[i] == 0) then some (Lp.rt (cmpL x b[i])) else some (Lp.nx ()) := by
        rw [hf, show decide (len b ≤ ((i : Nat) : Int)) = false by rw [decide_eq_false_iff_not, len_eq]; omega, cond_false, ix_get, List.getElem?_eq_getElem h, bd_some, impl_compareLiterals_cmpL, bd_some]
      rw [List.drop_eq_getElem_cons h]
      simp only [forLFrom, e, lexC]
      cases hc : cmpL x b[i] == 0 with
      | true =>
        simp only [Bool.not_true, cond_false]
        exact ih (by omega) (by omega)
      | false => simp only [Bool.not_false, cond_true]; rfl
    · have e : f i x () = some (Lp.rt 1) := by
        rw [hf, show decide (len b ≤ ((i : Nat) : Int)) = true by rw [decide_eq_true_eq, len_eq]; omega]; rfl
      rw [List.drop_eq_nil_of_le (by omega)]
      simp only [forLFrom, e]
      rfl
def cmpC (a b : List Int) : Int := if a.length < b.length then -1 else if b.length < a.length then 1 else lexC a b
theorem cmpL_zero {x y : Int} : cmpL x y = 0 ↔ x = y := by
  unfold cmpL
  constructor
  · intro h
    split at h
    · omega
    · split at h
      · omega
      · split at h
        · omega
        · split at h <;> omega
  · rintro rfl; simp
theorem lexC_cons {x y : Int} {a b : List Int} : lexC (x :: a) (y :: b) < 0 ↔ cmpL x y < 0 ∨ (x = y ∧ lexC a b < 0) := by
  simp only [lexC]
  by_cases h : x = y
  · have h0 : cmpL x y = 0 := cmpL_zero.2 h
    rw [show (cmpL x y == 0) = true by rw [beq_iff_eq]; exact h0, Bool.not_true, cond_false, h0]
    exact ⟨fun h1 => .inr ⟨h, h1⟩, fun h1 => h1.elim (fun h2 => absurd h2 (by decide)) fun h2 => h2.2⟩
  · rw [show (cmpL x y == 0) = false by rw [beq_eq_false_iff_ne]; exact fun h1 => h (cmpL_zero.1 h1), Bool.not_false, cond_true]
    exact ⟨.inl, fun h1 => h1.elim id fun h2 => absurd h2.1 h⟩
theorem lexC_irrefl : ∀ a : List Int, ¬ lexC a a < 0
  | [] => by simp [lexC]
  | x :: a => by
    rw [lexC_cons, cmpL_zero.2 rfl]
    rintro (h | h)
    · exact absurd h (by decide)
    · exact lexC_irrefl a h.2
theorem cmpL_trans {x y z : Int} (h1 : cmpL x y < 0) (h2 : cmpL y z < 0) : cmpL x z < 0 := by
  rw [cmpL_neg] at *; omega
theorem lexC_trans : ∀ {a b c : List Int}, lexC a b < 0 → lexC b c < 0 → lexC a c < 0
  | [], [], _, h, _ => absurd h (by simp [lexC])
  | [], _ :: _, [], _, h => absurd h (by simp [lexC])
  | [], _ :: _, _ :: _, _, _ => by simp [lexC]
  | _ :: _, [], _, h, _ => absurd h (by simp [lexC])
  | _ :: _, _ :: _, [], _, h => absurd h (by simp [lexC])
  | x :: a, y :: b, z :: c, h1, h2 => by
    rw [lexC_cons] at *
    rcases h1 with h1 | ⟨rfl, h1⟩
    · rcases h2 with h2 | ⟨rfl, h2⟩
      · exact .inl (cmpL_trans h1 h2)
      · exact .inl h1
    · rcases h2 with h2 | ⟨rfl, h2⟩
      · exact .inl h2
      · exact .inr ⟨rfl, lexC_trans h1 h2⟩
theorem lexC_total : ∀ {a b : List Int}, ¬ lexC a b < 0 → ¬ lexC b a < 0 → a = b
  | [], [], _, _ => rfl
  | [], _ :: _, h, _ => absurd (by simp [lexC]) h
  | _ :: _, [], _, h => absurd (by simp [lexC]) h
  | x :: a, y :: b, h1, h2 => by
    rw [lexC_cons] at *
    have e : x = y := by
      by_cases hx : cmpL x y < 0
      · exact absurd (.inl hx) h1
      · by_cases hy : cmpL y x < 0
        · exact absurd (.inl hy) h2
        · rw [cmpL_neg] at hx hy; omega
    subst e
    rw [lexC_total (fun h => h1 (.inr ⟨rfl, h⟩)) (fun h => h2 (.inr ⟨rfl, h⟩))]
theorem cmpC_neg {a b : List Int} : cmpC a b < 0 ↔ a.length < b.length ∨ (a.length = b.length ∧ lexC a b < 0) := by
  unfold cmpC
  by_cases h1 : a.length < b.length
  · rw [if_pos h1]; exact ⟨fun _ => .inl h1, fun _ => by decide⟩
  · rw [if_neg h1]
    by_cases h2 : b.length < a.length
    · rw [if_pos h2]; exact ⟨fun h => absurd h (by decide), fun h => by omega⟩
    · rw [if_neg h2]; exact ⟨fun h => .inr ⟨by omega, h⟩, fun h => h.elim (fun h => absurd h h1) fun h => h.2⟩
theorem cmpC_irrefl (a : List Int) : ¬ cmpC a a < 0 := by
  rw [cmpC_neg]
  rintro (h | h)
  · omega
  · exact lexC_irrefl a h.2
theorem cmpC_trans {a b c : List Int} (h1 : cmpC a b < 0) (h2 : cmpC b c < 0) : cmpC a c < 0 := by
  rw [cmpC_neg] at *
  rcases h1 with h1 | ⟨e1, h1⟩
  · exact .inl (by omega)
  · rcases h2 with h2 | ⟨e2, h2⟩
    · exact .inl (by omega)
    · exact .inr ⟨by omega, lexC_trans h1 h2⟩
theorem cmpC_total {a b : List Int} (h1 : ¬ cmpC a b < 0) (h2 : ¬ cmpC b a < 0) : a = b := by
  rw [cmpC_neg] at *
  have e : a.length = b.length := by omega
  exact lexC_total (fun h => h1 (.inr ⟨e, h⟩)) (fun h => h2 (.inr ⟨e.symm, h⟩))
theorem cmpC_ntrans {a b c : List Int} (h1 : ¬ cmpC a b < 0) (h2 : ¬ cmpC b c < 0) : ¬ cmpC a c < 0 := by
  intro h
  by_cases h3 : cmpC b a < 0
  · exact h2 (cmpC_trans h3 h)
  · have e := cmpC_total h1 h3
    subst e
    exact h2 h
def sm (c : List Int) : Prop := ∀ x ∈ c, -12 ≤ x ∧ x ≤ 12 ∧ x ≠ 0
abbrev SrtC (xs : List (List Int)) : Prop := xs.Pairwise fun a b => cmpC a b < 0
theorem srt_ext : ∀ {xs ys : List (List Int)}, SrtC xs → SrtC ys → (∀ x, x ∈ xs ↔ x ∈ ys) → xs = ys
  | [], [], _, _, _ => rfl
  | [], y :: _, _, _, h => absurd ((h y).2 (by simp)) (by simp)
  | x :: _, [], _, _, h => absurd ((h x).1 (by simp)) (by simp)
  | x :: xs, y :: ys, h1, h2, h => by
    obtain ⟨a1, a2⟩ := List.pairwise_cons.1 h1
    obtain ⟨b1, b2⟩ := List.pairwise_cons.1 h2
    have e : x = y := by
      rcases List.mem_cons.1 ((h x).1 (by simp)) with e | m1
      · exact e
      · rcases List.mem_cons.1 ((h y).2 (by simp)) with e | m2
        · exact e.symm
        · exact absurd (cmpC_trans (a1 y m2) (b1 x m1)) (cmpC_irrefl x)
    subst e
    rw [srt_ext a2 b2 fun z => ?_]
    constructor
    · intro hz
      rcases List.mem_cons.1 ((h z).1 (by simp [hz])) with e | m
      · subst e; exact absurd (a1 z hz) (cmpC_irrefl z)
      · exact m
    · intro hz
      rcases List.mem_cons.1 ((h z).2 (by simp [hz])) with e | m
      · subst e; exact absurd (b1 z hz) (cmpC_irrefl z)
      · exact m
end Go.PF
namespace Go.PF
open Go.Pu
theorem bsearch {X : Type} {body : Int × Int → Option (Lp (Int × Int) X)} {n P : Nat} (hP : P ≤ n)
    (h : ∀ a b : Nat, a < b → b ≤ n → body ((a : Int), (b : Int)) = some (.nx (if (a + b) / 2 < P then ((((a + b) / 2 + 1 : Nat) : Int), (b : Int)) else ((a : Int), (((a + b) / 2 : Nat) : Int)))))
    (he : ∀ a : Nat, a ≤ n → body ((a : Int), (a : Int)) = some (.bk ((a : Int), (a : Int)))) :
    iter body (0, (n : Int)) = some (.go ((P : Int), (P : Int))) := by
  have key : ∀ (m a b : Nat), b - a ≤ m → a ≤ P → P ≤ b → b ≤ n → iter body ((a : Int), (b : Int)) = some (.go ((P : Int), (P : Int))) := by
    intro m
    induction m with
    | zero =>
      intro a b hm h1 h2 h3
      have e1 : a = P := by omega
      have e2 : b = P := by omega
      rw [e1, e2]; exact iter_bk (he _ hP)
    | succ m ih =>
      intro a b hm h1 h2 h3
      by_cases hab : a < b
      · rw [iter_nx (h a b hab h3)]
        by_cases hc : (a + b) / 2 < P
        · rw [if_pos hc]; exact ih _ _ (by omega) (by omega) h2 h3
        · rw [if_neg hc]; exact ih _ _ (by omega) h1 (by omega) (by omega)
      · have e1 : a = P := by omega
        have e2 : b = P := by omega
        rw [e1, e2]; exact iter_bk (he _ hP)
  have := key n 0 n (by omega) (by omega) hP (Nat.le_refl _)
  simpa using this
/-- how many clauses of a list are ahead of one -/
def plc (xs : List (List Int)) (c : List Int) : Nat := (xs.takeWhile fun a => decide (cmpC a c < 0)).length
theorem plc_le (xs : List (List Int)) (c : List Int) : plc xs c ≤ xs.length := (List.takeWhile_prefix _).length_le
theorem plc_lt : ∀ {xs : List (List Int)} {c : List Int}, SrtC xs → ∀ {i : Nat} {x : List Int}, xs[i]? = some x → (cmpC x c < 0 ↔ i < plc xs c)
  | [], _, _, _, _, h => by simp at h
  | a :: xs, c, hs, i, x, h => by
    obtain ⟨a1, a2⟩ := List.pairwise_cons.1 hs
    unfold plc
    rw [List.takeWhile_cons]
    by_cases hc : cmpC a c < 0
    · rw [if_pos (by simp [hc])]
      cases i with
      | zero => simp at h; subst h; simp [hc]
      | succ i =>
        rw [List.getElem?_cons_succ] at h
        have := plc_lt a2 (c := c) h
        unfold plc at this
        rw [this, List.length_cons]; omega
    · rw [if_neg (by simp [hc])]
      cases i with
      | zero => simp at h; subst h; simp [hc]
      | succ i =>
        rw [List.getElem?_cons_succ] at h
        exact ⟨fun h1 => absurd (cmpC_trans (a1 x (List.mem_of_getElem? h)) h1) hc, fun h1 => absurd h1 (by simp)⟩
theorem plc_mem {xs : List (List Int)} {c : List Int} (hs : SrtC xs) : c ∈ xs ↔ xs[plc xs c]? = some c := by
  constructor
  · intro h
    obtain ⟨i, hi⟩ := List.mem_iff_getElem?.1 h
    have h1 : ¬ i < plc xs c := fun h => cmpC_irrefl c ((plc_lt hs hi).2 h)
    by_cases h2 : plc xs c < i
    · have hil : i < xs.length := (List.getElem?_eq_some_iff.1 hi).1
      obtain ⟨x, hx⟩ : ∃ x, xs[plc xs c]? = some x := ⟨_, List.getElem?_eq_getElem (by omega)⟩
      have h3 := List.pairwise_iff_getElem.1 hs (plc xs c) i (by omega) hil h2
      rw [List.getElem?_eq_some_iff] at hx hi
      obtain ⟨_, hx⟩ := hx
      obtain ⟨_, hi⟩ := hi
      rw [hx, hi] at h3
      exact absurd ((plc_lt hs (List.getElem?_eq_some_iff.2 ⟨_, hx⟩)).1 h3) (Nat.lt_irrefl _)
    · rw [show plc xs c = i by omega]; exact hi
  · exact fun h => List.mem_of_getElem? h
def insC (xs : List (List Int)) (c : List Int) : List (List Int) := xs.take (plc xs c) ++ c :: xs.drop (plc xs c)
theorem insC_mem {xs : List (List Int)} {c x : List Int} : x ∈ insC xs c ↔ x = c ∨ x ∈ xs := by
  unfold insC
  have e := List.take_append_drop (plc xs c) xs
  constructor
  · intro h
    rcases List.mem_append.1 h with h | h
    · exact .inr (List.mem_of_mem_take h)
    · rcases List.mem_cons.1 h with h | h
      · exact .inl h
      · exact .inr (List.mem_of_mem_drop h)
  · rintro (rfl | h)
    · simp
    · rw [← e] at h
      rcases List.mem_append.1 h with h | h
      · exact List.mem_append_left _ h
      · exact List.mem_append_right _ (List.mem_cons_of_mem _ h)
theorem insC_len (xs : List (List Int)) (c : List Int) : (insC xs c).length = xs.length + 1 := by
  unfold insC; simp; have := plc_le xs c; omega
theorem insC_srt {xs : List (List Int)} {c : List Int} (hs : SrtC xs) (hc : c ∉ xs) : SrtC (insC xs c) := by
  have hlt : ∀ x ∈ xs.take (plc xs c), cmpC x c < 0 := fun x hx => by
    obtain ⟨i, hi⟩ := List.mem_iff_getElem?.1 hx
    have hl : i < plc xs c := by
      have := (List.getElem?_eq_some_iff.1 hi).1
      rw [List.length_take] at this; omega
    rw [List.getElem?_take_of_lt hl] at hi
    exact (plc_lt hs hi).2 hl
  have hgt : ∀ x ∈ xs.drop (plc xs c), cmpC c x < 0 := fun x hx => by
    obtain ⟨i, hi⟩ := List.mem_iff_getElem?.1 hx
    rw [List.getElem?_drop] at hi
    have h1 : ¬ cmpC x c < 0 := fun h => absurd ((plc_lt hs hi).1 h) (by omega)
    by_cases h2 : cmpC c x < 0
    · exact h2
    · exact absurd (by rw [cmpC_total h2 h1]; exact List.mem_of_getElem? hi) hc
  unfold insC SrtC
  rw [List.pairwise_append, List.pairwise_cons]
  refine ⟨hs.sublist (List.take_sublist _ _), ⟨hgt, hs.sublist (List.drop_sublist _ _)⟩, fun a ha b hb => ?_⟩
  rcases List.mem_cons.1 hb with rfl | hb
  · exact hlt a ha
  · exact cmpC_trans (hlt a ha) (hgt b hb)
/-- one more clause, once -/
def putC (xs : List (List Int)) (c : List Int) : List (List Int) := bif xs.contains c then xs else insC xs c
theorem putC_mem {xs : List (List Int)} {c x : List Int} : x ∈ putC xs c ↔ x = c ∨ x ∈ xs := by
  unfold putC
  cases h : xs.contains c with
  | true =>
    simp only [cond_true]
    rw [List.contains_iff_mem] at h
    exact ⟨.inr, fun h1 => h1.elim (fun h2 => by rw [h2]; exact h) id⟩
  | false => exact insC_mem
theorem putC_srt {xs : List (List Int)} {c : List Int} (hs : SrtC xs) : SrtC (putC xs c) := by
  unfold putC
  cases h : xs.contains c with
  | true => exact hs
  | false => exact insC_srt hs (fun h1 => by rw [← List.contains_iff_mem, h] at h1; cases h1)
theorem putC_len (xs : List (List Int)) (c : List Int) : (putC xs c).length ≤ xs.length + 1 := by
  unfold putC
  cases h : xs.contains c with
  | true => exact Nat.le_succ _
  | false => exact Nat.le_of_eq (insC_len xs c)
end Go.PF
namespace Go.PF
open Go.Pu
theorem IsC.small {V : Int} {c : List Int} (h : IsC V c) : PF.sm c := fun x hx => by have := h.lit x hx; have := h.hi; omega
theorem res_isC2 {V : Int} {a b : List Int} {v : Int} (ha : IsC V a) (hb : IsC V b) (h : (res a b v).2 = true) : IsC V (res a b v).1 := by
  unfold res at h ⊢
  cases hc : !a.contains v || !b.contains (wr (-v)) with
  | true => rw [hc] at h; cases h
  | false =>
    rw [hc] at h
    simp only [cond_false] at h ⊢
    unfold joined at h ⊢
    have sa : Srt (without a v) := ha.srt.sublist List.filter_sublist
    have sb : Srt (without b v) := hb.srt.sublist List.filter_sublist
    have ma : Sm (without a v) := fun x hx => ha.sm x (List.mem_filter.1 hx).1
    have mb : Sm (without b v) := fun x hx => hb.sm x (List.mem_filter.1 hx).1
    have hj := joinL_spec sa ma sb mb
    split at hj
    · rw [hj] at h; cases h
    · obtain ⟨t, h1, h2, h3⟩ := hj
      rw [h1]
      refine ⟨ha.lo, ha.hi, fun l hl => ?_, h2⟩
      rcases (h3 l).1 hl with hl | hl
      · exact ha.lit l (List.mem_filter.1 hl).1
      · exact hb.lit l (List.mem_filter.1 hl).1
/-! a configuration -/
structure Cfg (V : Int) (n : Nat) (xs : List (List Int)) : Prop where
  srt : SrtC xs
  len : xs.length ≤ n
  cl : ∀ c ∈ xs, IsC V c
theorem Cfg.nil {V : Int} {n : Nat} : Cfg V n [] := ⟨.nil, Nat.zero_le _, nofun⟩
theorem Cfg.at {V : Int} {n : Nat} {xs : List (List Int)} (h : Cfg V n xs) {k : Int} (hk : inB k 0 ((xs.length : Int) - 1) = true) : ∃ c, ix xs k = some c ∧ xs[k.toNat]? = some c ∧ IsC V c := by
  have := inB_iff.1 hk
  obtain ⟨c, h1, h2⟩ := ix_of (xs := xs) (i := k) (by omega) (by omega)
  exact ⟨c, h1, h2, h.cl c (List.mem_of_getElem? h2)⟩
theorem Cfg.put {V : Int} {n : Nat} {xs : List (List Int)} (h : Cfg V n xs) {c : List Int} (hc : IsC V c) : Cfg V (n + 1) (putC xs c) := by
  refine ⟨putC_srt h.srt, ?_, fun d hd => ?_⟩
  · have := putC_len xs c; have := h.len; omega
  · rcases putC_mem.1 hd with rfl | hd
    · exact hc
    · exact h.cl d hd
theorem putC_new {xs : List (List Int)} {c : List Int} (h : xs.contains c = false) : putC xs c = insC xs c := by unfold putC; rw [h]; rfl
theorem bd_test {β : Type} {x : Option Bool} {b : Bool} {k : Bool → Option β} (h : (bd x fun t => some t) = some b) : bd x k = k b := by
  cases x with
  | none => cases h
  | some y => cases h; rfl
theorem at_ge {xs : List (List Int)} {c : List Int} : decide ((0 : Int) ≤ bif xs.contains c then (plc xs c : Int) else -1) = xs.contains c := by
  cases xs.contains c with
  | true => simp only [cond_true]; rw [decide_eq_true_eq]; omega
  | false => rfl
theorem slices_IndexFunc_LL_ge {c : List (List Int)} {f : List Int → Option Bool} {g : List Int → Bool} (h : ∀ y ∈ c, f y = some (g y)) : ∃ r, slices_IndexFunc_LLint_Lint c f = some r ∧ decide (0 ≤ r) = c.any g := by
  unfold slices_IndexFunc_LLint_Lint
  rw [forL_find (p := fun _ y => g y) (v := fun i _ => (i : Int)) (fun i y hy => by rw [h y (List.mem_of_getElem? hy), bd_some])]
  cases hf : findI (fun _ y => g y) c 0 with
  | none =>
    refine ⟨-1, rfl, ?_⟩
    have := findI_none.1 hf
    rw [anyI_any] at this; rw [this]; rfl
  | some z =>
    obtain ⟨_, _, _, h4⟩ := findI_some hf
    rw [anyI_any] at h4
    exact ⟨_, rfl, by rw [h4]; simp⟩
theorem any_contains (xs : List (List Int)) (c : List Int) : (xs.any fun y => c == y) = xs.contains c := by
  induction xs with
  | nil => rfl
  | cons x xs ih => rw [List.any_cons, List.contains_cons, ih]
theorem wr_len1 {A : Type} {xs : List A} (h : xs.length ≤ 9223372036854775807) : wr (len xs - 1) = (xs.length : Int) - 1 := by rw [len_eq]; exact wr_of _ (by omega) (by omega)
theorem bif3 (a b c : Bool) : (bif (bif (bif !a then true else !b) then true else !c) then false else true) = (a && (b && c)) := by cases a <;> cases b <;> cases c <;> rfl
end Go.PF
namespace Go.Pu
theorem wrk_nat {n : Nat} (h : n < 9223372036854775808) : wrk true 64 (n : Int) = (n : Int) := by
  unfold wrk
  have h1 : ((n : Int) % (2 ^ 64 : Int)) = (n : Int) := Int.emod_eq_of_lt (by omega) (by omega)
  rw [h1]
  simp only [Bool.true_and]
  rw [if_neg]
  simp
  omega
theorem ofInt_nat {w n : Nat} : BitVec.ofInt w (n : Int) = BitVec.ofNat w n := by
  apply BitVec.eq_of_toNat_eq
  simp
theorem andK_nat {a b : Nat} (ha : a < 9223372036854775808) (hb : b < 9223372036854775808) : andK true 64 (a : Int) (b : Int) = ((a &&& b : Nat) : Int) := by
  unfold andK
  rw [ofInt_nat, ofInt_nat, BitVec.toNat_and, BitVec.toNat_ofNat, BitVec.toNat_ofNat, Nat.mod_eq_of_lt (by omega), Nat.mod_eq_of_lt (by omega)]
  exact wrk_nat (Nat.lt_of_le_of_lt Nat.and_le_left ha)
theorem xorK_nat {a b k : Nat} (ha : a < 2 ^ k) (hb : b < 2 ^ k) (hk : k ≤ 62) : xorK true 64 (a : Int) (b : Int) = ((a ^^^ b : Nat) : Int) ∧ a ^^^ b < 2 ^ k := by
  have h := Nat.xor_lt_two_pow ha hb
  have hp : 2 ^ k ≤ 2 ^ 62 := Nat.pow_le_pow_right (by omega) hk
  refine ⟨?_, h⟩
  unfold xorK
  rw [ofInt_nat, ofInt_nat, BitVec.toNat_xor, BitVec.toNat_ofNat, BitVec.toNat_ofNat, Nat.mod_eq_of_lt (by omega), Nat.mod_eq_of_lt (by omega)]
  exact wrk_nat (by omega)
theorem orK_natK {a b k : Nat} (ha : a < 2 ^ k) (hb : b < 2 ^ k) (hk : k ≤ 62) : orK true 64 (a : Int) (b : Int) = ((a ||| b : Nat) : Int) ∧ a ||| b < 2 ^ k := by
  have h := Nat.or_lt_two_pow ha hb
  have hp : 2 ^ k ≤ 2 ^ 62 := Nat.pow_le_pow_right (by omega) hk
  refine ⟨?_, h⟩
  unfold orK
  rw [ofInt_nat, ofInt_nat, BitVec.toNat_or, BitVec.toNat_ofNat, BitVec.toNat_ofNat, Nat.mod_eq_of_lt (by omega), Nat.mod_eq_of_lt (by omega)]
  exact wrk_nat (by omega)
theorem shlK_nat {k : Nat} (hk : k ≤ 62) : shlK true 64 1 (k : Int) = ((2 ^ k : Nat) : Int) := by
  unfold shlK
  have h1 : min ((k : Int)).toNat 64 = k := by simp; omega
  rw [h1]
  have hp : 2 ^ k ≤ 2 ^ 62 := Nat.pow_le_pow_right (by omega) hk
  have := wrk_nat (n := 2 ^ k) (by omega)
  simpa using this
theorem shrK_nat {n k : Nat} (hk : k ≤ 63) : shrK 64 (n : Int) (k : Int) = ((n >>> k : Nat) : Int) := by
  unfold shrK
  have h1 : min ((k : Int)).toNat 64 = k := by simp; omega
  rw [h1, Nat.shiftRight_eq_div_pow]
  rw [Int.fdiv_eq_ediv_of_nonneg _ (Int.le_of_lt (Int.pow_pos (by omega)))]
  simp
/-- bit k of n -/
theorem bit_nat {n k : Nat} (hn : n < 9223372036854775808) (hk : k ≤ 63) : (andK true 64 (shrK 64 (n : Int) (k : Int)) 1 == 1) = n.testBit k := by
  rw [shrK_nat hk]
  have h1 : n >>> k < 9223372036854775808 := Nat.lt_of_le_of_lt (Nat.shiftRight_le n k) hn
  have := andK_nat h1 (show 1 < 9223372036854775808 by omega)
  rw [show (1 : Int) = ((1 : Nat) : Int) from rfl, this]
  unfold Nat.testBit
  rw [Nat.and_comm]
  have hb : 1 &&& n >>> k = 0 ∨ 1 &&& n >>> k = 1 := by
    have : 1 &&& n >>> k ≤ 1 := Nat.and_le_left
    omega
  rcases hb with h | h <;> rw [h] <;> rfl
end Go.Pu
namespace Go.PF
open Go.Pu
/-- the truth of variables that bits tell -/
def bt' (n : Nat) : Nat → Bool := fun u => n.testBit (u - 1)
def modB (K : List (List Int)) (n : Nat) : Bool := K.all fun c => tc (bt' n) c
theorem impl_holds_eq {V : Int} {c : List Int} (hc : IsC V c) {n : Nat} (hn : n < 9223372036854775808) : impl_holds c (n : Int) = some (tc (bt' n) c) := by
  unfold impl_holds
  rw [slices_ContainsFunc_int_int_eq (g := tl (bt' n)) fun l hl => ?_]
  · rfl
  · have h1 := hc.lit l hl; have h2 := hc.hi
    have ha : impl_abs l = (l.natAbs : Int) := by rw [impl_abs_eq (by unfold okI; omega), vr_abs (by omega) (by omega)]
    have hw : wr (impl_abs l - 1) = ((l.natAbs - 1 : Nat) : Int) := by rw [ha, wr_of _ (by omega) (by omega)]; omega
    show bd (nn (wr (impl_abs l - 1))) _ = _
    rw [hw]
    have hnn : nn ((l.natAbs - 1 : Nat) : Int) = some () := by unfold nn; rw [if_neg (by omega)]
    rw [hnn, bd_some, bit_nat hn (by omega)]
    rfl
theorem contains_LL {c : List (List Int)} {f : List Int → Option Bool} {g : List Int → Bool} (h : ∀ y ∈ c, f y = some (g y)) : slices_ContainsFunc_LLint_Lint c f = some (c.any g) := by
  obtain ⟨r, h1, h2⟩ := slices_IndexFunc_LL_ge h
  unfold slices_ContainsFunc_LLint_Lint
  rw [h1, bd_some, h2]
theorem impl_isModel_eq {V : Int} {K : List (List Int)} (hK : ∀ c ∈ K, IsC V c) {n : Nat} (hn : n < 9223372036854775808) : impl_isModel K (n : Int) = some (modB K n) := by
  unfold impl_isModel
  rw [contains_LL (g := fun c => !tc (bt' n) c) fun c hc => ?_]
  · rw [bd_some]
    unfold modB
    congr 1
    induction K with
    | nil => rfl
    | cons c K ih =>
      have := ih fun d hd => hK d (List.mem_cons_of_mem _ hd)
      simp only [List.any_cons, List.all_cons, Bool.not_or, Bool.not_not, this]
  · unfold impl_isModel_1
    rw [impl_holds_eq (hK c hc) hn, bd_some]
theorem tc_congr {b b' : Nat → Bool} {V : Int} {c : List Int} (hc : IsC V c) (h : ∀ u, 1 ≤ u → b u = b' u) : tc b c = tc b' c := by
  unfold tc
  rw [Bool.eq_iff_iff, List.any_eq_true, List.any_eq_true]
  constructor
  · rintro ⟨l, hl, t⟩; refine ⟨l, hl, ?_⟩; unfold tl at t ⊢; rw [← h _ (by have := hc.lit l hl; omega)]; exact t
  · rintro ⟨l, hl, t⟩; refine ⟨l, hl, ?_⟩; unfold tl at t ⊢; rw [h _ (by have := hc.lit l hl; omega)]; exact t
theorem bt_flip {n k : Nat} (hk : 1 ≤ k) : ∀ u, 1 ≤ u → bt' (n ^^^ 2 ^ (k - 1)) u = flipV (bt' n) k u := by
  intro u hu
  unfold bt' flipV
  rw [Nat.testBit_xor, Nat.testBit_two_pow]
  by_cases h : u = k
  · subst h; rw [decide_eq_true rfl, beq_self_eq_true]
    show (n.testBit (u - 1) ^^ true) = !(n.testBit (u - 1))
    cases n.testBit (u - 1) <;> rfl
  · rw [decide_eq_false (by omega), beq_eq_false_iff_ne.2 h]
    show (n.testBit (u - 1) ^^ false) = n.testBit (u - 1)
    cases n.testBit (u - 1) <;> rfl
theorem modB_iff {K : List (List Int)} {n : Nat} : modB K n = true ↔ ∀ c ∈ K, tc (bt' n) c = true := by unfold modB; exact List.all_eq_true
end Go.PF
namespace Go.PF
open Go.Pu
/-- a loop over the places of a list, told by what holds at each -/
theorem loop_ix {T σ α X B : Type} (mk : σ → Int → T) {xs : List α} {body : T → Option (Lp T X)} {t0 : T} {k : T → Option B} {lx : X → Option B} {R : B → Prop} (I : Nat → σ → Prop) {s0 : σ} (ht : t0 = mk s0 0) (h0 : I 0 s0)
    (h : ∀ (i : Nat) x s, xs[i]? = some x → I i s → ∃ s', body (mk s (i : Int)) = some (.nx (mk s' ((i : Int) + 1))) ∧ I (i + 1) s') (he : ∀ s, I xs.length s → body (mk s (xs.length : Int)) = some (.bk (mk s (xs.length : Int))))
    (hk : ∀ s, I xs.length s → ∃ r, k (mk s (xs.length : Int)) = some r ∧ R r) : ∃ r, bdR (iter body t0) k lx = some r ∧ R r := by
  subst ht
  have key : ∀ (m : List α) (j : Nat) (s : σ), j + m.length = xs.length → (∀ i y, m[i]? = some y → xs[j + i]? = some y) → I j s → ∃ s', iter body (mk s (j : Int)) = some (.go (mk s' (xs.length : Int))) ∧ I xs.length s' := by
    intro m
    induction m with
    | nil =>
      intro j s hj _ hI
      simp only [List.length_nil, Nat.add_zero] at hj
      subst hj
      exact ⟨s, iter_bk (he s hI), hI⟩
    | cons y m ih =>
      intro j s hj hm hI
      obtain ⟨s', h1, h2⟩ := h j y s (by have := hm 0 y rfl; simpa using this) hI
      rw [iter_nx h1]
      exact ih (j + 1) s' (by simp at hj; omega) (fun i z hz => by have := hm (i + 1) z (by simpa using hz); rwa [show j + (i + 1) = j + 1 + i by omega] at this) h2
  obtain ⟨s', h1, h2⟩ := key xs 0 s0 (by simp) (by simp) h0
  have h1' : iter body (mk s0 0) = some (.go (mk s' (xs.length : Int))) := h1
  rw [h1', bdR_go]
  exact hk s' h2
theorem loop_l {σ α X B : Type} {xs : List α} {body : Nat → α → σ → Option (Lp σ X)} {k : σ → Option B} {lx : X → Option B} {R : B → Prop} (I : Nat → σ → Prop) {s0 : σ} (h0 : I 0 s0)
    (h : ∀ (i : Nat) x s, xs[i]? = some x → I i s → ∃ s', body i x s = some (.nx s') ∧ I (i + 1) s')
    (hk : ∀ s, I xs.length s → ∃ r, k s = some r ∧ R r) : ∃ r, bdR (forL xs body s0) k lx = some r ∧ R r := by
  have key : ∀ (m : List α) (j : Nat) (s : σ), j + m.length = xs.length → (∀ i y, m[i]? = some y → xs[j + i]? = some y) → I j s → ∃ s', forLFrom body m j s = some (.go s') ∧ I xs.length s' := by
    intro m
    induction m with
    | nil =>
      intro j s hj _ hI
      simp only [List.length_nil, Nat.add_zero] at hj
      subst hj
      exact ⟨s, rfl, hI⟩
    | cons y m ih =>
      intro j s hj hm hI
      obtain ⟨s', h1, h2⟩ := h j y s (by have := hm 0 y rfl; simpa using this) hI
      rw [forLFrom_nx h1]
      exact ih (j + 1) s' (by simp at hj; omega) (fun i z hz => by have := hm (i + 1) z (by simpa using hz); rwa [show j + (i + 1) = j + 1 + i by omega] at this) h2
  obtain ⟨s', h1, h2⟩ := key xs 0 s0 (by simp) (by simp) h0
  have h1' : forL xs body s0 = some (.go s') := h1
  rw [h1', bdR_go]
  exact hk s' h2
theorem mem_take_succ {A : Type} {l : List A} {i : Nat} {c x : A} (h : l[i]? = some c) : x ∈ l.take (i + 1) ↔ x ∈ l.take i ∨ x = c := by
  rw [List.take_add_one, h]; simp
theorem contains_false {c : List Int} {l : Int} (h : l ∉ c) : c.contains l = false := by rw [Bool.eq_false_iff]; exact fun g => h (List.contains_iff_mem.1 g)
end Go.PF
