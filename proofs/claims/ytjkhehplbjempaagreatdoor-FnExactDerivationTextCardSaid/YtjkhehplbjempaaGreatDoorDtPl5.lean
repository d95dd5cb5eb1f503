/- Resolvents and derivations: both packages answer alike. -/
import Derived.Test.YtjkhehplbjempaaGreatDoorDtPl4
namespace Go.PF
open Go.Pu

theorem srt_unique : ∀ {a b : List Int}, Srt a → Srt b → (∀ x, x ∈ a ↔ x ∈ b) → a = b := by
  intro a
  induction a with
  | nil =>
    intro b _ _ h
    cases b with
    | nil => rfl
    | cons y b => exact absurd ((h y).2 (by simp)) (by simp)
  | cons x a ih =>
    intro b ha hb h
    cases b with
    | nil => exact absurd ((h x).1 (by simp)) (by simp)
    | cons y b =>
      obtain ⟨a1, a2⟩ := List.pairwise_cons.1 ha
      obtain ⟨b1, b2⟩ := List.pairwise_cons.1 hb
      have hxy : x = y := by
        rcases List.mem_cons.1 ((h x).1 (by simp)) with e | e
        · exact e
        · rcases List.mem_cons.1 ((h y).2 (by simp)) with e' | e'
          · exact e'.symm
          · have := b1 x e; have := a1 y e'; omega
      subst hxy
      rw [ih a2 b2 fun z => ?_]
      constructor
      · intro hz
        rcases List.mem_cons.1 ((h z).1 (by simp [hz])) with e | e
        · subst e; have := a1 z hz; omega
        · exact e
      · intro hz
        rcases List.mem_cons.1 ((h z).2 (by simp [hz])) with e | e
        · subst e; have := b1 z hz; omega
        · exact e

theorem compactL_mem {A : Type} [DecidableEq A] : ∀ {l : List A} {x : A}, x ∈ compactL l ↔ x ∈ l
  | [], x => by simp [compactL]
  | [y], x => by simp [compactL]
  | y :: z :: r, x => by
    rw [compactL]
    split
    · rename_i h; subst h
      rw [compactL_mem]; simp
    · rw [List.mem_cons, compactL_mem]; simp
theorem compactL_strict {A : Type} [DecidableEq A] {R : A → A → Prop} (ha : ∀ a b, R a b → R b a → a = b) : ∀ {l : List A}, l.Pairwise R → (compactL l).Pairwise fun a b => R a b ∧ a ≠ b
  | [], _ => by simp [compactL]
  | [y], _ => by simp [compactL]
  | y :: z :: r, h => by
    obtain ⟨h1, h2⟩ := List.pairwise_cons.1 h
    rw [compactL]
    split
    · exact compactL_strict ha h2
    · rename_i hne
      refine List.pairwise_cons.2 ⟨fun x hx => ?_, compactL_strict ha h2⟩
      have hx' := compactL_mem.1 hx
      refine ⟨h1 x hx', fun e => ?_⟩
      subst e
      rcases List.mem_cons.1 hx' with e | e
      · exact hne e
      · exact hne (ha _ _ (h1 z (by simp)) ((List.pairwise_cons.1 h2).1 y e))

/-- the order of literals -/
def litLe (x y : Int) : Prop := impl_abs x < impl_abs y ∨ (impl_abs x = impl_abs y ∧ y ≤ x)
def cmpL (x y : Int) : Int := if impl_abs x < impl_abs y then -1 else if impl_abs y < impl_abs x then 1 else if y < x then -1 else if x < y then 1 else 0
theorem impl_compareLiterals_cmpL (x y : Int) : impl_compareLiterals x y = some (cmpL x y) := by
  have hc : ∀ a b : Int, cmp_Compare_int a b = if a < b then -1 else if b < a then 1 else 0 := fun a b => by
    unfold cmp_Compare_int cmp_isNaN_int
    simp only [BEq.rfl, Bool.not_true, cond_false]
    by_cases h1 : a < b
    · simp [h1]
    · by_cases h2 : b < a <;> simp [h1, h2]
  unfold impl_compareLiterals cmp_Or_int cmpL
  rw [hc, hc]
  by_cases h1 : impl_abs x < impl_abs y
  · simp [h1, forL, forLFrom]
  · by_cases h2 : impl_abs y < impl_abs x
    · simp [h1, h2, forL, forLFrom]
    · by_cases h3 : y < x
      · simp [h1, h2, h3, forL, forLFrom]
      · by_cases h4 : x < y <;> simp [h1, h2, h3, h4, forL, forLFrom]
theorem cmpL_neg {x y : Int} : cmpL x y < 0 ↔ impl_abs x < impl_abs y ∨ (impl_abs x = impl_abs y ∧ y < x) := by
  unfold cmpL
  split
  · omega
  · split
    · omega
    · split
      · omega
      · split <;> omega
theorem leF_lit {x y : Int} : leF (fun x0 x1 => PF.impl_compareLiterals x0 x1) x y = true ↔ litLe x y := by
  unfold leF litLe
  simp only [impl_compareLiterals_cmpL]
  rw [Bool.not_eq_true', decide_eq_false_iff_not, cmpL_neg]
  omega
theorem sort_lit {xs : List Int} (hl : xs.length < lim) : slices_SortFunc_int_int xs (fun x0 x1 => PF.impl_compareLiterals x0 x1) = some (xs.mergeSort (leF fun x0 x1 => PF.impl_compareLiterals x0 x1)) := by
  unfold slices_SortFunc_int_int sortF
  rw [if_pos]
  refine ⟨cmpL, hl, fun x _ y _ => impl_compareLiterals_cmpL x y, fun x _ => ?_, fun x _ y _ z _ h1 h2 => ?_, fun x _ y _ z _ h1 h2 => ?_, fun x _ y _ h1 h2 => ?_⟩
  · rw [cmpL_neg]; omega
  · rw [cmpL_neg] at *; omega
  · rw [cmpL_neg] at *; omega
  · rw [cmpL_neg] at *; omega
theorem sorted_lit (xs : List Int) : (xs.mergeSort (leF fun x0 x1 => PF.impl_compareLiterals x0 x1)).Pairwise litLe := by
  have := List.pairwise_mergeSort (le := leF fun x0 x1 => PF.impl_compareLiterals x0 x1) (fun a b c h1 h2 => by
    rw [leF_lit] at *; unfold litLe at *; omega) (fun a b => by
    rw [Bool.or_eq_true, leF_lit, leF_lit]; unfold litLe; omega) xs
  exact this.imp fun h => leF_lit.1 h

def noComp (t : List Int) : Bool := adj (fun a b => !(b == wr (-a))) t
theorem impl_clause_eq {c : List Int} (hl : c.length < lim) : impl_clause c = some (let t := compactL (c.mergeSort (leF fun x0 x1 => PF.impl_compareLiterals x0 x1)); bif noComp t then (t, true) else ([], false)) := by
  unfold impl_clause
  rw [slices_Clone_int_int_eq (by omega), bd_some, sort_lit hl, bd_some]
  unfold slices_Compact_int_int
  rw [bd_some]
  simp only
  generalize ht : compactL (c.mergeSort (leF fun x0 x1 => PF.impl_compareLiterals x0 x1)) = t
  have htl : t.length ≤ 4294967296 := by
    have : ∀ l : List Int, (compactL l).length ≤ l.length := by
      intro l
      induction l using compactL.induct with
      | case1 => simp [compactL]
      | case2 => simp [compactL]
      | case3 y r ih => rw [compactL, if_pos rfl]; simp only [List.length_cons] at ih ⊢; omega
      | case4 x y r h ih => rw [compactL, if_neg h]; simp only [List.length_cons] at ih ⊢; omega
    have h1 := this (c.mergeSort (leF fun x0 x1 => PF.impl_compareLiterals x0 x1))
    rw [ht, List.length_mergeSort] at h1
    unfold lim at hl; omega
  cases t with
  | nil =>
    rw [iter_bk (s' := 1) rfl]; rfl
  | cons x t =>
    have key : ∀ (m : List Int) (k : Nat), k + 1 + m.length = (x :: t).length → (∀ i y, m[i]? = some y → (x :: t)[k + 1 + i]? = some y) → iter (S := Int) (X := ((List Int) × Bool)) (fun s49 => (bif (decide (s49 < (len (x :: t)))) then bd (ix (x :: t) s49) (fun x94 => bd (ix (x :: t) (wr (s49 - 1))) (fun x102 => (bif (x94 == (wr (-x102))) then some (Lp.rt ([], false)) else some (Lp.nx (wr (s49 + 1)))))) else some (Lp.bk s49))) ((k + 1 : Nat) : Int) =
        some (bif anyI (fun i y => match i with | 0 => false | i + 1 => match (x :: t)[i]? with | some z => y == wr (-z) | none => false) m (k + 1) then .rt ([], false) else .go (((x :: t).length : Nat) : Int)) := by
      intro m
      induction m with
      | nil =>
        intro k hk _
        simp only [List.length_nil, Nat.add_zero] at hk
        rw [iter_bk (s' := ((k + 1 : Nat) : Int))]
        · rw [hk]; rfl
        · have hd : decide (((k + 1 : Nat) : Int) < len (x :: t)) = false := by rw [len_eq, ← hk]; simp
          rw [hd]; rfl
      | cons y m ih =>
        intro k hk hm
        simp only [List.length_cons (a := y)] at hk
        have hy : (x :: t)[k + 1]? = some y := by simpa using hm 0 y rfl
        have hd : decide (((k + 1 : Nat) : Int) < len (x :: t)) = true := by rw [len_eq]; simp only [decide_eq_true_eq]; omega
        have hkl : k < (x :: t).length := by omega
        have hz := List.getElem?_eq_getElem hkl
        simp only [anyI]
        cases hb : (y == wr (-(x :: t)[k])) with
        | true =>
          rw [iter_rt (x := ([], false))]
          · simp [hz, hb]
          · simp only [hd, cond_true, ix_get, hy, bd_some, wr_pred (show 0 < k + 1 by omega) (show k + 1 < (x :: t).length by omega) (by omega), Nat.add_sub_cancel, hz, hb]
        | false =>
          rw [iter_nx (s' := ((k + 1 + 1 : Nat) : Int))]
          · rw [ih (k + 1) (by omega) fun i z hz => by have := hm (i + 1) z (by simpa using hz); rwa [show k + 1 + (i + 1) = k + 1 + 1 + i by omega] at this]
            simp [hz, hb]
          · simp only [hd, cond_true, ix_get, hy, bd_some, wr_pred (show 0 < k + 1 by omega) (show k + 1 < (x :: t).length by omega) (by omega), Nat.add_sub_cancel, hz, hb, cond_false]
            rw [wr_succ (n := (x :: t).length) (by omega) (by omega)]; simp
    have hk := key t 0 (by simp; omega) (by intro i y hy; rw [show 0 + 1 + i = i + 1 by omega]; simpa using hy)
    rw [show ((0 + 1 : Nat) : Int) = 1 from rfl] at hk
    rw [hk]
    have ha := anyI_adj (l := x :: t) (p := fun i y => match i with | 0 => false | i + 1 => match (x :: t)[i]? with | some z => y == wr (-z) | none => false) (q := fun _ => false) (r := fun a b => !(b == wr (-a))) (fun _ _ => rfl) (fun i a b h1 _ => by simp only [h1]; simp)
    simp only [anyI, Bool.false_or, Nat.zero_add] at ha
    rw [show (0 + 1 : Nat) = 1 from rfl, ha]
    unfold noComp
    rw [show ((x :: t).all fun _ => !false) = true by simp]
    cases adj (fun a b => !(b == wr (-a))) (x :: t) <;> rfl

theorem slices_Concat2 {a b : List Int} (hl : a.length + b.length ≤ lim) : slices_Concat_int_int [a, b] = some (a ++ b) := by
  have hl' : a.length + b.length ≤ 4294967296 := hl
  have e1 : wr (0 + len a) = (a.length : Int) := by rw [wr_of _ (by rw [len_eq]; omega) (by rw [len_eq]; omega), len_eq]; omega
  have e2 : wr ((a.length : Int) + len b) = ((a.length + b.length : Nat) : Int) := by rw [wr_of _ (by rw [len_eq]; omega) (by rw [len_eq]; omega), len_eq]; omega
  have d1 : decide ((a.length : Int) < 0) = false := by rw [decide_eq_false_iff_not]; omega
  have d2 : decide (((a.length + b.length : Nat) : Int) < 0) = false := by rw [decide_eq_false_iff_not]; omega
  unfold slices_Concat_int_int forL
  rw [forLFrom_nx (s' := (a.length : Int)) (by rw [e1, d1]; rfl), forLFrom_nx (s' := ((a.length + b.length : Nat) : Int)) (by rw [e2, d2]; rfl), forLFrom_nil, bdR_go]
  unfold slices_Grow_int_int
  rw [if_pos (by omega), bd_some]
  rw [forLFrom_nx (s' := a) (by rw [app_ok (by simp; omega), bd_some]; rfl), forLFrom_nx (s' := a ++ b) (by rw [app_ok hl, bd_some]), forLFrom_nil, bdR_go]

/-- what comes of two merged clauses -/
def joined (a b : List Int) : List Int × Bool := match joinL a b with | some s => (s, true) | none => ([], false)
theorem clause_joined {a b : List Int} (ha : Srt a) (hb : Srt b) (sa : Sm a) (sb : Sm b) (hl : a.length + b.length < lim) : impl_clause (a ++ b) = some (joined a b) := by
  rw [impl_clause_eq (by simpa using hl)]
  simp only
  generalize ht : compactL ((a ++ b).mergeSort (leF fun x0 x1 => PF.impl_compareLiterals x0 x1)) = t
  have hm : ∀ x, x ∈ t ↔ x ∈ a ∨ x ∈ b := fun x => by rw [← ht, compactL_mem, List.mem_mergeSort, List.mem_append]
  have hs : Sm t := fun x hx => by
    rcases (hm x).1 hx with h | h
    · exact sa x h
    · exact sb x h
  have hab : ∀ x ∈ t, impl_abs x = x.natAbs := fun x hx => by
    have := hs x hx
    rw [impl_abs_eq (by unfold okI; omega), vr_abs this.1 this.2.1]
  have hlt : t.Pairwise fun x y => litLe x y ∧ x ≠ y := by
    rw [← ht]
    exact compactL_strict (fun x y h1 h2 => by unfold litLe at *; omega) (sorted_lit _)
  have hw : ∀ x ∈ t, wr (-x) = -x := fun x hx => by have := hs x hx; exact wr_of _ (by omega) (by omega)
  have hspec := joinL_spec ha sa hb sb
  unfold joined
  by_cases hex : ∃ y ∈ b, -y ∈ a
  · rw [if_pos hex] at hspec
    rw [hspec]
    have hn : noComp t = false := by
      cases hn : noComp t with
      | false => rfl
      | true =>
        exfalso
        -- neighbours have other variables, so all have
        have hsrt : Srt t := by
          refine adj_pairwise (r := fun x y => !(y == wr (-x)) && decide (x.natAbs < y.natAbs ∨ (x.natAbs = y.natAbs ∧ y < x))) (R := fun x y : Int => x.natAbs < y.natAbs) (fun _ _ _ => Nat.lt_trans) (fun x y hx hy hr => ?_) ?_
          · have h1 := hs x hx; have h2 := hs y hy
            simp only [Bool.and_eq_true, Bool.not_eq_true', beq_eq_false_iff_ne, ne_eq, decide_eq_true_eq] at hr
            rw [hw x hx] at hr
            omega
          · have hp : t.Pairwise fun x y => (decide (x.natAbs < y.natAbs ∨ (x.natAbs = y.natAbs ∧ y < x))) = true := by
              refine List.Pairwise.imp_of_mem ?_ hlt
              intro x y hx hy h
              simp only [decide_eq_true_eq]
              unfold litLe at h
              rw [hab x hx, hab y hy] at h
              omega
            have h1 := adj_of_pairwise hp
            unfold noComp at hn
            clear hp hlt hm hspec ht hs hab hw
            revert h1 hn
            generalize t = t
            intro hn h1
            induction t with
            | nil => rfl
            | cons x t ih =>
              cases t with
              | nil => rfl
              | cons y t =>
                simp only [adj, Bool.and_eq_true] at hn h1 ⊢
                exact ⟨⟨hn.1, h1.1⟩, ih hn.2 h1.2⟩
        obtain ⟨y, hy, hy2⟩ := hex
        have h1 := (hm y).2 (.inr hy)
        have h2 := (hm (-y)).2 (.inl hy2)
        have h0 := sb y hy
        -- two of one variable
        obtain ⟨i, hi⟩ := List.mem_iff_getElem?.1 h1
        obtain ⟨j, hj⟩ := List.mem_iff_getElem?.1 h2
        have hlen1 := (List.getElem?_eq_some_iff.1 hi).1
        have hlen2 := (List.getElem?_eq_some_iff.1 hj).1
        rw [List.getElem?_eq_getElem hlen1] at hi
        rw [List.getElem?_eq_getElem hlen2] at hj
        simp only [Option.some.injEq] at hi hj
        have hpw := List.pairwise_iff_getElem.1 hsrt
        rcases Nat.lt_trichotomy i j with h | h | h
        · have := hpw i j hlen1 hlen2 h; rw [hi, hj] at this; omega
        · subst h; rw [hi] at hj; omega
        · have := hpw j i hlen2 hlen1 h; rw [hi, hj] at this; omega
    rw [hn]; rfl
  · rw [if_neg hex] at hspec
    obtain ⟨s, h1, h2, h3⟩ := hspec
    rw [h1]
    have hne : ∀ x ∈ t, -x ∉ t := fun x hx hx2 => by
      have h0 := hs x hx
      rcases (hm x).1 hx with ha1 | hb1 <;> rcases (hm (-x)).1 hx2 with ha2 | hb2
      · have hpw := List.pairwise_iff_getElem.1 ha
        obtain ⟨i, hi1, hi⟩ := List.getElem_of_mem ha1
        obtain ⟨j, hj1, hj⟩ := List.getElem_of_mem ha2
        rcases Nat.lt_trichotomy i j with h | h | h
        · have := hpw i j hi1 hj1 h; rw [hi, hj] at this; omega
        · subst h; rw [hi] at hj; omega
        · have := hpw j i hj1 hi1 h; rw [hi, hj] at this; omega
      · exact hex ⟨-x, hb2, by rw [Int.neg_neg]; exact ha1⟩
      · exact hex ⟨x, hb1, ha2⟩
      · have hpw := List.pairwise_iff_getElem.1 hb
        obtain ⟨i, hi1, hi⟩ := List.getElem_of_mem hb1
        obtain ⟨j, hj1, hj⟩ := List.getElem_of_mem hb2
        rcases Nat.lt_trichotomy i j with h | h | h
        · have := hpw i j hi1 hj1 h; rw [hi, hj] at this; omega
        · subst h; rw [hi] at hj; omega
        · have := hpw j i hj1 hi1 h; rw [hi, hj] at this; omega
    have hn : noComp t = true := by
      unfold noComp
      refine adj_of_pairwise (List.Pairwise.imp_of_mem ?_ hlt)
      intro x y hx hy _
      rw [hw x hx]
      simp only [Bool.not_eq_true', beq_eq_false_iff_ne, ne_eq]
      intro e; subst e; exact hne x hx hy
    have hsrt : Srt t := by
      refine List.Pairwise.imp_of_mem ?_ hlt
      intro x y hx hy h
      unfold litLe at h
      rw [hab x hx, hab y hy] at h
      have : y ≠ -x := fun e => by subst e; exact hne x hx hy
      omega
    rw [hn]
    rw [srt_unique hsrt h2 fun x => by rw [hm, h3]]; rfl

/-! resolvents -/
def res (a b : List Int) (v : Int) : List Int × Bool := bif !a.contains v || !b.contains (wr (-v)) then ([], false) else joined (without a v) (without b v)
theorem without_len (c : List Int) (v : Int) : (without c v).length ≤ c.length := List.length_filter_le _ _
theorem spec_l2Resolve_eq {a b : List Int} {v : Int} (hl : a.length + b.length ≤ lim) : spec_l2Resolve a b v = some (res a b v) := by
  have h1 := without_len a v; have h2 := without_len b v
  unfold spec_l2Resolve res
  rw [spec_l2Has_eq, bd_some]
  cases a.contains v with
  | false => rfl
  | true =>
    simp only [Bool.not_true, cond_false, Bool.false_or]
    rw [spec_l2Has_eq, bd_some, bd_some]
    cases b.contains (wr (-v)) with
    | false => rfl
    | true =>
      simp only [Bool.not_true, cond_false]
      rw [spec_l2Without_eq (by omega), bd_some, spec_l2Without_eq (by omega), bd_some, spec_l2Join_eq (by omega), bd_some]
      unfold joined
      cases joinL (without a v) (without b v) <;> rfl
theorem IsC.sm {V : Int} {c : List Int} (h : IsC V c) : Sm c := fun l hl => by have := h.lit l hl; have := h.hi; omega
theorem impl_resolve_eq {V : Int} {a b : List Int} {v : Int} (ha : IsC V a) (hb : IsC V b) : impl_resolve a b v = some (res a b v) := by
  have h1 := without_len a v; have h2 := without_len b v
  have h3 := ha.len; have h4 := hb.len
  have hlim : lim = 4294967296 := rfl
  unfold impl_resolve res
  rw [slices_Contains_int_int_eq, bd_some]
  cases a.contains v with
  | false => rfl
  | true =>
    simp only [Bool.not_true, cond_false, Bool.false_or]
    rw [slices_Contains_int_int_eq, bd_some, bd_some]
    cases b.contains (wr (-v)) with
    | false => rfl
    | true =>
      simp only [Bool.not_true, cond_false]
      rw [impl_withoutVar_eq ha.ok.2 (by omega), bd_some, impl_withoutVar_eq hb.ok.2 (by omega), bd_some, slices_Concat2 (by omega), bd_some,
        clause_joined (a := without a v) (b := without b v) (ha.srt.sublist List.filter_sublist) (hb.srt.sublist List.filter_sublist) (fun x hx => ha.sm x (List.mem_filter.1 hx).1) (fun x hx => hb.sm x (List.mem_filter.1 hx).1) (by omega), bd_some]
end Go.PF
