/- The frame of a law, type by type: sizes, copies, comparisons, marks. Literals, clauses, families of clauses; what both packages ask of them. Resolvents: the merged list of one package is the sorted list of the other. Resolvents and derivations: both packages answer alike. Derivations: both packages accept the same ones. Sets of ints as ascending lists; the pivots of a proof. The pivots of the steps of a proof; the reference and the program answer alike; the law. The steps that a derivation needs: both sides tell the same ones. Clauses under an assignment; loops that count up, whatever the order of their state. Unit propagation: the program's and the reference's steps are the same. Unit propagation to its end. Loops without a bound, run with one: what a bounded run comes to, the loop comes to. The texts that the laws draw clauses from: each is read as a small formula (computed). -/
import Derived.Test.YtdkkikkmnfjgiaaGreatPrPf
import Derived.Test.YtdkkikkmnfjgiaaGreatPl1
set_option linter.unusedVariables false
namespace Go.PF
open Go.Pu

def big : Int := 9223372036854775807
def wIntS (a : List Int) : Nat := a.length
def wIntSS (a : List (List Int)) : Nat := a.length + tot wIntS a
def wCnf (a : Cnf) : Nat := wIntSS a.clauses
def wResStep (a : ResStep) : Nat := wIntS a.clause
def wResStepS (a : List ResStep) : Nat := a.length + tot wResStep a

def mResStep (a : ResStep) : Nat := a.clause.length + 3
theorem tot_one {A : Type} (l : List A) : tot (fun _ => 1) l = l.length := by induction l with
  | nil => rfl
  | cons _ l ih => simp [tot, ih]; omega
theorem wr3 {k : Int} (h0 : 0 ≤ k) (h1 : k + 3 ≤ big) : wr (k + 1) = k + 1 ∧ wr (k + 1 + 1) = k + 2 ∧ wr (k + 2 + 1) = k + 3 := by
  unfold big at h1
  exact ⟨wr_of _ (by omega) (by omega), by rw [wr_of _ (by omega) (by omega)]; omega, by rw [wr_of _ (by omega) (by omega)]; omega⟩
theorem mResStep_le {a : List ResStep} (h : (wResStepS a : Int) ≤ 1048576) : tot mResStep a ≤ 4194304 := by
  have key : ∀ l : List ResStep, tot mResStep l = tot wResStep l + 3 * l.length := by
    intro l
    induction l with
    | nil => rfl
    | cons x l ih => simp only [tot, ih, List.length_cons, mResStep, wResStep, wIntS]; omega
  have := key a
  unfold wResStepS at h; omega
end Go.PF
namespace Go.PF
open Go.Pu

/-- the variable of a literal -/
def vr (l : Int) : Int := bif decide (l < 0) then wr (-l) else l
theorem spec_l2Var_eq (l : Int) : spec_l2Var l = vr l := rfl
theorem vr_abs {l : Int} (h1 : -12 ≤ l) (h2 : l ≤ 12) : vr l = l.natAbs := by
  unfold vr
  by_cases h : l < 0
  · simp only [h, decide_true, cond_true]; rw [wr_of _ (by omega) (by omega)]; omega
  · simp only [h, decide_false, cond_false]; omega
theorem impl_abs_eq {l : Int} (h : okI l) : impl_abs l = vr l := by
  obtain ⟨h1, h2⟩ := h
  unfold impl_abs vr mx
  by_cases h0 : l < 0
  · simp only [h0, decide_true, cond_true]
    by_cases hm : l = -9223372036854775808
    · subst hm; decide
    · rw [wr_of _ (by omega) (by omega), if_pos (by omega)]
  · simp only [h0, decide_false, cond_false]
    rw [wr_of _ (by omega) (by omega)]
    by_cases hz : l = 0
    · subst hz; rfl
    · rw [if_neg (by omega)]

def inB (a b c : Int) : Bool := decide (b ≤ a) && decide (a ≤ c)
theorem inB_iff {a b c : Int} : inB a b c = true ↔ b ≤ a ∧ a ≤ c := by simp [inB]
theorem spec_l1In_eq (a b c : Int) : spec_l1In a b c = inB a b c := by simp [spec_l1In, inB]
theorem impl_within_eq (a b c : Int) : impl_within a b c = inB a b c := by simp [impl_within, inB]
def varsB (v : Int) : Bool := inB v 0 12
theorem varsB_iff {v : Int} : varsB v = true ↔ 0 ≤ v ∧ v ≤ 12 := inB_iff
theorem spec_l2Vars_eq (v : Int) : spec_l2Vars v = varsB v := spec_l1In_eq _ _ _
theorem impl_varsOk_eq (v : Int) : impl_varsOk v = varsB v := impl_within_eq _ _ _
def litB (v l : Int) : Bool := inB l (wr (-v)) v && !(l == 0)
theorem spec_l2Lit_eq (v l : Int) : spec_l2Lit v l = litB v l := by simp [spec_l2Lit, litB, spec_l1In_eq]
theorem impl_isLiteral_eq (v l : Int) : impl_isLiteral v l = litB v l := by simp [impl_isLiteral, litB, impl_within_eq, Bool.and_comm]
def clauseB (v : Int) (c : List Int) : Bool := varsB v && (c.all (litB v) && adj (fun a b => decide (vr a < vr b)) c)

theorem spec_l2Clause_eq {v : Int} {c : List Int} (hc : okL okI c) : spec_l2Clause v c = some (clauseB v c) := by
  unfold spec_l2Clause clauseB
  rw [spec_l2Vars_eq]
  cases hv : varsB v with
  | false => rfl
  | true =>
    simp only [Bool.not_true, cond_false, Bool.true_and]
    rw [forL_any (p := fun i y => !litB v y || match i with | 0 => false | i + 1 => match c[i]? with | some x => decide (vr y ≤ vr x) | none => false) (v := false) (fun i y hy => by
      rw [spec_l2Lit_eq]
      cases hl : litB v y with
      | false => simp
      | true =>
        cases i with
        | zero => simp
        | succ i =>
          have hi : i + 1 < c.length := (List.getElem?_eq_some_iff.1 hy).1
          have hp : decide ((0 : Int) < ((i + 1 : Nat) : Int)) = true := by simp
          rw [hp, wr_pred (by omega) hi hc.1, ix_get]
          simp only [Nat.add_sub_cancel]
          rw [List.getElem?_eq_getElem (show i < c.length by omega)]
          simp only [Bool.not_true, cond_false, cond_true, bd_some, Bool.false_or, spec_l2Var_eq]
          rfl)]
    rw [anyI_adj (q := fun y => !litB v y) (r := fun a b => decide (vr a < vr b)) (by intro y _; simp) (by
      intro i x y hx hy
      simp only [hx]
      congr 1
      by_cases h : vr x < vr y
      · simp [h]
      · simp [h]; omega)]
    simp only [Bool.not_not]
    cases (c.all fun y => litB v y) && adj (fun a b => decide (vr a < vr b)) c <;> rfl
theorem impl_IsClause_eq {v : Int} {c : List Int} (hc : okL okI c) : impl_IsClause v c = some (clauseB v c) := by
  unfold impl_IsClause clauseB
  rw [impl_varsOk_eq]
  rw [forL_any (p := fun i y => !litB v y || match i with | 0 => false | i + 1 => match c[i]? with | some x => decide (vr y ≤ vr x) | none => false) (v := false) (fun i y hy => by
      rw [impl_isLiteral_eq]
      cases hl : litB v y with
      | false => simp
      | true =>
        cases i with
        | zero => simp
        | succ i =>
          have hi : i + 1 < c.length := (List.getElem?_eq_some_iff.1 hy).1
          have hp : decide ((0 : Int) < ((i + 1 : Nat) : Int)) = true := by simp
          rw [hp, wr_pred (by omega) hi hc.1, ix_get]
          simp only [Nat.add_sub_cancel]
          rw [List.getElem?_eq_getElem (show i < c.length by omega)]
          simp only [Bool.not_true, cond_false, cond_true, bd_some, Bool.false_or]
          rw [impl_abs_eq (hc.2 _ (List.mem_of_getElem? hy)), impl_abs_eq (hc.2 _ (List.getElem_mem _))])]
  rw [anyI_adj (q := fun y => !litB v y) (r := fun a b => decide (vr a < vr b)) (by intro y _; simp) (by
      intro i x y hx hy
      simp only [hx]
      congr 1
      by_cases h : vr x < vr y
      · simp [h]
      · simp [h]; omega)]
  simp only [Bool.not_not]
  cases (c.all fun y => litB v y) && adj (fun a b => decide (vr a < vr b)) c <;> simp

/-- a clause, told by its elements -/
structure IsC (v : Int) (c : List Int) : Prop where
  lo : 0 ≤ v
  hi : v ≤ 12
  lit : ∀ l ∈ c, -v ≤ l ∧ l ≤ v ∧ l ≠ 0
  srt : c.Pairwise fun a b => a.natAbs < b.natAbs
theorem adj_pairwise {α : Type} {r : α → α → Bool} {R : α → α → Prop} (ht : ∀ a b c, R a b → R b c → R a c) : ∀ {l : List α}, (∀ a b, a ∈ l → b ∈ l → r a b = true → R a b) → adj r l = true → l.Pairwise R := by
  intro l
  induction l with
  | nil => intro _ _; exact .nil
  | cons a l ih =>
    intro hr h
    cases l with
    | nil => simp
    | cons b l =>
      simp only [adj, Bool.and_eq_true] at h
      have hp := ih (fun x y hx hy => hr x y (by simp [hx]) (by simp [hy])) h.2
      have hab := hr a b (by simp) (by simp) h.1
      refine List.pairwise_cons.2 ⟨fun x hx => ?_, hp⟩
      rcases List.mem_cons.1 hx with rfl | hx
      · exact hab
      · exact ht _ _ _ hab ((List.pairwise_cons.1 hp).1 x hx)
theorem adj_of_pairwise {α : Type} {r : α → α → Bool} {l : List α} (h : l.Pairwise fun a b => r a b = true) : adj r l = true := by
  induction l with
  | nil => rfl
  | cons a l ih =>
    cases l with
    | nil => rfl
    | cons b l =>
      obtain ⟨h1, h2⟩ := List.pairwise_cons.1 h
      simp only [adj, Bool.and_eq_true]
      exact ⟨h1 b (by simp), ih h2⟩
theorem litB_iff {v l : Int} (h1 : 0 ≤ v) (h2 : v ≤ 12) : litB v l = true ↔ -v ≤ l ∧ l ≤ v ∧ l ≠ 0 := by
  unfold litB
  rw [wr_of _ (by omega) (by omega)]
  simp [inB]; omega
theorem clauseB_iff {v : Int} {c : List Int} : clauseB v c = true ↔ IsC v c := by
  unfold clauseB
  rw [Bool.and_eq_true, Bool.and_eq_true, varsB_iff, List.all_eq_true]
  constructor
  · rintro ⟨⟨h1, h2⟩, h3, h4⟩
    have hl : ∀ l ∈ c, -v ≤ l ∧ l ≤ v ∧ l ≠ 0 := fun l hl => (litB_iff h1 h2).1 (h3 l hl)
    refine ⟨h1, h2, hl, adj_pairwise (R := fun a b : Int => a.natAbs < b.natAbs) (fun _ _ _ => Nat.lt_trans) (fun a b ha hb hr => ?_) h4⟩
    have := hl a ha; have := hl b hb
    simp only [decide_eq_true_eq] at hr
    rw [vr_abs (by omega) (by omega), vr_abs (by omega) (by omega)] at hr
    omega
  · rintro ⟨h1, h2, h3, h4⟩
    refine ⟨⟨h1, h2⟩, fun l hl => (litB_iff h1 h2).2 (h3 l hl), adj_of_pairwise (List.Pairwise.imp_of_mem ?_ h4)⟩
    intro a b ha hb hr
    have := h3 a ha; have := h3 b hb
    simp only [decide_eq_true_eq]
    rw [vr_abs (by omega) (by omega), vr_abs (by omega) (by omega)]
    omega
theorem srt_len : ∀ {c : List Int} {k n : Nat}, c.Pairwise (fun a b => a.natAbs < b.natAbs) → (∀ l ∈ c, k < l.natAbs ∧ l.natAbs ≤ n) → c.length + k ≤ max k n := by
  intro c
  induction c with
  | nil => intro k n _ _; simp; omega
  | cons a c ih =>
    intro k n h hl
    obtain ⟨h1, h2⟩ := List.pairwise_cons.1 h
    have ha := hl a (by simp)
    have := ih (k := a.natAbs) (n := n) h2 fun l hm => ⟨h1 l hm, (hl l (by simp [hm])).2⟩
    simp only [List.length_cons]; omega
theorem IsC.len {v : Int} {c : List Int} (h : IsC v c) : c.length ≤ 12 := by
  have := srt_len (k := 0) (n := 12) h.srt fun l hl => by have := h.lit l hl; have := h.hi; omega
  omega
theorem IsC.ok {v : Int} {c : List Int} (h : IsC v c) : okL okI c := by
  refine ⟨by have := h.len; omega, fun l hl => ?_⟩
  have := h.lit l hl; have := h.hi
  unfold okI; omega

/-! families -/
def cnfB (f : Cnf) : Bool := varsB f.vars && decide (len f.clauses ≤ 60) && f.clauses.all (clauseB f.vars)
theorem spec_l2Good_eq {f : Cnf} (hf : okCnf f) : spec_l2Good f = some (cnfB f) := by
  unfold spec_l2Good cnfB
  rw [spec_l2Vars_eq]
  cases hv : varsB f.vars with
  | false => rfl
  | true =>
    have e : (decide (60 < len f.clauses)) = !decide (len f.clauses ≤ 60) := by
      by_cases h : len f.clauses ≤ 60
      · simp [h]
      · simp [h]; omega
    simp only [Bool.not_true, cond_false, Bool.true_and]
    rw [e]
    cases hl : decide (len f.clauses ≤ 60) with
    | false => rfl
    | true =>
      have hlen : f.clauses.length ≤ 60 := by have := of_decide_eq_true hl; rw [len_eq] at this; omega
      simp only [Bool.not_true, cond_false, Bool.true_and]
      rw [iter_any (xs := f.clauses) (p := fun _ c => !clauseB f.vars c) (v := false) (fun i y hy => by
        have hi := (List.getElem?_eq_some_iff.1 hy).1
        have hd : decide ((i : Int) < len f.clauses) = true := by rw [len_eq]; simp; omega
        rw [hd, ix_get, hy]
        simp only [cond_true, bd_some]
        rw [spec_l2Clause_eq (hf.2.2 _ (List.mem_of_getElem? hy)), bd_some]
        cases clauseB f.vars y with
        | false => simp only [Bool.not_false, cond_true]
        | true => rw [wr_succ hi (by omega)]) (by
        have hd : decide (((f.clauses.length : Nat) : Int) < len f.clauses) = false := by rw [len_eq]; simp
        rw [hd, cond_false])]
      rw [anyI_any, show (f.clauses.any fun y => !clauseB f.vars y) = !f.clauses.all (clauseB f.vars) by rw [List.all_eq_not_any_not, Bool.not_not]]
      cases f.clauses.all (clauseB f.vars) <;> rfl
theorem impl_IsCnf_eq {f : Cnf} (hf : okCnf f) : impl_IsCnf f = some (cnfB f) := by
  unfold impl_IsCnf cnfB
  rw [impl_varsOk_eq]
  rw [forL_any (p := fun _ c => !clauseB f.vars c) (v := false) (fun i y hy => by
    rw [impl_IsClause_eq (hf.2.2 _ (List.mem_of_getElem? hy)), bd_some])]
  rw [anyI_any, show (f.clauses.any fun y => !clauseB f.vars y) = !f.clauses.all (clauseB f.vars) by rw [List.all_eq_not_any_not, Bool.not_not]]
  cases f.clauses.all (clauseB f.vars) <;> simp

/-! lists of numbers -/
theorem spec_l1Has_eq (c : List Int) (l : Int) : spec_l1Has c l = some (c.contains l) := by
  unfold spec_l1Has
  rw [forL_any (p := fun _ y => y == l) (v := true) (fun i y _ => rfl), anyI_any]
  rw [show (c.any fun y => y == l) = c.contains l by induction c with | nil => rfl | cons x c ih => rw [List.any_cons, List.contains_cons, ih, Bool.beq_comm]]
  cases c.contains l <;> rfl
theorem spec_l2Has_eq (c : List Int) (l : Int) : spec_l2Has c l = some (c.contains l) := by unfold spec_l2Has; rw [spec_l1Has_eq]; rfl
theorem contains_any (c : List Int) (l : Int) : (c.any fun y => l == y) = c.contains l := by induction c with
  | nil => rfl
  | cons x c ih => rw [List.any_cons, List.contains_cons, ih]
theorem slices_Index_int_int_ge (c : List Int) (l : Int) : ∃ r, slices_Index_int_int c l = some r ∧ decide (0 ≤ r) = c.contains l := by
  unfold slices_Index_int_int
  rw [forL_find (p := fun _ y => l == y) (v := fun i _ => (i : Int)) (fun i y _ => rfl)]
  cases h : findI (fun _ y => l == y) c 0 with
  | none =>
    refine ⟨-1, rfl, ?_⟩
    have := findI_none.1 h
    rw [anyI_any, contains_any] at this; rw [this]; rfl
  | some z =>
    obtain ⟨_, _, _, h4⟩ := findI_some h
    rw [anyI_any, contains_any] at h4
    exact ⟨_, rfl, by rw [h4]; simp⟩
theorem slices_Contains_int_int_eq (c : List Int) (l : Int) : slices_Contains_int_int c l = some (c.contains l) := by
  obtain ⟨r, h1, h2⟩ := slices_Index_int_int_ge c l
  unfold slices_Contains_int_int; rw [h1, bd_some, h2]
theorem slices_IndexFunc_int_int_ge {c : List Int} {f : Int → Option Bool} {g : Int → Bool} (h : ∀ y ∈ c, f y = some (g y)) : ∃ r, slices_IndexFunc_int_int c f = some r ∧ decide (0 ≤ r) = c.any g ∧ (∀ z, findI (fun _ y => g y) c 0 = some z → r = z.1) ∧ (findI (fun _ y => g y) c 0 = none → r = -1) := by
  unfold slices_IndexFunc_int_int
  rw [forL_find (p := fun _ y => g y) (v := fun i _ => (i : Int)) (fun i y hy => by rw [h y (List.mem_of_getElem? hy), bd_some])]
  cases hf : findI (fun _ y => g y) c 0 with
  | none =>
    refine ⟨-1, rfl, ?_, nofun, fun _ => rfl⟩
    have := findI_none.1 hf
    rw [anyI_any] at this; rw [this]; rfl
  | some z =>
    obtain ⟨_, _, _, h4⟩ := findI_some hf
    rw [anyI_any] at h4
    exact ⟨_, rfl, by rw [h4]; simp, fun z' hz => (by cases hz; rfl), nofun⟩
theorem slices_ContainsFunc_int_int_eq {c : List Int} {f : Int → Option Bool} {g : Int → Bool} (h : ∀ y ∈ c, f y = some (g y)) : slices_ContainsFunc_int_int c f = some (c.any g) := by
  obtain ⟨r, h1, h2, _⟩ := slices_IndexFunc_int_int_ge h
  unfold slices_ContainsFunc_int_int; rw [h1, bd_some, h2]
def partB (a b : List Int) : Bool := a.all fun y => b.contains y
theorem impl_part_eq (a b : List Int) : impl_part a b = some (partB a b) := by
  unfold impl_part partB
  rw [slices_ContainsFunc_int_int_eq (g := fun y => !b.contains y) (fun y _ => by unfold impl_part_1; rw [slices_Contains_int_int_eq, bd_some]), bd_some, List.all_eq_not_any_not]
end Go.PF
namespace Go.PF
open Go.Pu

theorem foldl_filter {α : Type} {p : α → Bool} : ∀ {l s : List α}, l.foldl (fun s y => bif p y then s ++ [y] else s) s = s ++ l.filter p := by
  intro l
  induction l with
  | nil => intro s; simp
  | cons y l ih =>
    intro s
    rw [List.foldl_cons, ih]
    cases h : p y <;> simp [h]
/-- a loop that keeps some of the elements -/
theorem forL_filter {α X : Type} {f : Nat → α → List α → Option (Lp (List α) X)} {p : α → Bool} {l : List α} (hf : ∀ i y s, l[i]? = some y → f i y s = bif p y then bd (app s [y]) fun xs => some (.nx xs) else some (.nx s)) (hl : l.length ≤ lim) :
    forL l f [] = some (.go (l.filter p)) := by
  have := (forL_foldI (X := X) (body := f) (fun s y => bif p y then s ++ [y] else s) (l := l) (s := []) (fun i s => s.length ≤ i) (by simp) (fun i x t hx ht => by
    have hi := (List.getElem?_eq_some_iff.1 hx).1
    rw [hf i x t hx]
    cases p x with
    | false => exact ⟨rfl, by simp only [cond_false]; omega⟩
    | true =>
      simp only [cond_true]
      rw [app_ok (by simp; omega), bd_some]
      exact ⟨rfl, by simp; omega⟩)).1
  rw [this, foldl_filter]; rfl

def without (c : List Int) (v : Int) : List Int := c.filter fun y => !(vr y == v)
theorem spec_l2Without_eq {c : List Int} {v : Int} (hl : c.length ≤ lim) : spec_l2Without c v = some (without c v) := by
  unfold spec_l2Without without
  rw [forL_filter (p := fun y => !(vr y == v)) (fun i y s _ => by rfl) hl]; rfl

theorem filter_take {α : Type} {p : α → Bool} {c : List α} {j : Nat} {x : α} (hx : c[j]? = some x) : (c.take (j + 1)).filter p = (c.take j).filter p ++ bif p x then [x] else [] := by
  rw [List.take_add_one, hx, Option.toList_some, List.filter_append]
  cases h : p x <;> simp [List.filter, h]
/-- slices.DeleteFunc's loop -/
theorem del_loop {α : Type} {n : Nat} (hn : n ≤ 9223372036854775806) {c : List α} (hc : c.length = n) {f : α → Option Bool} {g : α → Bool} (h : ∀ y ∈ c, f y = some (g y)) :
    ∀ (m j i : Nat) (s : List α), j + m = n → i ≤ j → s.length = n → s.take i = (c.take j).filter (fun y => !g y) → s.drop j = c.drop j →
      ∃ s' i', iter (S := (List α) × Int × Int) (X := Empty) (fun s32 => (bif (decide (s32.2.2 < (len s32.1))) then bd (ix s32.1 s32.2.2) (fun x143 => bd (f x143) (fun r145 => (bif (!r145) then bd (ix s32.1 s32.2.1) (fun _ => bd (put s32.1 s32.2.1 x143) (fun xs167 => some (Lp.nx (xs167, (wr (s32.2.1 + 1)), (wr (s32.2.2 + 1)))))) else some (Lp.nx (s32.1, s32.2.1, (wr (s32.2.2 + 1))))))) else some (Lp.bk (s32.1, s32.2.1, s32.2.2)))) (s, (i : Int), (j : Int)) =
        some (.go (s', ((i' : Nat) : Int), (n : Int))) ∧ i' ≤ n ∧ s'.length = n ∧ s'.take i' = c.filter (fun y => !g y) := by
  intro m
  induction m with
  | zero =>
    intro j i s hj hi hs ht _
    have : j = n := by omega
    subst this
    refine ⟨s, i, iter_bk ?_, hi, hs, by rw [ht, List.take_of_length_le (by omega)]⟩
    have hd : decide (((j : Nat) : Int) < len s) = false := by rw [len_eq, hs]; simp
    simp only [hd, cond_false]
  | succ m ih =>
    intro j i s hj hi hs ht hd
    have hjn : j < n := by omega
    have hx : s[j]? = some c[j] := by
      have := congrArg (·[0]?) hd
      simp only [List.getElem?_drop, Nat.add_zero] at this
      rw [this]; exact List.getElem?_eq_getElem (by omega)
    have hlt : decide (((j : Nat) : Int) < len s) = true := by rw [len_eq, hs]; simp; omega
    have hg := h c[j] (List.getElem_mem _)
    have e1 : wr ((j : Int) + 1) = ((j + 1 : Nat) : Int) := by rw [wr_of _ (by omega) (by omega)]; simp
    have e2 : wr ((i : Int) + 1) = ((i + 1 : Nat) : Int) := by rw [wr_of _ (by omega) (by omega)]; simp
    cases hgc : g c[j] with
    | true =>
      obtain ⟨s', i', q1, q2⟩ := ih (j + 1) i s (by omega) (by omega) hs (by
        rw [ht, filter_take (List.getElem?_eq_getElem (by omega)), hgc]; simp) (by
        have := congrArg (List.drop 1) hd
        rwa [List.drop_drop, List.drop_drop] at this)
      refine ⟨s', i', ?_, q2⟩
      rw [← q1]
      refine iter_nx ?_
      simp only [hlt, cond_true, ix_get, hx, bd_some, hg, hgc, Bool.not_true, cond_false, e1]
    | false =>
      obtain ⟨s', i', q1, q2⟩ := ih (j + 1) (i + 1) (s.set i c[j]) (by omega) (by omega) (by simpa using hs) (by
        rw [List.take_add_one, List.getElem?_set_self (by omega), List.take_set_of_le (Nat.le_refl _), ht, filter_take (List.getElem?_eq_getElem (show j < c.length by omega)), hgc]; rfl) (by
        rw [List.drop_set_of_lt (by omega)]
        have := congrArg (List.drop 1) hd
        rwa [List.drop_drop, List.drop_drop] at this)
      refine ⟨s', i', ?_, q2⟩
      rw [← q1]
      refine iter_nx ?_
      simp only [hlt, cond_true, ix_get, hx, bd_some, hg, hgc, Bool.not_false, e1, e2]
      rw [List.getElem?_eq_getElem (show i < s.length by omega), bd_some, put_ok (by omega), bd_some]
theorem slices_DeleteFunc_int_int_eq {c : List Int} {f : Int → Option Bool} {g : Int → Bool} (h : ∀ y ∈ c, f y = some (g y)) (hl : c.length ≤ lim) : slices_DeleteFunc_int_int c f = some (c.filter fun y => !g y) := by
  obtain ⟨r, h1, _, h3, h4⟩ := slices_IndexFunc_int_int_ge h
  unfold slices_DeleteFunc_int_int
  rw [h1, bd_some]
  unfold lim at hl
  cases hf : findI (fun _ y => g y) c 0 with
  | none =>
    rw [h4 hf]
    have := findI_none.1 hf
    rw [anyI_any, List.any_eq_false] at this
    simp only [BEq.rfl, cond_true]
    rw [List.filter_eq_self.2]
    intro y hy; have := this y hy; simp only [Bool.not_eq_true] at this; rw [this]; rfl
  | some z =>
    have hz := h3 z hf
    subst hz
    obtain ⟨_, k2, k3, _⟩ := findI_some hf
    rw [Nat.sub_zero] at k2
    have hzl := (List.getElem?_eq_some_iff.1 k2).1
    have hne : (((z.1 : Nat) : Int) == -1) = false := by simp
    rw [hne, cond_false, show wr (((z.1 : Nat) : Int) + 1) = ((z.1 + 1 : Nat) : Int) by rw [wr_of _ (by omega) (by omega)]; simp]
    obtain ⟨s', i', q1, q2, q3, q4⟩ := del_loop (n := c.length) (by omega) rfl h (c.length - (z.1 + 1)) (z.1 + 1) z.1 c (by omega) (by omega) rfl (by
      rw [List.take_add_one, k2]
      have hall : ∀ y ∈ c.take z.1, g y = false := by
        intro y hy
        obtain ⟨i, hi⟩ := List.mem_iff_getElem?.1 hy
        rw [List.getElem?_take] at hi
        split at hi
        · rename_i hlt
          -- no earlier one
          have key : ∀ (l : List Int) (k : Nat) (z : Nat × Int), findI (fun _ y => g y) l k = some z → ∀ i y, l[i]? = some y → k + i < z.1 → g y = false := by
            intro l
            induction l with
            | nil => intro k z _ i y hy; simp at hy
            | cons x l ih =>
              intro k z hz i y hy hlt
              simp only [findI] at hz
              cases hgx : g x with
              | true => rw [hgx] at hz; simp at hz; subst hz; simp at hlt; omega
              | false =>
                rw [hgx] at hz; simp only [cond_false] at hz
                cases i with
                | zero => simp at hy; subst hy; exact hgx
                | succ i => exact ih (k + 1) z hz i y (by simpa using hy) (by omega)
          exact key c 0 z hf i y hi (by omega)
        · cases hi
      rw [List.filter_append, List.filter_eq_self.2 (fun y hy => by rw [hall y hy]; rfl)]
      simp [k3]) rfl
    rw [q1, bdR_go]
    simp only
    rw [show len s' = ((s'.length : Nat) : Int) from rfl, cut_ok (by omega) (Nat.le_refl _), bd_some]
    have hcl : clearL 0 s' (i' : Int) = s'.take i' ++ List.replicate (s'.length - i') 0 := by unfold clearL; simp
    rw [hcl, show (0 : Int) = ((0 : Nat) : Int) from rfl, cut_ok (Nat.zero_le _) (by simp; omega), bd_some, List.drop_zero, List.take_left' (by simp; omega), q4]
theorem slices_Clone_int_int_eq {c : List Int} (hl : c.length ≤ lim) : slices_Clone_int_int c = some c := by
  unfold slices_Clone_int_int; rw [app_ok (by simpa using hl)]; rfl
theorem impl_withoutVar_eq {c : List Int} {v : Int} (hc : ∀ y ∈ c, okI y) (hl : c.length ≤ lim) : impl_withoutVar c v = some (without c v) := by
  unfold impl_withoutVar without
  rw [slices_Clone_int_int_eq hl, bd_some, slices_DeleteFunc_int_int_eq (g := fun y => vr y == v) (fun y hy => by unfold impl_withoutVar_1; rw [impl_abs_eq (hc y hy)]) hl]; rfl

/-! the merged list -/
def putL (c : List Int) (l : Int) : List Int := c.takeWhile (fun y => decide (vr y < vr l)) ++ l :: c.dropWhile (fun y => decide (vr y < vr l))
theorem spec_l1Own_eq {c : List Int} (hl : c.length ≤ lim) : spec_l1Own c = some c := by
  unfold spec_l1Own; rw [app_ok (by simpa using hl)]; rfl
theorem takeWhile_le {α : Type} {p : α → Bool} (l : List α) : (l.takeWhile p).length ≤ l.length := (List.takeWhile_prefix p).length_le
theorem take_takeWhile {α : Type} {p : α → Bool} (l : List α) : l.take (l.takeWhile p).length = l.takeWhile p := by
  conv => lhs; rw [← List.takeWhile_append_dropWhile (p := p) (l := l)]
  rw [List.takeWhile_append_dropWhile]
  exact List.prefix_iff_eq_take.1 (List.takeWhile_prefix p) |>.symm
theorem drop_takeWhile {α : Type} {p : α → Bool} (l : List α) : l.drop (l.takeWhile p).length = l.dropWhile p := by
  have h := List.takeWhile_append_dropWhile (p := p) (l := l)
  have h2 : l.drop (l.takeWhile p).length = (l.takeWhile p ++ l.dropWhile p).drop (l.takeWhile p).length := by rw [h]
  rw [h2, List.drop_left]
theorem spec_l2Put_eq {c : List Int} {l : Int} (hl : c.length + 1 ≤ lim) : spec_l2Put c l = some (putL c l) := by
  unfold spec_l2Put putL
  have hl' : c.length + 1 ≤ 4294967296 := hl
  rw [iter_while (xs := c) (p := fun y => decide (vr y < vr l)) (fun i y hy => by
    have hi := (List.getElem?_eq_some_iff.1 hy).1
    have hd : decide ((i : Int) < len c) = true := by rw [len_eq]; simp; omega
    rw [hd, ix_get, hy]
    simp only [cond_true, bd_some, spec_l2Var_eq]
    rw [wr_succ hi (by omega)]; rfl) (by
    have hd : decide (((c.length : Nat) : Int) < len c) = false := by rw [len_eq]; simp
    rw [hd]; rfl), bdR_go]
  have hk := takeWhile_le (p := fun y => decide (vr y < vr l)) c
  rw [show (0 : Int) = ((0 : Nat) : Int) from rfl, cut_ok (Nat.zero_le _) hk, bd_some, List.drop_zero, take_takeWhile, spec_l1Own_eq (by omega), bd_some, app_ok (by simp; omega), bd_some,
    len_eq, cut_ok hk (Nat.le_refl _), bd_some, List.take_length, drop_takeWhile, app_ok, bd_some]
  · simp
  · have := congrArg List.length (List.takeWhile_append_dropWhile (p := fun y => decide (vr y < vr l)) (l := c))
    simp only [List.length_append] at this ⊢
    simp only [List.length_singleton]
    unfold lim; omega
theorem putL_length (c : List Int) (l : Int) : (putL c l).length = c.length + 1 := by
  have := congrArg List.length (List.takeWhile_append_dropWhile (p := fun y => decide (vr y < vr l)) (l := c))
  unfold putL; simp only [List.length_append, List.length_cons] at this ⊢; omega
def joinL : List Int → List Int → Option (List Int)
  | s, [] => some s
  | s, y :: b => bif s.contains (wr (-y)) then none else joinL (bif !s.contains y then putL s y else s) b
abbrev Srt (c : List Int) : Prop := c.Pairwise fun a b => a.natAbs < b.natAbs
/-- numbers of a clause -/
def Sm (c : List Int) : Prop := ∀ l ∈ c, -12 ≤ l ∧ l ≤ 12 ∧ l ≠ 0
theorem putL_mem {c : List Int} {l x : Int} : x ∈ putL c l ↔ x = l ∨ x ∈ c := by
  have h := List.takeWhile_append_dropWhile (p := fun y => decide (vr y < vr l)) (l := c)
  have : x ∈ c ↔ x ∈ c.takeWhile (fun y => decide (vr y < vr l)) ∨ x ∈ c.dropWhile (fun y => decide (vr y < vr l)) := by rw [← List.mem_append, h]
  unfold putL
  rw [this, List.mem_append, List.mem_cons]
  constructor
  · rintro (h | h | h)
    · exact .inr (.inl h)
    · exact .inl h
    · exact .inr (.inr h)
  · rintro (h | h | h)
    · exact .inr (.inl h)
    · exact .inl h
    · exact .inr (.inr h)
theorem putL_srt {c : List Int} {l : Int} (hc : Srt c) (hs : Sm c) (hl : -12 ≤ l ∧ l ≤ 12) (hn : ∀ x ∈ c, x.natAbs ≠ l.natAbs) : Srt (putL c l) := by
  have hv : ∀ x ∈ c, (decide (vr x < vr l) = true ↔ x.natAbs < l.natAbs) := fun x hx => by
    have := hs x hx
    rw [decide_eq_true_eq, vr_abs (by omega) (by omega), vr_abs hl.1 hl.2]; omega
  unfold putL
  induction c with
  | nil => simp
  | cons y c ih =>
    obtain ⟨h1, h2⟩ := List.pairwise_cons.1 hc
    rw [List.takeWhile_cons, List.dropWhile_cons]
    by_cases hy : decide (vr y < vr l) = true
    · rw [if_pos hy, if_pos hy, List.cons_append]
      have ih := ih h2 (fun x hx => hs x (by simp [hx])) (fun x hx => hn x (by simp [hx])) (fun x hx => hv x (by simp [hx]))
      refine List.pairwise_cons.2 ⟨fun x hx => ?_, ih⟩
      rcases (putL_mem (c := c) (l := l)).1 hx with rfl | hx
      · exact (hv y (by simp)).1 hy
      · exact h1 x hx
    · rw [if_neg hy, if_neg hy, List.nil_append]
      have hly : l.natAbs < y.natAbs := by
        have := hn y (by simp)
        have h3 : ¬ y.natAbs < l.natAbs := fun h => hy ((hv y (by simp)).2 h)
        omega
      refine List.pairwise_cons.2 ⟨fun x hx => ?_, hc⟩
      rcases List.mem_cons.1 hx with rfl | hx
      · exact hly
      · have := h1 x hx; omega
theorem joinL_spec : ∀ {b s : List Int}, Srt s → Sm s → Srt b → Sm b →
    (if ∃ y ∈ b, -y ∈ s then joinL s b = none else ∃ t, joinL s b = some t ∧ Srt t ∧ ∀ x, x ∈ t ↔ x ∈ s ∨ x ∈ b) := by
  intro b
  induction b with
  | nil => intro s hs _ _ _; simp only [List.not_mem_nil, false_and, exists_false, if_false, or_false]; exact ⟨s, rfl, hs, fun _ => Iff.rfl⟩
  | cons y b ih =>
    intro s hs hs2 hb hb2
    obtain ⟨h1, h2⟩ := List.pairwise_cons.1 hb
    have hy := hb2 y (by simp)
    have hw : wr (-y) = -y := wr_of _ (by omega) (by omega)
    simp only [joinL, hw]
    by_cases hn : -y ∈ s
    · rw [if_pos ⟨y, by simp, hn⟩, List.contains_iff_mem.2 hn]; rfl
    · have hnc : s.contains (-y) = false := by rw [Bool.eq_false_iff]; exact fun h => hn (List.contains_iff_mem.1 h)
      rw [hnc, cond_false]
      by_cases hin : y ∈ s
      · rw [List.contains_iff_mem.2 hin]
        simp only [Bool.not_true, cond_false]
        have := ih hs hs2 h2 (fun x hx => hb2 x (by simp [hx]))
        have e1 : (∃ z ∈ y :: b, -z ∈ s) ↔ ∃ z ∈ b, -z ∈ s := by
          constructor
          · rintro ⟨z, hz, hz2⟩
            rcases List.mem_cons.1 hz with rfl | hz
            · exact absurd hz2 hn
            · exact ⟨z, hz, hz2⟩
          · rintro ⟨z, hz, hz2⟩; exact ⟨z, by simp [hz], hz2⟩
        simp only [e1]
        split at this
        · rename_i hex; rw [if_pos hex]; exact this
        · rename_i hex
          rw [if_neg hex]
          obtain ⟨t, t1, t2, t3⟩ := this
          refine ⟨t, t1, t2, fun x => ?_⟩
          rw [t3, List.mem_cons]
          constructor
          · rintro (h | h)
            · exact .inl h
            · exact .inr (.inr h)
          · rintro (h | rfl | h)
            · exact .inl h
            · exact .inl hin
            · exact .inr h
      · have hic : s.contains y = false := by rw [Bool.eq_false_iff]; exact fun h => hin (List.contains_iff_mem.1 h)
        rw [hic]
        simp only [Bool.not_false, cond_true]
        have hne : ∀ x ∈ s, x.natAbs ≠ y.natAbs := fun x hx e => by
          have : x = y ∨ x = -y := by omega
          rcases this with rfl | rfl
          · exact hin hx
          · exact hn hx
        have := ih (putL_srt hs hs2 ⟨hy.1, hy.2.1⟩ hne) (fun x hx => by
          rcases putL_mem.1 hx with rfl | hx
          · exact hy
          · exact hs2 x hx) h2 (fun x hx => hb2 x (by simp [hx]))
        have e1 : (∃ z ∈ y :: b, -z ∈ s) ↔ ∃ z ∈ b, -z ∈ putL s y := by
          constructor
          · rintro ⟨z, hz, hz2⟩
            rcases List.mem_cons.1 hz with rfl | hz
            · exact absurd hz2 hn
            · exact ⟨z, hz, putL_mem.2 (.inr hz2)⟩
          · rintro ⟨z, hz, hz2⟩
            rcases putL_mem.1 hz2 with e | hz2
            · have := h1 z hz; omega
            · exact ⟨z, by simp [hz], hz2⟩
        simp only [e1]
        split at this
        · rename_i hex; rw [if_pos hex]; exact this
        · rename_i hex
          rw [if_neg hex]
          obtain ⟨t, t1, t2, t3⟩ := this
          refine ⟨t, t1, t2, fun x => ?_⟩
          rw [t3, putL_mem, List.mem_cons]
          constructor
          · rintro ((h | h) | h)
            · exact .inr (.inl h)
            · exact .inl h
            · exact .inr (.inr h)
          · rintro (h | h | h)
            · exact .inl (.inr h)
            · exact .inl (.inl h)
            · exact .inr h

/-! the sorted list -/
theorem impl_compareLiterals_eq {x y : Int} (hx : okI x) (hy : okI y) : impl_compareLiterals x y = some (if vr x < vr y then -1 else if vr y < vr x then 1 else if y < x then -1 else if x < y then 1 else 0) := by
  have hc : ∀ a b : Int, cmp_Compare_int a b = if a < b then -1 else if b < a then 1 else 0 := fun a b => by
    unfold cmp_Compare_int cmp_isNaN_int
    simp only [BEq.rfl, Bool.not_true, cond_false]
    by_cases h1 : a < b
    · simp [h1]
    · by_cases h2 : b < a <;> simp [h1, h2]
  unfold impl_compareLiterals cmp_Or_int
  rw [impl_abs_eq hx, impl_abs_eq hy, hc, hc]
  by_cases h1 : vr x < vr y
  · simp [h1, forL, forLFrom]
  · by_cases h2 : vr y < vr x
    · simp [h1, h2, forL, forLFrom]
    · by_cases h3 : y < x
      · simp [h1, h2, h3, forL, forLFrom]
      · by_cases h4 : x < y <;> simp [h1, h2, h3, h4, forL, forLFrom]
end Go.PF
namespace Go.PF
open Go.Pu

theorem srt_unique : ∀ {a b : List Int}, Srt a → Srt b → (∀ x, x ∈ a ↔ x ∈ b) → a = b := by
  intro a
  induction a with
  | nil =>
    intro b _ _ h
    cases b with
    | nil => rfl
    | cons y b => exact absurd ((h y).2 (by simp)) (by simp)
  | cons x a ih =>
    intro b ha hb h
    cases b with
    | nil => exact absurd ((h x).1 (by simp)) (by simp)
    | cons y b =>
      obtain ⟨a1, a2⟩ := List.pairwise_cons.1 ha
      obtain ⟨b1, b2⟩ := List.pairwise_cons.1 hb
      have hxy : x = y := by
        rcases List.mem_cons.1 ((h x).1 (by simp)) with e | e
        · exact e
        · rcases List.mem_cons.1 ((h y).2 (by simp)) with e' | e'
          · exact e'.symm
          · have := b1 x e; have := a1 y e'; omega
      subst hxy
      rw [ih a2 b2 fun z => ?_]
      constructor
      · intro hz
        rcases List.mem_cons.1 ((h z).1 (by simp [hz])) with e | e
        · subst e; have := a1 z hz; omega
        · exact e
      · intro hz
        rcases List.mem_cons.1 ((h z).2 (by simp [hz])) with e | e
        · subst e; have := b1 z hz; omega
        · exact e

theorem compactL_mem {A : Type} [DecidableEq A] : ∀ {l : List A} {x : A}, x ∈ compactL l ↔ x ∈ l
  | [], x => by simp [compactL]
  | [y], x => by simp [compactL]
  | y :: z :: r, x => by
    rw [compactL]
    split
    · rename_i h; subst h
      rw [compactL_mem]; simp
    · rw [List.mem_cons, compactL_mem]; simp
theorem compactL_strict {A : Type} [DecidableEq A] {R : A → A → Prop} (ha : ∀ a b, R a b → R b a → a = b) : ∀ {l : List A}, l.Pairwise R → (compactL l).Pairwise fun a b => R a b ∧ a ≠ b
  | [], _ => by simp [compactL]
  | [y], _ => by simp [compactL]
  | y :: z :: r, h => by
    obtain ⟨h1, h2⟩ := List.pairwise_cons.1 h
    rw [compactL]
    split
    · exact compactL_strict ha h2
    · rename_i hne
      refine List.pairwise_cons.2 ⟨fun x hx => ?_, compactL_strict ha h2⟩
      have hx' := compactL_mem.1 hx
      refine ⟨h1 x hx', fun e => ?_⟩
      subst e
      rcases List.mem_cons.1 hx' with e | e
      · exact hne e
      · exact hne (ha _ _ (h1 z (by simp)) ((List.pairwise_cons.1 h2).1 y e))

/-- the order of literals -/
def litLe (x y : Int) : Prop := impl_abs x < impl_abs y ∨ (impl_abs x = impl_abs y ∧ y ≤ x)
def cmpL (x y : Int) : Int := if impl_abs x < impl_abs y then -1 else if impl_abs y < impl_abs x then 1 else if y < x then -1 else if x < y then 1 else 0
theorem impl_compareLiterals_cmpL (x y : Int) : impl_compareLiterals x y = some (cmpL x y) := by
  have hc : ∀ a b : Int, cmp_Compare_int a b = if a < b then -1 else if b < a then 1 else 0 := fun a b => by
    unfold cmp_Compare_int cmp_isNaN_int
    simp only [BEq.rfl, Bool.not_true, cond_false]
    by_cases h1 : a < b
    · simp [h1]
    · by_cases h2 : b < a <;> simp [h1, h2]
  unfold impl_compareLiterals cmp_Or_int cmpL
  rw [hc, hc]
  by_cases h1 : impl_abs x < impl_abs y
  · simp [h1, forL, forLFrom]
  · by_cases h2 : impl_abs y < impl_abs x
    · simp [h1, h2, forL, forLFrom]
    · by_cases h3 : y < x
      · simp [h1, h2, h3, forL, forLFrom]
      · by_cases h4 : x < y <;> simp [h1, h2, h3, h4, forL, forLFrom]
theorem cmpL_neg {x y : Int} : cmpL x y < 0 ↔ impl_abs x < impl_abs y ∨ (impl_abs x = impl_abs y ∧ y < x) := by
  unfold cmpL
  split
  · omega
  · split
    · omega
    · split
      · omega
      · split <;> omega
theorem leF_lit {x y : Int} : leF (fun x0 x1 => PF.impl_compareLiterals x0 x1) x y = true ↔ litLe x y := by
  unfold leF litLe
  simp only [impl_compareLiterals_cmpL]
  rw [Bool.not_eq_true', decide_eq_false_iff_not, cmpL_neg]
  omega
theorem sort_lit {xs : List Int} (hl : xs.length < lim) : slices_SortFunc_int_int xs (fun x0 x1 => PF.impl_compareLiterals x0 x1) = some (xs.mergeSort (leF fun x0 x1 => PF.impl_compareLiterals x0 x1)) := by
  unfold slices_SortFunc_int_int sortF
  rw [if_pos]
  refine ⟨cmpL, hl, fun x _ y _ => impl_compareLiterals_cmpL x y, fun x _ => ?_, fun x _ y _ z _ h1 h2 => ?_, fun x _ y _ z _ h1 h2 => ?_, fun x _ y _ h1 h2 => ?_⟩
  · rw [cmpL_neg]; omega
  · rw [cmpL_neg] at *; omega
  · rw [cmpL_neg] at *; omega
  · rw [cmpL_neg] at *; omega
theorem sorted_lit (xs : List Int) : (xs.mergeSort (leF fun x0 x1 => PF.impl_compareLiterals x0 x1)).Pairwise litLe := by
  have := List.pairwise_mergeSort (le := leF fun x0 x1 => PF.impl_compareLiterals x0 x1) (fun a b c h1 h2 => by
    rw [leF_lit] at *; unfold litLe at *; omega) (fun a b => by
    rw [Bool.or_eq_true, leF_lit, leF_lit]; unfold litLe; omega) xs
  exact this.imp fun h => leF_lit.1 h

def noComp (t : List Int) : Bool := adj (fun a b => !(b == wr (-a))) t
theorem impl_clause_eq {c : List Int} (hl : c.length < lim) : impl_clause c = some (let t := compactL (c.mergeSort (leF fun x0 x1 => PF.impl_compareLiterals x0 x1)); bif noComp t then (t, true) else ([], false)) := by
  unfold impl_clause
  rw [slices_Clone_int_int_eq (by omega), bd_some, sort_lit hl, bd_some]
  unfold slices_Compact_int_int
  rw [bd_some]
  simp only
  generalize ht : compactL (c.mergeSort (leF fun x0 x1 => PF.impl_compareLiterals x0 x1)) = t
  have htl : t.length ≤ 4294967296 := by
    have : ∀ l : List Int, (compactL l).length ≤ l.length := by
      intro l
      induction l using compactL.induct with
      | case1 => simp [compactL]
      | case2 => simp [compactL]
      | case3 y r ih => rw [compactL, if_pos rfl]; simp only [List.length_cons] at ih ⊢; omega
      | case4 x y r h ih => rw [compactL, if_neg h]; simp only [List.length_cons] at ih ⊢; omega
    have h1 := this (c.mergeSort (leF fun x0 x1 => PF.impl_compareLiterals x0 x1))
    rw [ht, List.length_mergeSort] at h1
    unfold lim at hl; omega
  cases t with
  | nil =>
    rw [iter_bk (s' := 1) rfl]; rfl
  | cons x t =>
    have key : ∀ (m : List Int) (k : Nat), k + 1 + m.length = (x :: t).length → (∀ i y, m[i]? = some y → (x :: t)[k + 1 + i]? = some y) → iter (S := Int) (X := ((List Int) × Bool)) (fun s49 => (bif (decide (s49 < (len (x :: t)))) then bd (ix (x :: t) s49) (fun x94 => bd (ix (x :: t) (wr (s49 - 1))) (fun x102 => (bif (x94 == (wr (-x102))) then some (Lp.rt ([], false)) else some (Lp.nx (wr (s49 + 1)))))) else some (Lp.bk s49))) ((k + 1 : Nat) : Int) =
        some (bif anyI (fun i y => match i with | 0 => false | i + 1 => match (x :: t)[i]? with | some z => y == wr (-z) | none => false) m (k + 1) then .rt ([], false) else .go (((x :: t).length : Nat) : Int)) := by
      intro m
      induction m with
      | nil =>
        intro k hk _
        simp only [List.length_nil, Nat.add_zero] at hk
        rw [iter_bk (s' := ((k + 1 : Nat) : Int))]
        · rw [hk]; rfl
        · have hd : decide (((k + 1 : Nat) : Int) < len (x :: t)) = false := by rw [len_eq, ← hk]; simp
          rw [hd]; rfl
      | cons y m ih =>
        intro k hk hm
        simp only [List.length_cons (a := y)] at hk
        have hy : (x :: t)[k + 1]? = some y := by simpa using hm 0 y rfl
        have hd : decide (((k + 1 : Nat) : Int) < len (x :: t)) = true := by rw [len_eq]; simp only [decide_eq_true_eq]; omega
        have hkl : k < (x :: t).length := by omega
        have hz := List.getElem?_eq_getElem hkl
        simp only [anyI]
        cases hb : (y == wr (-(x :: t)[k])) with
        | true =>
          rw [iter_rt (x := ([], false))]
          · simp [hz, hb]
          · simp only [hd, cond_true, ix_get, hy, bd_some, wr_pred (show 0 < k + 1 by omega) (show k + 1 < (x :: t).length by omega) (by omega), Nat.add_sub_cancel, hz, hb]
        | false =>
          rw [iter_nx (s' := ((k + 1 + 1 : Nat) : Int))]
          · rw [ih (k + 1) (by omega) fun i z hz => by have := hm (i + 1) z (by simpa using hz); rwa [show k + 1 + (i + 1) = k + 1 + 1 + i by omega] at this]
            simp [hz, hb]
          · simp only [hd, cond_true, ix_get, hy, bd_some, wr_pred (show 0 < k + 1 by omega) (show k + 1 < (x :: t).length by omega) (by omega), Nat.add_sub_cancel, hz, hb, cond_false]
            rw [wr_succ (n := (x :: t).length) (by omega) (by omega)]; simp
    have hk := key t 0 (by simp; omega) (by intro i y hy; rw [show 0 + 1 + i = i + 1 by omega]; simpa using hy)
    rw [show ((0 + 1 : Nat) : Int) = 1 from rfl] at hk
    rw [hk]
    have ha := anyI_adj (l := x :: t) (p := fun i y => match i with | 0 => false | i + 1 => match (x :: t)[i]? with | some z => y == wr (-z) | none => false) (q := fun _ => false) (r := fun a b => !(b == wr (-a))) (fun _ _ => rfl) (fun i a b h1 _ => by simp only [h1]; simp)
    simp only [anyI, Bool.false_or, Nat.zero_add] at ha
    rw [show (0 + 1 : Nat) = 1 from rfl, ha]
    unfold noComp
    rw [show ((x :: t).all fun _ => !false) = true by simp]
    cases adj (fun a b => !(b == wr (-a))) (x :: t) <;> rfl

/-- what comes of two merged clauses -/
def joined (a b : List Int) : List Int × Bool := match joinL a b with | some s => (s, true) | none => ([], false)
theorem clause_joined {a b : List Int} (ha : Srt a) (hb : Srt b) (sa : Sm a) (sb : Sm b) (hl : a.length + b.length < lim) : impl_clause (a ++ b) = some (joined a b) := by
  rw [impl_clause_eq (by simpa using hl)]
  simp only
  generalize ht : compactL ((a ++ b).mergeSort (leF fun x0 x1 => PF.impl_compareLiterals x0 x1)) = t
  have hm : ∀ x, x ∈ t ↔ x ∈ a ∨ x ∈ b := fun x => by rw [← ht, compactL_mem, List.mem_mergeSort, List.mem_append]
  have hs : Sm t := fun x hx => by
    rcases (hm x).1 hx with h | h
    · exact sa x h
    · exact sb x h
  have hab : ∀ x ∈ t, impl_abs x = x.natAbs := fun x hx => by
    have := hs x hx
    rw [impl_abs_eq (by unfold okI; omega), vr_abs this.1 this.2.1]
  have hlt : t.Pairwise fun x y => litLe x y ∧ x ≠ y := by
    rw [← ht]
    exact compactL_strict (fun x y h1 h2 => by unfold litLe at *; omega) (sorted_lit _)
  have hw : ∀ x ∈ t, wr (-x) = -x := fun x hx => by have := hs x hx; exact wr_of _ (by omega) (by omega)
  have hspec := joinL_spec ha sa hb sb
  unfold joined
  by_cases hex : ∃ y ∈ b, -y ∈ a
  · rw [if_pos hex] at hspec
    rw [hspec]
    have hn : noComp t = false := by
      cases hn : noComp t with
      | false => rfl
      | true =>
        exfalso
        -- neighbours have other variables, so all have
        have hsrt : Srt t := by
          refine adj_pairwise (r := fun x y => !(y == wr (-x)) && decide (x.natAbs < y.natAbs ∨ (x.natAbs = y.natAbs ∧ y < x))) (R := fun x y : Int => x.natAbs < y.natAbs) (fun _ _ _ => Nat.lt_trans) (fun x y hx hy hr => ?_) ?_
          · have h1 := hs x hx; have h2 := hs y hy
            simp only [Bool.and_eq_true, Bool.not_eq_true', beq_eq_false_iff_ne, ne_eq, decide_eq_true_eq] at hr
            rw [hw x hx] at hr
            omega
          · have hp : t.Pairwise fun x y => (decide (x.natAbs < y.natAbs ∨ (x.natAbs = y.natAbs ∧ y < x))) = true := by
              refine List.Pairwise.imp_of_mem ?_ hlt
              intro x y hx hy h
              simp only [decide_eq_true_eq]
              unfold litLe at h
              rw [hab x hx, hab y hy] at h
              omega
            have h1 := adj_of_pairwise hp
            unfold noComp at hn
            clear hp hlt hm hspec ht hs hab hw
            revert h1 hn
            generalize t = t
            intro hn h1
            induction t with
            | nil => rfl
            | cons x t ih =>
              cases t with
              | nil => rfl
              | cons y t =>
                simp only [adj, Bool.and_eq_true] at hn h1 ⊢
                exact ⟨⟨hn.1, h1.1⟩, ih hn.2 h1.2⟩
        obtain ⟨y, hy, hy2⟩ := hex
        have h1 := (hm y).2 (.inr hy)
        have h2 := (hm (-y)).2 (.inl hy2)
        have h0 := sb y hy
        -- two of one variable
        obtain ⟨i, hi⟩ := List.mem_iff_getElem?.1 h1
        obtain ⟨j, hj⟩ := List.mem_iff_getElem?.1 h2
        have hlen1 := (List.getElem?_eq_some_iff.1 hi).1
        have hlen2 := (List.getElem?_eq_some_iff.1 hj).1
        rw [List.getElem?_eq_getElem hlen1] at hi
        rw [List.getElem?_eq_getElem hlen2] at hj
        simp only [Option.some.injEq] at hi hj
        have hpw := List.pairwise_iff_getElem.1 hsrt
        rcases Nat.lt_trichotomy i j with h | h | h
        · have := hpw i j hlen1 hlen2 h; rw [hi, hj] at this; omega
        · subst h; rw [hi] at hj; omega
        · have := hpw j i hlen2 hlen1 h; rw [hi, hj] at this; omega
    rw [hn]; rfl
  · rw [if_neg hex] at hspec
    obtain ⟨s, h1, h2, h3⟩ := hspec
    rw [h1]
    have hne : ∀ x ∈ t, -x ∉ t := fun x hx hx2 => by
      have h0 := hs x hx
      rcases (hm x).1 hx with ha1 | hb1 <;> rcases (hm (-x)).1 hx2 with ha2 | hb2
      · have hpw := List.pairwise_iff_getElem.1 ha
        obtain ⟨i, hi1, hi⟩ := List.getElem_of_mem ha1
        obtain ⟨j, hj1, hj⟩ := List.getElem_of_mem ha2
        rcases Nat.lt_trichotomy i j with h | h | h
        · have := hpw i j hi1 hj1 h; rw [hi, hj] at this; omega
        · subst h; rw [hi] at hj; omega
        · have := hpw j i hj1 hi1 h; rw [hi, hj] at this; omega
      · exact hex ⟨-x, hb2, by rw [Int.neg_neg]; exact ha1⟩
      · exact hex ⟨x, hb1, ha2⟩
      · have hpw := List.pairwise_iff_getElem.1 hb
        obtain ⟨i, hi1, hi⟩ := List.getElem_of_mem hb1
        obtain ⟨j, hj1, hj⟩ := List.getElem_of_mem hb2
        rcases Nat.lt_trichotomy i j with h | h | h
        · have := hpw i j hi1 hj1 h; rw [hi, hj] at this; omega
        · subst h; rw [hi] at hj; omega
        · have := hpw j i hj1 hi1 h; rw [hi, hj] at this; omega
    have hn : noComp t = true := by
      unfold noComp
      refine adj_of_pairwise (List.Pairwise.imp_of_mem ?_ hlt)
      intro x y hx hy _
      rw [hw x hx]
      simp only [Bool.not_eq_true', beq_eq_false_iff_ne, ne_eq]
      intro e; subst e; exact hne x hx hy
    have hsrt : Srt t := by
      refine List.Pairwise.imp_of_mem ?_ hlt
      intro x y hx hy h
      unfold litLe at h
      rw [hab x hx, hab y hy] at h
      have : y ≠ -x := fun e => by subst e; exact hne x hx hy
      omega
    rw [hn]
    rw [srt_unique hsrt h2 fun x => by rw [hm, h3]]; rfl

/-! resolvents -/
def res (a b : List Int) (v : Int) : List Int × Bool := bif !a.contains v || !b.contains (wr (-v)) then ([], false) else joined (without a v) (without b v)
theorem without_len (c : List Int) (v : Int) : (without c v).length ≤ c.length := List.length_filter_le _ _
theorem IsC.sm {V : Int} {c : List Int} (h : IsC V c) : Sm c := fun l hl => by have := h.lit l hl; have := h.hi; omega
end Go.PF
namespace Go.PF
open Go.Pu

def clAt (S : List ResStep) (k : Int) : List Int := match S[k.toNat]? with | some y => y.clause | none => []
def earlierB (F : Cnf) (S : List ResStep) (i : Nat) (k : Int) : Bool := inB k 0 ((i : Int) - 1) && clauseB F.vars (clAt S k)
def axB (F : Cnf) (x : ResStep) : Bool := inB x.right 0 (len F.clauses - 1) && match F.clauses[x.right.toNat]? with | some c => c == x.clause | none => false
/-- one step is right -/
def stepB (F : Cnf) (S : List ResStep) (i : Nat) (x : ResStep) : Bool :=
  clauseB F.vars x.clause &&
  bif x.left == -1 then x.pivot == 0 && axB F x
  else earlierB F S i x.left &&
    bif x.right == -1 then x.pivot == 0 && partB (clAt S x.left) x.clause
    else earlierB F S i x.right && (inB x.pivot 1 F.vars && ((res (clAt S x.left) (clAt S x.right) x.pivot).2 && (res (clAt S x.left) (clAt S x.right) x.pivot).1 == x.clause))

theorem earlier_at {S : List ResStep} {i : Nat} {k : Int} (hi : i < S.length) (h : inB k 0 ((i : Int) - 1) = true) : ∃ y, ix S k = some y ∧ clAt S k = y.clause ∧ y ∈ S := by
  rw [inB_iff] at h
  obtain ⟨y, h1, h2⟩ := ix_of (xs := S) (i := k) h.1 (by omega)
  exact ⟨y, h1, by unfold clAt; rw [h2], List.mem_of_getElem? h2⟩
theorem wr_lt {i n : Nat} (h : i < n) (hn : n ≤ 9223372036854775807) : wr ((i : Int) - 1) = (i : Int) - 1 := wr_of _ (by omega) (by omega)

theorem ax_at {F : Cnf} {x : ResStep} (h : inB x.right 0 (len F.clauses - 1) = true) : ∃ c, ix F.clauses x.right = some c ∧ axB F x = (c == x.clause) := by
  have h' := inB_iff.1 h
  obtain ⟨c, h1, h2⟩ := ix_of (xs := F.clauses) (i := x.right) h'.1 (by rw [len_eq] at h'; omega)
  exact ⟨c, h1, by unfold axB; rw [h, h2]; rfl⟩
theorem wr_len {A : Type} {l : List A} (h : l.length ≤ 9223372036854775807) : wr (len l - 1) = len l - 1 := wr_of _ (by rw [len_eq]; omega) (by rw [len_eq]; omega)

/-- a derivation -/
def derB (F : Cnf) (S : List ResStep) : Bool := cnfB F && (decide (len S ≤ 200) && !anyI (fun i x => !stepB F S i x) S 0)
/-- what a derivation is made of -/
structure IsD (F : Cnf) (S : List ResStep) : Prop where
  cnf : cnfB F = true
  le : S.length ≤ 200
  step : ∀ i x, S[i]? = some x → stepB F S i x = true
theorem derB_iff {F : Cnf} {S : List ResStep} : derB F S = true ↔ IsD F S := by
  unfold derB
  rw [Bool.and_eq_true, Bool.and_eq_true, Bool.not_eq_true', anyI_false, decide_eq_true_eq, len_eq]
  constructor
  · rintro ⟨h1, h2, h3⟩; exact ⟨h1, by omega, fun i x hx => by have := h3 i x hx; simpa using this⟩
  · rintro ⟨h1, h2, h3⟩; exact ⟨h1, by omega, fun i x hx => by simp [h3 i x hx]⟩
theorem IsD.clause {F : Cnf} {S : List ResStep} (h : IsD F S) {x : ResStep} (hx : x ∈ S) : IsC F.vars x.clause := by
  obtain ⟨i, hi⟩ := List.mem_iff_getElem?.1 hx
  have := h.step i x hi
  unfold stepB at this
  rw [Bool.and_eq_true] at this
  exact clauseB_iff.1 this.1
/-- the numbers of a step -/
theorem IsD.nums {F : Cnf} {S : List ResStep} (h : IsD F S) {i : Nat} {x : ResStep} (hx : S[i]? = some x) :
    (x.left = -1 ∧ x.pivot = 0 ∧ 0 ≤ x.right ∧ x.right < len F.clauses) ∨ (0 ≤ x.left ∧ x.left < i ∧ x.right = -1 ∧ x.pivot = 0) ∨ (0 ≤ x.left ∧ x.left < i ∧ 0 ≤ x.right ∧ x.right < i ∧ 1 ≤ x.pivot ∧ x.pivot ≤ F.vars) := by
  have := h.step i x hx
  unfold stepB at this
  rw [Bool.and_eq_true] at this
  obtain ⟨_, this⟩ := this
  cases hl : x.left == -1 with
  | true =>
    rw [hl] at this
    simp only [cond_true, Bool.and_eq_true, beq_iff_eq] at this
    unfold axB at this
    rw [Bool.and_eq_true, inB_iff] at this
    have := beq_iff_eq.1 hl
    left; omega
  | false =>
    rw [hl] at this
    simp only [cond_false, Bool.and_eq_true] at this
    obtain ⟨h1, this⟩ := this
    unfold earlierB at h1
    rw [Bool.and_eq_true, inB_iff] at h1
    cases hr : x.right == -1 with
    | true =>
      rw [hr] at this
      simp only [cond_true, Bool.and_eq_true, beq_iff_eq] at this
      have := beq_iff_eq.1 hr
      right; left; omega
    | false =>
      rw [hr] at this
      simp only [cond_false, Bool.and_eq_true] at this
      obtain ⟨h2, h3, _⟩ := this
      unfold earlierB at h2
      rw [Bool.and_eq_true, inB_iff] at h2
      rw [inB_iff] at h3
      right; right; omega
theorem IsD.before {F : Cnf} {S : List ResStep} (h : IsD F S) {i : Nat} {x : ResStep} (hx : S[i]? = some x) (hl : 0 ≤ x.left) : x.left < i ∧ (0 ≤ x.right → x.right < i) := by
  rcases h.nums hx with h | h | h <;> omega
end Go.PF
namespace Go.PF
open Go.Pu

abbrev Asc (c : List Int) : Prop := c.Pairwise fun a b => a < b
theorem asc_unique : ∀ {a b : List Int}, Asc a → Asc b → (∀ x, x ∈ a ↔ x ∈ b) → a = b := by
  intro a
  induction a with
  | nil =>
    intro b _ _ h
    cases b with
    | nil => rfl
    | cons y b => exact absurd ((h y).2 (by simp)) (by simp)
  | cons x a ih =>
    intro b ha hb h
    cases b with
    | nil => exact absurd ((h x).1 (by simp)) (by simp)
    | cons y b =>
      obtain ⟨a1, a2⟩ := List.pairwise_cons.1 ha
      obtain ⟨b1, b2⟩ := List.pairwise_cons.1 hb
      have hxy : x = y := by
        rcases List.mem_cons.1 ((h x).1 (by simp)) with e | e
        · exact e
        · rcases List.mem_cons.1 ((h y).2 (by simp)) with e' | e'
          · exact e'.symm
          · have := b1 x e; have := a1 y e'; omega
      subst hxy
      rw [ih a2 b2 fun z => ?_]
      constructor
      · intro hz
        rcases List.mem_cons.1 ((h z).1 (by simp [hz])) with e | e
        · subst e; have := a1 z hz; omega
        · exact e
      · intro hz
        rcases List.mem_cons.1 ((h z).2 (by simp [hz])) with e | e
        · subst e; have := b1 z hz; omega
        · exact e
theorem asc_len : ∀ {c : List Int} {lo hi : Int}, Asc c → (∀ x ∈ c, lo < x ∧ x ≤ hi) → (c.length : Int) ≤ max 0 (hi - lo) := by
  intro c
  induction c with
  | nil => intro lo hi _ _; simp only [List.length_nil]; omega
  | cons a c ih =>
    intro lo hi h hl
    obtain ⟨h1, h2⟩ := List.pairwise_cons.1 h
    have ha := hl a (by simp)
    have := ih (lo := a) (hi := hi) h2 fun x hx => ⟨h1 x hx, (hl x (by simp [hx])).2⟩
    simp only [List.length_cons]; omega
/-- the set of some ints -/
def setI (xs : List Int) : List Int := compactL (xs.mergeSort fun x y => decide (x ≤ y))
theorem setI_mem {xs : List Int} {x : Int} : x ∈ setI xs ↔ x ∈ xs := by unfold setI; rw [compactL_mem, List.mem_mergeSort]
theorem setI_asc (xs : List Int) : Asc (setI xs) := by
  unfold setI
  have h := List.pairwise_mergeSort (le := fun x y : Int => decide (x ≤ y)) (fun a b c h1 h2 => by simp only [decide_eq_true_eq] at *; omega) (fun a b => by simp only [Bool.or_eq_true, decide_eq_true_eq]; omega) xs
  have h' : (xs.mergeSort fun x y => decide (x ≤ y)).Pairwise fun a b => a ≤ b := h.imp fun h => of_decide_eq_true h
  exact (compactL_strict (fun a b h1 h2 => by omega) h').imp fun h => by have := h.1; have := h.2; omega
/-- one more -/
def putI (c : List Int) (n : Int) : List Int := if n ∈ c then c else c.takeWhile (fun y => decide (y < n)) ++ n :: c.dropWhile (fun y => decide (y < n))
theorem asc_at {c : List Int} {n : Int} (hc : Asc c) : (match c[(c.takeWhile (fun y => decide (y < n))).length]? with | some x => x == n | none => false) = decide (n ∈ c) := by
  induction c with
  | nil => rfl
  | cons y c ih =>
    obtain ⟨h1, h2⟩ := List.pairwise_cons.1 hc
    rw [List.takeWhile_cons]
    by_cases hy : y < n
    · simp only [hy, decide_true, if_true, List.length_cons, List.getElem?_cons_succ]
      rw [ih h2]
      have : ¬ n = y := by omega
      simp [this]
    · simp only [hy, decide_false, Bool.false_eq_true, if_false, List.length_nil, List.getElem?_cons_zero]
      rw [Bool.eq_iff_iff, beq_iff_eq, decide_eq_true_eq, List.mem_cons]
      constructor
      · intro e; exact .inl e.symm
      · rintro (e | e)
        · exact e.symm
        · have := h1 n e; omega
theorem putI_length (c : List Int) (n : Int) : (putI c n).length ≤ c.length + 1 := by
  unfold putI
  split
  · omega
  · have := congrArg List.length (List.takeWhile_append_dropWhile (p := fun y => decide (y < n)) (l := c))
    simp only [List.length_append, List.length_cons] at this ⊢; omega
theorem putI_mem {c : List Int} {n x : Int} : x ∈ putI c n ↔ x = n ∨ x ∈ c := by
  unfold putI
  split
  · rename_i h
    constructor
    · exact .inr
    · rintro (rfl | h') <;> assumption
  · have h := List.takeWhile_append_dropWhile (p := fun y => decide (y < n)) (l := c)
    have : x ∈ c ↔ x ∈ c.takeWhile (fun y => decide (y < n)) ∨ x ∈ c.dropWhile (fun y => decide (y < n)) := by rw [← List.mem_append, h]
    rw [this, List.mem_append, List.mem_cons]
    constructor
    · rintro (h | h | h)
      · exact .inr (.inl h)
      · exact .inl h
      · exact .inr (.inr h)
    · rintro (h | h | h)
      · exact .inr (.inl h)
      · exact .inl h
      · exact .inr (.inr h)
theorem putI_asc {c : List Int} {n : Int} (hc : Asc c) : Asc (putI c n) := by
  by_cases hn : n ∈ c
  · unfold putI; rw [if_pos hn]; exact hc
  · have e : putI c n = c.takeWhile (fun y => decide (y < n)) ++ n :: c.dropWhile (fun y => decide (y < n)) := by unfold putI; rw [if_neg hn]
    rw [e]
    clear e
    induction c with
    | nil => simp
    | cons y c ih =>
      obtain ⟨h1, h2⟩ := List.pairwise_cons.1 hc
      have hn' : n ∉ c := fun h => hn (by simp [h])
      have hyn : n ≠ y := fun e => hn (by simp [e])
      rw [List.takeWhile_cons, List.dropWhile_cons]
      by_cases hy : y < n
      · simp only [hy, decide_true, if_true, List.cons_append]
        have hmem : ∀ x, x ∈ c.takeWhile (fun y => decide (y < n)) ++ n :: c.dropWhile (fun y => decide (y < n)) → x = n ∨ x ∈ c := fun x hx => by
          have := (putI_mem (c := c) (n := n) (x := x)).1 (by unfold putI; rw [if_neg hn']; exact hx)
          exact this
        refine List.pairwise_cons.2 ⟨fun x hx => ?_, ih h2 hn'⟩
        rcases hmem x hx with rfl | hx
        · exact hy
        · exact h1 x hx
      · simp only [hy, decide_false, Bool.false_eq_true, if_false, List.nil_append]
        refine List.pairwise_cons.2 ⟨fun x hx => ?_, hc⟩
        rcases List.mem_cons.1 hx with rfl | hx
        · omega
        · have := h1 x hx; omega
/-- put one by one is the set -/
theorem putI_fold : ∀ {ys c : List Int}, Asc c → Asc (ys.foldl putI c) ∧ (∀ x, x ∈ ys.foldl putI c ↔ x ∈ c ∨ x ∈ ys) ∧ (ys.foldl putI c).length ≤ c.length + ys.length := by
  intro ys
  induction ys with
  | nil => intro c hc; exact ⟨hc, by simp, by simp⟩
  | cons y ys ih =>
    intro c hc
    obtain ⟨h1, h2, h3⟩ := ih (putI_asc (n := y) hc)
    have := putI_length c y
    refine ⟨h1, fun x => ?_, by simp only [List.foldl_cons, List.length_cons]; omega⟩
    rw [List.foldl_cons, h2, putI_mem, List.mem_cons]
    constructor
    · rintro ((h | h) | h)
      · exact .inr (.inl h)
      · exact .inl h
      · exact .inr (.inr h)
    · rintro (h | h | h)
      · exact .inl (.inr h)
      · exact .inl (.inl h)
      · exact .inr h
theorem putI_set (ys : List Int) : ys.foldl putI [] = setI ys := by
  obtain ⟨h1, h2, _⟩ := putI_fold (ys := ys) (c := []) (by simp)
  exact asc_unique h1 (setI_asc _) fun x => by rw [h2, setI_mem]; simp
def prem (x : ResStep) : List Int := bif decide (x.left < 0) then [] else bif decide (0 ≤ x.left) && decide (0 ≤ x.right) then [x.left, x.right] else [x.left]
theorem prem_len (x : ResStep) : (prem x).length ≤ 2 := by
  unfold prem
  cases decide (x.left < 0) <;> cases (decide (0 ≤ x.left) && decide (0 ≤ x.right)) <;> simp
theorem IsD.prem {F : Cnf} {S : List ResStep} (h : IsD F S) {i : Nat} {x : ResStep} (hx : S[i]? = some x) : ∀ k ∈ prem x, 0 ≤ k ∧ k < i := by
  intro k hk
  unfold PF.prem at hk
  have hb := h.before hx
  by_cases h1 : x.left < 0
  · simp [h1] at hk
  · have h0 : 0 ≤ x.left := by omega
    obtain ⟨b1, b2⟩ := hb h0
    by_cases h2 : 0 ≤ x.right
    · simp only [h1, decide_false, cond_false, h0, h2, decide_true, Bool.and_true, cond_true, List.mem_cons, List.not_mem_nil, or_false] at hk
      rcases hk with rfl | rfl
      · omega
      · have := b2 h2; omega
    · simp only [h1, decide_false, cond_false, h0, h2, decide_true, Bool.and_false, List.mem_cons, List.not_mem_nil, or_false] at hk
      rw [hk]; omega
end Go.PF
namespace Go.PF
open Go.Pu

theorem forR_fold {S X : Type} {α : Type} {xs : List α} {body : Nat → S → Option (Lp S X)} {F : S → α → S} (I : Nat → S → Prop) {s0 : S} (h0 : I 0 s0)
    (h : ∀ i x s, xs[i]? = some x → I i s → body i s = some (.nx (F s x)) ∧ I (i + 1) (F s x)) : forR 0 xs.length body s0 = some (.go (xs.foldl F s0)) := by
  have key : ∀ (m : List α) (k : Nat) (s : S), (∀ i y, m[i]? = some y → xs[k + i]? = some y) → I k s → forFrom body m.length k s = some (.go (m.foldl F s)) := by
    intro m
    induction m with
    | nil => intro k s _ _; rfl
    | cons y m ih =>
      intro k s hm hI
      obtain ⟨h1, h2⟩ := h k y s (by have := hm 0 y rfl; simpa using this) hI
      simp only [List.length_cons, forFrom, h1, List.foldl_cons]
      exact ih (k + 1) (F s y) (fun i z hz => by have := hm (i + 1) z (by simpa using hz); rwa [show k + (i + 1) = k + 1 + i by omega] at this) h2
  unfold forR
  exact key xs 0 s0 (by simp) h0
theorem chk_len {A : Type} {xs : List A} (h : xs.length ≤ 2) : chk (len xs) = some xs.length := by
  unfold chk; rw [if_pos (by rw [len_eq]; omega), len_eq]; simp

/-! what a proof is -/
def proofB (F : Cnf) (S : List ResStep) : Bool := derB F S && decide (0 < len S)
def isRes (x : ResStep) : Bool := decide (0 ≤ x.left) && decide (0 ≤ x.right)
def atL (out : List (List Int)) (k : Int) : List Int := (out[k.toNat]?).getD []
theorem atL_ix {out : List (List Int)} {k : Int} (h0 : 0 ≤ k) (h1 : k < out.length) : ix out k = some (atL out k) := by
  obtain ⟨y, h2, h3⟩ := ix_of (xs := out) h0 h1
  rw [h2]; unfold atL; rw [h3]; rfl
def srcs (out : List (List Int)) (x : ResStep) : List Int := (prem x).flatMap (atL out)
def pivX (out : List (List Int)) (x : ResStep) : List Int := setI (bif isRes x then srcs out x ++ [x.pivot] else srcs out x)
def pivL (S : List ResStep) : List (List Int) := S.foldl (fun out x => out ++ [pivX out x]) []
/-- what holds of them -/
structure IsPv (n : Nat) (out : List (List Int)) : Prop where
  len : out.length = n
  asc : ∀ y ∈ out, Asc y
  sm : ∀ y ∈ out, ∀ z ∈ y, 1 ≤ z ∧ z ≤ 12
theorem IsPv.at {n : Nat} {out : List (List Int)} (h : IsPv n out) (k : Int) : (atL out k).length ≤ 12 ∧ ∀ z ∈ atL out k, 1 ≤ z ∧ z ≤ 12 := by
  unfold atL
  cases hk : out[k.toNat]? with
  | none => simp
  | some y =>
    have hy := List.mem_of_getElem? hk
    simp only [Option.getD_some]
    have := asc_len (lo := 0) (hi := 12) (h.asc y hy) fun x hx => by have := h.sm y hy x hx; omega
    exact ⟨by omega, h.sm y hy⟩
theorem flatMap_le {α β : Type} {f : α → List β} {n : Nat} : ∀ {l : List α}, (∀ x ∈ l, (f x).length ≤ n) → (l.flatMap f).length ≤ n * l.length := by
  intro l
  induction l with
  | nil => intro _; simp
  | cons x l ih =>
    intro h
    have h1 := h x (by simp); have h2 := ih fun y hy => h y (by simp [hy])
    simp only [List.flatMap_cons, List.length_append, List.length_cons, Nat.mul_add, Nat.mul_one]; omega
theorem IsPv.srcs {n : Nat} {out : List (List Int)} (h : IsPv n out) (x : ResStep) : (PF.srcs out x).length ≤ 24 ∧ ∀ z ∈ PF.srcs out x, 1 ≤ z ∧ z ≤ 12 := by
  have hp := prem_len x
  refine ⟨?_, ?_⟩
  · have := flatMap_le (f := atL out) (n := 12) (l := prem x) fun k _ => (h.at k).1
    unfold PF.srcs; omega
  · intro z hz
    unfold PF.srcs at hz
    obtain ⟨k, _, hk⟩ := List.mem_flatMap.1 hz
    exact (h.at k).2 z hk
theorem IsD.vars_le {F : Cnf} {S : List ResStep} (h : IsD F S) : 0 ≤ F.vars ∧ F.vars ≤ 12 := by
  have := h.cnf
  unfold cnfB at this
  simp only [Bool.and_eq_true] at this
  exact varsB_iff.1 this.1.1
theorem IsD.pivot {F : Cnf} {S : List ResStep} (h : IsD F S) {i : Nat} {x : ResStep} (hx : S[i]? = some x) (hr : isRes x = true) : 1 ≤ x.pivot ∧ x.pivot ≤ 12 := by
  have hv := h.vars_le
  unfold isRes at hr
  simp only [Bool.and_eq_true, decide_eq_true_eq] at hr
  rcases h.nums hx with h | h | h <;> omega
theorem IsPv.next {F : Cnf} {S : List ResStep} (hD : IsD F S) {i : Nat} {x : ResStep} (hx : S[i]? = some x) {out : List (List Int)} (h : IsPv i out) : IsPv (i + 1) (out ++ [pivX out x]) := by
  have hs := (h.srcs x).2
  refine ⟨by simp [h.len], ?_, ?_⟩
  · intro y hy
    rcases List.mem_append.1 hy with hy | hy
    · exact h.asc y hy
    · rw [List.mem_singleton.1 hy]; exact setI_asc _
  · intro y hy z hz
    rcases List.mem_append.1 hy with hy | hy
    · exact h.sm y hy z hz
    · rw [List.mem_singleton.1 hy] at hz
      unfold pivX at hz
      rw [setI_mem] at hz
      cases hr : isRes x with
      | false => rw [hr, cond_false] at hz; exact hs z hz
      | true =>
        rw [hr, cond_true] at hz
        rcases List.mem_append.1 hz with hz | hz
        · exact hs z hz
        · rw [List.mem_singleton.1 hz]; exact hD.pivot hx hr

/-! the reference -/
theorem set_mid {A : Type} {out : List A} {z r : A} {m : Nat} : (out ++ List.replicate (m + 1) z).set out.length r = out ++ [r] ++ List.replicate m z := by
  rw [List.set_append_right _ _ (Nat.le_refl _), Nat.sub_self, List.replicate_succ, List.set_cons_zero]; simp
end Go.PF
namespace Go.PF
open Go.Pu

/-! loops that count down -/
theorem take_rev {α : Type} {xs : List α} {k : Nat} {x : α} (hx : xs[k]? = some x) : (xs.take (k + 1)).zipIdx.reverse = (x, k) :: (xs.take k).zipIdx.reverse := by
  obtain ⟨hk, he⟩ := List.getElem?_eq_some_iff.1 hx
  rw [← he, List.take_succ_eq_append_getElem hk, List.zipIdx_append]
  simp [Nat.min_eq_left (Nat.le_of_lt hk)]
theorem iter_down {σ α X : Type} {xs : List α} {body : σ × Int → Option (Lp (σ × Int) X)} {F : σ → α × Nat → σ} (I : Nat → σ → Prop) {s0 : σ} (h0 : I xs.length s0)
    (h : ∀ (i : Nat) x s, xs[i]? = some x → I (i + 1) s → body (s, (i : Int)) = some (.nx (F s (x, i), (i : Int) - 1)) ∧ I i (F s (x, i))) (he : ∀ s, body (s, -1) = some (.bk (s, -1))) :
    iter body (s0, len xs - 1) = some (.go (xs.zipIdx.reverse.foldl F s0, -1)) ∧ I 0 (xs.zipIdx.reverse.foldl F s0) := by
  have key : ∀ (k : Nat) (s : σ), k ≤ xs.length → I k s → iter body (s, (k : Int) - 1) = some (.go ((xs.take k).zipIdx.reverse.foldl F s, -1)) ∧ I 0 ((xs.take k).zipIdx.reverse.foldl F s) := by
    intro k
    induction k with
    | zero => intro s _ hI; exact ⟨iter_bk (he s), hI⟩
    | succ k ih =>
      intro s hk hI
      obtain ⟨x, hx⟩ : ∃ x, xs[k]? = some x := ⟨_, List.getElem?_eq_getElem (by omega)⟩
      obtain ⟨h1, h2⟩ := h k x s hx hI
      rw [take_rev hx, List.foldl_cons, show ((k + 1 : Nat) : Int) - 1 = (k : Int) by omega, iter_nx h1]
      exact ih _ (by omega) h2
  have := key xs.length s0 (Nat.le_refl _) h0
  rwa [List.take_length] at this
theorem bdR_down {σ α X β : Type} {xs : List α} {body : σ × Int → Option (Lp (σ × Int) X)} {k : σ × Int → Option β} {l : X → Option β} {r : Option β} (F : σ → α × Nat → σ) (I : Nat → σ → Prop) {s0 : σ} (h0 : I xs.length s0)
    (h : ∀ (i : Nat) x s, xs[i]? = some x → I (i + 1) s → body (s, (i : Int)) = some (.nx (F s (x, i), (i : Int) - 1)) ∧ I i (F s (x, i))) (he : ∀ s, body (s, -1) = some (.bk (s, -1)))
    (hk : ∀ s, I 0 s → k (s, -1) = r) : bdR (iter body (s0, len xs - 1)) k l = r := by
  obtain ⟨h1, h2⟩ := iter_down I h0 h he
  rw [h1, bdR_go]; exact hk _ h2
theorem forB_foldI {S α X : Type} {xs : List α} {body : α → Nat → S → Option (Lp S X)} (F : S → α × Nat → S) (I : Nat → S → Prop) {s0 : S} (h0 : I xs.length s0)
    (h : ∀ (i : Nat) x s, xs[i]? = some x → I (i + 1) s → body x i s = some (.nx (F s (x, i))) ∧ I i (F s (x, i))) :
    forB xs body s0 = some (.go (xs.zipIdx.reverse.foldl F s0)) ∧ I 0 (xs.zipIdx.reverse.foldl F s0) := by
  have key : ∀ (k j : Nat) (s : S), k ≤ xs.length → I k s → forLFrom (fun _ p s => body p.1 p.2 s) (xs.take k).zipIdx.reverse j s = some (.go ((xs.take k).zipIdx.reverse.foldl F s)) ∧ I 0 ((xs.take k).zipIdx.reverse.foldl F s) := by
    intro k
    induction k with
    | zero => intro j s _ hI; exact ⟨rfl, hI⟩
    | succ k ih =>
      intro j s hk hI
      obtain ⟨x, hx⟩ : ∃ x, xs[k]? = some x := ⟨_, List.getElem?_eq_getElem (by omega)⟩
      obtain ⟨h1, h2⟩ := h k x s hx hI
      rw [take_rev hx, List.foldl_cons, forLFrom_nx h1]
      exact ih _ _ (by omega) h2
  have := key xs.length 0 s0 (Nat.le_refl _) h0
  rwa [List.take_length] at this

/-! the mask -/
def bAt (M : List Bool) (i : Nat) : Bool := (M[i]?).getD false
def setT (M : List Bool) (ks : List Int) : List Bool := ks.foldl (fun M k => M.set k.toNat true) M
theorem setT_len : ∀ {ks : List Int} {M : List Bool}, (setT M ks).length = M.length := by
  intro ks
  induction ks with
  | nil => intro M; rfl
  | cons k ks ih => intro M; unfold setT at ih ⊢; rw [List.foldl_cons, ih]; simp
theorem setT_out : ∀ {ks : List Int} {M : List Bool} {i j : Nat}, (∀ k ∈ ks, 0 ≤ k ∧ k < j) → j ≤ i → (setT M ks)[i]? = M[i]? := by
  intro ks
  induction ks with
  | nil => intro M i j _ _; rfl
  | cons k ks ih =>
    intro M i j h hi
    have h1 := h k (by simp)
    have := ih (M := M.set k.toNat true) (i := i) (fun z hz => h z (by simp [hz])) hi
    unfold setT at this ⊢
    rw [List.foldl_cons, this, List.getElem?_set_ne (by omega)]
theorem setT_in : ∀ {ks : List Int} {M : List Bool} {k : Int}, (∀ k ∈ ks, 0 ≤ k ∧ k < M.length) → (k ∈ ks ∨ bAt M k.toNat = true) → bAt (setT M ks) k.toNat = true := by
  intro ks
  induction ks with
  | nil => intro M k _ hk; rcases hk with h | h; · cases h
           · exact h
  | cons z ks ih =>
    intro M k h hk
    have h1 := h z (by simp)
    have h2 := ih (M := M.set z.toNat true) (k := k) (fun y hy => by have := h y (by simp [hy]); simpa using this) (by
      rcases hk with hk | hk
      · rcases List.mem_cons.1 hk with rfl | hk
        · right; unfold bAt; rw [List.getElem?_set_self (by omega)]; rfl
        · exact .inl hk
      · right
        unfold bAt at hk ⊢
        rw [List.getElem?_set]
        split
        · rw [if_pos (by omega)]; rfl
        · exact hk)
    unfold setT at h2 ⊢
    rw [List.foldl_cons]; exact h2
theorem setT_set {ks : List Int} : ∀ {M : List Bool} {j : Nat}, (∀ k ∈ ks, 0 ≤ k ∧ k < j) → (setT M ks).set j true = setT (M.set j true) ks := by
  induction ks with
  | nil => intro M j _; rfl
  | cons k ks ih =>
    intro M j h
    have h1 := h k (by simp)
    have := ih (M := M.set k.toNat true) (j := j) (fun z hz => h z (by simp [hz]))
    unfold setT at this ⊢
    rw [List.foldl_cons, List.foldl_cons, this, List.set_comm _ _ (by omega)]

def nst (M : List Bool) (p : ResStep × Nat) : List Bool := bif bAt M p.2 then setT M (prem p.1) else M
theorem nst_len {M : List Bool} {p : ResStep × Nat} : (nst M p).length = M.length := by unfold nst; cases bAt M p.2 <;> simp [setT_len]
def rem (S : List ResStep) (k : Nat) (M : List Bool) : List Bool := (S.take k).zipIdx.reverse.foldl nst M
def mask (S : List ResStep) : List Bool := rem S S.length ((List.replicate S.length false).set (S.length - 1) true)
theorem rem_succ {S : List ResStep} {k : Nat} {x : ResStep} (hx : S[k]? = some x) (M : List Bool) : rem S (k + 1) M = rem S k (nst M (x, k)) := by
  unfold rem; rw [take_rev hx, List.foldl_cons]
theorem rem_out {F : Cnf} {S : List ResStep} (h : IsD F S) : ∀ {k i : Nat} {M : List Bool}, k ≤ S.length → k ≤ i + 1 → (rem S k M)[i]? = M[i]? := by
  intro k
  induction k with
  | zero => intro i M _ _; rfl
  | succ k ih =>
    intro i M hk hi
    obtain ⟨x, hx⟩ : ∃ x, S[k]? = some x := ⟨_, List.getElem?_eq_getElem (by omega)⟩
    rw [rem_succ hx, ih (by omega) (by omega)]
    unfold nst
    cases bAt M k with
    | true => exact setT_out (h.prem hx) (by omega)
    | false => rfl
theorem rem_len {S : List ResStep} : ∀ {k : Nat} {M : List Bool}, k ≤ S.length → (rem S k M).length = M.length := by
  intro k
  induction k with
  | zero => intro M _; rfl
  | succ k ih =>
    intro M hk
    obtain ⟨x, hx⟩ : ∃ x, S[k]? = some x := ⟨_, List.getElem?_eq_getElem (by omega)⟩
    rw [rem_succ hx, ih (by omega), nst_len]
theorem mask_len (S : List ResStep) : (mask S).length = S.length := by unfold mask; rw [rem_len (Nat.le_refl _)]; simp
/-- a needed step's premises are needed -/
theorem mask_prem {F : Cnf} {S : List ResStep} (h : IsD F S) {i : Nat} {x : ResStep} (hx : S[i]? = some x) (hm : bAt (mask S) i = true) : ∀ k ∈ prem x, bAt (mask S) k.toNat = true := by
  intro k hk
  have hi := (List.getElem?_eq_some_iff.1 hx).1
  have key : ∀ (m : Nat) (M : List Bool), M.length = S.length → m ≤ S.length → (i < m ∨ bAt M k.toNat = true) → bAt (rem S m M) i = true → bAt (rem S m M) k.toNat = true := by
    intro m
    induction m with
    | zero => intro M hM _ h1 _; rcases h1 with h1 | h1; · omega
              · exact h1
    | succ m ih =>
      intro M hM hm' h1 h2
      obtain ⟨y, hy⟩ : ∃ y, S[m]? = some y := ⟨_, List.getElem?_eq_getElem (by omega)⟩
      rw [rem_succ hy] at h2 ⊢
      refine ih _ (by rw [nst_len, hM]) (by omega) ?_ h2
      by_cases e : i = m
      · subst e
        rw [hx] at hy; cases hy
        right
        have h3 : bAt M i = true := by
          have := rem_out h (k := i) (i := i) (M := nst M (x, i)) (by omega) (by omega)
          unfold bAt at h2 ⊢
          rw [this] at h2
          unfold nst at h2
          cases hb : bAt M i with
          | true => exact hb
          | false => rw [hb] at h2; exact h2
        unfold nst
        simp only [h3, cond_true]
        exact setT_in (fun z hz => by have := h.prem hx z hz; omega) (.inl hk)
      · rcases h1 with h1 | h1
        · exact .inl (by omega)
        · right
          unfold nst
          cases bAt M m with
          | true => exact setT_in (fun z hz => by have := h.prem hy z hz; omega) (.inr h1)
          | false => exact h1
  have hk1 := h.prem hx k hk
  exact key _ _ (by simp) (Nat.le_refl _) (.inl hi) hm

theorem uses_loop {us : List Int} {M : List Bool} {i : Nat} (hi : i < M.length) (hu : ∀ k ∈ us, 0 ≤ k ∧ k < i) (hl : us.length ≤ 2) {f : List Bool × Int → Option (Lp (List Bool × Int) Empty)}
    (hf : ∀ s, f s = bd (bif decide (s.2 < len us) then bd (ix s.1 (i : Int)) (fun x => some x) else some false) (fun t => bif t then bd (ix us s.2) (fun x => bd (ix s.1 x) (fun _ => bd (put s.1 x true) (fun xs => some (.nx (xs, wr (s.2 + 1)))))) else some (.bk (s.1, s.2)))) :
    ∃ k, iter f (M, 0) = some (.go (bif bAt M i then setT M us else M, k)) := by
  have hat : ∀ {M : List Bool}, i < M.length → ix M (i : Int) = some (bAt M i) := fun {M} h => by rw [ix_get]; unfold bAt; rw [List.getElem?_eq_getElem h]; rfl
  cases hb : bAt M i with
  | false =>
    refine ⟨0, iter_bk ?_⟩
    rw [hf]
    simp only [hat hi, hb]
    cases decide ((0 : Int) < len us) <;> rfl
  | true =>
    refine ⟨us.length, ?_⟩
    have := iter_foldI (X := Empty) (xs := us) (body := f) (F := fun M k => M.set k.toNat true) (s0 := M) (fun _ N => N.length = M.length ∧ bAt N i = true) ⟨rfl, hb⟩ (fun j k N hk hN => by
      have hj := (List.getElem?_eq_some_iff.1 hk).1
      have hkb := hu k (List.mem_of_getElem? hk)
      rw [hf]
      have hd : decide ((j : Int) < len us) = true := by rw [len_eq]; simp; omega
      obtain ⟨y, hy, _⟩ := ix_of (xs := N) hkb.1 (by omega)
      have hp : put N k true = some (N.set k.toNat true) := by
        have := put_ok (xs := N) (i := k.toNat) (x := true) (by omega)
        rwa [show ((k.toNat : Nat) : Int) = k by omega] at this
      simp only [hd, cond_true, hat (show i < N.length by omega), hN.2, bd_some, ix_get, hk, hy, hp]
      rw [wr_succ hj (by omega)]
      refine ⟨rfl, by simpa using hN.1, ?_⟩
      have h2 := hN.2
      unfold bAt at h2 ⊢
      rw [List.getElem?_set_ne (by omega)]; exact h2) (fun N => by
      rw [hf]
      have hd : decide ((us.length : Int) < len us) = false := by rw [len_eq]; simp
      simp only [hd, cond_false, bd_some])
    simp only [cond_true]
    exact this.1
theorem wr_down {i n : Nat} (h : i < n) (hn : n ≤ 9223372036854775807) : wr ((i : Int) - 1) = (i : Int) - 1 := wr_of _ (by omega) (by omega)
theorem ix_len {A : Type} {M : List A} {i : Nat} (h : i < M.length) : ∃ y, ix M (i : Int) = some y := ⟨_, by rw [ix_get, List.getElem?_eq_getElem h]⟩

end Go.PF
namespace Go.PF
open Go.Pu
theorem iter_mk {T σ α X : Type} (mk : σ → Int → T) {xs : List α} {body : T → Option (Lp T X)} {F : σ → α → σ} (I : Nat → σ → Prop) {s0 : σ} (h0 : I 0 s0)
    (h : ∀ (i : Nat) x s, xs[i]? = some x → I i s → body (mk s (i : Int)) = some (.nx (mk (F s x) ((i : Int) + 1))) ∧ I (i + 1) (F s x)) (he : ∀ s, I xs.length s → body (mk s (xs.length : Int)) = some (.bk (mk s (xs.length : Int)))) :
    iter body (mk s0 0) = some (.go (mk (xs.foldl F s0) (xs.length : Int))) ∧ I xs.length (xs.foldl F s0) := by
  have key : ∀ (m : List α) (k : Nat) (s : σ), k + m.length = xs.length → (∀ i y, m[i]? = some y → xs[k + i]? = some y) → I k s → iter body (mk s (k : Int)) = some (.go (mk (m.foldl F s) (xs.length : Int))) ∧ I xs.length (m.foldl F s) := by
    intro m
    induction m with
    | nil =>
      intro k s hk _ hI
      simp only [List.length_nil, Nat.add_zero] at hk
      subst hk
      exact ⟨iter_bk (he s hI), hI⟩
    | cons y m ih =>
      intro k s hk hm hI
      obtain ⟨h1, h2⟩ := h k y s (by have := hm 0 y rfl; simpa using this) hI
      rw [iter_nx h1]
      exact ih (k + 1) (F s y) (by simp at hk; omega) (fun i z hz => by have := hm (i + 1) z (by simpa using hz); rwa [show k + (i + 1) = k + 1 + i by omega] at this) h2
  have := key xs 0 s0 (by simp) (by simp) h0
  simpa using this
/-- the same, met on the way -/
theorem bdR_mk {T σ α X β : Type} (mk : σ → Int → T) {xs : List α} {body : T → Option (Lp T X)} {k : T → Option β} {lx : X → Option β} {r : Option β} {F : σ → α → σ} (I : Nat → σ → Prop) {s0 : σ} {t0 : T} (ht : t0 = mk s0 0) (h0 : I 0 s0)
    (h : ∀ (i : Nat) x s, xs[i]? = some x → I i s → body (mk s (i : Int)) = some (.nx (mk (F s x) ((i : Int) + 1))) ∧ I (i + 1) (F s x)) (he : ∀ s, I xs.length s → body (mk s (xs.length : Int)) = some (.bk (mk s (xs.length : Int))))
    (hk : I xs.length (xs.foldl F s0) → k (mk (xs.foldl F s0) (xs.length : Int)) = r) : bdR (iter body t0) k lx = r := by
  subst ht
  obtain ⟨h1, h2⟩ := iter_mk mk I h0 h he
  rw [h1, bdR_go]; exact hk h2
/-! values of clauses -/
def clv (c a : List Int) : Int := bif c.any (fun l => a.contains l) then 1 else bif c.any (fun l => !a.contains (wr (-l))) then 0 else -1
theorem clv_loop {a : List Int} {f : Nat → Int → Int → Option (Lp Int Int)} (hf : ∀ i y s, f i y s = bif a.contains y then some (.rt 1) else bif !a.contains (wr (-y)) then some (.nx 0) else some (.nx s)) :
    ∀ {c : List Int} {i : Nat} {s : Int}, forLFrom f c i s = some (bif c.any (fun l => a.contains l) then .rt 1 else .go (bif c.any (fun l => !a.contains (wr (-l))) then 0 else s)) := by
  intro c
  induction c with
  | nil => intro i s; rfl
  | cons y c ih =>
    intro i s
    simp only [forLFrom, List.any_cons]
    rw [hf]
    cases h1 : a.contains y with
    | true => simp
    | false =>
      cases h2 : !a.contains (wr (-y)) with
      | true => simp only [cond_false, cond_true, Bool.false_or, Bool.true_or]; rw [ih]; cases c.any (fun l => a.contains l) <;> cases c.any (fun l => !a.contains (wr (-l))) <;> rfl
      | false => simp only [cond_false, Bool.false_or]; rw [ih]
theorem spec_l3Value_eq (c a : List Int) : spec_l3Value c a = some (clv c a) := by
  unfold spec_l3Value clv
  have := clv_loop (a := a) (f := (fun i22 y21 s22 => bd (PF.spec_l2Has a y21) (fun r71 => (bif r71 then some (Lp.rt 1) else bd (PF.spec_l2Has a (wr (-y21))) (fun r83 => (bif (!r83) then some (Lp.nx 0) else some (Lp.nx s22))))))) (fun i y s => by simp only [spec_l2Has_eq, bd_some]) (c := c) (i := 0) (s := -1)
  unfold forL; rw [this]
  cases c.any (fun l => a.contains l) <;> rfl
theorem impl_clauseValue_eq (c a : List Int) : impl_clauseValue c a = some (clv c a) := by
  unfold impl_clauseValue clv
  have := clv_loop (a := a) (f := (fun i22 y21 s22 => bd (PF.slices_Contains_int_int a y21) (fun r67 => (bif r67 then some (Lp.rt 1) else bd (PF.slices_Contains_int_int a (wr (-y21))) (fun r73 => (bif (!r73) then some (Lp.nx 0) else some (Lp.nx s22))))))) (fun i y s => by simp only [slices_Contains_int_int_eq, bd_some]) (c := c) (i := 0) (s := -1)
  unfold forL; rw [this]
  cases c.any (fun l => a.contains l) <;> rfl
theorem clv_cases (c a : List Int) : clv c a = 1 ∨ clv c a = 0 ∨ clv c a = -1 := by
  unfold clv; cases c.any (fun l => a.contains l) <;> cases c.any (fun l => !a.contains (wr (-l))) <;> simp
/-- what is left of a clause -/
def opn (c a : List Int) : List Int := c.filter fun l => !a.contains (wr (-l))
theorem spec_l3Left_eq {c a : List Int} (hl : c.length ≤ lim) : spec_l3Left c a = some (opn c a) := by
  unfold spec_l3Left opn
  rw [forL_filter (p := fun l => !a.contains (wr (-l))) (fun i y s _ => by simp only [spec_l2Has_eq, bd_some]) hl]; rfl
theorem impl_openPart_eq {c a : List Int} (hl : c.length ≤ lim) : impl_openPart c a = some (opn c a) := by
  unfold impl_openPart opn
  rw [slices_Clone_int_int_eq hl, bd_some, slices_DeleteFunc_int_int_eq (g := fun l => a.contains (wr (-l))) (fun y _ => by unfold impl_openPart_1; rw [slices_Contains_int_int_eq, bd_some]) hl, bd_some]
theorem opn_isC {V : Int} {c a : List Int} (h : IsC V c) : IsC V (opn c a) := ⟨h.lo, h.hi, fun l hl => h.lit l (List.mem_filter.1 hl).1, h.srt.filter _⟩
def under (cs : List (List Int)) (a : List Int) : List (List Int) := (cs.filter fun c => decide (clv c a < 1)).map fun c => opn c a
theorem foldl_filter_map {α β : Type} {p : α → Bool} {g : α → β} : ∀ {l : List α} {s : List β}, l.foldl (fun s y => bif p y then s ++ [g y] else s) s = s ++ (l.filter p).map g := by
  intro l
  induction l with
  | nil => intro s; simp
  | cons y l ih =>
    intro s
    rw [List.foldl_cons, ih]
    cases h : p y <;> simp [h]
theorem impl_restrict_eq {cs : List (List Int)} {a : List Int} (hl : cs.length ≤ lim) (hc : ∀ c ∈ cs, c.length ≤ lim) : impl_restrict cs a = some (under cs a) := by
  unfold impl_restrict under
  have := (forL_foldI (X := Empty) (body := (fun i22 y21 s22 => bd (PF.impl_clauseValue y21 a) (fun r103 => (bif (decide (r103 < 1)) then bd (PF.impl_openPart y21 a) (fun r109 => bd (app s22 [r109]) (fun xs130 => some (Lp.nx xs130))) else some (Lp.nx s22))))) (fun s y => bif decide (clv y a < 1) then s ++ [opn y a] else s) (l := cs) (s := []) (fun i s => s.length ≤ i) (by simp) (fun i x t hx ht => by
    have hi := (List.getElem?_eq_some_iff.1 hx).1
    have hm := hc x (List.mem_of_getElem? hx)
    rw [impl_clauseValue_eq, bd_some, impl_openPart_eq hm, bd_some]
    cases decide (clv x a < 1) with
    | false => exact ⟨rfl, by simp only [cond_false]; omega⟩
    | true =>
      simp only [cond_true]
      rw [app_ok (by simp; omega), bd_some]
      exact ⟨rfl, by simp; omega⟩)).1
  rw [this, bdR_go, foldl_filter_map]; rfl
end Go.PF
namespace Go.PF
open Go.Pu
def uni (c a : List Int) : Int := bif clv c a == 0 then (bif (opn c a).length == 1 then (opn c a).headD 0 else 0) else 0
theorem spec_l3Unit_eq {c a : List Int} (hl : c.length ≤ lim) : spec_l3Unit c a = some (uni c a) := by
  unfold spec_l3Unit uni
  rw [spec_l3Left_eq hl, bd_some, spec_l3Value_eq, bd_some]
  cases h : clv c a == 0 with
  | false => rfl
  | true =>
    simp only [Bool.not_true, cond_false, cond_true]
    rw [show (len (opn c a) == 1) = ((opn c a).length == 1) by rw [len_eq, Bool.eq_iff_iff, beq_iff_eq, beq_iff_eq]; omega]
    cases h1 : (opn c a).length == 1 with
    | false => rfl
    | true =>
      simp only [Bool.not_true, cond_false, cond_true]
      cases ho : opn c a with
      | nil => rw [ho] at h1; simp at h1
      | cons l r => rfl
theorem impl_unit_eq {c a : List Int} (hl : c.length ≤ lim) : impl_unit c a = some (uni c a) := by
  unfold impl_unit uni
  rw [impl_clauseValue_eq, bd_some]
  cases h : clv c a == 0 with
  | false => rfl
  | true =>
    simp only [Bool.not_true, cond_false, cond_true]
    rw [impl_openPart_eq hl, bd_some, show (len (opn c a) == 1) = ((opn c a).length == 1) by rw [len_eq, Bool.eq_iff_iff, beq_iff_eq, beq_iff_eq]; omega]
    cases h1 : (opn c a).length == 1 with
    | false => rfl
    | true =>
      simp only [cond_true]
      cases ho : opn c a with
      | nil => rw [ho] at h1; simp at h1
      | cons l r => rfl
/-! the false clauses -/
def falF (a : List Int) : Nat → List (List Int) → List Int
  | _, [] => []
  | i, c :: cs => bif decide (clv c a < 0) then ((i : Nat) : Int) :: falF a (i + 1) cs else falF a (i + 1) cs
theorem falF_len {a : List Int} : ∀ {cs : List (List Int)} {i : Nat}, (falF a i cs).length ≤ cs.length := by
  intro cs
  induction cs with
  | nil => intro i; simp [falF]
  | cons c cs ih =>
    intro i
    unfold falF
    cases decide (clv c a < 0) with
    | true => have := ih (i := i + 1); simp only [cond_true, List.length_cons]; omega
    | false => have := ih (i := i + 1); simp only [cond_false, List.length_cons]; omega
theorem impl_falseClauses_eq {cs : List (List Int)} {a : List Int} (hl : cs.length ≤ 1000000) : impl_falseClauses cs a = some (falF a 0 cs) := by
  unfold impl_falseClauses
  have key : ∀ (cs : List (List Int)) (i : Nat) (s : List Int), s.length + cs.length ≤ 1000000 → forLFrom (S := (List Int)) (X := Empty) (fun i22 y21 s22 => bd (PF.impl_clauseValue y21 a) (fun r85 => (bif (decide (r85 < 0)) then bd (app s22 [((i22 : Nat) : Int)]) (fun xs96 => some (Lp.nx xs96)) else some (Lp.nx s22)))) cs i s = some (.go (s ++ falF a i cs)) := by
    intro cs
    induction cs with
    | nil => intro i s _; simp [forLFrom, falF]
    | cons c cs ih =>
      intro i s hs
      simp only [List.length_cons] at hs
      unfold falF
      cases hd : decide (clv c a < 0) with
      | true =>
        rw [forLFrom_nx (s' := s ++ [((i : Nat) : Int)]) (by rw [impl_clauseValue_eq, bd_some, hd, cond_true, app_ok (by simp; unfold lim; omega), bd_some]), ih _ _ (by simp; omega)]
        simp
      | false =>
        rw [forLFrom_nx (s' := s) (by rw [impl_clauseValue_eq, bd_some, hd]; rfl), ih _ _ (by omega)]
        rfl
  unfold forL
  rw [key cs 0 [] (by simpa using hl)]; rfl
/-! a literal set -/
def setA (a : List Int) (l : Int) : List Int := putL (without a (vr l)) l
theorem without_ne {V : Int} {a : List Int} (h : IsC V a) {l : Int} (hl : -12 ≤ l ∧ l ≤ 12) {x : Int} (hx : x ∈ without a (vr l)) : x ∈ a ∧ x.natAbs ≠ l.natAbs := by
  unfold without at hx
  rw [List.mem_filter] at hx
  refine ⟨hx.1, fun e => ?_⟩
  have h1 := h.sm x hx.1
  have h2 := hx.2
  rw [vr_abs h1.1 h1.2.1, vr_abs hl.1 hl.2] at h2
  simp at h2
  omega
theorem setA_isC {V : Int} {a : List Int} (h : IsC V a) {l : Int} (hl : -V ≤ l ∧ l ≤ V ∧ l ≠ 0) : IsC V (setA a l) := by
  have hv := h.hi
  have hw : IsC V (without a (vr l)) := ⟨h.lo, h.hi, fun x hx => h.lit x (List.mem_filter.1 hx).1, h.srt.filter _⟩
  refine ⟨h.lo, h.hi, fun x hx => ?_, ?_⟩
  · rcases putL_mem.1 hx with rfl | hx
    · exact hl
    · exact hw.lit x hx
  · exact putL_srt hw.srt hw.sm ⟨by omega, by omega⟩ fun x hx => (without_ne h ⟨by omega, by omega⟩ hx).2
theorem spec_l3Set_eq {V : Int} {a : List Int} (h : IsC V a) (l : Int) : spec_l3Set a l = some (setA a l) := by
  have hl := h.len
  have : (without a (vr l)).length ≤ a.length := List.length_filter_le _ _
  unfold spec_l3Set setA
  rw [spec_l2Var_eq, spec_l2Without_eq (by unfold lim; omega), bd_some, spec_l2Put_eq (by unfold lim; omega), bd_some]
theorem impl_set_eq {V : Int} {a : List Int} (h : IsC V a) {l : Int} (hl : -V ≤ l ∧ l ≤ V ∧ l ≠ 0) : impl_set a l = some (setA a l) := by
  have hn := h.len; have hv := h.hi
  have hwl : (without a (vr l)).length ≤ a.length := List.length_filter_le _ _
  have hw : IsC V (without a (vr l)) := ⟨h.lo, h.hi, fun x hx => h.lit x (List.mem_filter.1 hx).1, h.srt.filter _⟩
  have hL : IsC V [l] := ⟨h.lo, h.hi, fun x hx => (List.mem_singleton.1 hx) ▸ hl, List.pairwise_singleton _ _⟩
  unfold impl_set setA
  rw [impl_abs_eq (by unfold okI; omega), impl_withoutVar_eq h.ok.2 (by unfold lim; omega), bd_some, app_ok (by simp; unfold lim; omega), bd_some]
  unfold impl_mustClause
  rw [clause_joined hw.srt hL.srt hw.sm hL.sm (by simp; unfold lim; omega), bd_some, bd_some]
  have hwr : wr (-l) = -l := wr_of _ (by omega) (by omega)
  have h1 : (without a (vr l)).contains (wr (-l)) = false := by
    rw [hwr]
    cases hc : (without a (vr l)).contains (-l) with
    | false => rfl
    | true =>
      have := (without_ne (l := l) h ⟨by omega, by omega⟩ (by simpa using hc)).2
      omega
  have h2 : (without a (vr l)).contains l = false := by
    cases hc : (without a (vr l)).contains l with
    | false => rfl
    | true => exact absurd rfl (without_ne (l := l) h ⟨by omega, by omega⟩ (by simpa using hc)).2
  unfold joined
  simp only [joinL, h1, h2, Bool.not_false, cond_true, cond_false]
end Go.PF
namespace Go.PF
open Go.Pu
/-- loops that count down, whatever the order of their state -/
theorem iter_mk_down {T σ α X : Type} (mk : σ → Int → T) {xs : List α} {body : T → Option (Lp T X)} {F : σ → α × Nat → σ} (I : Nat → σ → Prop) {s0 : σ} (h0 : I xs.length s0)
    (h : ∀ (i : Nat) x s, xs[i]? = some x → I (i + 1) s → body (mk s (i : Int)) = some (.nx (mk (F s (x, i)) ((i : Int) - 1))) ∧ I i (F s (x, i))) (he : ∀ s, I 0 s → body (mk s (-1)) = some (.bk (mk s (-1)))) :
    iter body (mk s0 (len xs - 1)) = some (.go (mk (xs.zipIdx.reverse.foldl F s0) (-1))) ∧ I 0 (xs.zipIdx.reverse.foldl F s0) := by
  have key : ∀ (k : Nat) (s : σ), k ≤ xs.length → I k s → iter body (mk s ((k : Int) - 1)) = some (.go (mk ((xs.take k).zipIdx.reverse.foldl F s) (-1))) ∧ I 0 ((xs.take k).zipIdx.reverse.foldl F s) := by
    intro k
    induction k with
    | zero => intro s _ hI; exact ⟨iter_bk (he s hI), hI⟩
    | succ k ih =>
      intro s hk hI
      obtain ⟨x, hx⟩ : ∃ x, xs[k]? = some x := ⟨_, List.getElem?_eq_getElem (by omega)⟩
      obtain ⟨h1, h2⟩ := h k x s hx hI
      rw [take_rev hx, List.foldl_cons, show ((k + 1 : Nat) : Int) - 1 = (k : Int) by omega, iter_nx h1]
      exact ih _ (by omega) h2
  have := key xs.length s0 (Nat.le_refl _) h0
  rwa [List.take_length] at this
def zAt {α : Type} : Option (Nat × α) → Int
  | some z => ((z.1 : Nat) : Int)
  | none => -1
theorem fold_first {α : Type} {p : α → Bool} : ∀ {xs : List α} {k : Nat}, (xs.zipIdx k).reverse.foldl (fun (s : Int) q => bif p q.1 then ((q.2 : Nat) : Int) else s) (-1) = zAt (findI (fun _ y => p y) xs k) := by
  intro xs
  induction xs with
  | nil => intro k; rfl
  | cons y xs ih =>
    intro k
    rw [List.zipIdx_cons, List.reverse_cons, List.foldl_append]
    simp only [findI, List.foldl_cons, List.foldl_nil]
    cases p y with
    | true => rfl
    | false => simp only [cond_false]; exact ih
def falB (K : List (List Int)) (a : List Int) : Bool := K.any fun c => decide (clv c a < 0)
def fuF (K : List (List Int)) (a : List Int) : Option (Nat × List Int) := findI (fun _ c => !(uni c a == 0)) K 0
def propF : Nat → List (List Int) → List Int → List (Int × Int) → (List (Int × Int)) × List Int × Bool
  | 0, _, a, t => (t, a, true)
  | n + 1, K, a, t => bif falB K a then (t, a, true) else match fuF K a with
    | none => (t, a, false)
    | some z => propF n K (setA a (uni z.2 a)) (t ++ [(uni z.2 a, ((z.1 : Nat) : Int))])
structure KOk (V : Int) (K : List (List Int)) : Prop where
  len : K.length ≤ 1000
  isC : ∀ c ∈ K, IsC V c
theorem uni_mem {c a : List Int} (h : uni c a ≠ 0) : uni c a ∈ c ∧ a.contains (wr (-(uni c a))) = false ∧ a.contains (uni c a) = false := by
  unfold uni at h ⊢
  cases h1 : clv c a == 0 with
  | false => rw [h1] at h; exact absurd rfl h
  | true =>
    rw [h1] at h
    simp only [cond_true] at h ⊢
    cases h2 : (opn c a).length == 1 with
    | false => rw [h2] at h; exact absurd rfl h
    | true =>
      rw [h2] at h
      simp only [cond_true] at h ⊢
      cases ho : opn c a with
      | nil => rw [ho] at h2; cases h2
      | cons l r =>
        simp only [List.headD_cons]
        have hm : l ∈ opn c a := by rw [ho]; simp
        unfold opn at hm
        obtain ⟨m1, m2⟩ := List.mem_filter.1 hm
        refine ⟨m1, by simpa using m2, ?_⟩
        cases hc : a.contains l with
        | false => rfl
        | true =>
          unfold clv at h1
          rw [show (c.any fun l => a.contains l) = true from List.any_eq_true.2 ⟨l, m1, hc⟩] at h1
          cases h1
theorem setA_new {V : Int} {c a : List Int} (hc : IsC V c) (ha : IsC V a) (h : uni c a ≠ 0) : IsC V (setA a (uni c a)) ∧ (setA a (uni c a)).length = a.length + 1 ∧ (-V ≤ uni c a ∧ uni c a ≤ V ∧ uni c a ≠ 0) := by
  obtain ⟨m1, m2, m3⟩ := uni_mem h
  have hb := hc.lit _ m1
  have hv := hc.hi
  refine ⟨setA_isC ha hb, ?_, hb⟩
  unfold setA
  rw [putL_length]
  have : without a (vr (uni c a)) = a := by
    unfold without
    rw [List.filter_eq_self]
    intro x hx
    have h1 := ha.sm x hx
    rw [vr_abs h1.1 h1.2.1, vr_abs (by omega) (by omega)]
    rw [wr_of _ (by omega) (by omega)] at m2
    have e1 : x ≠ uni c a := fun e => by
      have : a.contains (uni c a) = true := by rw [← e]; simpa using hx
      rw [this] at m3; cases m3
    have e2 : x ≠ -(uni c a) := fun e => by
      have : a.contains (-(uni c a)) = true := by rw [← e]; simpa using hx
      rw [this] at m2; cases m2
    simp
    omega
  rw [this]
theorem fuF_some {K : List (List Int)} {a : List Int} {z : Nat × List Int} (h : fuF K a = some z) : K[z.1]? = some z.2 ∧ uni z.2 a ≠ 0 := by
  obtain ⟨_, h2, h3, _⟩ := findI_some h
  exact ⟨by simpa using h2, by simpa using h3⟩
/-- what a propagation leaves -/
structure PrOk (V : Int) (K : List (List Int)) (r : (List (Int × Int)) × List Int × Bool) : Prop where
  a : IsC V r.2.1
  t : ∀ q ∈ r.1, (-V ≤ q.1 ∧ q.1 ≤ V ∧ q.1 ≠ 0) ∧ ∃ c, 0 ≤ q.2 ∧ q.2 < K.length ∧ ix K q.2 = some c
  f : r.2.2 = true → falB K r.2.1 = true
theorem propF_ok {V : Int} {K : List (List Int)} (hK : KOk V K) : ∀ {n : Nat} {a : List Int} {t : List (Int × Int)}, IsC V a → 12 < n + a.length →
    (∀ q ∈ t, (-V ≤ q.1 ∧ q.1 ≤ V ∧ q.1 ≠ 0) ∧ ∃ c, 0 ≤ q.2 ∧ q.2 < K.length ∧ ix K q.2 = some c) → PrOk V K (propF n K a t) ∧ (propF n K a t).1.length ≤ t.length + n := by
  intro n
  induction n with
  | zero => intro a t ha hn; have := ha.len; omega
  | succ n ih =>
    intro a t ha hn ht
    unfold propF
    cases hf : falB K a with
    | true => exact ⟨⟨ha, ht, fun _ => hf⟩, by simp⟩
    | false =>
      simp only [cond_false]
      cases hu : fuF K a with
      | none => exact ⟨⟨ha, ht, fun h => by cases h⟩, by simp⟩
      | some z =>
        simp only
        obtain ⟨h1, h2⟩ := fuF_some hu
        obtain ⟨g1, g2, g3⟩ := setA_new (hK.isC _ (List.mem_of_getElem? h1)) ha h2
        obtain ⟨q1, q2⟩ := ih (t := t ++ [(uni z.2 a, ((z.1 : Nat) : Int))]) g1 (by omega) (fun q hq => by
          rcases List.mem_append.1 hq with hq | hq
          · exact ht q hq
          · rw [List.mem_singleton.1 hq]
            exact ⟨g3, z.2, by simp, by have := (List.getElem?_eq_some_iff.1 h1).1; simp; omega, by rw [ix_get]; exact h1⟩)
        exact ⟨q1, by simp at q2; omega⟩
theorem spec_l3CnfValue_eq {V : Int} {F : Cnf} {a : List Int} (hK : KOk V F.clauses) : ∃ r, spec_l3CnfValue F a = some r ∧ decide (0 ≤ r) = !falB F.clauses a := by
  unfold spec_l3CnfValue
  have hl := hK.len
  have h := iter_foldI (X := Empty) (xs := F.clauses) (body := (fun (s29 : Int × Int) => (bif (decide (s29.2 < (len F.clauses))) then bd (ix F.clauses s29.2) (fun x74 => bd (PF.spec_l3Value x74 a) (fun r78 => some (Lp.nx ((PF.spec_l1Least s29.1 r78), (wr (s29.2 + 1)))))) else some (Lp.bk (s29.1, s29.2)))))
    (F := fun s c => PF.spec_l1Least s (clv c a)) (fun _ _ => True) (s0 := 1) trivial (fun i x s hx _ => by
      have hi := (List.getElem?_eq_some_iff.1 hx).1
      refine ⟨?_, trivial⟩
      have e : decide ((i : Int) < len F.clauses) = true := decide_eq_true (by rw [len_eq]; omega)
      show (bif decide ((i : Int) < len F.clauses) then bd (ix F.clauses (i : Int)) (fun x74 => bd (PF.spec_l3Value x74 a) (fun r78 => some (Lp.nx ((PF.spec_l1Least s r78), (wr ((i : Int) + 1)))))) else some (Lp.bk (s, (i : Int)))) = _
      rw [e, cond_true, ix_get, hx, bd_some, spec_l3Value_eq, bd_some, wr_succ hi (by omega)]) (fun s => by simp [len_eq])
  rw [h.1, bdR_go]
  refine ⟨_, rfl, ?_⟩
  have key : ∀ (K : List (List Int)) (s : Int), decide (0 ≤ K.foldl (fun s c => PF.spec_l1Least s (clv c a)) s) = (decide (0 ≤ s) && !K.any fun c => decide (clv c a < 0)) := by
    intro K
    induction K with
    | nil => intro s; simp only [List.foldl_nil, List.any_nil, Bool.not_false, Bool.and_true]; exact decide_eq_decide.2 Iff.rfl
    | cons c K ih =>
      intro s
      rw [List.foldl_cons, ih, List.any_cons]
      unfold spec_l1Least
      cases hd : decide (s < clv c a) with
      | true =>
        simp at hd
        simp only [cond_true]
        cases hq : decide (clv c a < 0) with
        | false => simp
        | true => simp at hq; simp; intro h; omega
      | false =>
        simp at hd
        simp only [cond_false]
        cases hq : decide (clv c a < 0) with
        | false => simp at hq; simp [hq]; intro _; omega
        | true => simp at hq; simp; intro h; omega
  rw [key]; rfl
theorem falF_any {a : List Int} : ∀ {cs : List (List Int)} {i : Nat}, decide (0 < len (falF a i cs)) = falB cs a := by
  intro cs
  induction cs with
  | nil => intro i; rfl
  | cons c cs ih =>
    intro i
    unfold falF falB
    rw [List.any_cons]
    cases hd : decide (clv c a < 0) with
    | true => simp [len_eq]
    | false => simp only [cond_false, Bool.false_or]; exact ih
theorem spec_first {K : List (List Int)} {a : List Int} {V : Int} (hK : KOk V K) :
    iter (S := (Int × Int)) (X := Empty) (fun s330 => (bif (decide (0 ≤ s330.2)) then bd (ix K s330.2) (fun x380 => bd (PF.spec_l3Unit x380 a) (fun r389 => (bif (!(r389 == 0)) then some (Lp.nx (s330.2, (wr (s330.2 - 1)))) else some (Lp.nx (s330.1, (wr (s330.2 - 1))))))) else some (Lp.bk (s330.1, s330.2)))) ((-1), (wr ((len K) - 1))) = some (.go (zAt (fuF K a), -1)) := by
  have hl := hK.len
  rw [wr_of (len K - 1) (by rw [len_eq]; omega) (by rw [len_eq]; omega)]
  have := (iter_down (X := Empty) (xs := K) (body := (fun (s330 : Int × Int) => (bif (decide (0 ≤ s330.2)) then bd (ix K s330.2) (fun x380 => bd (PF.spec_l3Unit x380 a) (fun r389 => (bif (!(r389 == 0)) then some (Lp.nx (s330.2, (wr (s330.2 - 1)))) else some (Lp.nx (s330.1, (wr (s330.2 - 1))))))) else some (Lp.bk (s330.1, s330.2)))))
    (F := fun s q => bif !(uni q.1 a == 0) then ((q.2 : Nat) : Int) else s) (fun _ _ => True) (s0 := -1) trivial (fun i x s hx _ => by
      have hi := (List.getElem?_eq_some_iff.1 hx).1
      have hc := (hK.isC _ (List.mem_of_getElem? hx)).len
      have e : decide (0 ≤ (i : Int)) = true := decide_eq_true (by omega)
      refine ⟨?_, trivial⟩
      show (bif decide (0 ≤ (i : Int)) then bd (ix K (i : Int)) (fun x380 => bd (PF.spec_l3Unit x380 a) (fun r389 => (bif (!(r389 == 0)) then some (Lp.nx ((i : Int), (wr ((i : Int) - 1)))) else some (Lp.nx (s, (wr ((i : Int) - 1))))))) else some (Lp.bk (s, (i : Int)))) = _
      rw [e, cond_true, ix_get, hx, bd_some, spec_l3Unit_eq (by unfold lim; omega), bd_some, wr_down hi (by omega)]
      cases !(uni x a == 0) <;> rfl) (fun s => rfl)).1
  rw [this, fold_first (p := fun c => !(uni c a == 0))]; rfl
theorem impl_first {K : List (List Int)} {a : List Int} {V : Int} (hK : KOk V K) :
    bdR (forL (S := Unit) (X := Int) K (fun i362 y361 s362 => bd (β := _) (bd (PF.impl_unit y361 a) (fun r415 => some (!(r415 == 0))) : Option Bool) (fun s414 => (bif s414 then some (Lp.rt ((i362 : Nat) : Int)) else some (Lp.nx ())))) ()) (fun s362 => some (-1)) (fun x362 => some x362) = some (zAt (fuF K a)) := by
  rw [forL_find (p := fun _ c => !(uni c a == 0)) (v := fun i _ => ((i : Nat) : Int)) (fun i y hy => by
    have hc := (hK.isC _ (List.mem_of_getElem? hy)).len
    rw [impl_unit_eq (by unfold lim; omega), bd_some, bd_some])]
  unfold fuF
  cases findI (fun _ c => !(uni c a == 0)) K 0 <;> rfl
theorem spec_steps_loop {V : Int} {F : Cnf} (hK : KOk V F.clauses) {f : (List (Int × Int)) × (List Int) → Option (Lp ((List (Int × Int)) × (List Int)) ((List (Int × Int)) × (List Int) × Bool))}
    (hf : ∀ t a, f (t, a) = bd (PF.spec_l3CnfValue F a) (fun r324 => (bif (decide (0 ≤ r324)) then bdR (iter (S := (Int × Int)) (X := Empty) (fun s330 => (bif (decide (0 ≤ s330.2)) then bd (ix F.clauses s330.2) (fun x380 => bd (PF.spec_l3Unit x380 a) (fun r389 => (bif (!(r389 == 0)) then some (Lp.nx (s330.2, (wr (s330.2 - 1)))) else some (Lp.nx (s330.1, (wr (s330.2 - 1))))))) else some (Lp.bk (s330.1, s330.2)))) ((-1), (wr ((len F.clauses) - 1)))) (fun s330 => (bif (decide (s330.1 < 0)) then some (Lp.rt (t, a, false)) else bd (ix F.clauses s330.1) (fun x412 => bd (PF.spec_l3Unit x412 a) (fun r421 => bd (app t [(r421, s330.1)]) (fun xs431 => bd (PF.spec_l3Set a r421) (fun r447 => some (Lp.nx (xs431, r447)))))))) (fun x330 => nomatch x330) else some (Lp.bk (t, a))))) : ∀ {n : Nat} {a : List Int} {t : List (Int × Int)}, IsC V a → 12 < n + a.length → t.length + n ≤ 1000 →
    iter (S := ((List (Int × Int)) × (List Int))) (X := ((List (Int × Int)) × (List Int) × Bool)) f (t, a)
      = some (bif (propF n F.clauses a t).2.2 then .go ((propF n F.clauses a t).1, (propF n F.clauses a t).2.1) else .rt ((propF n F.clauses a t).1, (propF n F.clauses a t).2.1, false)) := by
  intro n
  induction n with
  | zero => intro a t ha hn; have := ha.len; omega
  | succ n ih =>
    intro a t ha hn hl
    obtain ⟨r, hr, hv⟩ := spec_l3CnfValue_eq (a := a) hK
    unfold propF
    cases hg : falB F.clauses a with
    | true => rw [iter_bk (s' := (t, a)) (by rw [hf, hr, bd_some, hv, hg]; rfl)]; rfl
    | false =>
      cases hu : fuF F.clauses a with
      | none => rw [iter_rt (x := (t, a, false)) (by rw [hf, hr, bd_some, hv, hg, Bool.not_false, cond_true, spec_first hK, bdR_go, hu]; rfl)]; rfl
      | some z =>
        simp only [cond_false]
        obtain ⟨h1, h2⟩ := fuF_some hu
        have hz := hK.isC _ (List.mem_of_getElem? h1)
        have hzl := hz.len
        obtain ⟨g1, g2, g3⟩ := setA_new hz ha h2
        rw [iter_nx (s' := (t ++ [(uni z.2 a, ((z.1 : Nat) : Int))], setA a (uni z.2 a))) (by
          rw [hf, hr, bd_some, hv, hg, Bool.not_false, cond_true, spec_first hK, bdR_go, hu]
          show (bif decide (((z.1 : Nat) : Int) < 0) then _ else bd (ix F.clauses ((z.1 : Nat) : Int)) _) = _
          rw [decide_eq_false (by omega), cond_false, ix_get, h1, bd_some, spec_l3Unit_eq (by unfold lim; omega), bd_some, app_ok (by simp; unfold lim; omega), bd_some, spec_l3Set_eq ha, bd_some]; rfl)]
        exact ih g1 (by omega) (by simp; omega)
def unitP (K : List (List Int)) (a : List Int) : (List (Int × Int)) × List Int × Bool := propF 13 K a []
theorem spec_l3Steps_eq {V : Int} {F : Cnf} (hK : KOk V F.clauses) {a : List Int} (ha : IsC V a) : spec_l3Steps F a = some (unitP F.clauses a) := by
  unfold spec_l3Steps unitP
  have hl := ha.len
  rw [spec_l1Own_eq (by unfold lim; omega), bd_some, spec_steps_loop hK (fun _ _ => by rfl) ha (n := 13) (by omega) (by simp)]
  obtain ⟨t, a', b⟩ := propF 13 F.clauses a []
  cases b <;> rfl
theorem impl_steps_loop {V : Int} {K : List (List Int)} (hK : KOk V K) {f : (List Int) × (List (Int × Int)) → Option (Lp ((List Int) × (List (Int × Int))) ((List Int) × (List (Int × Int)) × Bool))}
    (hf : ∀ a t, f (a, t) = bd (PF.impl_falseClauses K a) (fun r304 => (bif (decide (0 < (len r304))) then some (Lp.rt (a, t, true)) else bd (β := _) (bdR (forL (S := Unit) (X := Int) K (fun i362 y361 s362 => bd (β := _) (bd (PF.impl_unit y361 a) (fun r415 => some (!(r415 == 0))) : Option Bool) (fun s414 => (bif s414 then some (Lp.rt ((i362 : Nat) : Int)) else some (Lp.nx ())))) ()) (fun s362 => some (-1)) (fun x362 => some x362) : Option Int) (fun s360 => (bif (decide (s360 < 0)) then some (Lp.rt (a, t, false)) else bd (ix K s360) (fun x454 => bd (PF.impl_unit x454 a) (fun r458 => bd (PF.impl_set a r458) (fun r463 => bd (app t [(r458, s360)]) (fun xs481 => some (Lp.nx (r463, xs481))))))))))) : ∀ {n : Nat} {a : List Int} {t : List (Int × Int)}, IsC V a → 12 < n + a.length → t.length + n ≤ 1000 →
    iter (S := ((List Int) × (List (Int × Int)))) (X := ((List Int) × (List (Int × Int)) × Bool)) f (a, t)
      = some (.rt ((propF n K a t).2.1, (propF n K a t).1, (propF n K a t).2.2)) := by
  intro n
  induction n with
  | zero => intro a t ha hn; have := ha.len; omega
  | succ n ih =>
    intro a t ha hn hl
    have hkl := hK.len
    unfold propF
    cases hg : falB K a with
    | true => rw [iter_rt (x := (a, t, true)) (by rw [hf, impl_falseClauses_eq (a := a) (show K.length ≤ 1000000 by omega), bd_some, falF_any, hg]; rfl)]; rfl
    | false =>
      cases hu : fuF K a with
      | none => rw [iter_rt (x := (a, t, false)) (by rw [hf, impl_falseClauses_eq (a := a) (show K.length ≤ 1000000 by omega), bd_some, falF_any, hg, cond_false, impl_first hK, bd_some, hu]; rfl)]; rfl
      | some z =>
        simp only [cond_false]
        obtain ⟨h1, h2⟩ := fuF_some hu
        have hz := hK.isC _ (List.mem_of_getElem? h1)
        have hzl := hz.len
        obtain ⟨g1, g2, g3⟩ := setA_new hz ha h2
        rw [iter_nx (s' := (setA a (uni z.2 a), t ++ [(uni z.2 a, ((z.1 : Nat) : Int))])) (by
          rw [hf, impl_falseClauses_eq (a := a) (show K.length ≤ 1000000 by omega), bd_some, falF_any, hg, cond_false, impl_first hK, bd_some, hu]
          show (bif decide (((z.1 : Nat) : Int) < 0) then _ else bd (ix K ((z.1 : Nat) : Int)) _) = _
          rw [decide_eq_false (by omega), cond_false, ix_get, h1, bd_some, impl_unit_eq (by unfold lim; omega), bd_some, impl_set_eq ha g3, bd_some, app_ok (by simp; unfold lim; omega), bd_some]; rfl)]
        exact ih g1 (by omega) (by simp; omega)
theorem impl_propagate_eq {V : Int} {K : List (List Int)} (hK : KOk V K) {a : List Int} (ha : IsC V a) : impl_propagate K a = some ((unitP K a).2.1, (unitP K a).1, (unitP K a).2.2) := by
  unfold impl_propagate unitP
  have hl := ha.len
  rw [slices_Clone_int_int_eq (by unfold lim; omega), bd_some, impl_steps_loop hK (fun _ _ => by rfl) ha (n := 13) (by omega) (by simp)]
  rfl
theorem unitP_ok {V : Int} {K : List (List Int)} (hK : KOk V K) {a : List Int} (ha : IsC V a) : PrOk V K (unitP K a) ∧ (unitP K a).1.length ≤ 13 := by
  have := propF_ok hK (n := 13) (t := []) ha (by omega) (by simp)
  exact ⟨this.1, by have h := this.2; simp only [List.length_nil, Nat.zero_add] at h; exact h⟩
end Go.PF
namespace Go.PF
open Go.Pu
/-- y is what x is, where x is something -/
structure Le {A : Type} (x y : Option A) : Prop where
  le : ∀ r, x = some r → y = some r
theorem Le.rfl' {A : Type} (x : Option A) : Le x x := ⟨fun _ h => h⟩
def iterC {S X : Type} : Nat → (S → Option (Lp S X)) → S → Option (Rs S X)
  | 0, _, _ => none
  | n + 1, b, s => match b s with
    | none => none
    | some (.nx s') => iterC n b s'
    | some (.bk s') => some (.go s')
    | some (.rt x) => some (.rt x)
theorem iterC_le {S X : Type} {f g : S → Option (Lp S X)} (h : ∀ s, Le (f s) (g s)) (n : Nat) (s : S) : Le (iterC n f s) (iter g s) := by
  constructor
  induction n generalizing s with
  | zero => intro r e; cases e
  | succ n ih =>
    intro r e
    unfold iterC at e
    split at e
    · cases e
    · rename_i s' hb; rw [iter_nx ((h s).le _ hb)]; exact ih _ _ e
    · rename_i s' hb; cases e; exact iter_bk ((h s).le _ hb)
    · rename_i x hb; cases e; exact iter_rt ((h s).le _ hb)
theorem bd_le {A B : Type} {x y : Option A} {k l : A → Option B} (h : Le x y) (hk : ∀ a, Le (k a) (l a)) : Le (bd x k) (bd y l) := by
  constructor
  intro r e
  obtain ⟨a, h1, h2⟩ := bnd e
  rw [h.le _ h1, bd_some]; exact (hk a).le _ h2
theorem bdR_le {S X B : Type} {x y : Option (Rs S X)} {k k' : S → Option B} {l l' : X → Option B} (h : Le x y) (hk : ∀ a, Le (k a) (k' a)) (hl : ∀ a, Le (l a) (l' a)) : Le (bdR x k l) (bdR y k' l') := by
  unfold bdR
  refine bd_le h fun a => ?_
  cases a with
  | go s => exact hk s
  | rt x => exact hl x
theorem bif_le {A : Type} {c : Bool} {x x' y y' : Option A} (h : Le x x') (h' : Le y y') : Le (bif c then x else y) (bif c then x' else y') := by
  cases c
  · exact h'
  · exact h
theorem forFrom_le {S X : Type} {f g : Nat → S → Option (Lp S X)} (h : ∀ i s, Le (f i s) (g i s)) : ∀ (n i : Nat) (s : S), Le (forFrom f n i s) (forFrom g n i s) := by
  intro n
  induction n with
  | zero => intro i s; exact Le.rfl' _
  | succ n ih =>
    intro i s
    constructor
    intro r e
    unfold forFrom at e ⊢
    split at e
    · cases e
    · rename_i s' hb; rw [(h i s).le _ hb]; exact (ih _ _).le _ e
    · rename_i s' hb; rw [(h i s).le _ hb]; exact e
    · rename_i x hb; rw [(h i s).le _ hb]; exact e
theorem forR_le {S X : Type} {f g : Nat → S → Option (Lp S X)} (h : ∀ i s, Le (f i s) (g i s)) (a n : Nat) (s : S) : Le (forR a n f s) (forR a n g s) := forFrom_le h _ _ _
end Go.PF
namespace Go.PF
open Go.Pu
def c_spec_l2Parse (a0 : Int) (a1 : ByteArray) : Option ((List Int) × Bool) :=
  (bif (a1.toList == (ByteArray.mk #[110, 111, 110, 101]).toList) then some ([], (PF.spec_l2Vars a0)) else bd (PF.spec_l1Split a1 32) (fun r30 => bdR (iterC 70 (S := ((List Int) × Int)) (X := ((List Int) × Bool)) (fun s40 => (bif (bif (decide (s40.2 < (len r30))) then (decide (s40.2 ≤ 12)) else false) then bd (ix r30 s40.2) (fun x134 => bd (PF.spec_l1Read x134) (fun r136 => (bif (!r136.2) then some (Lp.rt ([], false)) else bd (app s40.1 [r136.1]) (fun xs152 => some (Lp.nx (xs152, (wr (s40.2 + 1)))))))) else some (Lp.bk (s40.1, s40.2)))) ([], 0)) (fun s40 => bd (bif (decide (12 < (len r30))) then some true else bd (PF.spec_l2Clause a0 s40.1) (fun r195 => some (!r195))) (fun t183 => bd (bif t183 then some true else bd (PF.spec_l2Text s40.1) (fun r225 => some (!(r225.toList == a1.toList)))) (fun t213 => (bif t213 then some ([], false) else some (s40.1, true))))) (fun x40 => some x40)))
theorem c_spec_l2Parse_le : ∀ (a0 : Int) (a1 : ByteArray), Le (c_spec_l2Parse a0 a1) (spec_l2Parse a0 a1) := by
  intro a0 a1
  unfold c_spec_l2Parse spec_l2Parse
  repeat' first | with_reducible exact Le.rfl' _  | with_reducible apply iterC_le | with_reducible apply bdR_le | with_reducible apply bd_le | with_reducible apply forR_le | with_reducible apply bif_le | exact Empty.elim (by assumption) | intro _
def c_spec_l2TextOf (a0 : Cnf) : Option ByteArray :=
  bd (PF.spec_l1Num a0.vars) (fun r29 => bdR (iterC 70 (S := (ByteArray × Int)) (X := Empty) (fun s34 => (bif (decide (s34.2 < (len a0.clauses))) then bd (catS s34.1 (ByteArray.mk #[59, 32])) (fun z72 => bd (ix a0.clauses s34.2) (fun x80 => bd (PF.spec_l2Text x80) (fun r84 => bd (catS z72 r84) (fun z89 => some (Lp.nx (z89, (wr (s34.2 + 1)))))))) else some (Lp.bk (s34.1, s34.2)))) (r29, 0)) (fun s34 => some s34.1) (fun x34 => nomatch x34))
theorem c_spec_l2TextOf_le : ∀ (a0 : Cnf), Le (c_spec_l2TextOf a0) (spec_l2TextOf a0) := by
  intro a0
  unfold c_spec_l2TextOf spec_l2TextOf
  repeat' first | with_reducible exact Le.rfl' _  | with_reducible apply iterC_le | with_reducible apply bdR_le | with_reducible apply bd_le | with_reducible apply forR_le | with_reducible apply bif_le | exact Empty.elim (by assumption) | intro _
def c_spec_ParseCnf (a0 : ByteArray) : Option (Cnf × Bool) :=
  bd (PF.spec_l1Split a0 59) (fun r25 => bd (ix r25 0) (fun x41 => bd (PF.spec_l1Read x41) (fun r43 => (bif (bif (bif (!r43.2) then true else (!(PF.spec_l2Vars r43.1))) then true else (decide (61 < (len r25)))) then some ((Cnf.mk 0 []), false) else bdR (iterC 70 (S := ((List (List Int)) × Int × Int)) (X := (Cnf × Bool)) (fun s94 => (bif (decide (s94.2.2 < (len r25))) then bd (ix r25 s94.2.2) (fun x334 => bd (bif (decide ((x334.size : Int) < 2)) then some true else bd (ix r25 s94.2.2) (fun x359 => bd (ixS x359 0) (fun z361 => some (!(z361 == 32))))) (fun t346 => (bif t346 then some (Lp.rt ((Cnf.mk 0 []), false)) else bd (ix r25 s94.2.2) (fun x380 => bd (cutS x380 1 (x380.size : Int)) (fun z382 => bd (PF.c_spec_l2Parse r43.1 z382) (fun r384 => (bif (!r384.2) then some (Lp.rt ((Cnf.mk 0 []), false)) else bd (app s94.1 [r384.1]) (fun xs409 => some (Lp.nx (xs409, s94.2.1, (wr (s94.2.2 + 1)))))))))))) else some (Lp.bk (s94.1, s94.2.1, s94.2.2)))) ([], r43.1, 1)) (fun s94 => bd (PF.c_spec_l2TextOf (Cnf.mk s94.2.1 s94.1)) (fun r439 => (bif (!(r439.toList == a0.toList)) then some ((Cnf.mk 0 []), false) else some ((Cnf.mk s94.2.1 s94.1), true)))) (fun x94 => some x94)))))
theorem c_spec_ParseCnf_le : ∀ (a0 : ByteArray), Le (c_spec_ParseCnf a0) (spec_ParseCnf a0) := by
  intro a0
  have h_spec_l2Parse := c_spec_l2Parse_le
  have h_spec_l2TextOf := c_spec_l2TextOf_le
  unfold c_spec_ParseCnf spec_ParseCnf
  repeat' first | with_reducible exact Le.rfl' _ | with_reducible exact h_spec_l2Parse _ _ | with_reducible exact h_spec_l2TextOf _ | with_reducible apply iterC_le | with_reducible apply bdR_le | with_reducible apply bd_le | with_reducible apply forR_le | with_reducible apply bif_le | exact Empty.elim (by assumption) | intro _
def c_spec_l2Known (a0 : ByteArray) : Option Cnf :=
  bd (PF.c_spec_ParseCnf a0) (fun r25 => some r25.1)
theorem c_spec_l2Known_le : ∀ (a0 : ByteArray), Le (c_spec_l2Known a0) (spec_l2Known a0) := by
  intro a0
  have h_spec_ParseCnf := c_spec_ParseCnf_le
  unfold c_spec_l2Known spec_l2Known
  repeat' first | with_reducible exact Le.rfl' _ | with_reducible exact h_spec_ParseCnf _ | with_reducible apply iterC_le | with_reducible apply bdR_le | with_reducible apply bd_le | with_reducible apply forR_le | with_reducible apply bif_le | exact Empty.elim (by assumption) | intro _
def knownB (t : ByteArray) : Bool := match c_spec_l2Known t with
  | some f => cnfB f && decide (f.vars ≤ 4)
  | none => false
theorem knownB_all : (spec_l2Hard.all knownB) = true := by decide +kernel
theorem known_ok {t : ByteArray} (h : t ∈ spec_l2Hard) : ∃ f, spec_l2Known t = some f ∧ cnfB f = true ∧ f.vars ≤ 4 := by
  have h1 := List.all_eq_true.1 knownB_all t h
  unfold knownB at h1
  cases hc : c_spec_l2Known t with
  | none => rw [hc] at h1; cases h1
  | some f =>
    rw [hc] at h1
    simp only [Bool.and_eq_true, decide_eq_true_eq] at h1
    exact ⟨f, (c_spec_l2Known_le t).le _ hc, h1.1, h1.2⟩
end Go.PF
