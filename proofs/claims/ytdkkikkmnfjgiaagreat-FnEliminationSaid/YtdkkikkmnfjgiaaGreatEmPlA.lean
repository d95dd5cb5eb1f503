/- The frame of a law, type by type: sizes, copies, comparisons, marks. Literals, clauses, families of clauses; what both packages ask of them. Resolvents: the merged list of one package is the sorted list of the other. Resolvents and derivations: both packages answer alike. Loops without a bound, run with one: what a bounded run comes to, the loop comes to. The texts that the laws draw clauses from: each is read as a small formula (computed). -/
import Derived.Test.YtdkkikkmnfjgiaaGreatEmPf
import Derived.Test.YtdkkikkmnfjgiaaGreatPl1
namespace Go.PF
open Go.Pu

def big : Int := 9223372036854775807
def wIntS (a : List Int) : Nat := a.length
def wIntSS (a : List (List Int)) : Nat := a.length + tot wIntS a
def wCnf (a : Cnf) : Nat := wIntSS a.clauses
def wResStep (a : ResStep) : Nat := wIntS a.clause
def wResStepS (a : List ResStep) : Nat := a.length + tot wResStep a

def mResStep (a : ResStep) : Nat := a.clause.length + 3
theorem tot_one {A : Type} (l : List A) : tot (fun _ => 1) l = l.length := by induction l with
  | nil => rfl
  | cons _ l ih => simp [tot, ih]; omega
theorem wr3 {k : Int} (h0 : 0 ≤ k) (h1 : k + 3 ≤ big) : wr (k + 1) = k + 1 ∧ wr (k + 1 + 1) = k + 2 ∧ wr (k + 2 + 1) = k + 3 := by
  unfold big at h1
  exact ⟨wr_of _ (by omega) (by omega), by rw [wr_of _ (by omega) (by omega)]; omega, by rw [wr_of _ (by omega) (by omega)]; omega⟩
theorem mResStep_le {a : List ResStep} (h : (wResStepS a : Int) ≤ 1048576) : tot mResStep a ≤ 4194304 := by
  have key : ∀ l : List ResStep, tot mResStep l = tot wResStep l + 3 * l.length := by
    intro l
    induction l with
    | nil => rfl
    | cons x l ih => simp only [tot, ih, List.length_cons, mResStep, wResStep, wIntS]; omega
  have := key a
  unfold wResStepS at h; omega
end Go.PF
namespace Go.PF
open Go.Pu

/-- the variable of a literal -/
def vr (l : Int) : Int := bif decide (l < 0) then wr (-l) else l
theorem spec_l2Var_eq (l : Int) : spec_l2Var l = vr l := rfl
theorem vr_abs {l : Int} (h1 : -12 ≤ l) (h2 : l ≤ 12) : vr l = l.natAbs := by
  unfold vr
  by_cases h : l < 0
  · simp only [h, decide_true, cond_true]; rw [wr_of _ (by omega) (by omega)]; omega
  · simp only [h, decide_false, cond_false]; omega
theorem impl_abs_eq {l : Int} (h : okI l) : impl_abs l = vr l := by
  obtain ⟨h1, h2⟩ := h
  unfold impl_abs vr mx
  by_cases h0 : l < 0
  · simp only [h0, decide_true, cond_true]
    by_cases hm : l = -9223372036854775808
    · subst hm; decide
    · rw [wr_of _ (by omega) (by omega), if_pos (by omega)]
  · simp only [h0, decide_false, cond_false]
    rw [wr_of _ (by omega) (by omega)]
    by_cases hz : l = 0
    · subst hz; rfl
    · rw [if_neg (by omega)]

def inB (a b c : Int) : Bool := decide (b ≤ a) && decide (a ≤ c)
theorem inB_iff {a b c : Int} : inB a b c = true ↔ b ≤ a ∧ a ≤ c := by simp [inB]
theorem spec_l1In_eq (a b c : Int) : spec_l1In a b c = inB a b c := by simp [spec_l1In, inB]
theorem impl_within_eq (a b c : Int) : impl_within a b c = inB a b c := by simp [impl_within, inB]
def varsB (v : Int) : Bool := inB v 0 12
theorem varsB_iff {v : Int} : varsB v = true ↔ 0 ≤ v ∧ v ≤ 12 := inB_iff
theorem spec_l2Vars_eq (v : Int) : spec_l2Vars v = varsB v := spec_l1In_eq _ _ _
theorem impl_varsOk_eq (v : Int) : impl_varsOk v = varsB v := impl_within_eq _ _ _
def litB (v l : Int) : Bool := inB l (wr (-v)) v && !(l == 0)
theorem spec_l2Lit_eq (v l : Int) : spec_l2Lit v l = litB v l := by simp [spec_l2Lit, litB, spec_l1In_eq]
theorem impl_isLiteral_eq (v l : Int) : impl_isLiteral v l = litB v l := by simp [impl_isLiteral, litB, impl_within_eq, Bool.and_comm]
theorem impl_isVar_eq (v a : Int) : impl_isVar v a = inB a 1 v := impl_within_eq _ _ _

def clauseB (v : Int) (c : List Int) : Bool := varsB v && (c.all (litB v) && adj (fun a b => decide (vr a < vr b)) c)

theorem spec_l2Clause_eq {v : Int} {c : List Int} (hc : okL okI c) : spec_l2Clause v c = some (clauseB v c) := by
  unfold spec_l2Clause clauseB
  rw [spec_l2Vars_eq]
  cases hv : varsB v with
  | false => rfl
  | true =>
    simp only [Bool.not_true, cond_false, Bool.true_and]
    rw [forL_any (p := fun i y => !litB v y || match i with | 0 => false | i + 1 => match c[i]? with | some x => decide (vr y ≤ vr x) | none => false) (v := false) (fun i y hy => by
      rw [spec_l2Lit_eq]
      cases hl : litB v y with
      | false => simp
      | true =>
        cases i with
        | zero => simp
        | succ i =>
          have hi : i + 1 < c.length := (List.getElem?_eq_some_iff.1 hy).1
          have hp : decide ((0 : Int) < ((i + 1 : Nat) : Int)) = true := by simp
          rw [hp, wr_pred (by omega) hi hc.1, ix_get]
          simp only [Nat.add_sub_cancel]
          rw [List.getElem?_eq_getElem (show i < c.length by omega)]
          simp only [Bool.not_true, cond_false, cond_true, bd_some, Bool.false_or, spec_l2Var_eq]
          rfl)]
    rw [anyI_adj (q := fun y => !litB v y) (r := fun a b => decide (vr a < vr b)) (by intro y _; simp) (by
      intro i x y hx hy
      simp only [hx]
      congr 1
      by_cases h : vr x < vr y
      · simp [h]
      · simp [h]; omega)]
    simp only [Bool.not_not]
    cases (c.all fun y => litB v y) && adj (fun a b => decide (vr a < vr b)) c <;> rfl
theorem impl_IsClause_eq {v : Int} {c : List Int} (hc : okL okI c) : impl_IsClause v c = some (clauseB v c) := by
  unfold impl_IsClause clauseB
  rw [impl_varsOk_eq]
  rw [forL_any (p := fun i y => !litB v y || match i with | 0 => false | i + 1 => match c[i]? with | some x => decide (vr y ≤ vr x) | none => false) (v := false) (fun i y hy => by
      rw [impl_isLiteral_eq]
      cases hl : litB v y with
      | false => simp
      | true =>
        cases i with
        | zero => simp
        | succ i =>
          have hi : i + 1 < c.length := (List.getElem?_eq_some_iff.1 hy).1
          have hp : decide ((0 : Int) < ((i + 1 : Nat) : Int)) = true := by simp
          rw [hp, wr_pred (by omega) hi hc.1, ix_get]
          simp only [Nat.add_sub_cancel]
          rw [List.getElem?_eq_getElem (show i < c.length by omega)]
          simp only [Bool.not_true, cond_false, cond_true, bd_some, Bool.false_or]
          rw [impl_abs_eq (hc.2 _ (List.mem_of_getElem? hy)), impl_abs_eq (hc.2 _ (List.getElem_mem _))])]
  rw [anyI_adj (q := fun y => !litB v y) (r := fun a b => decide (vr a < vr b)) (by intro y _; simp) (by
      intro i x y hx hy
      simp only [hx]
      congr 1
      by_cases h : vr x < vr y
      · simp [h]
      · simp [h]; omega)]
  simp only [Bool.not_not]
  cases (c.all fun y => litB v y) && adj (fun a b => decide (vr a < vr b)) c <;> simp

/-- a clause, told by its elements -/
structure IsC (v : Int) (c : List Int) : Prop where
  lo : 0 ≤ v
  hi : v ≤ 12
  lit : ∀ l ∈ c, -v ≤ l ∧ l ≤ v ∧ l ≠ 0
  srt : c.Pairwise fun a b => a.natAbs < b.natAbs
theorem adj_pairwise {α : Type} {r : α → α → Bool} {R : α → α → Prop} (ht : ∀ a b c, R a b → R b c → R a c) : ∀ {l : List α}, (∀ a b, a ∈ l → b ∈ l → r a b = true → R a b) → adj r l = true → l.Pairwise R := by
  intro l
  induction l with
  | nil => intro _ _; exact .nil
  | cons a l ih =>
    intro hr h
    cases l with
    | nil => simp
    | cons b l =>
      simp only [adj, Bool.and_eq_true] at h
      have hp := ih (fun x y hx hy => hr x y (by simp [hx]) (by simp [hy])) h.2
      have hab := hr a b (by simp) (by simp) h.1
      refine List.pairwise_cons.2 ⟨fun x hx => ?_, hp⟩
      rcases List.mem_cons.1 hx with rfl | hx
      · exact hab
      · exact ht _ _ _ hab ((List.pairwise_cons.1 hp).1 x hx)
theorem adj_of_pairwise {α : Type} {r : α → α → Bool} {l : List α} (h : l.Pairwise fun a b => r a b = true) : adj r l = true := by
  induction l with
  | nil => rfl
  | cons a l ih =>
    cases l with
    | nil => rfl
    | cons b l =>
      obtain ⟨h1, h2⟩ := List.pairwise_cons.1 h
      simp only [adj, Bool.and_eq_true]
      exact ⟨h1 b (by simp), ih h2⟩
theorem litB_iff {v l : Int} (h1 : 0 ≤ v) (h2 : v ≤ 12) : litB v l = true ↔ -v ≤ l ∧ l ≤ v ∧ l ≠ 0 := by
  unfold litB
  rw [wr_of _ (by omega) (by omega)]
  simp [inB]; omega
theorem clauseB_iff {v : Int} {c : List Int} : clauseB v c = true ↔ IsC v c := by
  unfold clauseB
  rw [Bool.and_eq_true, Bool.and_eq_true, varsB_iff, List.all_eq_true]
  constructor
  · rintro ⟨⟨h1, h2⟩, h3, h4⟩
    have hl : ∀ l ∈ c, -v ≤ l ∧ l ≤ v ∧ l ≠ 0 := fun l hl => (litB_iff h1 h2).1 (h3 l hl)
    refine ⟨h1, h2, hl, adj_pairwise (R := fun a b : Int => a.natAbs < b.natAbs) (fun _ _ _ => Nat.lt_trans) (fun a b ha hb hr => ?_) h4⟩
    have := hl a ha; have := hl b hb
    simp only [decide_eq_true_eq] at hr
    rw [vr_abs (by omega) (by omega), vr_abs (by omega) (by omega)] at hr
    omega
  · rintro ⟨h1, h2, h3, h4⟩
    refine ⟨⟨h1, h2⟩, fun l hl => (litB_iff h1 h2).2 (h3 l hl), adj_of_pairwise (List.Pairwise.imp_of_mem ?_ h4)⟩
    intro a b ha hb hr
    have := h3 a ha; have := h3 b hb
    simp only [decide_eq_true_eq]
    rw [vr_abs (by omega) (by omega), vr_abs (by omega) (by omega)]
    omega
theorem srt_len : ∀ {c : List Int} {k n : Nat}, c.Pairwise (fun a b => a.natAbs < b.natAbs) → (∀ l ∈ c, k < l.natAbs ∧ l.natAbs ≤ n) → c.length + k ≤ max k n := by
  intro c
  induction c with
  | nil => intro k n _ _; simp; omega
  | cons a c ih =>
    intro k n h hl
    obtain ⟨h1, h2⟩ := List.pairwise_cons.1 h
    have ha := hl a (by simp)
    have := ih (k := a.natAbs) (n := n) h2 fun l hm => ⟨h1 l hm, (hl l (by simp [hm])).2⟩
    simp only [List.length_cons]; omega
theorem IsC.len {v : Int} {c : List Int} (h : IsC v c) : c.length ≤ 12 := by
  have := srt_len (k := 0) (n := 12) h.srt fun l hl => by have := h.lit l hl; have := h.hi; omega
  omega
theorem IsC.ok {v : Int} {c : List Int} (h : IsC v c) : okL okI c := by
  refine ⟨by have := h.len; omega, fun l hl => ?_⟩
  have := h.lit l hl; have := h.hi
  unfold okI; omega

/-! families -/
def cnfB (f : Cnf) : Bool := varsB f.vars && decide (len f.clauses ≤ 60) && f.clauses.all (clauseB f.vars)
theorem spec_l2Good_eq {f : Cnf} (hf : okCnf f) : spec_l2Good f = some (cnfB f) := by
  unfold spec_l2Good cnfB
  rw [spec_l2Vars_eq]
  cases hv : varsB f.vars with
  | false => rfl
  | true =>
    have e : (decide (60 < len f.clauses)) = !decide (len f.clauses ≤ 60) := by
      by_cases h : len f.clauses ≤ 60
      · simp [h]
      · simp [h]; omega
    simp only [Bool.not_true, cond_false, Bool.true_and]
    rw [e]
    cases hl : decide (len f.clauses ≤ 60) with
    | false => rfl
    | true =>
      have hlen : f.clauses.length ≤ 60 := by have := of_decide_eq_true hl; rw [len_eq] at this; omega
      simp only [Bool.not_true, cond_false, Bool.true_and]
      rw [iter_any (xs := f.clauses) (p := fun _ c => !clauseB f.vars c) (v := false) (fun i y hy => by
        have hi := (List.getElem?_eq_some_iff.1 hy).1
        have hd : decide ((i : Int) < len f.clauses) = true := by rw [len_eq]; simp; omega
        rw [hd, ix_get, hy]
        simp only [cond_true, bd_some]
        rw [spec_l2Clause_eq (hf.2.2 _ (List.mem_of_getElem? hy)), bd_some]
        cases clauseB f.vars y with
        | false => simp only [Bool.not_false, cond_true]
        | true => rw [wr_succ hi (by omega)]) (by
        have hd : decide (((f.clauses.length : Nat) : Int) < len f.clauses) = false := by rw [len_eq]; simp
        rw [hd, cond_false])]
      rw [anyI_any, show (f.clauses.any fun y => !clauseB f.vars y) = !f.clauses.all (clauseB f.vars) by rw [List.all_eq_not_any_not, Bool.not_not]]
      cases f.clauses.all (clauseB f.vars) <;> rfl
theorem impl_IsCnf_eq {f : Cnf} (hf : okCnf f) : impl_IsCnf f = some (cnfB f) := by
  unfold impl_IsCnf cnfB
  rw [impl_varsOk_eq]
  rw [forL_any (p := fun _ c => !clauseB f.vars c) (v := false) (fun i y hy => by
    rw [impl_IsClause_eq (hf.2.2 _ (List.mem_of_getElem? hy)), bd_some])]
  rw [anyI_any, show (f.clauses.any fun y => !clauseB f.vars y) = !f.clauses.all (clauseB f.vars) by rw [List.all_eq_not_any_not, Bool.not_not]]
  cases f.clauses.all (clauseB f.vars) <;> simp

/-! lists of numbers -/
theorem spec_l1Same_eq (a b : List Int) : spec_l1Same a b = some (a == b) := by
  unfold spec_l1Same
  rw [len_eq, len_eq]
  by_cases hl : a.length = b.length
  · have : (((a.length : Nat) : Int) == ((b.length : Nat) : Int)) = true := by simp [hl]
    rw [this]
    simp only [Bool.not_true, cond_false]
    rw [forL_any (p := fun i y => match b[i]? with | some x => !(y == x) | none => false) (v := false) (fun i y hy => by
      have hi := (List.getElem?_eq_some_iff.1 hy).1
      rw [ix_get, List.getElem?_eq_getElem (by omega), bd_some])]
    have e : anyI (fun i y => match b[i]? with | some x => !(y == x) | none => false) a 0 = !(a == b) := by
      by_cases hab : a = b
      · subst hab
        rw [show (a == a) = true by simp]
        rw [anyI_false.2]; rfl
        intro i y hy; rw [Nat.zero_add, hy]; simp
      · rw [show (a == b) = false by simpa using hab]
        cases h : anyI (fun i y => match b[i]? with | some x => !(y == x) | none => false) a 0 with
        | true => rfl
        | false =>
          exfalso; apply hab
          rw [anyI_false] at h
          apply List.ext_getElem hl
          intro i h1 h2
          have := h i a[i] (by simp [h1])
          rw [Nat.zero_add, List.getElem?_eq_getElem h2] at this
          simpa using this
    rw [e]; cases a == b <;> rfl
  · have : (((a.length : Nat) : Int) == ((b.length : Nat) : Int)) = false := by simp; omega
    rw [this]
    have : (a == b) = false := by
      rw [beq_eq_false_iff_ne]; intro e; subst e; exact hl rfl
    rw [this]; rfl
theorem slices_Equal_int_int_eq (a b : List Int) : slices_Equal_int_int a b = some (a == b) := spec_l1Same_eq a b
theorem spec_l1Has_eq (c : List Int) (l : Int) : spec_l1Has c l = some (c.contains l) := by
  unfold spec_l1Has
  rw [forL_any (p := fun _ y => y == l) (v := true) (fun i y _ => rfl), anyI_any]
  rw [show (c.any fun y => y == l) = c.contains l by induction c with | nil => rfl | cons x c ih => rw [List.any_cons, List.contains_cons, ih, Bool.beq_comm]]
  cases c.contains l <;> rfl
theorem spec_l2Has_eq (c : List Int) (l : Int) : spec_l2Has c l = some (c.contains l) := by unfold spec_l2Has; rw [spec_l1Has_eq]; rfl
theorem contains_any (c : List Int) (l : Int) : (c.any fun y => l == y) = c.contains l := by induction c with
  | nil => rfl
  | cons x c ih => rw [List.any_cons, List.contains_cons, ih]
theorem slices_Index_int_int_ge (c : List Int) (l : Int) : ∃ r, slices_Index_int_int c l = some r ∧ decide (0 ≤ r) = c.contains l := by
  unfold slices_Index_int_int
  rw [forL_find (p := fun _ y => l == y) (v := fun i _ => (i : Int)) (fun i y _ => rfl)]
  cases h : findI (fun _ y => l == y) c 0 with
  | none =>
    refine ⟨-1, rfl, ?_⟩
    have := findI_none.1 h
    rw [anyI_any, contains_any] at this; rw [this]; rfl
  | some z =>
    obtain ⟨_, _, _, h4⟩ := findI_some h
    rw [anyI_any, contains_any] at h4
    exact ⟨_, rfl, by rw [h4]; simp⟩
theorem slices_Contains_int_int_eq (c : List Int) (l : Int) : slices_Contains_int_int c l = some (c.contains l) := by
  obtain ⟨r, h1, h2⟩ := slices_Index_int_int_ge c l
  unfold slices_Contains_int_int; rw [h1, bd_some, h2]
theorem slices_IndexFunc_int_int_ge {c : List Int} {f : Int → Option Bool} {g : Int → Bool} (h : ∀ y ∈ c, f y = some (g y)) : ∃ r, slices_IndexFunc_int_int c f = some r ∧ decide (0 ≤ r) = c.any g ∧ (∀ z, findI (fun _ y => g y) c 0 = some z → r = z.1) ∧ (findI (fun _ y => g y) c 0 = none → r = -1) := by
  unfold slices_IndexFunc_int_int
  rw [forL_find (p := fun _ y => g y) (v := fun i _ => (i : Int)) (fun i y hy => by rw [h y (List.mem_of_getElem? hy), bd_some])]
  cases hf : findI (fun _ y => g y) c 0 with
  | none =>
    refine ⟨-1, rfl, ?_, nofun, fun _ => rfl⟩
    have := findI_none.1 hf
    rw [anyI_any] at this; rw [this]; rfl
  | some z =>
    obtain ⟨_, _, _, h4⟩ := findI_some hf
    rw [anyI_any] at h4
    exact ⟨_, rfl, by rw [h4]; simp, fun z' hz => (by cases hz; rfl), nofun⟩
theorem slices_ContainsFunc_int_int_eq {c : List Int} {f : Int → Option Bool} {g : Int → Bool} (h : ∀ y ∈ c, f y = some (g y)) : slices_ContainsFunc_int_int c f = some (c.any g) := by
  obtain ⟨r, h1, h2, _⟩ := slices_IndexFunc_int_int_ge h
  unfold slices_ContainsFunc_int_int; rw [h1, bd_some, h2]
def partB (a b : List Int) : Bool := a.all fun y => b.contains y
end Go.PF
namespace Go.PF
open Go.Pu

theorem foldl_filter {α : Type} {p : α → Bool} : ∀ {l s : List α}, l.foldl (fun s y => bif p y then s ++ [y] else s) s = s ++ l.filter p := by
  intro l
  induction l with
  | nil => intro s; simp
  | cons y l ih =>
    intro s
    rw [List.foldl_cons, ih]
    cases h : p y <;> simp [h]
/-- a loop that keeps some of the elements -/
theorem forL_filter {α X : Type} {f : Nat → α → List α → Option (Lp (List α) X)} {p : α → Bool} {l : List α} (hf : ∀ i y s, l[i]? = some y → f i y s = bif p y then bd (app s [y]) fun xs => some (.nx xs) else some (.nx s)) (hl : l.length ≤ lim) :
    forL l f [] = some (.go (l.filter p)) := by
  have := (forL_foldI (X := X) (body := f) (fun s y => bif p y then s ++ [y] else s) (l := l) (s := []) (fun i s => s.length ≤ i) (by simp) (fun i x t hx ht => by
    have hi := (List.getElem?_eq_some_iff.1 hx).1
    rw [hf i x t hx]
    cases p x with
    | false => exact ⟨rfl, by simp only [cond_false]; omega⟩
    | true =>
      simp only [cond_true]
      rw [app_ok (by simp; omega), bd_some]
      exact ⟨rfl, by simp; omega⟩)).1
  rw [this, foldl_filter]; rfl

def without (c : List Int) (v : Int) : List Int := c.filter fun y => !(vr y == v)
theorem spec_l2Without_eq {c : List Int} {v : Int} (hl : c.length ≤ lim) : spec_l2Without c v = some (without c v) := by
  unfold spec_l2Without without
  rw [forL_filter (p := fun y => !(vr y == v)) (fun i y s _ => by rfl) hl]; rfl

theorem filter_take {α : Type} {p : α → Bool} {c : List α} {j : Nat} {x : α} (hx : c[j]? = some x) : (c.take (j + 1)).filter p = (c.take j).filter p ++ bif p x then [x] else [] := by
  rw [List.take_add_one, hx, Option.toList_some, List.filter_append]
  cases h : p x <;> simp [List.filter, h]
/-- slices.DeleteFunc's loop -/
theorem del_loop {α : Type} {n : Nat} (hn : n ≤ 9223372036854775806) {c : List α} (hc : c.length = n) {f : α → Option Bool} {g : α → Bool} (h : ∀ y ∈ c, f y = some (g y)) :
    ∀ (m j i : Nat) (s : List α), j + m = n → i ≤ j → s.length = n → s.take i = (c.take j).filter (fun y => !g y) → s.drop j = c.drop j →
      ∃ s' i', iter (S := (List α) × Int × Int) (X := Empty) (fun s32 => (bif (decide (s32.2.2 < (len s32.1))) then bd (ix s32.1 s32.2.2) (fun x143 => bd (f x143) (fun r145 => (bif (!r145) then bd (ix s32.1 s32.2.1) (fun _ => bd (put s32.1 s32.2.1 x143) (fun xs167 => some (Lp.nx (xs167, (wr (s32.2.1 + 1)), (wr (s32.2.2 + 1)))))) else some (Lp.nx (s32.1, s32.2.1, (wr (s32.2.2 + 1))))))) else some (Lp.bk (s32.1, s32.2.1, s32.2.2)))) (s, (i : Int), (j : Int)) =
        some (.go (s', ((i' : Nat) : Int), (n : Int))) ∧ i' ≤ n ∧ s'.length = n ∧ s'.take i' = c.filter (fun y => !g y) := by
  intro m
  induction m with
  | zero =>
    intro j i s hj hi hs ht _
    have : j = n := by omega
    subst this
    refine ⟨s, i, iter_bk ?_, hi, hs, by rw [ht, List.take_of_length_le (by omega)]⟩
    have hd : decide (((j : Nat) : Int) < len s) = false := by rw [len_eq, hs]; simp
    simp only [hd, cond_false]
  | succ m ih =>
    intro j i s hj hi hs ht hd
    have hjn : j < n := by omega
    have hx : s[j]? = some c[j] := by
      have := congrArg (·[0]?) hd
      simp only [List.getElem?_drop, Nat.add_zero] at this
      rw [this]; exact List.getElem?_eq_getElem (by omega)
    have hlt : decide (((j : Nat) : Int) < len s) = true := by rw [len_eq, hs]; simp; omega
    have hg := h c[j] (List.getElem_mem _)
    have e1 : wr ((j : Int) + 1) = ((j + 1 : Nat) : Int) := by rw [wr_of _ (by omega) (by omega)]; simp
    have e2 : wr ((i : Int) + 1) = ((i + 1 : Nat) : Int) := by rw [wr_of _ (by omega) (by omega)]; simp
    cases hgc : g c[j] with
    | true =>
      obtain ⟨s', i', q1, q2⟩ := ih (j + 1) i s (by omega) (by omega) hs (by
        rw [ht, filter_take (List.getElem?_eq_getElem (by omega)), hgc]; simp) (by
        have := congrArg (List.drop 1) hd
        rwa [List.drop_drop, List.drop_drop] at this)
      refine ⟨s', i', ?_, q2⟩
      rw [← q1]
      refine iter_nx ?_
      simp only [hlt, cond_true, ix_get, hx, bd_some, hg, hgc, Bool.not_true, cond_false, e1]
    | false =>
      obtain ⟨s', i', q1, q2⟩ := ih (j + 1) (i + 1) (s.set i c[j]) (by omega) (by omega) (by simpa using hs) (by
        rw [List.take_add_one, List.getElem?_set_self (by omega), List.take_set_of_le (Nat.le_refl _), ht, filter_take (List.getElem?_eq_getElem (show j < c.length by omega)), hgc]; rfl) (by
        rw [List.drop_set_of_lt (by omega)]
        have := congrArg (List.drop 1) hd
        rwa [List.drop_drop, List.drop_drop] at this)
      refine ⟨s', i', ?_, q2⟩
      rw [← q1]
      refine iter_nx ?_
      simp only [hlt, cond_true, ix_get, hx, bd_some, hg, hgc, Bool.not_false, e1, e2]
      rw [List.getElem?_eq_getElem (show i < s.length by omega), bd_some, put_ok (by omega), bd_some]
theorem slices_DeleteFunc_int_int_eq {c : List Int} {f : Int → Option Bool} {g : Int → Bool} (h : ∀ y ∈ c, f y = some (g y)) (hl : c.length ≤ lim) : slices_DeleteFunc_int_int c f = some (c.filter fun y => !g y) := by
  obtain ⟨r, h1, _, h3, h4⟩ := slices_IndexFunc_int_int_ge h
  unfold slices_DeleteFunc_int_int
  rw [h1, bd_some]
  unfold lim at hl
  cases hf : findI (fun _ y => g y) c 0 with
  | none =>
    rw [h4 hf]
    have := findI_none.1 hf
    rw [anyI_any, List.any_eq_false] at this
    simp only [BEq.rfl, cond_true]
    rw [List.filter_eq_self.2]
    intro y hy; have := this y hy; simp only [Bool.not_eq_true] at this; rw [this]; rfl
  | some z =>
    have hz := h3 z hf
    subst hz
    obtain ⟨_, k2, k3, _⟩ := findI_some hf
    rw [Nat.sub_zero] at k2
    have hzl := (List.getElem?_eq_some_iff.1 k2).1
    have hne : (((z.1 : Nat) : Int) == -1) = false := by simp
    rw [hne, cond_false, show wr (((z.1 : Nat) : Int) + 1) = ((z.1 + 1 : Nat) : Int) by rw [wr_of _ (by omega) (by omega)]; simp]
    obtain ⟨s', i', q1, q2, q3, q4⟩ := del_loop (n := c.length) (by omega) rfl h (c.length - (z.1 + 1)) (z.1 + 1) z.1 c (by omega) (by omega) rfl (by
      rw [List.take_add_one, k2]
      have hall : ∀ y ∈ c.take z.1, g y = false := by
        intro y hy
        obtain ⟨i, hi⟩ := List.mem_iff_getElem?.1 hy
        rw [List.getElem?_take] at hi
        split at hi
        · rename_i hlt
          -- no earlier one
          have key : ∀ (l : List Int) (k : Nat) (z : Nat × Int), findI (fun _ y => g y) l k = some z → ∀ i y, l[i]? = some y → k + i < z.1 → g y = false := by
            intro l
            induction l with
            | nil => intro k z _ i y hy; simp at hy
            | cons x l ih =>
              intro k z hz i y hy hlt
              simp only [findI] at hz
              cases hgx : g x with
              | true => rw [hgx] at hz; simp at hz; subst hz; simp at hlt; omega
              | false =>
                rw [hgx] at hz; simp only [cond_false] at hz
                cases i with
                | zero => simp at hy; subst hy; exact hgx
                | succ i => exact ih (k + 1) z hz i y (by simpa using hy) (by omega)
          exact key c 0 z hf i y hi (by omega)
        · cases hi
      rw [List.filter_append, List.filter_eq_self.2 (fun y hy => by rw [hall y hy]; rfl)]
      simp [k3]) rfl
    rw [q1, bdR_go]
    simp only
    rw [show len s' = ((s'.length : Nat) : Int) from rfl, cut_ok (by omega) (Nat.le_refl _), bd_some]
    have hcl : clearL 0 s' (i' : Int) = s'.take i' ++ List.replicate (s'.length - i') 0 := by unfold clearL; simp
    rw [hcl, show (0 : Int) = ((0 : Nat) : Int) from rfl, cut_ok (Nat.zero_le _) (by simp; omega), bd_some, List.drop_zero, List.take_left' (by simp; omega), q4]
theorem slices_Clone_int_int_eq {c : List Int} (hl : c.length ≤ lim) : slices_Clone_int_int c = some c := by
  unfold slices_Clone_int_int; rw [app_ok (by simpa using hl)]; rfl
theorem impl_withoutVar_eq {c : List Int} {v : Int} (hc : ∀ y ∈ c, okI y) (hl : c.length ≤ lim) : impl_withoutVar c v = some (without c v) := by
  unfold impl_withoutVar without
  rw [slices_Clone_int_int_eq hl, bd_some, slices_DeleteFunc_int_int_eq (g := fun y => vr y == v) (fun y hy => by unfold impl_withoutVar_1; rw [impl_abs_eq (hc y hy)]) hl]; rfl

/-! the merged list -/
def putL (c : List Int) (l : Int) : List Int := c.takeWhile (fun y => decide (vr y < vr l)) ++ l :: c.dropWhile (fun y => decide (vr y < vr l))
theorem spec_l1Own_eq {c : List Int} (hl : c.length ≤ lim) : spec_l1Own c = some c := by
  unfold spec_l1Own; rw [app_ok (by simpa using hl)]; rfl
theorem takeWhile_le {α : Type} {p : α → Bool} (l : List α) : (l.takeWhile p).length ≤ l.length := (List.takeWhile_prefix p).length_le
theorem take_takeWhile {α : Type} {p : α → Bool} (l : List α) : l.take (l.takeWhile p).length = l.takeWhile p := by
  conv => lhs; rw [← List.takeWhile_append_dropWhile (p := p) (l := l)]
  rw [List.takeWhile_append_dropWhile]
  exact List.prefix_iff_eq_take.1 (List.takeWhile_prefix p) |>.symm
theorem drop_takeWhile {α : Type} {p : α → Bool} (l : List α) : l.drop (l.takeWhile p).length = l.dropWhile p := by
  have h := List.takeWhile_append_dropWhile (p := p) (l := l)
  have h2 : l.drop (l.takeWhile p).length = (l.takeWhile p ++ l.dropWhile p).drop (l.takeWhile p).length := by rw [h]
  rw [h2, List.drop_left]
theorem spec_l2Put_eq {c : List Int} {l : Int} (hl : c.length + 1 ≤ lim) : spec_l2Put c l = some (putL c l) := by
  unfold spec_l2Put putL
  have hl' : c.length + 1 ≤ 4294967296 := hl
  rw [iter_while (xs := c) (p := fun y => decide (vr y < vr l)) (fun i y hy => by
    have hi := (List.getElem?_eq_some_iff.1 hy).1
    have hd : decide ((i : Int) < len c) = true := by rw [len_eq]; simp; omega
    rw [hd, ix_get, hy]
    simp only [cond_true, bd_some, spec_l2Var_eq]
    rw [wr_succ hi (by omega)]; rfl) (by
    have hd : decide (((c.length : Nat) : Int) < len c) = false := by rw [len_eq]; simp
    rw [hd]; rfl), bdR_go]
  have hk := takeWhile_le (p := fun y => decide (vr y < vr l)) c
  rw [show (0 : Int) = ((0 : Nat) : Int) from rfl, cut_ok (Nat.zero_le _) hk, bd_some, List.drop_zero, take_takeWhile, spec_l1Own_eq (by omega), bd_some, app_ok (by simp; omega), bd_some,
    len_eq, cut_ok hk (Nat.le_refl _), bd_some, List.take_length, drop_takeWhile, app_ok, bd_some]
  · simp
  · have := congrArg List.length (List.takeWhile_append_dropWhile (p := fun y => decide (vr y < vr l)) (l := c))
    simp only [List.length_append] at this ⊢
    simp only [List.length_singleton]
    unfold lim; omega
theorem putL_length (c : List Int) (l : Int) : (putL c l).length = c.length + 1 := by
  have := congrArg List.length (List.takeWhile_append_dropWhile (p := fun y => decide (vr y < vr l)) (l := c))
  unfold putL; simp only [List.length_append, List.length_cons] at this ⊢; omega
def joinL : List Int → List Int → Option (List Int)
  | s, [] => some s
  | s, y :: b => bif s.contains (wr (-y)) then none else joinL (bif !s.contains y then putL s y else s) b
theorem spec_l2Join_eq {a b : List Int} (hl : a.length + b.length ≤ lim) : spec_l2Join a b = some (match joinL a b with | some s => (s, true) | none => ([], false)) := by
  unfold spec_l2Join
  rw [spec_l1Own_eq (by omega), bd_some]
  have key : ∀ (F : Nat → Int → List Int → Option (Lp (List Int) (List Int × Bool))), (∀ i y s, F i y s = bd (PF.spec_l2Has s (wr (-y))) (fun r200 => (bif r200 then some (Lp.rt ([], false)) else bd (PF.spec_l2Has s y) (fun r222 => (bif (!r222) then bd (PF.spec_l2Put s y) (fun r239 => some (Lp.nx r239)) else some (Lp.nx s)))))) →
      ∀ (b : List Int) (i : Nat) (s : List Int), s.length + b.length ≤ lim → forLFrom F b i s = some (match joinL s b with | some s => .go s | none => .rt ([], false)) := by
    intro F hF b
    induction b with
    | nil => intro i s _; rfl
    | cons y b ih =>
      intro i s hs
      simp only [List.length_cons] at hs
      rw [forLFrom, hF, spec_l2Has_eq, bd_some, spec_l2Has_eq, bd_some, joinL]
      cases s.contains (wr (-y)) with
      | true => rfl
      | false =>
        simp only [cond_false]
        cases s.contains y with
        | true => simp only [Bool.not_true, cond_false]; exact ih (i + 1) s (by omega)
        | false =>
          simp only [Bool.not_false, cond_true]
          rw [spec_l2Put_eq (c := s) (by omega), bd_some]
          exact ih (i + 1) _ (by rw [putL_length]; omega)
  unfold forL
  rw [key _ (fun _ _ _ => rfl) b 0 a hl]
  cases joinL a b <;> rfl

abbrev Srt (c : List Int) : Prop := c.Pairwise fun a b => a.natAbs < b.natAbs
/-- numbers of a clause -/
def Sm (c : List Int) : Prop := ∀ l ∈ c, -12 ≤ l ∧ l ≤ 12 ∧ l ≠ 0
theorem putL_mem {c : List Int} {l x : Int} : x ∈ putL c l ↔ x = l ∨ x ∈ c := by
  have h := List.takeWhile_append_dropWhile (p := fun y => decide (vr y < vr l)) (l := c)
  have : x ∈ c ↔ x ∈ c.takeWhile (fun y => decide (vr y < vr l)) ∨ x ∈ c.dropWhile (fun y => decide (vr y < vr l)) := by rw [← List.mem_append, h]
  unfold putL
  rw [this, List.mem_append, List.mem_cons]
  constructor
  · rintro (h | h | h)
    · exact .inr (.inl h)
    · exact .inl h
    · exact .inr (.inr h)
  · rintro (h | h | h)
    · exact .inr (.inl h)
    · exact .inl h
    · exact .inr (.inr h)
theorem putL_srt {c : List Int} {l : Int} (hc : Srt c) (hs : Sm c) (hl : -12 ≤ l ∧ l ≤ 12) (hn : ∀ x ∈ c, x.natAbs ≠ l.natAbs) : Srt (putL c l) := by
  have hv : ∀ x ∈ c, (decide (vr x < vr l) = true ↔ x.natAbs < l.natAbs) := fun x hx => by
    have := hs x hx
    rw [decide_eq_true_eq, vr_abs (by omega) (by omega), vr_abs hl.1 hl.2]; omega
  unfold putL
  induction c with
  | nil => simp
  | cons y c ih =>
    obtain ⟨h1, h2⟩ := List.pairwise_cons.1 hc
    rw [List.takeWhile_cons, List.dropWhile_cons]
    by_cases hy : decide (vr y < vr l) = true
    · rw [if_pos hy, if_pos hy, List.cons_append]
      have ih := ih h2 (fun x hx => hs x (by simp [hx])) (fun x hx => hn x (by simp [hx])) (fun x hx => hv x (by simp [hx]))
      refine List.pairwise_cons.2 ⟨fun x hx => ?_, ih⟩
      rcases (putL_mem (c := c) (l := l)).1 hx with rfl | hx
      · exact (hv y (by simp)).1 hy
      · exact h1 x hx
    · rw [if_neg hy, if_neg hy, List.nil_append]
      have hly : l.natAbs < y.natAbs := by
        have := hn y (by simp)
        have h3 : ¬ y.natAbs < l.natAbs := fun h => hy ((hv y (by simp)).2 h)
        omega
      refine List.pairwise_cons.2 ⟨fun x hx => ?_, hc⟩
      rcases List.mem_cons.1 hx with rfl | hx
      · exact hly
      · have := h1 x hx; omega
theorem joinL_spec : ∀ {b s : List Int}, Srt s → Sm s → Srt b → Sm b →
    (if ∃ y ∈ b, -y ∈ s then joinL s b = none else ∃ t, joinL s b = some t ∧ Srt t ∧ ∀ x, x ∈ t ↔ x ∈ s ∨ x ∈ b) := by
  intro b
  induction b with
  | nil => intro s hs _ _ _; simp only [List.not_mem_nil, false_and, exists_false, if_false, or_false]; exact ⟨s, rfl, hs, fun _ => Iff.rfl⟩
  | cons y b ih =>
    intro s hs hs2 hb hb2
    obtain ⟨h1, h2⟩ := List.pairwise_cons.1 hb
    have hy := hb2 y (by simp)
    have hw : wr (-y) = -y := wr_of _ (by omega) (by omega)
    simp only [joinL, hw]
    by_cases hn : -y ∈ s
    · rw [if_pos ⟨y, by simp, hn⟩, List.contains_iff_mem.2 hn]; rfl
    · have hnc : s.contains (-y) = false := by rw [Bool.eq_false_iff]; exact fun h => hn (List.contains_iff_mem.1 h)
      rw [hnc, cond_false]
      by_cases hin : y ∈ s
      · rw [List.contains_iff_mem.2 hin]
        simp only [Bool.not_true, cond_false]
        have := ih hs hs2 h2 (fun x hx => hb2 x (by simp [hx]))
        have e1 : (∃ z ∈ y :: b, -z ∈ s) ↔ ∃ z ∈ b, -z ∈ s := by
          constructor
          · rintro ⟨z, hz, hz2⟩
            rcases List.mem_cons.1 hz with rfl | hz
            · exact absurd hz2 hn
            · exact ⟨z, hz, hz2⟩
          · rintro ⟨z, hz, hz2⟩; exact ⟨z, by simp [hz], hz2⟩
        simp only [e1]
        split at this
        · rename_i hex; rw [if_pos hex]; exact this
        · rename_i hex
          rw [if_neg hex]
          obtain ⟨t, t1, t2, t3⟩ := this
          refine ⟨t, t1, t2, fun x => ?_⟩
          rw [t3, List.mem_cons]
          constructor
          · rintro (h | h)
            · exact .inl h
            · exact .inr (.inr h)
          · rintro (h | rfl | h)
            · exact .inl h
            · exact .inl hin
            · exact .inr h
      · have hic : s.contains y = false := by rw [Bool.eq_false_iff]; exact fun h => hin (List.contains_iff_mem.1 h)
        rw [hic]
        simp only [Bool.not_false, cond_true]
        have hne : ∀ x ∈ s, x.natAbs ≠ y.natAbs := fun x hx e => by
          have : x = y ∨ x = -y := by omega
          rcases this with rfl | rfl
          · exact hin hx
          · exact hn hx
        have := ih (putL_srt hs hs2 ⟨hy.1, hy.2.1⟩ hne) (fun x hx => by
          rcases putL_mem.1 hx with rfl | hx
          · exact hy
          · exact hs2 x hx) h2 (fun x hx => hb2 x (by simp [hx]))
        have e1 : (∃ z ∈ y :: b, -z ∈ s) ↔ ∃ z ∈ b, -z ∈ putL s y := by
          constructor
          · rintro ⟨z, hz, hz2⟩
            rcases List.mem_cons.1 hz with rfl | hz
            · exact absurd hz2 hn
            · exact ⟨z, hz, putL_mem.2 (.inr hz2)⟩
          · rintro ⟨z, hz, hz2⟩
            rcases putL_mem.1 hz2 with e | hz2
            · have := h1 z hz; omega
            · exact ⟨z, by simp [hz], hz2⟩
        simp only [e1]
        split at this
        · rename_i hex; rw [if_pos hex]; exact this
        · rename_i hex
          rw [if_neg hex]
          obtain ⟨t, t1, t2, t3⟩ := this
          refine ⟨t, t1, t2, fun x => ?_⟩
          rw [t3, putL_mem, List.mem_cons]
          constructor
          · rintro ((h | h) | h)
            · exact .inr (.inl h)
            · exact .inl h
            · exact .inr (.inr h)
          · rintro (h | h | h)
            · exact .inl (.inr h)
            · exact .inl (.inl h)
            · exact .inr h

/-! the sorted list -/
theorem impl_compareLiterals_eq {x y : Int} (hx : okI x) (hy : okI y) : impl_compareLiterals x y = some (if vr x < vr y then -1 else if vr y < vr x then 1 else if y < x then -1 else if x < y then 1 else 0) := by
  have hc : ∀ a b : Int, cmp_Compare_int a b = if a < b then -1 else if b < a then 1 else 0 := fun a b => by
    unfold cmp_Compare_int cmp_isNaN_int
    simp only [BEq.rfl, Bool.not_true, cond_false]
    by_cases h1 : a < b
    · simp [h1]
    · by_cases h2 : b < a <;> simp [h1, h2]
  unfold impl_compareLiterals cmp_Or_int
  rw [impl_abs_eq hx, impl_abs_eq hy, hc, hc]
  by_cases h1 : vr x < vr y
  · simp [h1, forL, forLFrom]
  · by_cases h2 : vr y < vr x
    · simp [h1, h2, forL, forLFrom]
    · by_cases h3 : y < x
      · simp [h1, h2, h3, forL, forLFrom]
      · by_cases h4 : x < y <;> simp [h1, h2, h3, h4, forL, forLFrom]
end Go.PF
namespace Go.PF
open Go.Pu

theorem srt_unique : ∀ {a b : List Int}, Srt a → Srt b → (∀ x, x ∈ a ↔ x ∈ b) → a = b := by
  intro a
  induction a with
  | nil =>
    intro b _ _ h
    cases b with
    | nil => rfl
    | cons y b => exact absurd ((h y).2 (by simp)) (by simp)
  | cons x a ih =>
    intro b ha hb h
    cases b with
    | nil => exact absurd ((h x).1 (by simp)) (by simp)
    | cons y b =>
      obtain ⟨a1, a2⟩ := List.pairwise_cons.1 ha
      obtain ⟨b1, b2⟩ := List.pairwise_cons.1 hb
      have hxy : x = y := by
        rcases List.mem_cons.1 ((h x).1 (by simp)) with e | e
        · exact e
        · rcases List.mem_cons.1 ((h y).2 (by simp)) with e' | e'
          · exact e'.symm
          · have := b1 x e; have := a1 y e'; omega
      subst hxy
      rw [ih a2 b2 fun z => ?_]
      constructor
      · intro hz
        rcases List.mem_cons.1 ((h z).1 (by simp [hz])) with e | e
        · subst e; have := a1 z hz; omega
        · exact e
      · intro hz
        rcases List.mem_cons.1 ((h z).2 (by simp [hz])) with e | e
        · subst e; have := b1 z hz; omega
        · exact e

theorem compactL_mem {A : Type} [DecidableEq A] : ∀ {l : List A} {x : A}, x ∈ compactL l ↔ x ∈ l
  | [], x => by simp [compactL]
  | [y], x => by simp [compactL]
  | y :: z :: r, x => by
    rw [compactL]
    split
    · rename_i h; subst h
      rw [compactL_mem]; simp
    · rw [List.mem_cons, compactL_mem]; simp
theorem compactL_strict {A : Type} [DecidableEq A] {R : A → A → Prop} (ha : ∀ a b, R a b → R b a → a = b) : ∀ {l : List A}, l.Pairwise R → (compactL l).Pairwise fun a b => R a b ∧ a ≠ b
  | [], _ => by simp [compactL]
  | [y], _ => by simp [compactL]
  | y :: z :: r, h => by
    obtain ⟨h1, h2⟩ := List.pairwise_cons.1 h
    rw [compactL]
    split
    · exact compactL_strict ha h2
    · rename_i hne
      refine List.pairwise_cons.2 ⟨fun x hx => ?_, compactL_strict ha h2⟩
      have hx' := compactL_mem.1 hx
      refine ⟨h1 x hx', fun e => ?_⟩
      subst e
      rcases List.mem_cons.1 hx' with e | e
      · exact hne e
      · exact hne (ha _ _ (h1 z (by simp)) ((List.pairwise_cons.1 h2).1 y e))

/-- the order of literals -/
def litLe (x y : Int) : Prop := impl_abs x < impl_abs y ∨ (impl_abs x = impl_abs y ∧ y ≤ x)
def cmpL (x y : Int) : Int := if impl_abs x < impl_abs y then -1 else if impl_abs y < impl_abs x then 1 else if y < x then -1 else if x < y then 1 else 0
theorem impl_compareLiterals_cmpL (x y : Int) : impl_compareLiterals x y = some (cmpL x y) := by
  have hc : ∀ a b : Int, cmp_Compare_int a b = if a < b then -1 else if b < a then 1 else 0 := fun a b => by
    unfold cmp_Compare_int cmp_isNaN_int
    simp only [BEq.rfl, Bool.not_true, cond_false]
    by_cases h1 : a < b
    · simp [h1]
    · by_cases h2 : b < a <;> simp [h1, h2]
  unfold impl_compareLiterals cmp_Or_int cmpL
  rw [hc, hc]
  by_cases h1 : impl_abs x < impl_abs y
  · simp [h1, forL, forLFrom]
  · by_cases h2 : impl_abs y < impl_abs x
    · simp [h1, h2, forL, forLFrom]
    · by_cases h3 : y < x
      · simp [h1, h2, h3, forL, forLFrom]
      · by_cases h4 : x < y <;> simp [h1, h2, h3, h4, forL, forLFrom]
theorem cmpL_neg {x y : Int} : cmpL x y < 0 ↔ impl_abs x < impl_abs y ∨ (impl_abs x = impl_abs y ∧ y < x) := by
  unfold cmpL
  split
  · omega
  · split
    · omega
    · split
      · omega
      · split <;> omega
theorem leF_lit {x y : Int} : leF (fun x0 x1 => PF.impl_compareLiterals x0 x1) x y = true ↔ litLe x y := by
  unfold leF litLe
  simp only [impl_compareLiterals_cmpL]
  rw [Bool.not_eq_true', decide_eq_false_iff_not, cmpL_neg]
  omega
theorem sort_lit {xs : List Int} (hl : xs.length < lim) : slices_SortFunc_int_int xs (fun x0 x1 => PF.impl_compareLiterals x0 x1) = some (xs.mergeSort (leF fun x0 x1 => PF.impl_compareLiterals x0 x1)) := by
  unfold slices_SortFunc_int_int sortF
  rw [if_pos]
  refine ⟨cmpL, hl, fun x _ y _ => impl_compareLiterals_cmpL x y, fun x _ => ?_, fun x _ y _ z _ h1 h2 => ?_, fun x _ y _ z _ h1 h2 => ?_, fun x _ y _ h1 h2 => ?_⟩
  · rw [cmpL_neg]; omega
  · rw [cmpL_neg] at *; omega
  · rw [cmpL_neg] at *; omega
  · rw [cmpL_neg] at *; omega
theorem sorted_lit (xs : List Int) : (xs.mergeSort (leF fun x0 x1 => PF.impl_compareLiterals x0 x1)).Pairwise litLe := by
  have := List.pairwise_mergeSort (le := leF fun x0 x1 => PF.impl_compareLiterals x0 x1) (fun a b c h1 h2 => by
    rw [leF_lit] at *; unfold litLe at *; omega) (fun a b => by
    rw [Bool.or_eq_true, leF_lit, leF_lit]; unfold litLe; omega) xs
  exact this.imp fun h => leF_lit.1 h

def noComp (t : List Int) : Bool := adj (fun a b => !(b == wr (-a))) t
theorem impl_clause_eq {c : List Int} (hl : c.length < lim) : impl_clause c = some (let t := compactL (c.mergeSort (leF fun x0 x1 => PF.impl_compareLiterals x0 x1)); bif noComp t then (t, true) else ([], false)) := by
  unfold impl_clause
  rw [slices_Clone_int_int_eq (by omega), bd_some, sort_lit hl, bd_some]
  unfold slices_Compact_int_int
  rw [bd_some]
  simp only
  generalize ht : compactL (c.mergeSort (leF fun x0 x1 => PF.impl_compareLiterals x0 x1)) = t
  have htl : t.length ≤ 4294967296 := by
    have : ∀ l : List Int, (compactL l).length ≤ l.length := by
      intro l
      induction l using compactL.induct with
      | case1 => simp [compactL]
      | case2 => simp [compactL]
      | case3 y r ih => rw [compactL, if_pos rfl]; simp only [List.length_cons] at ih ⊢; omega
      | case4 x y r h ih => rw [compactL, if_neg h]; simp only [List.length_cons] at ih ⊢; omega
    have h1 := this (c.mergeSort (leF fun x0 x1 => PF.impl_compareLiterals x0 x1))
    rw [ht, List.length_mergeSort] at h1
    unfold lim at hl; omega
  cases t with
  | nil =>
    rw [iter_bk (s' := 1) rfl]; rfl
  | cons x t =>
    have key : ∀ (m : List Int) (k : Nat), k + 1 + m.length = (x :: t).length → (∀ i y, m[i]? = some y → (x :: t)[k + 1 + i]? = some y) → iter (S := Int) (X := ((List Int) × Bool)) (fun s49 => (bif (decide (s49 < (len (x :: t)))) then bd (ix (x :: t) s49) (fun x94 => bd (ix (x :: t) (wr (s49 - 1))) (fun x102 => (bif (x94 == (wr (-x102))) then some (Lp.rt ([], false)) else some (Lp.nx (wr (s49 + 1)))))) else some (Lp.bk s49))) ((k + 1 : Nat) : Int) =
        some (bif anyI (fun i y => match i with | 0 => false | i + 1 => match (x :: t)[i]? with | some z => y == wr (-z) | none => false) m (k + 1) then .rt ([], false) else .go (((x :: t).length : Nat) : Int)) := by
      intro m
      induction m with
      | nil =>
        intro k hk _
        simp only [List.length_nil, Nat.add_zero] at hk
        rw [iter_bk (s' := ((k + 1 : Nat) : Int))]
        · rw [hk]; rfl
        · have hd : decide (((k + 1 : Nat) : Int) < len (x :: t)) = false := by rw [len_eq, ← hk]; simp
          rw [hd]; rfl
      | cons y m ih =>
        intro k hk hm
        simp only [List.length_cons (a := y)] at hk
        have hy : (x :: t)[k + 1]? = some y := by simpa using hm 0 y rfl
        have hd : decide (((k + 1 : Nat) : Int) < len (x :: t)) = true := by rw [len_eq]; simp only [decide_eq_true_eq]; omega
        have hkl : k < (x :: t).length := by omega
        have hz := List.getElem?_eq_getElem hkl
        simp only [anyI]
        cases hb : (y == wr (-(x :: t)[k])) with
        | true =>
          rw [iter_rt (x := ([], false))]
          · simp [hz, hb]
          · simp only [hd, cond_true, ix_get, hy, bd_some, wr_pred (show 0 < k + 1 by omega) (show k + 1 < (x :: t).length by omega) (by omega), Nat.add_sub_cancel, hz, hb]
        | false =>
          rw [iter_nx (s' := ((k + 1 + 1 : Nat) : Int))]
          · rw [ih (k + 1) (by omega) fun i z hz => by have := hm (i + 1) z (by simpa using hz); rwa [show k + 1 + (i + 1) = k + 1 + 1 + i by omega] at this]
            simp [hz, hb]
          · simp only [hd, cond_true, ix_get, hy, bd_some, wr_pred (show 0 < k + 1 by omega) (show k + 1 < (x :: t).length by omega) (by omega), Nat.add_sub_cancel, hz, hb, cond_false]
            rw [wr_succ (n := (x :: t).length) (by omega) (by omega)]; simp
    have hk := key t 0 (by simp; omega) (by intro i y hy; rw [show 0 + 1 + i = i + 1 by omega]; simpa using hy)
    rw [show ((0 + 1 : Nat) : Int) = 1 from rfl] at hk
    rw [hk]
    have ha := anyI_adj (l := x :: t) (p := fun i y => match i with | 0 => false | i + 1 => match (x :: t)[i]? with | some z => y == wr (-z) | none => false) (q := fun _ => false) (r := fun a b => !(b == wr (-a))) (fun _ _ => rfl) (fun i a b h1 _ => by simp only [h1]; simp)
    simp only [anyI, Bool.false_or, Nat.zero_add] at ha
    rw [show (0 + 1 : Nat) = 1 from rfl, ha]
    unfold noComp
    rw [show ((x :: t).all fun _ => !false) = true by simp]
    cases adj (fun a b => !(b == wr (-a))) (x :: t) <;> rfl

theorem slices_Concat2 {a b : List Int} (hl : a.length + b.length ≤ lim) : slices_Concat_int_int [a, b] = some (a ++ b) := by
  have hl' : a.length + b.length ≤ 4294967296 := hl
  have e1 : wr (0 + len a) = (a.length : Int) := by rw [wr_of _ (by rw [len_eq]; omega) (by rw [len_eq]; omega), len_eq]; omega
  have e2 : wr ((a.length : Int) + len b) = ((a.length + b.length : Nat) : Int) := by rw [wr_of _ (by rw [len_eq]; omega) (by rw [len_eq]; omega), len_eq]; omega
  have d1 : decide ((a.length : Int) < 0) = false := by rw [decide_eq_false_iff_not]; omega
  have d2 : decide (((a.length + b.length : Nat) : Int) < 0) = false := by rw [decide_eq_false_iff_not]; omega
  unfold slices_Concat_int_int forL
  rw [forLFrom_nx (s' := (a.length : Int)) (by rw [e1, d1]; rfl), forLFrom_nx (s' := ((a.length + b.length : Nat) : Int)) (by rw [e2, d2]; rfl), forLFrom_nil, bdR_go]
  unfold slices_Grow_int_int
  rw [if_pos (by omega), bd_some]
  rw [forLFrom_nx (s' := a) (by rw [app_ok (by simp; omega), bd_some]; rfl), forLFrom_nx (s' := a ++ b) (by rw [app_ok hl, bd_some]), forLFrom_nil, bdR_go]

/-- what comes of two merged clauses -/
def joined (a b : List Int) : List Int × Bool := match joinL a b with | some s => (s, true) | none => ([], false)
theorem clause_joined {a b : List Int} (ha : Srt a) (hb : Srt b) (sa : Sm a) (sb : Sm b) (hl : a.length + b.length < lim) : impl_clause (a ++ b) = some (joined a b) := by
  rw [impl_clause_eq (by simpa using hl)]
  simp only
  generalize ht : compactL ((a ++ b).mergeSort (leF fun x0 x1 => PF.impl_compareLiterals x0 x1)) = t
  have hm : ∀ x, x ∈ t ↔ x ∈ a ∨ x ∈ b := fun x => by rw [← ht, compactL_mem, List.mem_mergeSort, List.mem_append]
  have hs : Sm t := fun x hx => by
    rcases (hm x).1 hx with h | h
    · exact sa x h
    · exact sb x h
  have hab : ∀ x ∈ t, impl_abs x = x.natAbs := fun x hx => by
    have := hs x hx
    rw [impl_abs_eq (by unfold okI; omega), vr_abs this.1 this.2.1]
  have hlt : t.Pairwise fun x y => litLe x y ∧ x ≠ y := by
    rw [← ht]
    exact compactL_strict (fun x y h1 h2 => by unfold litLe at *; omega) (sorted_lit _)
  have hw : ∀ x ∈ t, wr (-x) = -x := fun x hx => by have := hs x hx; exact wr_of _ (by omega) (by omega)
  have hspec := joinL_spec ha sa hb sb
  unfold joined
  by_cases hex : ∃ y ∈ b, -y ∈ a
  · rw [if_pos hex] at hspec
    rw [hspec]
    have hn : noComp t = false := by
      cases hn : noComp t with
      | false => rfl
      | true =>
        exfalso
        -- neighbours have other variables, so all have
        have hsrt : Srt t := by
          refine adj_pairwise (r := fun x y => !(y == wr (-x)) && decide (x.natAbs < y.natAbs ∨ (x.natAbs = y.natAbs ∧ y < x))) (R := fun x y : Int => x.natAbs < y.natAbs) (fun _ _ _ => Nat.lt_trans) (fun x y hx hy hr => ?_) ?_
          · have h1 := hs x hx; have h2 := hs y hy
            simp only [Bool.and_eq_true, Bool.not_eq_true', beq_eq_false_iff_ne, ne_eq, decide_eq_true_eq] at hr
            rw [hw x hx] at hr
            omega
          · have hp : t.Pairwise fun x y => (decide (x.natAbs < y.natAbs ∨ (x.natAbs = y.natAbs ∧ y < x))) = true := by
              refine List.Pairwise.imp_of_mem ?_ hlt
              intro x y hx hy h
              simp only [decide_eq_true_eq]
              unfold litLe at h
              rw [hab x hx, hab y hy] at h
              omega
            have h1 := adj_of_pairwise hp
            unfold noComp at hn
            clear hp hlt hm hspec ht hs hab hw
            revert h1 hn
            generalize t = t
            intro hn h1
            induction t with
            | nil => rfl
            | cons x t ih =>
              cases t with
              | nil => rfl
              | cons y t =>
                simp only [adj, Bool.and_eq_true] at hn h1 ⊢
                exact ⟨⟨hn.1, h1.1⟩, ih hn.2 h1.2⟩
        obtain ⟨y, hy, hy2⟩ := hex
        have h1 := (hm y).2 (.inr hy)
        have h2 := (hm (-y)).2 (.inl hy2)
        have h0 := sb y hy
        -- two of one variable
        obtain ⟨i, hi⟩ := List.mem_iff_getElem?.1 h1
        obtain ⟨j, hj⟩ := List.mem_iff_getElem?.1 h2
        have hlen1 := (List.getElem?_eq_some_iff.1 hi).1
        have hlen2 := (List.getElem?_eq_some_iff.1 hj).1
        rw [List.getElem?_eq_getElem hlen1] at hi
        rw [List.getElem?_eq_getElem hlen2] at hj
        simp only [Option.some.injEq] at hi hj
        have hpw := List.pairwise_iff_getElem.1 hsrt
        rcases Nat.lt_trichotomy i j with h | h | h
        · have := hpw i j hlen1 hlen2 h; rw [hi, hj] at this; omega
        · subst h; rw [hi] at hj; omega
        · have := hpw j i hlen2 hlen1 h; rw [hi, hj] at this; omega
    rw [hn]; rfl
  · rw [if_neg hex] at hspec
    obtain ⟨s, h1, h2, h3⟩ := hspec
    rw [h1]
    have hne : ∀ x ∈ t, -x ∉ t := fun x hx hx2 => by
      have h0 := hs x hx
      rcases (hm x).1 hx with ha1 | hb1 <;> rcases (hm (-x)).1 hx2 with ha2 | hb2
      · have hpw := List.pairwise_iff_getElem.1 ha
        obtain ⟨i, hi1, hi⟩ := List.getElem_of_mem ha1
        obtain ⟨j, hj1, hj⟩ := List.getElem_of_mem ha2
        rcases Nat.lt_trichotomy i j with h | h | h
        · have := hpw i j hi1 hj1 h; rw [hi, hj] at this; omega
        · subst h; rw [hi] at hj; omega
        · have := hpw j i hj1 hi1 h; rw [hi, hj] at this; omega
      · exact hex ⟨-x, hb2, by rw [Int.neg_neg]; exact ha1⟩
      · exact hex ⟨x, hb1, ha2⟩
      · have hpw := List.pairwise_iff_getElem.1 hb
        obtain ⟨i, hi1, hi⟩ := List.getElem_of_mem hb1
        obtain ⟨j, hj1, hj⟩ := List.getElem_of_mem hb2
        rcases Nat.lt_trichotomy i j with h | h | h
        · have := hpw i j hi1 hj1 h; rw [hi, hj] at this; omega
        · subst h; rw [hi] at hj; omega
        · have := hpw j i hj1 hi1 h; rw [hi, hj] at this; omega
    have hn : noComp t = true := by
      unfold noComp
      refine adj_of_pairwise (List.Pairwise.imp_of_mem ?_ hlt)
      intro x y hx hy _
      rw [hw x hx]
      simp only [Bool.not_eq_true', beq_eq_false_iff_ne, ne_eq]
      intro e; subst e; exact hne x hx hy
    have hsrt : Srt t := by
      refine List.Pairwise.imp_of_mem ?_ hlt
      intro x y hx hy h
      unfold litLe at h
      rw [hab x hx, hab y hy] at h
      have : y ≠ -x := fun e => by subst e; exact hne x hx hy
      omega
    rw [hn]
    rw [srt_unique hsrt h2 fun x => by rw [hm, h3]]; rfl

/-! resolvents -/
def res (a b : List Int) (v : Int) : List Int × Bool := bif !a.contains v || !b.contains (wr (-v)) then ([], false) else joined (without a v) (without b v)
theorem without_len (c : List Int) (v : Int) : (without c v).length ≤ c.length := List.length_filter_le _ _
theorem spec_l2Resolve_eq {a b : List Int} {v : Int} (hl : a.length + b.length ≤ lim) : spec_l2Resolve a b v = some (res a b v) := by
  have h1 := without_len a v; have h2 := without_len b v
  unfold spec_l2Resolve res
  rw [spec_l2Has_eq, bd_some]
  cases a.contains v with
  | false => rfl
  | true =>
    simp only [Bool.not_true, cond_false, Bool.false_or]
    rw [spec_l2Has_eq, bd_some, bd_some]
    cases b.contains (wr (-v)) with
    | false => rfl
    | true =>
      simp only [Bool.not_true, cond_false]
      rw [spec_l2Without_eq (by omega), bd_some, spec_l2Without_eq (by omega), bd_some, spec_l2Join_eq (by omega), bd_some]
      unfold joined
      cases joinL (without a v) (without b v) <;> rfl
theorem IsC.sm {V : Int} {c : List Int} (h : IsC V c) : Sm c := fun l hl => by have := h.lit l hl; have := h.hi; omega
theorem impl_resolve_eq {V : Int} {a b : List Int} {v : Int} (ha : IsC V a) (hb : IsC V b) : impl_resolve a b v = some (res a b v) := by
  have h1 := without_len a v; have h2 := without_len b v
  have h3 := ha.len; have h4 := hb.len
  have hlim : lim = 4294967296 := rfl
  unfold impl_resolve res
  rw [slices_Contains_int_int_eq, bd_some]
  cases a.contains v with
  | false => rfl
  | true =>
    simp only [Bool.not_true, cond_false, Bool.false_or]
    rw [slices_Contains_int_int_eq, bd_some, bd_some]
    cases b.contains (wr (-v)) with
    | false => rfl
    | true =>
      simp only [Bool.not_true, cond_false]
      rw [impl_withoutVar_eq ha.ok.2 (by omega), bd_some, impl_withoutVar_eq hb.ok.2 (by omega), bd_some, slices_Concat2 (by omega), bd_some,
        clause_joined (a := without a v) (b := without b v) (ha.srt.sublist List.filter_sublist) (hb.srt.sublist List.filter_sublist) (fun x hx => ha.sm x (List.mem_filter.1 hx).1) (fun x hx => hb.sm x (List.mem_filter.1 hx).1) (by omega), bd_some]
end Go.PF
namespace Go.PF
open Go.Pu
/-- y is what x is, where x is something -/
structure Le {A : Type} (x y : Option A) : Prop where
  le : ∀ r, x = some r → y = some r
theorem Le.rfl' {A : Type} (x : Option A) : Le x x := ⟨fun _ h => h⟩
def iterC {S X : Type} : Nat → (S → Option (Lp S X)) → S → Option (Rs S X)
  | 0, _, _ => none
  | n + 1, b, s => match b s with
    | none => none
    | some (.nx s') => iterC n b s'
    | some (.bk s') => some (.go s')
    | some (.rt x) => some (.rt x)
theorem iterC_le {S X : Type} {f g : S → Option (Lp S X)} (h : ∀ s, Le (f s) (g s)) (n : Nat) (s : S) : Le (iterC n f s) (iter g s) := by
  constructor
  induction n generalizing s with
  | zero => intro r e; cases e
  | succ n ih =>
    intro r e
    unfold iterC at e
    split at e
    · cases e
    · rename_i s' hb; rw [iter_nx ((h s).le _ hb)]; exact ih _ _ e
    · rename_i s' hb; cases e; exact iter_bk ((h s).le _ hb)
    · rename_i x hb; cases e; exact iter_rt ((h s).le _ hb)
theorem bd_le {A B : Type} {x y : Option A} {k l : A → Option B} (h : Le x y) (hk : ∀ a, Le (k a) (l a)) : Le (bd x k) (bd y l) := by
  constructor
  intro r e
  obtain ⟨a, h1, h2⟩ := bnd e
  rw [h.le _ h1, bd_some]; exact (hk a).le _ h2
theorem bdR_le {S X B : Type} {x y : Option (Rs S X)} {k k' : S → Option B} {l l' : X → Option B} (h : Le x y) (hk : ∀ a, Le (k a) (k' a)) (hl : ∀ a, Le (l a) (l' a)) : Le (bdR x k l) (bdR y k' l') := by
  unfold bdR
  refine bd_le h fun a => ?_
  cases a with
  | go s => exact hk s
  | rt x => exact hl x
theorem bif_le {A : Type} {c : Bool} {x x' y y' : Option A} (h : Le x x') (h' : Le y y') : Le (bif c then x else y) (bif c then x' else y') := by
  cases c
  · exact h'
  · exact h
theorem forFrom_le {S X : Type} {f g : Nat → S → Option (Lp S X)} (h : ∀ i s, Le (f i s) (g i s)) : ∀ (n i : Nat) (s : S), Le (forFrom f n i s) (forFrom g n i s) := by
  intro n
  induction n with
  | zero => intro i s; exact Le.rfl' _
  | succ n ih =>
    intro i s
    constructor
    intro r e
    unfold forFrom at e ⊢
    split at e
    · cases e
    · rename_i s' hb; rw [(h i s).le _ hb]; exact (ih _ _).le _ e
    · rename_i s' hb; rw [(h i s).le _ hb]; exact e
    · rename_i x hb; rw [(h i s).le _ hb]; exact e
theorem forR_le {S X : Type} {f g : Nat → S → Option (Lp S X)} (h : ∀ i s, Le (f i s) (g i s)) (a n : Nat) (s : S) : Le (forR a n f s) (forR a n g s) := forFrom_le h _ _ _
end Go.PF
namespace Go.PF
open Go.Pu
def c_spec_l2Parse (a0 : Int) (a1 : ByteArray) : Option ((List Int) × Bool) :=
  (bif (a1.toList == (ByteArray.mk #[110, 111, 110, 101]).toList) then some ([], (PF.spec_l2Vars a0)) else bd (PF.spec_l1Split a1 32) (fun r30 => bdR (iterC 70 (S := ((List Int) × Int)) (X := ((List Int) × Bool)) (fun s40 => (bif (bif (decide (s40.2 < (len r30))) then (decide (s40.2 ≤ 12)) else false) then bd (ix r30 s40.2) (fun x134 => bd (PF.spec_l1Read x134) (fun r136 => (bif (!r136.2) then some (Lp.rt ([], false)) else bd (app s40.1 [r136.1]) (fun xs152 => some (Lp.nx (xs152, (wr (s40.2 + 1)))))))) else some (Lp.bk (s40.1, s40.2)))) ([], 0)) (fun s40 => bd (bif (decide (12 < (len r30))) then some true else bd (PF.spec_l2Clause a0 s40.1) (fun r195 => some (!r195))) (fun t183 => bd (bif t183 then some true else bd (PF.spec_l2Text s40.1) (fun r225 => some (!(r225.toList == a1.toList)))) (fun t213 => (bif t213 then some ([], false) else some (s40.1, true))))) (fun x40 => some x40)))
theorem c_spec_l2Parse_le : ∀ (a0 : Int) (a1 : ByteArray), Le (c_spec_l2Parse a0 a1) (spec_l2Parse a0 a1) := by
  intro a0 a1
  unfold c_spec_l2Parse spec_l2Parse
  repeat' first | with_reducible exact Le.rfl' _  | with_reducible apply iterC_le | with_reducible apply bdR_le | with_reducible apply bd_le | with_reducible apply forR_le | with_reducible apply bif_le | exact Empty.elim (by assumption) | intro _
def c_spec_l2TextOf (a0 : Cnf) : Option ByteArray :=
  bd (PF.spec_l1Num a0.vars) (fun r29 => bdR (iterC 70 (S := (ByteArray × Int)) (X := Empty) (fun s34 => (bif (decide (s34.2 < (len a0.clauses))) then bd (catS s34.1 (ByteArray.mk #[59, 32])) (fun z72 => bd (ix a0.clauses s34.2) (fun x80 => bd (PF.spec_l2Text x80) (fun r84 => bd (catS z72 r84) (fun z89 => some (Lp.nx (z89, (wr (s34.2 + 1)))))))) else some (Lp.bk (s34.1, s34.2)))) (r29, 0)) (fun s34 => some s34.1) (fun x34 => nomatch x34))
theorem c_spec_l2TextOf_le : ∀ (a0 : Cnf), Le (c_spec_l2TextOf a0) (spec_l2TextOf a0) := by
  intro a0
  unfold c_spec_l2TextOf spec_l2TextOf
  repeat' first | with_reducible exact Le.rfl' _  | with_reducible apply iterC_le | with_reducible apply bdR_le | with_reducible apply bd_le | with_reducible apply forR_le | with_reducible apply bif_le | exact Empty.elim (by assumption) | intro _
def c_spec_ParseCnf (a0 : ByteArray) : Option (Cnf × Bool) :=
  bd (PF.spec_l1Split a0 59) (fun r25 => bd (ix r25 0) (fun x41 => bd (PF.spec_l1Read x41) (fun r43 => (bif (bif (bif (!r43.2) then true else (!(PF.spec_l2Vars r43.1))) then true else (decide (61 < (len r25)))) then some ((Cnf.mk 0 []), false) else bdR (iterC 70 (S := ((List (List Int)) × Int × Int)) (X := (Cnf × Bool)) (fun s94 => (bif (decide (s94.2.2 < (len r25))) then bd (ix r25 s94.2.2) (fun x334 => bd (bif (decide ((x334.size : Int) < 2)) then some true else bd (ix r25 s94.2.2) (fun x359 => bd (ixS x359 0) (fun z361 => some (!(z361 == 32))))) (fun t346 => (bif t346 then some (Lp.rt ((Cnf.mk 0 []), false)) else bd (ix r25 s94.2.2) (fun x380 => bd (cutS x380 1 (x380.size : Int)) (fun z382 => bd (PF.c_spec_l2Parse r43.1 z382) (fun r384 => (bif (!r384.2) then some (Lp.rt ((Cnf.mk 0 []), false)) else bd (app s94.1 [r384.1]) (fun xs409 => some (Lp.nx (xs409, s94.2.1, (wr (s94.2.2 + 1)))))))))))) else some (Lp.bk (s94.1, s94.2.1, s94.2.2)))) ([], r43.1, 1)) (fun s94 => bd (PF.c_spec_l2TextOf (Cnf.mk s94.2.1 s94.1)) (fun r439 => (bif (!(r439.toList == a0.toList)) then some ((Cnf.mk 0 []), false) else some ((Cnf.mk s94.2.1 s94.1), true)))) (fun x94 => some x94)))))
theorem c_spec_ParseCnf_le : ∀ (a0 : ByteArray), Le (c_spec_ParseCnf a0) (spec_ParseCnf a0) := by
  intro a0
  have h_spec_l2Parse := c_spec_l2Parse_le
  have h_spec_l2TextOf := c_spec_l2TextOf_le
  unfold c_spec_ParseCnf spec_ParseCnf
  repeat' first | with_reducible exact Le.rfl' _ | with_reducible exact h_spec_l2Parse _ _ | with_reducible exact h_spec_l2TextOf _ | with_reducible apply iterC_le | with_reducible apply bdR_le | with_reducible apply bd_le | with_reducible apply forR_le | with_reducible apply bif_le | exact Empty.elim (by assumption) | intro _
def c_spec_l2Known (a0 : ByteArray) : Option Cnf :=
  bd (PF.c_spec_ParseCnf a0) (fun r25 => some r25.1)
theorem c_spec_l2Known_le : ∀ (a0 : ByteArray), Le (c_spec_l2Known a0) (spec_l2Known a0) := by
  intro a0
  have h_spec_ParseCnf := c_spec_ParseCnf_le
  unfold c_spec_l2Known spec_l2Known
  repeat' first | with_reducible exact Le.rfl' _ | with_reducible exact h_spec_ParseCnf _ | with_reducible apply iterC_le | with_reducible apply bdR_le | with_reducible apply bd_le | with_reducible apply forR_le | with_reducible apply bif_le | exact Empty.elim (by assumption) | intro _
def knownB (t : ByteArray) : Bool := match c_spec_l2Known t with
  | some f => cnfB f && decide (f.vars ≤ 4)
  | none => false
theorem knownB_all : (spec_l2Hard.all knownB) = true := by decide +kernel
theorem known_ok {t : ByteArray} (h : t ∈ spec_l2Hard) : ∃ f, spec_l2Known t = some f ∧ cnfB f = true ∧ f.vars ≤ 4 := by
  have h1 := List.all_eq_true.1 knownB_all t h
  unfold knownB at h1
  cases hc : c_spec_l2Known t with
  | none => rw [hc] at h1; cases h1
  | some f =>
    rw [hc] at h1
    simp only [Bool.and_eq_true, decide_eq_true_eq] at h1
    exact ⟨f, (c_spec_l2Known_le t).le _ hc, h1.1, h1.2⟩
end Go.PF
