/- Literals, clauses, families of clauses; what both packages ask of them. -/
import Derived.Test.YtjkhehplbjempaaGreatDoorDtPl2
namespace Go.PF
open Go.Pu

/-- the variable of a literal -/
def vr (l : Int) : Int := bif decide (l < 0) then wr (-l) else l
theorem spec_l2Var_eq (l : Int) : spec_l2Var l = vr l := rfl
theorem vr_abs {l : Int} (h1 : -12 ≤ l) (h2 : l ≤ 12) : vr l = l.natAbs := by
  unfold vr
  by_cases h : l < 0
  · simp only [h, decide_true, cond_true]; rw [wr_of _ (by omega) (by omega)]; omega
  · simp only [h, decide_false, cond_false]; omega
theorem impl_abs_eq {l : Int} (h : okI l) : impl_abs l = vr l := by
  obtain ⟨h1, h2⟩ := h
  unfold impl_abs vr mx
  by_cases h0 : l < 0
  · simp only [h0, decide_true, cond_true]
    by_cases hm : l = -9223372036854775808
    · subst hm; decide
    · rw [wr_of _ (by omega) (by omega), if_pos (by omega)]
  · simp only [h0, decide_false, cond_false]
    rw [wr_of _ (by omega) (by omega)]
    by_cases hz : l = 0
    · subst hz; rfl
    · rw [if_neg (by omega)]

def inB (a b c : Int) : Bool := decide (b ≤ a) && decide (a ≤ c)
theorem inB_iff {a b c : Int} : inB a b c = true ↔ b ≤ a ∧ a ≤ c := by simp [inB]
theorem spec_l1In_eq (a b c : Int) : spec_l1In a b c = inB a b c := by simp [spec_l1In, inB]
theorem impl_within_eq (a b c : Int) : impl_within a b c = inB a b c := by simp [impl_within, inB]
def varsB (v : Int) : Bool := inB v 0 12
theorem varsB_iff {v : Int} : varsB v = true ↔ 0 ≤ v ∧ v ≤ 12 := inB_iff
theorem spec_l2Vars_eq (v : Int) : spec_l2Vars v = varsB v := spec_l1In_eq _ _ _
theorem impl_varsOk_eq (v : Int) : impl_varsOk v = varsB v := impl_within_eq _ _ _
def litB (v l : Int) : Bool := inB l (wr (-v)) v && !(l == 0)
theorem spec_l2Lit_eq (v l : Int) : spec_l2Lit v l = litB v l := by simp [spec_l2Lit, litB, spec_l1In_eq]
theorem impl_isLiteral_eq (v l : Int) : impl_isLiteral v l = litB v l := by simp [impl_isLiteral, litB, impl_within_eq, Bool.and_comm]
theorem impl_isVar_eq (v a : Int) : impl_isVar v a = inB a 1 v := impl_within_eq _ _ _

def clauseB (v : Int) (c : List Int) : Bool := varsB v && (c.all (litB v) && adj (fun a b => decide (vr a < vr b)) c)

theorem spec_l2Clause_eq {v : Int} {c : List Int} (hc : okL okI c) : spec_l2Clause v c = some (clauseB v c) := by
  unfold spec_l2Clause clauseB
  rw [spec_l2Vars_eq]
  cases hv : varsB v with
  | false => rfl
  | true =>
    simp only [Bool.not_true, cond_false, Bool.true_and]
    rw [forL_any (p := fun i y => !litB v y || match i with | 0 => false | i + 1 => match c[i]? with | some x => decide (vr y ≤ vr x) | none => false) (v := false) (fun i y hy => by
      rw [spec_l2Lit_eq]
      cases hl : litB v y with
      | false => simp
      | true =>
        cases i with
        | zero => simp
        | succ i =>
          have hi : i + 1 < c.length := (List.getElem?_eq_some_iff.1 hy).1
          have hp : decide ((0 : Int) < ((i + 1 : Nat) : Int)) = true := by simp
          rw [hp, wr_pred (by omega) hi hc.1, ix_get]
          simp only [Nat.add_sub_cancel]
          rw [List.getElem?_eq_getElem (show i < c.length by omega)]
          simp only [Bool.not_true, cond_false, cond_true, bd_some, Bool.false_or, spec_l2Var_eq]
          rfl)]
    rw [anyI_adj (q := fun y => !litB v y) (r := fun a b => decide (vr a < vr b)) (by intro y _; simp) (by
      intro i x y hx hy
      simp only [hx]
      congr 1
      by_cases h : vr x < vr y
      · simp [h]
      · simp [h]; omega)]
    simp only [Bool.not_not]
    cases (c.all fun y => litB v y) && adj (fun a b => decide (vr a < vr b)) c <;> rfl
theorem impl_IsClause_eq {v : Int} {c : List Int} (hc : okL okI c) : impl_IsClause v c = some (clauseB v c) := by
  unfold impl_IsClause clauseB
  rw [impl_varsOk_eq]
  rw [forL_any (p := fun i y => !litB v y || match i with | 0 => false | i + 1 => match c[i]? with | some x => decide (vr y ≤ vr x) | none => false) (v := false) (fun i y hy => by
      rw [impl_isLiteral_eq]
      cases hl : litB v y with
      | false => simp
      | true =>
        cases i with
        | zero => simp
        | succ i =>
          have hi : i + 1 < c.length := (List.getElem?_eq_some_iff.1 hy).1
          have hp : decide ((0 : Int) < ((i + 1 : Nat) : Int)) = true := by simp
          rw [hp, wr_pred (by omega) hi hc.1, ix_get]
          simp only [Nat.add_sub_cancel]
          rw [List.getElem?_eq_getElem (show i < c.length by omega)]
          simp only [Bool.not_true, cond_false, cond_true, bd_some, Bool.false_or]
          rw [impl_abs_eq (hc.2 _ (List.mem_of_getElem? hy)), impl_abs_eq (hc.2 _ (List.getElem_mem _))])]
  rw [anyI_adj (q := fun y => !litB v y) (r := fun a b => decide (vr a < vr b)) (by intro y _; simp) (by
      intro i x y hx hy
      simp only [hx]
      congr 1
      by_cases h : vr x < vr y
      · simp [h]
      · simp [h]; omega)]
  simp only [Bool.not_not]
  cases (c.all fun y => litB v y) && adj (fun a b => decide (vr a < vr b)) c <;> simp

/-- a clause, told by its elements -/
structure IsC (v : Int) (c : List Int) : Prop where
  lo : 0 ≤ v
  hi : v ≤ 12
  lit : ∀ l ∈ c, -v ≤ l ∧ l ≤ v ∧ l ≠ 0
  srt : c.Pairwise fun a b => a.natAbs < b.natAbs
theorem adj_pairwise {α : Type} {r : α → α → Bool} {R : α → α → Prop} (ht : ∀ a b c, R a b → R b c → R a c) : ∀ {l : List α}, (∀ a b, a ∈ l → b ∈ l → r a b = true → R a b) → adj r l = true → l.Pairwise R := by
  intro l
  induction l with
  | nil => intro _ _; exact .nil
  | cons a l ih =>
    intro hr h
    cases l with
    | nil => simp
    | cons b l =>
      simp only [adj, Bool.and_eq_true] at h
      have hp := ih (fun x y hx hy => hr x y (by simp [hx]) (by simp [hy])) h.2
      have hab := hr a b (by simp) (by simp) h.1
      refine List.pairwise_cons.2 ⟨fun x hx => ?_, hp⟩
      rcases List.mem_cons.1 hx with rfl | hx
      · exact hab
      · exact ht _ _ _ hab ((List.pairwise_cons.1 hp).1 x hx)
theorem adj_of_pairwise {α : Type} {r : α → α → Bool} {l : List α} (h : l.Pairwise fun a b => r a b = true) : adj r l = true := by
  induction l with
  | nil => rfl
  | cons a l ih =>
    cases l with
    | nil => rfl
    | cons b l =>
      obtain ⟨h1, h2⟩ := List.pairwise_cons.1 h
      simp only [adj, Bool.and_eq_true]
      exact ⟨h1 b (by simp), ih h2⟩
theorem litB_iff {v l : Int} (h1 : 0 ≤ v) (h2 : v ≤ 12) : litB v l = true ↔ -v ≤ l ∧ l ≤ v ∧ l ≠ 0 := by
  unfold litB
  rw [wr_of _ (by omega) (by omega)]
  simp [inB]; omega
theorem clauseB_iff {v : Int} {c : List Int} : clauseB v c = true ↔ IsC v c := by
  unfold clauseB
  rw [Bool.and_eq_true, Bool.and_eq_true, varsB_iff, List.all_eq_true]
  constructor
  · rintro ⟨⟨h1, h2⟩, h3, h4⟩
    have hl : ∀ l ∈ c, -v ≤ l ∧ l ≤ v ∧ l ≠ 0 := fun l hl => (litB_iff h1 h2).1 (h3 l hl)
    refine ⟨h1, h2, hl, adj_pairwise (R := fun a b : Int => a.natAbs < b.natAbs) (fun _ _ _ => Nat.lt_trans) (fun a b ha hb hr => ?_) h4⟩
    have := hl a ha; have := hl b hb
    simp only [decide_eq_true_eq] at hr
    rw [vr_abs (by omega) (by omega), vr_abs (by omega) (by omega)] at hr
    omega
  · rintro ⟨h1, h2, h3, h4⟩
    refine ⟨⟨h1, h2⟩, fun l hl => (litB_iff h1 h2).2 (h3 l hl), adj_of_pairwise (List.Pairwise.imp_of_mem ?_ h4)⟩
    intro a b ha hb hr
    have := h3 a ha; have := h3 b hb
    simp only [decide_eq_true_eq]
    rw [vr_abs (by omega) (by omega), vr_abs (by omega) (by omega)]
    omega
theorem srt_len : ∀ {c : List Int} {k n : Nat}, c.Pairwise (fun a b => a.natAbs < b.natAbs) → (∀ l ∈ c, k < l.natAbs ∧ l.natAbs ≤ n) → c.length + k ≤ max k n := by
  intro c
  induction c with
  | nil => intro k n _ _; simp; omega
  | cons a c ih =>
    intro k n h hl
    obtain ⟨h1, h2⟩ := List.pairwise_cons.1 h
    have ha := hl a (by simp)
    have := ih (k := a.natAbs) (n := n) h2 fun l hm => ⟨h1 l hm, (hl l (by simp [hm])).2⟩
    simp only [List.length_cons]; omega
theorem IsC.len {v : Int} {c : List Int} (h : IsC v c) : c.length ≤ 12 := by
  have := srt_len (k := 0) (n := 12) h.srt fun l hl => by have := h.lit l hl; have := h.hi; omega
  omega
theorem IsC.ok {v : Int} {c : List Int} (h : IsC v c) : okL okI c := by
  refine ⟨by have := h.len; omega, fun l hl => ?_⟩
  have := h.lit l hl; have := h.hi
  unfold okI; omega

/-! families -/
def cnfB (f : Cnf) : Bool := varsB f.vars && decide (len f.clauses ≤ 60) && f.clauses.all (clauseB f.vars)
theorem spec_l2Good_eq {f : Cnf} (hf : okCnf f) : spec_l2Good f = some (cnfB f) := by
  unfold spec_l2Good cnfB
  rw [spec_l2Vars_eq]
  cases hv : varsB f.vars with
  | false => rfl
  | true =>
    have e : (decide (60 < len f.clauses)) = !decide (len f.clauses ≤ 60) := by
      by_cases h : len f.clauses ≤ 60
      · simp [h]
      · simp [h]; omega
    simp only [Bool.not_true, cond_false, Bool.true_and]
    rw [e]
    cases hl : decide (len f.clauses ≤ 60) with
    | false => rfl
    | true =>
      have hlen : f.clauses.length ≤ 60 := by have := of_decide_eq_true hl; rw [len_eq] at this; omega
      simp only [Bool.not_true, cond_false, Bool.true_and]
      rw [iter_any (xs := f.clauses) (p := fun _ c => !clauseB f.vars c) (v := false) (fun i y hy => by
        have hi := (List.getElem?_eq_some_iff.1 hy).1
        have hd : decide ((i : Int) < len f.clauses) = true := by rw [len_eq]; simp; omega
        rw [hd, ix_get, hy]
        simp only [cond_true, bd_some]
        rw [spec_l2Clause_eq (hf.2.2 _ (List.mem_of_getElem? hy)), bd_some]
        cases clauseB f.vars y with
        | false => simp only [Bool.not_false, cond_true]
        | true => rw [wr_succ hi (by omega)]) (by
        have hd : decide (((f.clauses.length : Nat) : Int) < len f.clauses) = false := by rw [len_eq]; simp
        rw [hd, cond_false])]
      rw [anyI_any, show (f.clauses.any fun y => !clauseB f.vars y) = !f.clauses.all (clauseB f.vars) by rw [List.all_eq_not_any_not, Bool.not_not]]
      cases f.clauses.all (clauseB f.vars) <;> rfl
theorem impl_IsCnf_eq {f : Cnf} (hf : okCnf f) : impl_IsCnf f = some (cnfB f) := by
  unfold impl_IsCnf cnfB
  rw [impl_varsOk_eq]
  rw [forL_any (p := fun _ c => !clauseB f.vars c) (v := false) (fun i y hy => by
    rw [impl_IsClause_eq (hf.2.2 _ (List.mem_of_getElem? hy)), bd_some])]
  rw [anyI_any, show (f.clauses.any fun y => !clauseB f.vars y) = !f.clauses.all (clauseB f.vars) by rw [List.all_eq_not_any_not, Bool.not_not]]
  cases f.clauses.all (clauseB f.vars) <;> simp

/-! lists of numbers -/
theorem spec_l1Same_eq (a b : List Int) : spec_l1Same a b = some (a == b) := by
  unfold spec_l1Same
  rw [len_eq, len_eq]
  by_cases hl : a.length = b.length
  · have : (((a.length : Nat) : Int) == ((b.length : Nat) : Int)) = true := by simp [hl]
    rw [this]
    simp only [Bool.not_true, cond_false]
    rw [forL_any (p := fun i y => match b[i]? with | some x => !(y == x) | none => false) (v := false) (fun i y hy => by
      have hi := (List.getElem?_eq_some_iff.1 hy).1
      rw [ix_get, List.getElem?_eq_getElem (by omega), bd_some])]
    have e : anyI (fun i y => match b[i]? with | some x => !(y == x) | none => false) a 0 = !(a == b) := by
      by_cases hab : a = b
      · subst hab
        rw [show (a == a) = true by simp]
        rw [anyI_false.2]; rfl
        intro i y hy; rw [Nat.zero_add, hy]; simp
      · rw [show (a == b) = false by simpa using hab]
        cases h : anyI (fun i y => match b[i]? with | some x => !(y == x) | none => false) a 0 with
        | true => rfl
        | false =>
          exfalso; apply hab
          rw [anyI_false] at h
          apply List.ext_getElem hl
          intro i h1 h2
          have := h i a[i] (by simp [h1])
          rw [Nat.zero_add, List.getElem?_eq_getElem h2] at this
          simpa using this
    rw [e]; cases a == b <;> rfl
  · have : (((a.length : Nat) : Int) == ((b.length : Nat) : Int)) = false := by simp; omega
    rw [this]
    have : (a == b) = false := by
      rw [beq_eq_false_iff_ne]; intro e; subst e; exact hl rfl
    rw [this]; rfl
theorem slices_Equal_int_int_eq (a b : List Int) : slices_Equal_int_int a b = some (a == b) := spec_l1Same_eq a b
theorem spec_l1Has_eq (c : List Int) (l : Int) : spec_l1Has c l = some (c.contains l) := by
  unfold spec_l1Has
  rw [forL_any (p := fun _ y => y == l) (v := true) (fun i y _ => rfl), anyI_any]
  rw [show (c.any fun y => y == l) = c.contains l by induction c with | nil => rfl | cons x c ih => rw [List.any_cons, List.contains_cons, ih, Bool.beq_comm]]
  cases c.contains l <;> rfl
theorem spec_l2Has_eq (c : List Int) (l : Int) : spec_l2Has c l = some (c.contains l) := by unfold spec_l2Has; rw [spec_l1Has_eq]; rfl
theorem contains_any (c : List Int) (l : Int) : (c.any fun y => l == y) = c.contains l := by induction c with
  | nil => rfl
  | cons x c ih => rw [List.any_cons, List.contains_cons, ih]
theorem slices_Index_int_int_ge (c : List Int) (l : Int) : ∃ r, slices_Index_int_int c l = some r ∧ decide (0 ≤ r) = c.contains l := by
  unfold slices_Index_int_int
  rw [forL_find (p := fun _ y => l == y) (v := fun i _ => (i : Int)) (fun i y _ => rfl)]
  cases h : findI (fun _ y => l == y) c 0 with
  | none =>
    refine ⟨-1, rfl, ?_⟩
    have := findI_none.1 h
    rw [anyI_any, contains_any] at this; rw [this]; rfl
  | some z =>
    obtain ⟨_, _, _, h4⟩ := findI_some h
    rw [anyI_any, contains_any] at h4
    exact ⟨_, rfl, by rw [h4]; simp⟩
theorem slices_Contains_int_int_eq (c : List Int) (l : Int) : slices_Contains_int_int c l = some (c.contains l) := by
  obtain ⟨r, h1, h2⟩ := slices_Index_int_int_ge c l
  unfold slices_Contains_int_int; rw [h1, bd_some, h2]
theorem slices_IndexFunc_int_int_ge {c : List Int} {f : Int → Option Bool} {g : Int → Bool} (h : ∀ y ∈ c, f y = some (g y)) : ∃ r, slices_IndexFunc_int_int c f = some r ∧ decide (0 ≤ r) = c.any g ∧ (∀ z, findI (fun _ y => g y) c 0 = some z → r = z.1) ∧ (findI (fun _ y => g y) c 0 = none → r = -1) := by
  unfold slices_IndexFunc_int_int
  rw [forL_find (p := fun _ y => g y) (v := fun i _ => (i : Int)) (fun i y hy => by rw [h y (List.mem_of_getElem? hy), bd_some])]
  cases hf : findI (fun _ y => g y) c 0 with
  | none =>
    refine ⟨-1, rfl, ?_, nofun, fun _ => rfl⟩
    have := findI_none.1 hf
    rw [anyI_any] at this; rw [this]; rfl
  | some z =>
    obtain ⟨_, _, _, h4⟩ := findI_some hf
    rw [anyI_any] at h4
    exact ⟨_, rfl, by rw [h4]; simp, fun z' hz => (by cases hz; rfl), nofun⟩
theorem slices_ContainsFunc_int_int_eq {c : List Int} {f : Int → Option Bool} {g : Int → Bool} (h : ∀ y ∈ c, f y = some (g y)) : slices_ContainsFunc_int_int c f = some (c.any g) := by
  obtain ⟨r, h1, h2, _⟩ := slices_IndexFunc_int_int_ge h
  unfold slices_ContainsFunc_int_int; rw [h1, bd_some, h2]
def partB (a b : List Int) : Bool := a.all fun y => b.contains y
theorem spec_l2Sub_eq (a b : List Int) : spec_l2Sub a b = some (partB a b) := by
  unfold spec_l2Sub partB
  rw [forL_any (p := fun _ y => !b.contains y) (v := false) (fun i y _ => by rw [spec_l2Has_eq, bd_some]), anyI_any, show (a.any fun y => !b.contains y) = !a.all fun y => b.contains y by rw [List.all_eq_not_any_not, Bool.not_not]]
  cases a.all fun y => b.contains y <;> rfl
theorem impl_part_eq (a b : List Int) : impl_part a b = some (partB a b) := by
  unfold impl_part partB
  rw [slices_ContainsFunc_int_int_eq (g := fun y => !b.contains y) (fun y _ => by unfold impl_part_1; rw [slices_Contains_int_int_eq, bd_some]), bd_some, List.all_eq_not_any_not]
end Go.PF
