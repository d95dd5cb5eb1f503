/- The frame of a law, type by type: sizes, copies, comparisons, marks. Literals, clauses, families of clauses; what both packages ask of them. Resolvents: the merged list of one package is the sorted list of the other. Resolvents and derivations: both packages answer alike. Derivations: both packages accept the same ones. Sets of ints as ascending lists; the pivots of a proof. DropWeakenings: the law. Clauses under an assignment; loops that count up, whatever the order of their state. -/
import Derived.Test.YtmpfnnkmplkfoaaGreatCiPf
namespace Go.PF
open Go.Pu

def big : Int := 9223372036854775807
def wIntS (a : List Int) : Nat := a.length
def wIntSS (a : List (List Int)) : Nat := a.length + tot wIntS a
def wCnf (a : Cnf) : Nat := wIntSS a.clauses
theorem sz_IntS {a : List Int} {s : Int} (ha : okL okI a) (h0 : 0 ≤ s) (h1 : s ≤ 1048576) : laws_szIntS a s < 0 ∨ laws_szIntS a s + wIntS a = s := by
  have := ha.1
  unfold laws_szIntS wIntS
  rw [wr_of _ (by rw [len_eq]; omega) (by rw [len_eq]; omega)]
  by_cases h : s - len a < 0
  · left; simp [h]
  · right; simp only [h, decide_false, cond_false]; rw [len_eq]; omega
theorem sz_IntSS {a : List (List Int)} {s : Int} (ha : okL (okL okI) a) (h0 : 0 ≤ s) (h1 : s ≤ 1048576) : ∃ r, laws_szIntSS a s = some r ∧ (r < 0 ∨ r + wIntSS a = s) :=
  sz_list (sz := fun y s => some (laws_szIntS y s)) (wt := wIntS) (fun _ _ _ => rfl) (fun y hy _ h0 h1 => ⟨_, rfl, sz_IntS (ha.2 y hy) h0 h1⟩) ha.1 h0 h1
theorem sz_Cnf {a : Cnf} {s : Int} (ha : okCnf a) (h0 : 0 ≤ s) (h1 : s ≤ 1048576) : ∃ r, laws_szCnf a s = some r ∧ (r < 0 ∨ r + wCnf a = s) := by
  obtain ⟨r, h2, h3⟩ := sz_IntSS ha.2 h0 h1
  unfold laws_szCnf
  rw [h2, bd_some]
  by_cases h : r < 0
  · exact ⟨-1, by simp [h], .inl (by omega)⟩
  · exact ⟨r, by simp [h], h3⟩
theorem to_IntS {a : List Int} (h : wIntS a ≤ lim) : laws_toIntS a = some a := by
  have := to_list (β := Int) (g := fun y => some y) (h := id) (z := 0) (l := a) (f := fun i y s => bd (ix s (i : Int)) fun _ => bd (put s (i : Int) y) fun xs => some (.nx xs)) (fun _ _ _ => rfl) (fun _ _ => rfl) h
  rw [List.map_id] at this; exact this
theorem to_IntSS {a : List (List Int)} (h : wIntSS a ≤ lim) : laws_toIntSS a = some a := by
  have := to_list (g := laws_toIntS) (h := id) (z := []) (l := a) (fun _ _ _ => rfl) (fun y hy => to_IntS (by have := tot_mem (wt := wIntS) hy; unfold wIntSS at h; omega)) (by unfold wIntSS at h; omega)
  rw [List.map_id] at this; exact this
theorem to_Cnf {a : Cnf} (h : wCnf a ≤ lim) : laws_toCnf a = some a := by
  unfold laws_toCnf; rw [to_IntSS h]; rfl
theorem eq_IntS (a : List Int) : laws_eqIntS a a = some true :=
  eq_list (eq := fun y x => some (y == x)) (fun _ _ _ => rfl) (fun y _ => by simp)
theorem eq_IntSS (a : List (List Int)) : laws_eqIntSS a a = some true := eq_list (eq := laws_eqIntS) (fun _ _ _ => rfl) (fun y _ => eq_IntS y)
theorem eq_Cnf (a : Cnf) : laws_eqCnf a a = some true := by unfold laws_eqCnf; rw [eq_IntSS]; simp
theorem tot_one {A : Type} (l : List A) : tot (fun _ => 1) l = l.length := by induction l with
  | nil => rfl
  | cons _ l ih => simp [tot, ih]; omega
theorem mark_IntS {a : List Int} {k : Int} (h0 : 0 ≤ k) (h1 : k + a.length ≤ big) : (laws_markIntS a k).2 = k + a.length := by
  have := mark_end (F := fun (_ : Int) m => (m, wr (m + 1))) (wt := fun _ => 1) (l := a) (k := k) (fun y _ k h0 h1 => wr_of _ (by omega) (by omega)) h0 (by rw [tot_one]; exact h1)
  rw [tot_one] at this; exact this
theorem mark_IntSS {a : List (List Int)} {k : Int} (h0 : 0 ≤ k) (h1 : k + tot wIntS a ≤ big) : (laws_markIntSS a k).2 = k + tot wIntS a :=
  mark_end (wt := wIntS) (fun _ _ _ h0 h1 => mark_IntS h0 h1) h0 h1
theorem mark_Cnf {a : Cnf} {k : Int} (h0 : 0 ≤ k) (h1 : k + tot wIntS a.clauses ≤ big) : (laws_markCnf a k).2 = k + tot wIntS a.clauses := mark_IntSS h0 h1
theorem held_IntS {a : List Int} {k : Int} (h0 : 0 ≤ k) (h1 : k + a.length ≤ big) : laws_heldIntS (laws_markIntS a k).1 k = some (laws_markIntS a k).2 := by
  have := held_list (F := fun (_ : Int) m => (m, wr (m + 1))) (wt := fun _ => 1) (l := a) (k := k) (i := 0) (f := fun _ y s => bif !(y == s) then some (.rt (-1)) else some (.nx (wr (s + 1)))) (fun y _ k h0 h1 => ⟨wr_of _ (by omega) (by omega), fun i => by simp⟩) h0 (by rw [tot_one]; exact h1)
  unfold laws_heldIntS forL
  unfold laws_markIntS
  rw [this]; rfl
theorem held_IntSS {a : List (List Int)} {k : Int} (h0 : 0 ≤ k) (h1 : k + tot wIntS a ≤ big) : laws_heldIntSS (laws_markIntSS a k).1 k = some (laws_markIntSS a k).2 := by
  unfold laws_heldIntSS forL laws_markIntSS
  rw [held_list (wt := wIntS) (fun y _ k h0 h1 => ?_) h0 h1]
  · rfl
  · have e := mark_IntS (a := y) h0 h1
    have hh := held_IntS (a := y) h0 h1
    refine ⟨e, fun i => ?_⟩
    rw [hh, bd_some]
    have hd : decide ((laws_markIntS y k).2 < 0) = false := by rw [decide_eq_false_iff_not, e]; omega
    rw [hd]; rfl
end Go.PF
namespace Go.PF
open Go.Pu

def vr (l : Int) : Int := bif decide (l < 0) then wr (-l) else l
theorem spec_l2Var_eq (l : Int) : spec_l2Var l = vr l := rfl
theorem vr_abs {l : Int} (h1 : -12 ≤ l) (h2 : l ≤ 12) : vr l = l.natAbs := by
  unfold vr
  by_cases h : l < 0
  · simp only [h, decide_true, cond_true]; rw [wr_of _ (by omega) (by omega)]; omega
  · simp only [h, decide_false, cond_false]; omega
theorem impl_abs_eq {l : Int} (h : okI l) : impl_abs l = vr l := by
  obtain ⟨h1, h2⟩ := h
  unfold impl_abs vr mx
  by_cases h0 : l < 0
  · simp only [h0, decide_true, cond_true]
    by_cases hm : l = -9223372036854775808
    · subst hm; decide
    · rw [wr_of _ (by omega) (by omega), if_pos (by omega)]
  · simp only [h0, decide_false, cond_false]
    rw [wr_of _ (by omega) (by omega)]
    by_cases hz : l = 0
    · subst hz; rfl
    · rw [if_neg (by omega)]

def inB (a b c : Int) : Bool := decide (b ≤ a) && decide (a ≤ c)
theorem inB_iff {a b c : Int} : inB a b c = true ↔ b ≤ a ∧ a ≤ c := by simp [inB]
theorem spec_l1In_eq (a b c : Int) : spec_l1In a b c = inB a b c := by simp [spec_l1In, inB]
theorem impl_within_eq (a b c : Int) : impl_within a b c = inB a b c := by simp [impl_within, inB]
def varsB (v : Int) : Bool := inB v 0 12
theorem varsB_iff {v : Int} : varsB v = true ↔ 0 ≤ v ∧ v ≤ 12 := inB_iff
theorem spec_l2Vars_eq (v : Int) : spec_l2Vars v = varsB v := spec_l1In_eq _ _ _
theorem impl_varsOk_eq (v : Int) : impl_varsOk v = varsB v := impl_within_eq _ _ _
def litB (v l : Int) : Bool := inB l (wr (-v)) v && !(l == 0)
theorem spec_l2Lit_eq (v l : Int) : spec_l2Lit v l = litB v l := by simp [spec_l2Lit, litB, spec_l1In_eq]
theorem impl_isLiteral_eq (v l : Int) : impl_isLiteral v l = litB v l := by simp [impl_isLiteral, litB, impl_within_eq, Bool.and_comm]
def clauseB (v : Int) (c : List Int) : Bool := varsB v && (c.all (litB v) && adj (fun a b => decide (vr a < vr b)) c)

theorem spec_l2Clause_eq {v : Int} {c : List Int} (hc : okL okI c) : spec_l2Clause v c = some (clauseB v c) := by
  unfold spec_l2Clause clauseB
  rw [spec_l2Vars_eq]
  cases hv : varsB v with
  | false => rfl
  | true =>
    simp only [Bool.not_true, cond_false, Bool.true_and]
    rw [forL_any (p := fun i y => !litB v y || match i with | 0 => false | i + 1 => match c[i]? with | some x => decide (vr y ≤ vr x) | none => false) (v := false) (fun i y hy => by
      rw [spec_l2Lit_eq]
      cases hl : litB v y with
      | false => simp
      | true =>
        cases i with
        | zero => simp
        | succ i =>
          have hi : i + 1 < c.length := (List.getElem?_eq_some_iff.1 hy).1
          have hp : decide ((0 : Int) < ((i + 1 : Nat) : Int)) = true := by simp
          rw [hp, wr_pred (by omega) hi hc.1, ix_get]
          simp only [Nat.add_sub_cancel]
          rw [List.getElem?_eq_getElem (show i < c.length by omega)]
          simp only [Bool.not_true, cond_false, cond_true, bd_some, Bool.false_or, spec_l2Var_eq]
          rfl)]
    rw [anyI_adj (q := fun y => !litB v y) (r := fun a b => decide (vr a < vr b)) (by intro y _; simp) (by
      intro i x y hx hy
      simp only [hx]
      congr 1
      by_cases h : vr x < vr y
      · simp [h]
      · simp [h]; omega)]
    simp only [Bool.not_not]
    cases (c.all fun y => litB v y) && adj (fun a b => decide (vr a < vr b)) c <;> rfl
theorem impl_IsClause_eq {v : Int} {c : List Int} (hc : okL okI c) : impl_IsClause v c = some (clauseB v c) := by
  unfold impl_IsClause clauseB
  rw [impl_varsOk_eq]
  rw [forL_any (p := fun i y => !litB v y || match i with | 0 => false | i + 1 => match c[i]? with | some x => decide (vr y ≤ vr x) | none => false) (v := false) (fun i y hy => by
      rw [impl_isLiteral_eq]
      cases hl : litB v y with
      | false => simp
      | true =>
        cases i with
        | zero => simp
        | succ i =>
          have hi : i + 1 < c.length := (List.getElem?_eq_some_iff.1 hy).1
          have hp : decide ((0 : Int) < ((i + 1 : Nat) : Int)) = true := by simp
          rw [hp, wr_pred (by omega) hi hc.1, ix_get]
          simp only [Nat.add_sub_cancel]
          rw [List.getElem?_eq_getElem (show i < c.length by omega)]
          simp only [Bool.not_true, cond_false, cond_true, bd_some, Bool.false_or]
          rw [impl_abs_eq (hc.2 _ (List.mem_of_getElem? hy)), impl_abs_eq (hc.2 _ (List.getElem_mem _))])]
  rw [anyI_adj (q := fun y => !litB v y) (r := fun a b => decide (vr a < vr b)) (by intro y _; simp) (by
      intro i x y hx hy
      simp only [hx]
      congr 1
      by_cases h : vr x < vr y
      · simp [h]
      · simp [h]; omega)]
  simp only [Bool.not_not]
  cases (c.all fun y => litB v y) && adj (fun a b => decide (vr a < vr b)) c <;> simp

structure IsC (v : Int) (c : List Int) : Prop where
  lo : 0 ≤ v
  hi : v ≤ 12
  lit : ∀ l ∈ c, -v ≤ l ∧ l ≤ v ∧ l ≠ 0
  srt : c.Pairwise fun a b => a.natAbs < b.natAbs
theorem adj_pairwise {α : Type} {r : α → α → Bool} {R : α → α → Prop} (ht : ∀ a b c, R a b → R b c → R a c) : ∀ {l : List α}, (∀ a b, a ∈ l → b ∈ l → r a b = true → R a b) → adj r l = true → l.Pairwise R := by
  intro l
  induction l with
  | nil => intro _ _; exact .nil
  | cons a l ih =>
    intro hr h
    cases l with
    | nil => simp
    | cons b l =>
      simp only [adj, Bool.and_eq_true] at h
      have hp := ih (fun x y hx hy => hr x y (by simp [hx]) (by simp [hy])) h.2
      have hab := hr a b (by simp) (by simp) h.1
      refine List.pairwise_cons.2 ⟨fun x hx => ?_, hp⟩
      rcases List.mem_cons.1 hx with rfl | hx
      · exact hab
      · exact ht _ _ _ hab ((List.pairwise_cons.1 hp).1 x hx)
theorem adj_of_pairwise {α : Type} {r : α → α → Bool} {l : List α} (h : l.Pairwise fun a b => r a b = true) : adj r l = true := by
  induction l with
  | nil => rfl
  | cons a l ih =>
    cases l with
    | nil => rfl
    | cons b l =>
      obtain ⟨h1, h2⟩ := List.pairwise_cons.1 h
      simp only [adj, Bool.and_eq_true]
      exact ⟨h1 b (by simp), ih h2⟩
theorem litB_iff {v l : Int} (h1 : 0 ≤ v) (h2 : v ≤ 12) : litB v l = true ↔ -v ≤ l ∧ l ≤ v ∧ l ≠ 0 := by
  unfold litB
  rw [wr_of _ (by omega) (by omega)]
  simp [inB]; omega
theorem clauseB_iff {v : Int} {c : List Int} : clauseB v c = true ↔ IsC v c := by
  unfold clauseB
  rw [Bool.and_eq_true, Bool.and_eq_true, varsB_iff, List.all_eq_true]
  constructor
  · rintro ⟨⟨h1, h2⟩, h3, h4⟩
    have hl : ∀ l ∈ c, -v ≤ l ∧ l ≤ v ∧ l ≠ 0 := fun l hl => (litB_iff h1 h2).1 (h3 l hl)
    refine ⟨h1, h2, hl, adj_pairwise (R := fun a b : Int => a.natAbs < b.natAbs) (fun _ _ _ => Nat.lt_trans) (fun a b ha hb hr => ?_) h4⟩
    have := hl a ha; have := hl b hb
    simp only [decide_eq_true_eq] at hr
    rw [vr_abs (by omega) (by omega), vr_abs (by omega) (by omega)] at hr
    omega
  · rintro ⟨h1, h2, h3, h4⟩
    refine ⟨⟨h1, h2⟩, fun l hl => (litB_iff h1 h2).2 (h3 l hl), adj_of_pairwise (List.Pairwise.imp_of_mem ?_ h4)⟩
    intro a b ha hb hr
    have := h3 a ha; have := h3 b hb
    simp only [decide_eq_true_eq]
    rw [vr_abs (by omega) (by omega), vr_abs (by omega) (by omega)]
    omega
theorem srt_len : ∀ {c : List Int} {k n : Nat}, c.Pairwise (fun a b => a.natAbs < b.natAbs) → (∀ l ∈ c, k < l.natAbs ∧ l.natAbs ≤ n) → c.length + k ≤ max k n := by
  intro c
  induction c with
  | nil => intro k n _ _; simp; omega
  | cons a c ih =>
    intro k n h hl
    obtain ⟨h1, h2⟩ := List.pairwise_cons.1 h
    have ha := hl a (by simp)
    have := ih (k := a.natAbs) (n := n) h2 fun l hm => ⟨h1 l hm, (hl l (by simp [hm])).2⟩
    simp only [List.length_cons]; omega
theorem IsC.len {v : Int} {c : List Int} (h : IsC v c) : c.length ≤ 12 := by
  have := srt_len (k := 0) (n := 12) h.srt fun l hl => by have := h.lit l hl; have := h.hi; omega
  omega
def cnfB (f : Cnf) : Bool := varsB f.vars && decide (len f.clauses ≤ 60) && f.clauses.all (clauseB f.vars)
theorem spec_l2Good_eq {f : Cnf} (hf : okCnf f) : spec_l2Good f = some (cnfB f) := by
  unfold spec_l2Good cnfB
  rw [spec_l2Vars_eq]
  cases hv : varsB f.vars with
  | false => rfl
  | true =>
    have e : (decide (60 < len f.clauses)) = !decide (len f.clauses ≤ 60) := by
      by_cases h : len f.clauses ≤ 60
      · simp [h]
      · simp [h]; omega
    simp only [Bool.not_true, cond_false, Bool.true_and]
    rw [e]
    cases hl : decide (len f.clauses ≤ 60) with
    | false => rfl
    | true =>
      have hlen : f.clauses.length ≤ 60 := by have := of_decide_eq_true hl; rw [len_eq] at this; omega
      simp only [Bool.not_true, cond_false, Bool.true_and]
      rw [iter_any (xs := f.clauses) (p := fun _ c => !clauseB f.vars c) (v := false) (fun i y hy => by
        have hi := (List.getElem?_eq_some_iff.1 hy).1
        have hd : decide ((i : Int) < len f.clauses) = true := by rw [len_eq]; simp; omega
        rw [hd, ix_get, hy]
        simp only [cond_true, bd_some]
        rw [spec_l2Clause_eq (hf.2.2 _ (List.mem_of_getElem? hy)), bd_some]
        cases clauseB f.vars y with
        | false => simp only [Bool.not_false, cond_true]
        | true => rw [wr_succ hi (by omega)]) (by
        have hd : decide (((f.clauses.length : Nat) : Int) < len f.clauses) = false := by rw [len_eq]; simp
        rw [hd, cond_false])]
      rw [anyI_any, show (f.clauses.any fun y => !clauseB f.vars y) = !f.clauses.all (clauseB f.vars) by rw [List.all_eq_not_any_not, Bool.not_not]]
      cases f.clauses.all (clauseB f.vars) <;> rfl
theorem impl_IsCnf_eq {f : Cnf} (hf : okCnf f) : impl_IsCnf f = some (cnfB f) := by
  unfold impl_IsCnf cnfB
  rw [impl_varsOk_eq]
  rw [forL_any (p := fun _ c => !clauseB f.vars c) (v := false) (fun i y hy => by
    rw [impl_IsClause_eq (hf.2.2 _ (List.mem_of_getElem? hy)), bd_some])]
  rw [anyI_any, show (f.clauses.any fun y => !clauseB f.vars y) = !f.clauses.all (clauseB f.vars) by rw [List.all_eq_not_any_not, Bool.not_not]]
  cases f.clauses.all (clauseB f.vars) <;> simp

/-! lists of numbers -/
theorem spec_l1Same_eq (a b : List Int) : spec_l1Same a b = some (a == b) := by
  unfold spec_l1Same
  rw [len_eq, len_eq]
  by_cases hl : a.length = b.length
  · have : (((a.length : Nat) : Int) == ((b.length : Nat) : Int)) = true := by simp [hl]
    rw [this]
    simp only [Bool.not_true, cond_false]
    rw [forL_any (p := fun i y => match b[i]? with | some x => !(y == x) | none => false) (v := false) (fun i y hy => by
      have hi := (List.getElem?_eq_some_iff.1 hy).1
      rw [ix_get, List.getElem?_eq_getElem (by omega), bd_some])]
    have e : anyI (fun i y => match b[i]? with | some x => !(y == x) | none => false) a 0 = !(a == b) := by
      by_cases hab : a = b
      · subst hab
        rw [show (a == a) = true by simp]
        rw [anyI_false.2]; rfl
        intro i y hy; rw [Nat.zero_add, hy]; simp
      · rw [show (a == b) = false by simpa using hab]
        cases h : anyI (fun i y => match b[i]? with | some x => !(y == x) | none => false) a 0 with
        | true => rfl
        | false =>
          exfalso; apply hab
          rw [anyI_false] at h
          apply List.ext_getElem hl
          intro i h1 h2
          have := h i a[i] (by simp [h1])
          rw [Nat.zero_add, List.getElem?_eq_getElem h2] at this
          simpa using this
    rw [e]; cases a == b <;> rfl
  · have : (((a.length : Nat) : Int) == ((b.length : Nat) : Int)) = false := by simp; omega
    rw [this]
    have : (a == b) = false := by
      rw [beq_eq_false_iff_ne]; intro e; subst e; exact hl rfl
    rw [this]; rfl
def partB (a b : List Int) : Bool := a.all fun y => b.contains y
end Go.PF
namespace Go.PF
open Go.Pu

def without (c : List Int) (v : Int) : List Int := c.filter fun y => !(vr y == v)
theorem slices_Clone_int_int_eq {c : List Int} (hl : c.length ≤ lim) : slices_Clone_int_int c = some c := by
  unfold slices_Clone_int_int; rw [app_ok (by simpa using hl)]; rfl
def putL (c : List Int) (l : Int) : List Int := c.takeWhile (fun y => decide (vr y < vr l)) ++ l :: c.dropWhile (fun y => decide (vr y < vr l))
def joinL : List Int → List Int → Option (List Int)
  | s, [] => some s
  | s, y :: b => bif s.contains (wr (-y)) then none else joinL (bif !s.contains y then putL s y else s) b
abbrev Srt (c : List Int) : Prop := c.Pairwise fun a b => a.natAbs < b.natAbs
def Sm (c : List Int) : Prop := ∀ l ∈ c, -12 ≤ l ∧ l ≤ 12 ∧ l ≠ 0
end Go.PF
namespace Go.PF
open Go.Pu

def cmpL (x y : Int) : Int := if impl_abs x < impl_abs y then -1 else if impl_abs y < impl_abs x then 1 else if y < x then -1 else if x < y then 1 else 0
theorem impl_compareLiterals_cmpL (x y : Int) : impl_compareLiterals x y = some (cmpL x y) := by
  have hc : ∀ a b : Int, cmp_Compare_int a b = if a < b then -1 else if b < a then 1 else 0 := fun a b => by
    unfold cmp_Compare_int cmp_isNaN_int
    simp only [BEq.rfl, Bool.not_true, cond_false]
    by_cases h1 : a < b
    · simp [h1]
    · by_cases h2 : b < a <;> simp [h1, h2]
  unfold impl_compareLiterals cmp_Or_int cmpL
  rw [hc, hc]
  by_cases h1 : impl_abs x < impl_abs y
  · simp [h1, forL, forLFrom]
  · by_cases h2 : impl_abs y < impl_abs x
    · simp [h1, h2, forL, forLFrom]
    · by_cases h3 : y < x
      · simp [h1, h2, h3, forL, forLFrom]
      · by_cases h4 : x < y <;> simp [h1, h2, h3, h4, forL, forLFrom]
theorem cmpL_neg {x y : Int} : cmpL x y < 0 ↔ impl_abs x < impl_abs y ∨ (impl_abs x = impl_abs y ∧ y < x) := by
  unfold cmpL
  split
  · omega
  · split
    · omega
    · split
      · omega
      · split <;> omega
def joined (a b : List Int) : List Int × Bool := match joinL a b with | some s => (s, true) | none => ([], false)
def res (a b : List Int) (v : Int) : List Int × Bool := bif !a.contains v || !b.contains (wr (-v)) then ([], false) else joined (without a v) (without b v)
theorem IsC.sm {V : Int} {c : List Int} (h : IsC V c) : Sm c := fun l hl => by have := h.lit l hl; have := h.hi; omega
end Go.PF
namespace Go.PF
open Go.Pu

def clAt (S : List ResStep) (k : Int) : List Int := match S[k.toNat]? with | some y => y.clause | none => []
def earlierB (F : Cnf) (S : List ResStep) (i : Nat) (k : Int) : Bool := inB k 0 ((i : Int) - 1) && clauseB F.vars (clAt S k)
def axB (F : Cnf) (x : ResStep) : Bool := inB x.right 0 (len F.clauses - 1) && match F.clauses[x.right.toNat]? with | some c => c == x.clause | none => false
def stepB (F : Cnf) (S : List ResStep) (i : Nat) (x : ResStep) : Bool :=
  clauseB F.vars x.clause &&
  bif x.left == -1 then x.pivot == 0 && axB F x
  else earlierB F S i x.left &&
    bif x.right == -1 then x.pivot == 0 && partB (clAt S x.left) x.clause
    else earlierB F S i x.right && (inB x.pivot 1 F.vars && ((res (clAt S x.left) (clAt S x.right) x.pivot).2 && (res (clAt S x.left) (clAt S x.right) x.pivot).1 == x.clause))

structure IsD (F : Cnf) (S : List ResStep) : Prop where
  cnf : cnfB F = true
  le : S.length ≤ 200
  step : ∀ i x, S[i]? = some x → stepB F S i x = true
theorem IsD.clause {F : Cnf} {S : List ResStep} (h : IsD F S) {x : ResStep} (hx : x ∈ S) : IsC F.vars x.clause := by
  obtain ⟨i, hi⟩ := List.mem_iff_getElem?.1 hx
  have := h.step i x hi
  unfold stepB at this
  rw [Bool.and_eq_true] at this
  exact clauseB_iff.1 this.1
end Go.PF
namespace Go.PF
open Go.Pu

end Go.PF
namespace Go.PF
open Go.Pu
theorem bdR_foldI {S X α β : Type} {body : Nat → α → S → Option (Lp S X)} {k : S → Option β} {lx : X → Option β} {r : Option β} (g : S → α → S) {l : List α} {s : S} (I : Nat → S → Prop) (h0 : I 0 s)
    (h : ∀ i x t, l[i]? = some x → I i t → body i x t = some (.nx (g t x)) ∧ I (i + 1) (g t x)) (hk : I l.length (l.foldl g s) → k (l.foldl g s) = r) : bdR (forL l body s) k lx = r := by
  obtain ⟨h1, h2⟩ := forL_foldI g I h0 h
  rw [h1, bdR_go]; exact hk h2
structure WvOk (F : Cnf) (i : Nat) (w : List Int × List ResStep) : Prop where
  len : w.1.length = i
  le : w.2.length ≤ i
  inr : ∀ k ∈ w.1, 0 ≤ k ∧ k < w.2.length
  isC : ∀ s ∈ w.2, IsC F.vars s.clause
theorem WvOk.st {F : Cnf} {i : Nat} {w : List Int × List ResStep} (h : WvOk F i w) {k : Int} (h0 : 0 ≤ k) (h1 : k < w.2.length) :
    ∃ y, ix w.2 k = some y ∧ y.clause = clAt w.2 k ∧ IsC F.vars (clAt w.2 k) := by
  obtain ⟨y, hy, hg⟩ := ix_of (xs := w.2) h0 h1
  have e : clAt w.2 k = y.clause := by unfold clAt; rw [hg]
  exact ⟨y, hy, e.symm, by rw [e]; exact h.isC y (List.mem_of_getElem? hg)⟩
end Go.PF
namespace Go.PF
open Go.Pu
theorem iter_mk {T σ α X : Type} (mk : σ → Int → T) {xs : List α} {body : T → Option (Lp T X)} {F : σ → α → σ} (I : Nat → σ → Prop) {s0 : σ} (h0 : I 0 s0)
    (h : ∀ (i : Nat) x s, xs[i]? = some x → I i s → body (mk s (i : Int)) = some (.nx (mk (F s x) ((i : Int) + 1))) ∧ I (i + 1) (F s x)) (he : ∀ s, I xs.length s → body (mk s (xs.length : Int)) = some (.bk (mk s (xs.length : Int)))) :
    iter body (mk s0 0) = some (.go (mk (xs.foldl F s0) (xs.length : Int))) ∧ I xs.length (xs.foldl F s0) := by
  have key : ∀ (m : List α) (k : Nat) (s : σ), k + m.length = xs.length → (∀ i y, m[i]? = some y → xs[k + i]? = some y) → I k s → iter body (mk s (k : Int)) = some (.go (mk (m.foldl F s) (xs.length : Int))) ∧ I xs.length (m.foldl F s) := by
    intro m
    induction m with
    | nil =>
      intro k s hk _ hI
      simp only [List.length_nil, Nat.add_zero] at hk
      subst hk
      exact ⟨iter_bk (he s hI), hI⟩
    | cons y m ih =>
      intro k s hk hm hI
      obtain ⟨h1, h2⟩ := h k y s (by have := hm 0 y rfl; simpa using this) hI
      rw [iter_nx h1]
      exact ih (k + 1) (F s y) (by simp at hk; omega) (fun i z hz => by have := hm (i + 1) z (by simpa using hz); rwa [show k + (i + 1) = k + 1 + i by omega] at this) h2
  have := key xs 0 s0 (by simp) (by simp) h0
  simpa using this
theorem bdR_mk {T σ α X β : Type} (mk : σ → Int → T) {xs : List α} {body : T → Option (Lp T X)} {k : T → Option β} {lx : X → Option β} {r : Option β} {F : σ → α → σ} (I : Nat → σ → Prop) {s0 : σ} {t0 : T} (ht : t0 = mk s0 0) (h0 : I 0 s0)
    (h : ∀ (i : Nat) x s, xs[i]? = some x → I i s → body (mk s (i : Int)) = some (.nx (mk (F s x) ((i : Int) + 1))) ∧ I (i + 1) (F s x)) (he : ∀ s, I xs.length s → body (mk s (xs.length : Int)) = some (.bk (mk s (xs.length : Int))))
    (hk : I xs.length (xs.foldl F s0) → k (mk (xs.foldl F s0) (xs.length : Int)) = r) : bdR (iter body t0) k lx = r := by
  subst ht
  obtain ⟨h1, h2⟩ := iter_mk mk I h0 h he
  rw [h1, bdR_go]; exact hk h2
/-! values of clauses -/
end Go.PF
