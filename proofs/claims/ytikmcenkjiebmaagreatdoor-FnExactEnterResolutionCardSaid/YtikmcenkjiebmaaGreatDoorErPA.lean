/- Helpers of the walks and plain laws. -/
import Derived.Test.YtikmcenkjiebmaaGreatDoorErPf
import Derived.Test.YtikmcenkjiebmaaGreatDoorErLB
set_option linter.unusedVariables false
namespace Go.PF
open Go.Pu
def big : Int := 9223372036854775807
def wIntS (a : List Int) : Nat := a.length
def wIntSS (a : List (List Int)) : Nat := a.length + tot wIntS a
def wCnf (a : Cnf) : Nat := wIntSS a.clauses
def wResStep (a : ResStep) : Nat := wIntS a.clause
def wResStepS (a : List ResStep) : Nat := a.length + tot wResStep a
theorem sz_IntS {a : List Int} {s : Int} (ha : okL okI a) (h0 : 0 ≤ s) (h1 : s ≤ 1048576) : laws_szIntS a s < 0 ∨ laws_szIntS a s + wIntS a = s := by
 have := ha.1
 unfold laws_szIntS wIntS
 rw [wr_of _ (by rw [len_eq]; omega) (by rw [len_eq]; omega)]
 by_cases h : s - len a < 0
 · left; simp [h]
 · right; simp only [h, decide_false, cond_false]; rw [len_eq]; omega
theorem sz_IntSS {a : List (List Int)} {s : Int} (ha : okL (okL okI) a) (h0 : 0 ≤ s) (h1 : s ≤ 1048576) : ∃ r, laws_szIntSS a s = some r ∧ (r < 0 ∨ r + wIntSS a = s) :=
 sz_list (sz := fun y s => some (laws_szIntS y s)) (wt := wIntS) (fun _ _ _ => rfl) (fun y hy _ h0 h1 => ⟨_, rfl, sz_IntS (ha.2 y hy) h0 h1⟩) ha.1 h0 h1
theorem sz_Cnf {a : Cnf} {s : Int} (ha : okCnf a) (h0 : 0 ≤ s) (h1 : s ≤ 1048576) : ∃ r, laws_szCnf a s = some r ∧ (r < 0 ∨ r + wCnf a = s) := by
 obtain ⟨r, h2, h3⟩ := sz_IntSS ha.2 h0 h1
 unfold laws_szCnf
 rw [h2, bd_some]
 by_cases h : r < 0
 · exact ⟨-1, by simp [h], .inl (by omega)⟩
 · exact ⟨r, by simp [h], h3⟩
theorem sz_ResStep {a : ResStep} {s : Int} (ha : okResStep a) (h0 : 0 ≤ s) (h1 : s ≤ 1048576) : laws_szResStep a s < 0 ∨ laws_szResStep a s + wResStep a = s := by
 have := sz_IntS ha.1 h0 h1
 unfold laws_szResStep
 by_cases h : laws_szIntS a.clause s < 0
 · left; simp [h]
 · right; rcases this with h' | h'
   · exact absurd h' h
   · simp only [h, decide_false, cond_false]; exact h'
theorem sz_ResStepS {a : List ResStep} {s : Int} (ha : okL okResStep a) (h0 : 0 ≤ s) (h1 : s ≤ 1048576) : ∃ r, laws_szResStepS a s = some r ∧ (r < 0 ∨ r + wResStepS a = s) :=
 sz_list (sz := fun y s => some (laws_szResStep y s)) (wt := wResStep) (fun _ _ _ => rfl) (fun y hy _ h0 h1 => ⟨_, rfl, sz_ResStep (ha.2 y hy) h0 h1⟩) ha.1 h0 h1
theorem to_IntS {a : List Int} (h : wIntS a ≤ lim) : laws_toIntS a = some a := by
 have := to_list (β := Int) (g := fun y => some y) (h := id) (z := 0) (l := a) (f := fun i y s => bd (ix s (i : Int)) fun _ => bd (put s (i : Int) y) fun xs => some (.nx xs)) (fun _ _ _ => rfl) (fun _ _ => rfl) h
 rw [List.map_id] at this; exact this
theorem to_IntSS {a : List (List Int)} (h : wIntSS a ≤ lim) : laws_toIntSS a = some a := by
 have := to_list (g := laws_toIntS) (h := id) (z := []) (l := a) (fun _ _ _ => rfl) (fun y hy => to_IntS (by have := tot_mem (wt := wIntS) hy; unfold wIntSS at h; omega)) (by unfold wIntSS at h; omega)
 rw [List.map_id] at this; exact this
theorem to_Cnf {a : Cnf} (h : wCnf a ≤ lim) : laws_toCnf a = some a := by
 unfold laws_toCnf; rw [to_IntSS h]; rfl
theorem to_ResStep {a : ResStep} (h : wResStep a ≤ lim) : laws_toResStep a = some a := by
 unfold laws_toResStep; rw [to_IntS h]; rfl
theorem to_ResStepS {a : List ResStep} (h : wResStepS a ≤ lim) : laws_toResStepS a = some a := by
 have := to_list (g := laws_toResStep) (h := id) (z := ResStep.mk [] 0 0 0) (l := a) (fun _ _ _ => rfl) (fun y hy => to_ResStep (by have := tot_mem (wt := wResStep) hy; unfold wResStepS at h; omega)) (by unfold wResStepS at h; omega)
 rw [List.map_id] at this; exact this
theorem eq_IntS (a : List Int) : laws_eqIntS a a = some true :=
 eq_list (eq := fun y x => some (y == x)) (fun _ _ _ => rfl) (fun y _ => by simp)
theorem eq_IntSS (a : List (List Int)) : laws_eqIntSS a a = some true := eq_list (eq := laws_eqIntS) (fun _ _ _ => rfl) (fun y _ => eq_IntS y)
theorem eq_Cnf (a : Cnf) : laws_eqCnf a a = some true := by unfold laws_eqCnf; rw [eq_IntSS]; simp
theorem eq_ResStep (a : ResStep) : laws_eqResStep a a = some true := by unfold laws_eqResStep; rw [eq_IntS]; simp
theorem eq_ResStepS (a : List ResStep) : laws_eqResStepS a a = some true := eq_list (eq := laws_eqResStep) (fun _ _ _ => rfl) (fun y _ => eq_ResStep y)
def mResStep (a : ResStep) : Nat := a.clause.length + 3
theorem tot_one {A : Type} (l : List A) : tot (fun _ => 1) l = l.length := by induction l with
 | nil => rfl
 | cons _ l ih => simp [tot, ih]; omega
theorem mark_IntS {a : List Int} {k : Int} (h0 : 0 ≤ k) (h1 : k + a.length ≤ big) : (laws_markIntS a k).2 = k + a.length := by
 have := mark_end (F := fun (_ : Int) m => (m, wr (m + 1))) (wt := fun _ => 1) (l := a) (k := k) (fun y _ k h0 h1 => wr_of _ (by omega) (by omega)) h0 (by rw [tot_one]; exact h1)
 rw [tot_one] at this; exact this
theorem mark_IntSS {a : List (List Int)} {k : Int} (h0 : 0 ≤ k) (h1 : k + tot wIntS a ≤ big) : (laws_markIntSS a k).2 = k + tot wIntS a :=
 mark_end (wt := wIntS) (fun _ _ _ h0 h1 => mark_IntS h0 h1) h0 h1
theorem mark_Cnf {a : Cnf} {k : Int} (h0 : 0 ≤ k) (h1 : k + tot wIntS a.clauses ≤ big) : (laws_markCnf a k).2 = k + tot wIntS a.clauses := mark_IntSS h0 h1
theorem wr3 {k : Int} (h0 : 0 ≤ k) (h1 : k + 3 ≤ big) : wr (k + 1) = k + 1 ∧ wr (k + 1 + 1) = k + 2 ∧ wr (k + 2 + 1) = k + 3 := by
 unfold big at h1
 exact ⟨wr_of _ (by omega) (by omega), by rw [wr_of _ (by omega) (by omega)]; omega, by rw [wr_of _ (by omega) (by omega)]; omega⟩
theorem mark_ResStepS {a : List ResStep} {k : Int} (h0 : 0 ≤ k) (h1 : k + tot mResStep a ≤ big) : (laws_markResStepS a k).2 = k + tot mResStep a := by
 refine mark_end (wt := mResStep) (fun y _ k h0 h1 => ?_) h0 h1
 unfold mResStep at h1 ⊢
 have e := mark_IntS (a := y.clause) h0 (by unfold big; omega)
 obtain ⟨a1, a2, a3⟩ := wr3 (k := k + y.clause.length) (by omega) (by unfold big; omega)
 simp only [e, a1, a2, a3]; omega
theorem mResStep_le {a : List ResStep} (h : (wResStepS a : Int) ≤ 1048576) : tot mResStep a ≤ 4194304 := by
 have key : ∀ l : List ResStep, tot mResStep l = tot wResStep l + 3 * l.length := by
  intro l
  induction l with
  | nil => rfl
  | cons x l ih => simp only [tot, ih, List.length_cons, mResStep, wResStep, wIntS]; omega
 have := key a
 unfold wResStepS at h; omega
end Go.PF
namespace Go.PF
open Go.Pu
def vr (l : Int) : Int := bif decide (l < 0) then wr (-l) else l
theorem spec_l2Var_eq (l : Int) : spec_l2Var l = vr l := rfl
theorem vr_abs {l : Int} (h1 : -12 ≤ l) (h2 : l ≤ 12) : vr l = l.natAbs := by
 unfold vr
 by_cases h : l < 0
 · simp only [h, decide_true, cond_true]; rw [wr_of _ (by omega) (by omega)]; omega
 · simp only [h, decide_false, cond_false]; omega
theorem impl_abs_eq {l : Int} (h : okI l) : impl_abs l = vr l := by
 obtain ⟨h1, h2⟩ := h
 unfold impl_abs vr mx
 by_cases h0 : l < 0
 · simp only [h0, decide_true, cond_true]
   by_cases hm : l = -9223372036854775808
   · subst hm; decide
   · rw [wr_of _ (by omega) (by omega), if_pos (by omega)]
 · simp only [h0, decide_false, cond_false]
   rw [wr_of _ (by omega) (by omega)]
   by_cases hz : l = 0
   · subst hz; rfl
   · rw [if_neg (by omega)]
def inB (a b c : Int) : Bool := decide (b ≤ a) && decide (a ≤ c)
theorem inB_iff {a b c : Int} : inB a b c = true ↔ b ≤ a ∧ a ≤ c := by simp [inB]
theorem spec_l1In_eq (a b c : Int) : spec_l1In a b c = inB a b c := by simp [spec_l1In, inB]
theorem impl_within_eq (a b c : Int) : impl_within a b c = inB a b c := by simp [impl_within, inB]
def varsB (v : Int) : Bool := inB v 0 12
theorem varsB_iff {v : Int} : varsB v = true ↔ 0 ≤ v ∧ v ≤ 12 := inB_iff
theorem spec_l2Vars_eq (v : Int) : spec_l2Vars v = varsB v := spec_l1In_eq _ _ _
theorem impl_varsOk_eq (v : Int) : impl_varsOk v = varsB v := impl_within_eq _ _ _
def litB (v l : Int) : Bool := inB l (wr (-v)) v && !(l == 0)
theorem spec_l2Lit_eq (v l : Int) : spec_l2Lit v l = litB v l := by simp [spec_l2Lit, litB, spec_l1In_eq]
theorem impl_isLiteral_eq (v l : Int) : impl_isLiteral v l = litB v l := by simp [impl_isLiteral, litB, impl_within_eq, Bool.and_comm]
theorem impl_isVar_eq (v a : Int) : impl_isVar v a = inB a 1 v := impl_within_eq _ _ _
def clauseB (v : Int) (c : List Int) : Bool := varsB v && (c.all (litB v) && adj (fun a b => decide (vr a < vr b)) c)
theorem spec_l2Clause_eq {v : Int} {c : List Int} (hc : okL okI c) : spec_l2Clause v c = some (clauseB v c) := by
 unfold spec_l2Clause clauseB
 rw [spec_l2Vars_eq]
 cases hv : varsB v with
 | false => rfl
 | true =>
  simp only [Bool.not_true, cond_false, Bool.true_and]
  rw [forL_any (p := fun i y => !litB v y || match i with | 0 => false | i + 1 => match c[i]? with | some x => decide (vr y ≤ vr x) | none => false) (v := false) (fun i y hy => by
   rw [spec_l2Lit_eq]
   cases hl : litB v y with
   | false => simp
   | true =>
    cases i with
    | zero => simp
    | succ i =>
     have hi : i + 1 < c.length := (List.getElem?_eq_some_iff.1 hy).1
     have hp : decide ((0 : Int) < ((i + 1 : Nat) : Int)) = true := by simp
     rw [hp, wr_pred (by omega) hi hc.1, ix_get]
     simp only [Nat.add_sub_cancel]
     rw [List.getElem?_eq_getElem (show i < c.length by omega)]
     simp only [Bool.not_true, cond_false, cond_true, bd_some, Bool.false_or, spec_l2Var_eq]
     rfl)]
  rw [anyI_adj (q := fun y => !litB v y) (r := fun a b => decide (vr a < vr b)) (by intro y _; simp) (by
   intro i x y hx hy
   simp only [hx]
   congr 1
   by_cases h : vr x < vr y
   · simp [h]
   · simp [h]; omega)]
  simp only [Bool.not_not]
  cases (c.all fun y => litB v y) && adj (fun a b => decide (vr a < vr b)) c <;> rfl
theorem impl_IsClause_eq {v : Int} {c : List Int} (hc : okL okI c) : impl_IsClause v c = some (clauseB v c) := by
 unfold impl_IsClause clauseB
 rw [impl_varsOk_eq]
 rw [forL_any (p := fun i y => !litB v y || match i with | 0 => false | i + 1 => match c[i]? with | some x => decide (vr y ≤ vr x) | none => false) (v := false) (fun i y hy => by
  rw [impl_isLiteral_eq]
  cases hl : litB v y with
  | false => simp
  | true =>
   cases i with
   | zero => simp
   | succ i =>
    have hi : i + 1 < c.length := (List.getElem?_eq_some_iff.1 hy).1
    have hp : decide ((0 : Int) < ((i + 1 : Nat) : Int)) = true := by simp
    rw [hp, wr_pred (by omega) hi hc.1, ix_get]
    simp only [Nat.add_sub_cancel]
    rw [List.getElem?_eq_getElem (show i < c.length by omega)]
    simp only [Bool.not_true, cond_false, cond_true, bd_some, Bool.false_or]
    rw [impl_abs_eq (hc.2 _ (List.mem_of_getElem? hy)), impl_abs_eq (hc.2 _ (List.getElem_mem _))])]
 rw [anyI_adj (q := fun y => !litB v y) (r := fun a b => decide (vr a < vr b)) (by intro y _; simp) (by
  intro i x y hx hy
  simp only [hx]
  congr 1
  by_cases h : vr x < vr y
  · simp [h]
  · simp [h]; omega)]
 simp only [Bool.not_not]
 cases (c.all fun y => litB v y) && adj (fun a b => decide (vr a < vr b)) c <;> simp
structure IsC (v : Int) (c : List Int) : Prop where
 lo : 0 ≤ v
 hi : v ≤ 12
 lit : ∀ l ∈ c, -v ≤ l ∧ l ≤ v ∧ l ≠ 0
 srt : c.Pairwise fun a b => a.natAbs < b.natAbs
theorem adj_pairwise {α : Type} {r : α → α → Bool} {R : α → α → Prop} (ht : ∀ a b c, R a b → R b c → R a c) : ∀ {l : List α}, (∀ a b, a ∈ l → b ∈ l → r a b = true → R a b) → adj r l = true → l.Pairwise R := by
 intro l
 induction l with
 | nil => intro _ _; exact .nil
 | cons a l ih =>
  intro hr h
  cases l with
  | nil => simp
  | cons b l =>
   simp only [adj, Bool.and_eq_true] at h
   have hp := ih (fun x y hx hy => hr x y (by simp [hx]) (by simp [hy])) h.2
   have hab := hr a b (by simp) (by simp) h.1
   refine List.pairwise_cons.2 ⟨fun x hx => ?_, hp⟩
   rcases List.mem_cons.1 hx with rfl | hx
   · exact hab
   · exact ht _ _ _ hab ((List.pairwise_cons.1 hp).1 x hx)
theorem adj_of_pairwise {α : Type} {r : α → α → Bool} {l : List α} (h : l.Pairwise fun a b => r a b = true) : adj r l = true := by
 induction l with
 | nil => rfl
 | cons a l ih =>
  cases l with
  | nil => rfl
  | cons b l =>
   obtain ⟨h1, h2⟩ := List.pairwise_cons.1 h
   simp only [adj, Bool.and_eq_true]
   exact ⟨h1 b (by simp), ih h2⟩
theorem litB_iff {v l : Int} (h1 : 0 ≤ v) (h2 : v ≤ 12) : litB v l = true ↔ -v ≤ l ∧ l ≤ v ∧ l ≠ 0 := by
 unfold litB
 rw [wr_of _ (by omega) (by omega)]
 simp [inB]; omega
theorem clauseB_iff {v : Int} {c : List Int} : clauseB v c = true ↔ IsC v c := by
 unfold clauseB
 rw [Bool.and_eq_true, Bool.and_eq_true, varsB_iff, List.all_eq_true]
 constructor
 · rintro ⟨⟨h1, h2⟩, h3, h4⟩
   have hl : ∀ l ∈ c, -v ≤ l ∧ l ≤ v ∧ l ≠ 0 := fun l hl => (litB_iff h1 h2).1 (h3 l hl)
   refine ⟨h1, h2, hl, adj_pairwise (R := fun a b : Int => a.natAbs < b.natAbs) (fun _ _ _ => Nat.lt_trans) (fun a b ha hb hr => ?_) h4⟩
   have := hl a ha; have := hl b hb
   simp only [decide_eq_true_eq] at hr
   rw [vr_abs (by omega) (by omega), vr_abs (by omega) (by omega)] at hr
   omega
 · rintro ⟨h1, h2, h3, h4⟩
   refine ⟨⟨h1, h2⟩, fun l hl => (litB_iff h1 h2).2 (h3 l hl), adj_of_pairwise (List.Pairwise.imp_of_mem ?_ h4)⟩
   intro a b ha hb hr
   have := h3 a ha; have := h3 b hb
   simp only [decide_eq_true_eq]
   rw [vr_abs (by omega) (by omega), vr_abs (by omega) (by omega)]
   omega
theorem srt_len : ∀ {c : List Int} {k n : Nat}, c.Pairwise (fun a b => a.natAbs < b.natAbs) → (∀ l ∈ c, k < l.natAbs ∧ l.natAbs ≤ n) → c.length + k ≤ max k n := by
 intro c
 induction c with
 | nil => intro k n _ _; simp; omega
 | cons a c ih =>
  intro k n h hl
  obtain ⟨h1, h2⟩ := List.pairwise_cons.1 h
  have ha := hl a (by simp)
  have := ih (k := a.natAbs) (n := n) h2 fun l hm => ⟨h1 l hm, (hl l (by simp [hm])).2⟩
  simp only [List.length_cons]; omega
theorem IsC.len {v : Int} {c : List Int} (h : IsC v c) : c.length ≤ 12 := by
 have := srt_len (k := 0) (n := 12) h.srt fun l hl => by have := h.lit l hl; have := h.hi; omega
 omega
theorem IsC.ok {v : Int} {c : List Int} (h : IsC v c) : okL okI c := by
 refine ⟨by have := h.len; omega, fun l hl => ?_⟩
 have := h.lit l hl; have := h.hi
 unfold okI; omega
def cnfB (f : Cnf) : Bool := varsB f.vars && decide (len f.clauses ≤ 60) && f.clauses.all (clauseB f.vars)
theorem spec_l2Good_eq {f : Cnf} (hf : okCnf f) : spec_l2Good f = some (cnfB f) := by
 unfold spec_l2Good cnfB
 rw [spec_l2Vars_eq]
 cases hv : varsB f.vars with
 | false => rfl
 | true =>
  have e : (decide (60 < len f.clauses)) = !decide (len f.clauses ≤ 60) := by
   by_cases h : len f.clauses ≤ 60
   · simp [h]
   · simp [h]; omega
  simp only [Bool.not_true, cond_false, Bool.true_and]
  rw [e]
  cases hl : decide (len f.clauses ≤ 60) with
  | false => rfl
  | true =>
   have hlen : f.clauses.length ≤ 60 := by have := of_decide_eq_true hl; rw [len_eq] at this; omega
   simp only [Bool.not_true, cond_false, Bool.true_and]
   rw [iter_any (xs := f.clauses) (p := fun _ c => !clauseB f.vars c) (v := false) (fun i y hy => by
    have hi := (List.getElem?_eq_some_iff.1 hy).1
    have hd : decide ((i : Int) < len f.clauses) = true := by rw [len_eq]; simp; omega
    rw [hd, ix_get, hy]
    simp only [cond_true, bd_some]
    rw [spec_l2Clause_eq (hf.2.2 _ (List.mem_of_getElem? hy)), bd_some]
    cases clauseB f.vars y with
    | false => simp only [Bool.not_false, cond_true]
    | true => rw [wr_succ hi (by omega)]) (by
    have hd : decide (((f.clauses.length : Nat) : Int) < len f.clauses) = false := by rw [len_eq]; simp
    rw [hd, cond_false])]
   rw [anyI_any, show (f.clauses.any fun y => !clauseB f.vars y) = !f.clauses.all (clauseB f.vars) by rw [List.all_eq_not_any_not, Bool.not_not]]
   cases f.clauses.all (clauseB f.vars) <;> rfl
theorem impl_IsCnf_eq {f : Cnf} (hf : okCnf f) : impl_IsCnf f = some (cnfB f) := by
 unfold impl_IsCnf cnfB
 rw [impl_varsOk_eq]
 rw [forL_any (p := fun _ c => !clauseB f.vars c) (v := false) (fun i y hy => by
  rw [impl_IsClause_eq (hf.2.2 _ (List.mem_of_getElem? hy)), bd_some])]
 rw [anyI_any, show (f.clauses.any fun y => !clauseB f.vars y) = !f.clauses.all (clauseB f.vars) by rw [List.all_eq_not_any_not, Bool.not_not]]
 cases f.clauses.all (clauseB f.vars) <;> simp
theorem same_eq (a b : List Int) : (bif (!((len a) == (len b))) then some false else bdR (forL (S := Unit) (X := Bool) a (fun i23 y22 s23 => bd (ix b ((i23 : Nat) : Int)) (fun x74 => (bif (!(y22 == x74)) then some (Lp.rt false) else some (Lp.nx ())))) ()) (fun s23 => some true) (fun x23 => some x23)) = some (a == b) := by
 rw [len_eq, len_eq]
 by_cases hl : a.length = b.length
 · have : (((a.length : Nat) : Int) == ((b.length : Nat) : Int)) = true := by simp [hl]
   rw [this]
   simp only [Bool.not_true, cond_false]
   rw [forL_any (p := fun i y => match b[i]? with | some x => !(y == x) | none => false) (v := false) (fun i y hy => by
    have hi := (List.getElem?_eq_some_iff.1 hy).1
    rw [ix_get, List.getElem?_eq_getElem (by omega), bd_some])]
   have e : anyI (fun i y => match b[i]? with | some x => !(y == x) | none => false) a 0 = !(a == b) := by
    by_cases hab : a = b
    · subst hab
      rw [show (a == a) = true by simp]
      rw [anyI_false.2]; rfl
      intro i y hy; rw [Nat.zero_add, hy]; simp
    · rw [show (a == b) = false by simpa using hab]
      cases h : anyI (fun i y => match b[i]? with | some x => !(y == x) | none => false) a 0 with
      | true => rfl
      | false =>
       exfalso; apply hab
       rw [anyI_false] at h
       apply List.ext_getElem hl
       intro i h1 h2
       have := h i a[i] (by simp [h1])
       rw [Nat.zero_add, List.getElem?_eq_getElem h2] at this
       simpa using this
   rw [e]; cases a == b <;> rfl
 · have : (((a.length : Nat) : Int) == ((b.length : Nat) : Int)) = false := by simp; omega
   rw [this]
   have : (a == b) = false := by
    rw [beq_eq_false_iff_ne]; intro e; subst e; exact hl rfl
   rw [this]; rfl
theorem spec_l1Same_eq (a b : List Int) : spec_l1Same a b = some (a == b) := same_eq a b
theorem slices_Equal_int_int_eq (a b : List Int) : slices_Equal_int_int a b = some (a == b) := same_eq a b
theorem spec_l1Has_eq (c : List Int) (l : Int) : spec_l1Has c l = some (c.contains l) := by
 unfold spec_l1Has
 rw [forL_any (p := fun _ y => y == l) (v := true) (fun i y _ => rfl), anyI_any]
 rw [show (c.any fun y => y == l) = c.contains l by induction c with | nil => rfl | cons x c ih => rw [List.any_cons, List.contains_cons, ih, Bool.beq_comm]]
 cases c.contains l <;> rfl
theorem spec_l2Has_eq (c : List Int) (l : Int) : spec_l2Has c l = some (c.contains l) := by unfold spec_l2Has; rw [spec_l1Has_eq]; rfl
theorem contains_any (c : List Int) (l : Int) : (c.any fun y => l == y) = c.contains l := by induction c with
 | nil => rfl
 | cons x c ih => rw [List.any_cons, List.contains_cons, ih]
theorem slices_Index_int_int_ge (c : List Int) (l : Int) : ∃ r, slices_Index_int_int c l = some r ∧ decide (0 ≤ r) = c.contains l := by
 unfold slices_Index_int_int
 rw [forL_find (p := fun _ y => l == y) (v := fun i _ => (i : Int)) (fun i y _ => rfl)]
 cases h : findI (fun _ y => l == y) c 0 with
 | none =>
  refine ⟨-1, rfl, ?_⟩
  have := findI_none.1 h
  rw [anyI_any, contains_any] at this; rw [this]; rfl
 | some z =>
  obtain ⟨_, _, _, h4⟩ := findI_some h
  rw [anyI_any, contains_any] at h4
  exact ⟨_, rfl, by rw [h4]; simp⟩
theorem slices_Contains_int_int_eq (c : List Int) (l : Int) : slices_Contains_int_int c l = some (c.contains l) := by
 obtain ⟨r, h1, h2⟩ := slices_Index_int_int_ge c l
 unfold slices_Contains_int_int; rw [h1, bd_some, h2]
theorem slices_IndexFunc_int_int_ge {c : List Int} {f : Int → Option Bool} {g : Int → Bool} (h : ∀ y ∈ c, f y = some (g y)) : ∃ r, slices_IndexFunc_int_int c f = some r ∧ decide (0 ≤ r) = c.any g ∧ (∀ z, findI (fun _ y => g y) c 0 = some z → r = z.1) ∧ (findI (fun _ y => g y) c 0 = none → r = -1) := by
 unfold slices_IndexFunc_int_int
 rw [forL_find (p := fun _ y => g y) (v := fun i _ => (i : Int)) (fun i y hy => by rw [h y (List.mem_of_getElem? hy), bd_some])]
 cases hf : findI (fun _ y => g y) c 0 with
 | none =>
  refine ⟨-1, rfl, ?_, nofun, fun _ => rfl⟩
  have := findI_none.1 hf
  rw [anyI_any] at this; rw [this]; rfl
 | some z =>
  obtain ⟨_, _, _, h4⟩ := findI_some hf
  rw [anyI_any] at h4
  exact ⟨_, rfl, by rw [h4]; simp, fun z' hz => (by cases hz; rfl), nofun⟩
theorem slices_ContainsFunc_int_int_eq {c : List Int} {f : Int → Option Bool} {g : Int → Bool} (h : ∀ y ∈ c, f y = some (g y)) : slices_ContainsFunc_int_int c f = some (c.any g) := by
 obtain ⟨r, h1, h2, _⟩ := slices_IndexFunc_int_int_ge h
 unfold slices_ContainsFunc_int_int; rw [h1, bd_some, h2]
def partB (a b : List Int) : Bool := a.all fun y => b.contains y
theorem spec_l2Sub_eq (a b : List Int) : spec_l2Sub a b = some (partB a b) := by
 unfold spec_l2Sub partB
 rw [forL_any (p := fun _ y => !b.contains y) (v := false) (fun i y _ => by rw [spec_l2Has_eq, bd_some]), anyI_any, show (a.any fun y => !b.contains y) = !a.all fun y => b.contains y by rw [List.all_eq_not_any_not, Bool.not_not]]
 cases a.all fun y => b.contains y <;> rfl
theorem impl_part_eq (a b : List Int) : impl_part a b = some (partB a b) := by
 unfold impl_part partB
 rw [slices_ContainsFunc_int_int_eq (g := fun y => !b.contains y) (fun y _ => by unfold impl_part_1; rw [slices_Contains_int_int_eq, bd_some]), bd_some, List.all_eq_not_any_not]
end Go.PF
namespace Go.PF
open Go.Pu
theorem foldl_filter {α : Type} {p : α → Bool} : ∀ {l s : List α}, l.foldl (fun s y => bif p y then s ++ [y] else s) s = s ++ l.filter p := by
 intro l
 induction l with
 | nil => intro s; simp
 | cons y l ih =>
  intro s
  rw [List.foldl_cons, ih]
  cases h : p y <;> simp [h]
theorem forL_filter {α X : Type} {f : Nat → α → List α → Option (Lp (List α) X)} {p : α → Bool} {l : List α} (hf : ∀ i y s, l[i]? = some y → f i y s = bif p y then bd (app s [y]) fun xs => some (.nx xs) else some (.nx s)) (hl : l.length ≤ lim) :
 forL l f [] = some (.go (l.filter p)) := by
 have := (forL_foldI (X := X) (body := f) (fun s y => bif p y then s ++ [y] else s) (l := l) (s := []) (fun i s => s.length ≤ i) (by simp) (fun i x t hx ht => by
  have hi := (List.getElem?_eq_some_iff.1 hx).1
  rw [hf i x t hx]
  cases p x with
  | false => exact ⟨rfl, by simp only [cond_false]; omega⟩
  | true =>
   simp only [cond_true]
   rw [app_ok (by simp; omega), bd_some]
   exact ⟨rfl, by simp; omega⟩)).1
 rw [this, foldl_filter]; rfl
def without (c : List Int) (v : Int) : List Int := c.filter fun y => !(vr y == v)
theorem spec_l2Without_eq {c : List Int} {v : Int} (hl : c.length ≤ lim) : spec_l2Without c v = some (without c v) := by
 unfold spec_l2Without without
 rw [forL_filter (p := fun y => !(vr y == v)) (fun i y s _ => by rfl) hl]; rfl
theorem filter_take {α : Type} {p : α → Bool} {c : List α} {j : Nat} {x : α} (hx : c[j]? = some x) : (c.take (j + 1)).filter p = (c.take j).filter p ++ bif p x then [x] else [] := by
 rw [List.take_add_one, hx, Option.toList_some, List.filter_append]
 cases h : p x <;> simp [List.filter, h]
theorem del_loop {α : Type} {n : Nat} (hn : n ≤ 9223372036854775806) {c : List α} (hc : c.length = n) {f : α → Option Bool} {g : α → Bool} (h : ∀ y ∈ c, f y = some (g y)) :
 ∀ (m j i : Nat) (s : List α), j + m = n → i ≤ j → s.length = n → s.take i = (c.take j).filter (fun y => !g y) → s.drop j = c.drop j →
  ∃ s' i', iter (S := (List α) × Int × Int) (X := Empty) (fun s32 => (bif (decide (s32.2.2 < (len s32.1))) then bd (ix s32.1 s32.2.2) (fun x143 => bd (f x143) (fun r145 => (bif (!r145) then bd (ix s32.1 s32.2.1) (fun _ => bd (put s32.1 s32.2.1 x143) (fun xs167 => some (Lp.nx (xs167, (wr (s32.2.1 + 1)), (wr (s32.2.2 + 1)))))) else some (Lp.nx (s32.1, s32.2.1, (wr (s32.2.2 + 1))))))) else some (Lp.bk (s32.1, s32.2.1, s32.2.2)))) (s, (i : Int), (j : Int)) =
   some (.go (s', ((i' : Nat) : Int), (n : Int))) ∧ i' ≤ n ∧ s'.length = n ∧ s'.take i' = c.filter (fun y => !g y) := by
 intro m
 induction m with
 | zero =>
  intro j i s hj hi hs ht _
  have : j = n := by omega
  subst this
  refine ⟨s, i, iter_bk ?_, hi, hs, by rw [ht, List.take_of_length_le (by omega)]⟩
  have hd : decide (((j : Nat) : Int) < len s) = false := by rw [len_eq, hs]; simp
  simp only [hd, cond_false]
 | succ m ih =>
  intro j i s hj hi hs ht hd
  have hjn : j < n := by omega
  have hx : s[j]? = some c[j] := by
   have := congrArg (·[0]?) hd
   simp only [List.getElem?_drop, Nat.add_zero] at this
   rw [this]; exact List.getElem?_eq_getElem (by omega)
  have hlt : decide (((j : Nat) : Int) < len s) = true := by rw [len_eq, hs]; simp; omega
  have hg := h c[j] (List.getElem_mem _)
  have e1 : wr ((j : Int) + 1) = ((j + 1 : Nat) : Int) := by rw [wr_of _ (by omega) (by omega)]; simp
  have e2 : wr ((i : Int) + 1) = ((i + 1 : Nat) : Int) := by rw [wr_of _ (by omega) (by omega)]; simp
  cases hgc : g c[j] with
  | true =>
   obtain ⟨s', i', q1, q2⟩ := ih (j + 1) i s (by omega) (by omega) hs (by
    rw [ht, filter_take (List.getElem?_eq_getElem (by omega)), hgc]; simp) (by
    have := congrArg (List.drop 1) hd
    rwa [List.drop_drop, List.drop_drop] at this)
   refine ⟨s', i', ?_, q2⟩
   rw [← q1]
   refine iter_nx ?_
   simp only [hlt, cond_true, ix_get, hx, bd_some, hg, hgc, Bool.not_true, cond_false, e1]
  | false =>
   obtain ⟨s', i', q1, q2⟩ := ih (j + 1) (i + 1) (s.set i c[j]) (by omega) (by omega) (by simpa using hs) (by
    rw [List.take_add_one, List.getElem?_set_self (by omega), List.take_set_of_le (Nat.le_refl _), ht, filter_take (List.getElem?_eq_getElem (show j < c.length by omega)), hgc]; rfl) (by
    rw [List.drop_set_of_lt (by omega)]
    have := congrArg (List.drop 1) hd
    rwa [List.drop_drop, List.drop_drop] at this)
   refine ⟨s', i', ?_, q2⟩
   rw [← q1]
   refine iter_nx ?_
   simp only [hlt, cond_true, ix_get, hx, bd_some, hg, hgc, Bool.not_false, e1, e2]
   rw [List.getElem?_eq_getElem (show i < s.length by omega), bd_some, put_ok (by omega), bd_some]
theorem slices_DeleteFunc_int_int_eq {c : List Int} {f : Int → Option Bool} {g : Int → Bool} (h : ∀ y ∈ c, f y = some (g y)) (hl : c.length ≤ lim) : slices_DeleteFunc_int_int c f = some (c.filter fun y => !g y) := by
 obtain ⟨r, h1, _, h3, h4⟩ := slices_IndexFunc_int_int_ge h
 unfold slices_DeleteFunc_int_int
 rw [h1, bd_some]
 unfold lim at hl
 cases hf : findI (fun _ y => g y) c 0 with
 | none =>
  rw [h4 hf]
  have := findI_none.1 hf
  rw [anyI_any, List.any_eq_false] at this
  simp only [BEq.rfl, cond_true]
  rw [List.filter_eq_self.2]
  intro y hy; have := this y hy; simp only [Bool.not_eq_true] at this; rw [this]; rfl
 | some z =>
  have hz := h3 z hf
  subst hz
  obtain ⟨_, k2, k3, _⟩ := findI_some hf
  rw [Nat.sub_zero] at k2
  have hzl := (List.getElem?_eq_some_iff.1 k2).1
  have hne : (((z.1 : Nat) : Int) == -1) = false := by simp
  rw [hne, cond_false, show wr (((z.1 : Nat) : Int) + 1) = ((z.1 + 1 : Nat) : Int) by rw [wr_of _ (by omega) (by omega)]; simp]
  obtain ⟨s', i', q1, q2, q3, q4⟩ := del_loop (n := c.length) (by omega) rfl h (c.length - (z.1 + 1)) (z.1 + 1) z.1 c (by omega) (by omega) rfl (by
   rw [List.take_add_one, k2]
   have hall : ∀ y ∈ c.take z.1, g y = false := by
    intro y hy
    obtain ⟨i, hi⟩ := List.mem_iff_getElem?.1 hy
    rw [List.getElem?_take] at hi
    split at hi
    · rename_i hlt
      -- no earlier one
      have key : ∀ (l : List Int) (k : Nat) (z : Nat × Int), findI (fun _ y => g y) l k = some z → ∀ i y, l[i]? = some y → k + i < z.1 → g y = false := by
       intro l
       induction l with
       | nil => intro k z _ i y hy; simp at hy
       | cons x l ih =>
        intro k z hz i y hy hlt
        simp only [findI] at hz
        cases hgx : g x with
        | true => rw [hgx] at hz; simp at hz; subst hz; simp at hlt; omega
        | false =>
         rw [hgx] at hz; simp only [cond_false] at hz
         cases i with
         | zero => simp at hy; subst hy; exact hgx
         | succ i => exact ih (k + 1) z hz i y (by simpa using hy) (by omega)
      exact key c 0 z hf i y hi (by omega)
    · cases hi
   rw [List.filter_append, List.filter_eq_self.2 (fun y hy => by rw [hall y hy]; rfl)]
   simp [k3]) rfl
  rw [q1, bdR_go]
  simp only
  rw [show len s' = ((s'.length : Nat) : Int) from rfl, cut_ok (by omega) (Nat.le_refl _), bd_some]
  have hcl : clearL 0 s' (i' : Int) = s'.take i' ++ List.replicate (s'.length - i') 0 := by unfold clearL; simp
  rw [hcl, show (0 : Int) = ((0 : Nat) : Int) from rfl, cut_ok (Nat.zero_le _) (by simp; omega), bd_some, List.drop_zero, List.take_left' (by simp; omega), q4]
theorem slices_Clone_int_int_eq {c : List Int} (hl : c.length ≤ lim) : slices_Clone_int_int c = some c := by
 unfold slices_Clone_int_int; rw [app_ok (by simpa using hl)]; rfl
theorem impl_withoutVar_eq {c : List Int} {v : Int} (hc : ∀ y ∈ c, okI y) (hl : c.length ≤ lim) : impl_withoutVar c v = some (without c v) := by
 unfold impl_withoutVar without
 rw [slices_Clone_int_int_eq hl, bd_some, slices_DeleteFunc_int_int_eq (g := fun y => vr y == v) (fun y hy => by unfold impl_withoutVar_1; rw [impl_abs_eq (hc y hy)]) hl]; rfl
def putL (c : List Int) (l : Int) : List Int := c.takeWhile (fun y => decide (vr y < vr l)) ++ l :: c.dropWhile (fun y => decide (vr y < vr l))
theorem spec_l1Own_eq {c : List Int} (hl : c.length ≤ lim) : spec_l1Own c = some c := by
 unfold spec_l1Own; rw [app_ok (by simpa using hl)]; rfl
theorem takeWhile_le {α : Type} {p : α → Bool} (l : List α) : (l.takeWhile p).length ≤ l.length := (List.takeWhile_prefix p).length_le
theorem take_takeWhile {α : Type} {p : α → Bool} (l : List α) : l.take (l.takeWhile p).length = l.takeWhile p := by
 conv => lhs; rw [← List.takeWhile_append_dropWhile (p := p) (l := l)]
 rw [List.takeWhile_append_dropWhile]
 exact List.prefix_iff_eq_take.1 (List.takeWhile_prefix p) |>.symm
theorem drop_takeWhile {α : Type} {p : α → Bool} (l : List α) : l.drop (l.takeWhile p).length = l.dropWhile p := by
 have h := List.takeWhile_append_dropWhile (p := p) (l := l)
 have h2 : l.drop (l.takeWhile p).length = (l.takeWhile p ++ l.dropWhile p).drop (l.takeWhile p).length := by rw [h]
 rw [h2, List.drop_left]
theorem spec_l2Put_eq {c : List Int} {l : Int} (hl : c.length + 1 ≤ lim) : spec_l2Put c l = some (putL c l) := by
 unfold spec_l2Put putL
 have hl' : c.length + 1 ≤ 4294967296 := hl
 rw [iter_while (xs := c) (p := fun y => decide (vr y < vr l)) (fun i y hy => by
  have hi := (List.getElem?_eq_some_iff.1 hy).1
  have hd : decide ((i : Int) < len c) = true := by rw [len_eq]; simp; omega
  rw [hd, ix_get, hy]
  simp only [cond_true, bd_some, spec_l2Var_eq]
  rw [wr_succ hi (by omega)]; rfl) (by
  have hd : decide (((c.length : Nat) : Int) < len c) = false := by rw [len_eq]; simp
  rw [hd]; rfl), bdR_go]
 have hk := takeWhile_le (p := fun y => decide (vr y < vr l)) c
 rw [show (0 : Int) = ((0 : Nat) : Int) from rfl, cut_ok (Nat.zero_le _) hk, bd_some, List.drop_zero, take_takeWhile, spec_l1Own_eq (by omega), bd_some, app_ok (by simp; omega), bd_some,
  len_eq, cut_ok hk (Nat.le_refl _), bd_some, List.take_length, drop_takeWhile, app_ok, bd_some]
 · simp
 · have := congrArg List.length (List.takeWhile_append_dropWhile (p := fun y => decide (vr y < vr l)) (l := c))
   simp only [List.length_append] at this ⊢
   simp only [List.length_singleton]
   unfold lim; omega
theorem putL_length (c : List Int) (l : Int) : (putL c l).length = c.length + 1 := by
 have := congrArg List.length (List.takeWhile_append_dropWhile (p := fun y => decide (vr y < vr l)) (l := c))
 unfold putL; simp only [List.length_append, List.length_cons] at this ⊢; omega
def joinL : List Int → List Int → Option (List Int)
 | s, [] => some s
 | s, y :: b => bif s.contains (wr (-y)) then none else joinL (bif !s.contains y then putL s y else s) b
theorem spec_l2Join_eq {a b : List Int} (hl : a.length + b.length ≤ lim) : spec_l2Join a b = some (match joinL a b with | some s => (s, true) | none => ([], false)) := by
 unfold spec_l2Join
 rw [spec_l1Own_eq (by omega), bd_some]
 have key : ∀ (F : Nat → Int → List Int → Option (Lp (List Int) (List Int × Bool))), (∀ i y s, F i y s = bd (PF.spec_l2Has s (wr (-y))) (fun r200 => (bif r200 then some (Lp.rt ([], false)) else bd (PF.spec_l2Has s y) (fun r222 => (bif (!r222) then bd (PF.spec_l2Put s y) (fun r239 => some (Lp.nx r239)) else some (Lp.nx s)))))) →
  ∀ (b : List Int) (i : Nat) (s : List Int), s.length + b.length ≤ lim → forLFrom F b i s = some (match joinL s b with | some s => .go s | none => .rt ([], false)) := by
  intro F hF b
  induction b with
  | nil => intro i s _; rfl
  | cons y b ih =>
   intro i s hs
   simp only [List.length_cons] at hs
   rw [forLFrom, hF, spec_l2Has_eq, bd_some, spec_l2Has_eq, bd_some, joinL]
   cases s.contains (wr (-y)) with
   | true => rfl
   | false =>
    simp only [cond_false]
    cases s.contains y with
    | true => simp only [Bool.not_true, cond_false]; exact ih (i + 1) s (by omega)
    | false =>
     simp only [Bool.not_false, cond_true]
     rw [spec_l2Put_eq (c := s) (by omega), bd_some]
     exact ih (i + 1) _ (by rw [putL_length]; omega)
 unfold forL
 rw [key _ (fun _ _ _ => rfl) b 0 a hl]
 cases joinL a b <;> rfl
abbrev Srt (c : List Int) : Prop := c.Pairwise fun a b => a.natAbs < b.natAbs
def Sm (c : List Int) : Prop := ∀ l ∈ c, -12 ≤ l ∧ l ≤ 12 ∧ l ≠ 0
theorem putL_mem {c : List Int} {l x : Int} : x ∈ putL c l ↔ x = l ∨ x ∈ c := by
 have h := List.takeWhile_append_dropWhile (p := fun y => decide (vr y < vr l)) (l := c)
 have : x ∈ c ↔ x ∈ c.takeWhile (fun y => decide (vr y < vr l)) ∨ x ∈ c.dropWhile (fun y => decide (vr y < vr l)) := by rw [← List.mem_append, h]
 unfold putL
 rw [this, List.mem_append, List.mem_cons]
 constructor
 · rintro (h | h | h)
   · exact .inr (.inl h)
   · exact .inl h
   · exact .inr (.inr h)
 · rintro (h | h | h)
   · exact .inr (.inl h)
   · exact .inl h
   · exact .inr (.inr h)
theorem putL_srt {c : List Int} {l : Int} (hc : Srt c) (hs : Sm c) (hl : -12 ≤ l ∧ l ≤ 12) (hn : ∀ x ∈ c, x.natAbs ≠ l.natAbs) : Srt (putL c l) := by
 have hv : ∀ x ∈ c, (decide (vr x < vr l) = true ↔ x.natAbs < l.natAbs) := fun x hx => by
  have := hs x hx
  rw [decide_eq_true_eq, vr_abs (by omega) (by omega), vr_abs hl.1 hl.2]; omega
 unfold putL
 induction c with
 | nil => simp
 | cons y c ih =>
  obtain ⟨h1, h2⟩ := List.pairwise_cons.1 hc
  rw [List.takeWhile_cons, List.dropWhile_cons]
  by_cases hy : decide (vr y < vr l) = true
  · rw [if_pos hy, if_pos hy, List.cons_append]
    have ih := ih h2 (fun x hx => hs x (by simp [hx])) (fun x hx => hn x (by simp [hx])) (fun x hx => hv x (by simp [hx]))
    refine List.pairwise_cons.2 ⟨fun x hx => ?_, ih⟩
    rcases (putL_mem (c := c) (l := l)).1 hx with rfl | hx
    · exact (hv y (by simp)).1 hy
    · exact h1 x hx
  · rw [if_neg hy, if_neg hy, List.nil_append]
    have hly : l.natAbs < y.natAbs := by
     have := hn y (by simp)
     have h3 : ¬ y.natAbs < l.natAbs := fun h => hy ((hv y (by simp)).2 h)
     omega
    refine List.pairwise_cons.2 ⟨fun x hx => ?_, hc⟩
    rcases List.mem_cons.1 hx with rfl | hx
    · exact hly
    · have := h1 x hx; omega
theorem joinL_spec : ∀ {b s : List Int}, Srt s → Sm s → Srt b → Sm b →
 (if ∃ y ∈ b, -y ∈ s then joinL s b = none else ∃ t, joinL s b = some t ∧ Srt t ∧ ∀ x, x ∈ t ↔ x ∈ s ∨ x ∈ b) := by
 intro b
 induction b with
 | nil => intro s hs _ _ _; simp only [List.not_mem_nil, false_and, exists_false, if_false, or_false]; exact ⟨s, rfl, hs, fun _ => Iff.rfl⟩
 | cons y b ih =>
  intro s hs hs2 hb hb2
  obtain ⟨h1, h2⟩ := List.pairwise_cons.1 hb
  have hy := hb2 y (by simp)
  have hw : wr (-y) = -y := wr_of _ (by omega) (by omega)
  simp only [joinL, hw]
  by_cases hn : -y ∈ s
  · rw [if_pos ⟨y, by simp, hn⟩, List.contains_iff_mem.2 hn]; rfl
  · have hnc : s.contains (-y) = false := by rw [Bool.eq_false_iff]; exact fun h => hn (List.contains_iff_mem.1 h)
    rw [hnc, cond_false]
    by_cases hin : y ∈ s
    · rw [List.contains_iff_mem.2 hin]
      simp only [Bool.not_true, cond_false]
      have := ih hs hs2 h2 (fun x hx => hb2 x (by simp [hx]))
      have e1 : (∃ z ∈ y :: b, -z ∈ s) ↔ ∃ z ∈ b, -z ∈ s := by
       constructor
       · rintro ⟨z, hz, hz2⟩
         rcases List.mem_cons.1 hz with rfl | hz
         · exact absurd hz2 hn
         · exact ⟨z, hz, hz2⟩
       · rintro ⟨z, hz, hz2⟩; exact ⟨z, by simp [hz], hz2⟩
      simp only [e1]
      split at this
      · rename_i hex; rw [if_pos hex]; exact this
      · rename_i hex
        rw [if_neg hex]
        obtain ⟨t, t1, t2, t3⟩ := this
        refine ⟨t, t1, t2, fun x => ?_⟩
        rw [t3, List.mem_cons]
        constructor
        · rintro (h | h)
          · exact .inl h
          · exact .inr (.inr h)
        · rintro (h | rfl | h)
          · exact .inl h
          · exact .inl hin
          · exact .inr h
    · have hic : s.contains y = false := by rw [Bool.eq_false_iff]; exact fun h => hin (List.contains_iff_mem.1 h)
      rw [hic]
      simp only [Bool.not_false, cond_true]
      have hne : ∀ x ∈ s, x.natAbs ≠ y.natAbs := fun x hx e => by
       have : x = y ∨ x = -y := by omega
       rcases this with rfl | rfl
       · exact hin hx
       · exact hn hx
      have := ih (putL_srt hs hs2 ⟨hy.1, hy.2.1⟩ hne) (fun x hx => by
       rcases putL_mem.1 hx with rfl | hx
       · exact hy
       · exact hs2 x hx) h2 (fun x hx => hb2 x (by simp [hx]))
      have e1 : (∃ z ∈ y :: b, -z ∈ s) ↔ ∃ z ∈ b, -z ∈ putL s y := by
       constructor
       · rintro ⟨z, hz, hz2⟩
         rcases List.mem_cons.1 hz with rfl | hz
         · exact absurd hz2 hn
         · exact ⟨z, hz, putL_mem.2 (.inr hz2)⟩
       · rintro ⟨z, hz, hz2⟩
         rcases putL_mem.1 hz2 with e | hz2
         · have := h1 z hz; omega
         · exact ⟨z, by simp [hz], hz2⟩
      simp only [e1]
      split at this
      · rename_i hex; rw [if_pos hex]; exact this
      · rename_i hex
        rw [if_neg hex]
        obtain ⟨t, t1, t2, t3⟩ := this
        refine ⟨t, t1, t2, fun x => ?_⟩
        rw [t3, putL_mem, List.mem_cons]
        constructor
        · rintro ((h | h) | h)
          · exact .inr (.inl h)
          · exact .inl h
          · exact .inr (.inr h)
        · rintro (h | h | h)
          · exact .inl (.inr h)
          · exact .inl (.inl h)
          · exact .inr h
end Go.PF
namespace Go.PF
open Go.Pu
theorem srt_unique : ∀ {a b : List Int}, Srt a → Srt b → (∀ x, x ∈ a ↔ x ∈ b) → a = b := by
 intro a
 induction a with
 | nil =>
  intro b _ _ h
  cases b with
  | nil => rfl
  | cons y b => exact absurd ((h y).2 (by simp)) (by simp)
 | cons x a ih =>
  intro b ha hb h
  cases b with
  | nil => exact absurd ((h x).1 (by simp)) (by simp)
  | cons y b =>
   obtain ⟨a1, a2⟩ := List.pairwise_cons.1 ha
   obtain ⟨b1, b2⟩ := List.pairwise_cons.1 hb
   have hxy : x = y := by
    rcases List.mem_cons.1 ((h x).1 (by simp)) with e | e
    · exact e
    · rcases List.mem_cons.1 ((h y).2 (by simp)) with e' | e'
      · exact e'.symm
      · have := b1 x e; have := a1 y e'; omega
   subst hxy
   rw [ih a2 b2 fun z => ?_]
   constructor
   · intro hz
     rcases List.mem_cons.1 ((h z).1 (by simp [hz])) with e | e
     · subst e; have := a1 z hz; omega
     · exact e
   · intro hz
     rcases List.mem_cons.1 ((h z).2 (by simp [hz])) with e | e
     · subst e; have := b1 z hz; omega
     · exact e
theorem compactL_mem {A : Type} [DecidableEq A] : ∀ {l : List A} {x : A}, x ∈ compactL l ↔ x ∈ l
 | [], x => by simp [compactL]
 | [y], x => by simp [compactL]
 | y :: z :: r, x => by
  rw [compactL]
  split
  · rename_i h; subst h
    rw [compactL_mem]; simp
  · rw [List.mem_cons, compactL_mem]; simp
theorem compactL_strict {A : Type} [DecidableEq A] {R : A → A → Prop} (ha : ∀ a b, R a b → R b a → a = b) : ∀ {l : List A}, l.Pairwise R → (compactL l).Pairwise fun a b => R a b ∧ a ≠ b
 | [], _ => by simp [compactL]
 | [y], _ => by simp [compactL]
 | y :: z :: r, h => by
  obtain ⟨h1, h2⟩ := List.pairwise_cons.1 h
  rw [compactL]
  split
  · exact compactL_strict ha h2
  · rename_i hne
    refine List.pairwise_cons.2 ⟨fun x hx => ?_, compactL_strict ha h2⟩
    have hx' := compactL_mem.1 hx
    refine ⟨h1 x hx', fun e => ?_⟩
    subst e
    rcases List.mem_cons.1 hx' with e | e
    · exact hne e
    · exact hne (ha _ _ (h1 z (by simp)) ((List.pairwise_cons.1 h2).1 y e))
def litLe (x y : Int) : Prop := impl_abs x < impl_abs y ∨ (impl_abs x = impl_abs y ∧ y ≤ x)
def cmpL (x y : Int) : Int := if impl_abs x < impl_abs y then -1 else if impl_abs y < impl_abs x then 1 else if y < x then -1 else if x < y then 1 else 0
theorem impl_compareLiterals_cmpL (x y : Int) : impl_compareLiterals x y = some (cmpL x y) := by
 have hc : ∀ a b : Int, cmp_Compare_int a b = if a < b then -1 else if b < a then 1 else 0 := fun a b => by
  unfold cmp_Compare_int cmp_isNaN_int
  simp only [BEq.rfl, Bool.not_true, cond_false]
  by_cases h1 : a < b
  · simp [h1]
  · by_cases h2 : b < a <;> simp [h1, h2]
 unfold impl_compareLiterals cmp_Or_int cmpL
 rw [hc, hc]
 by_cases h1 : impl_abs x < impl_abs y
 · simp [h1, forL, forLFrom]
 · by_cases h2 : impl_abs y < impl_abs x
   · simp [h1, h2, forL, forLFrom]
   · by_cases h3 : y < x
     · simp [h1, h2, h3, forL, forLFrom]
     · by_cases h4 : x < y <;> simp [h1, h2, h3, h4, forL, forLFrom]
theorem cmpL_neg {x y : Int} : cmpL x y < 0 ↔ impl_abs x < impl_abs y ∨ (impl_abs x = impl_abs y ∧ y < x) := by
 unfold cmpL
 split
 · omega
 · split
   · omega
   · split
     · omega
     · split <;> omega
theorem leF_lit {x y : Int} : leF (fun x0 x1 => PF.impl_compareLiterals x0 x1) x y = true ↔ litLe x y := by
 unfold leF litLe
 simp only [impl_compareLiterals_cmpL]
 rw [Bool.not_eq_true', decide_eq_false_iff_not, cmpL_neg]
 omega
theorem sort_lit {xs : List Int} (hl : xs.length < lim) : slices_SortFunc_int_int xs (fun x0 x1 => PF.impl_compareLiterals x0 x1) = some (xs.mergeSort (leF fun x0 x1 => PF.impl_compareLiterals x0 x1)) := by
 unfold slices_SortFunc_int_int sortF
 rw [if_pos]
 refine ⟨cmpL, hl, fun x _ y _ => impl_compareLiterals_cmpL x y, fun x _ => ?_, fun x _ y _ z _ h1 h2 => ?_, fun x _ y _ z _ h1 h2 => ?_, fun x _ y _ h1 h2 => ?_⟩
 · rw [cmpL_neg]; omega
 · rw [cmpL_neg] at *; omega
 · rw [cmpL_neg] at *; omega
 · rw [cmpL_neg] at *; omega
theorem sorted_lit (xs : List Int) : (xs.mergeSort (leF fun x0 x1 => PF.impl_compareLiterals x0 x1)).Pairwise litLe := by
 have := List.pairwise_mergeSort (le := leF fun x0 x1 => PF.impl_compareLiterals x0 x1) (fun a b c h1 h2 => by
  rw [leF_lit] at *; unfold litLe at *; omega) (fun a b => by
  rw [Bool.or_eq_true, leF_lit, leF_lit]; unfold litLe; omega) xs
 exact this.imp fun h => leF_lit.1 h
def noComp (t : List Int) : Bool := adj (fun a b => !(b == wr (-a))) t
theorem impl_clause_eq {c : List Int} (hl : c.length < lim) : impl_clause c = some (let t := compactL (c.mergeSort (leF fun x0 x1 => PF.impl_compareLiterals x0 x1)); bif noComp t then (t, true) else ([], false)) := by
 unfold impl_clause
 rw [slices_Clone_int_int_eq (by omega), bd_some, sort_lit hl, bd_some]
 unfold slices_Compact_int_int
 rw [bd_some]
 simp only
 generalize ht : compactL (c.mergeSort (leF fun x0 x1 => PF.impl_compareLiterals x0 x1)) = t
 have htl : t.length ≤ 4294967296 := by
  have : ∀ l : List Int, (compactL l).length ≤ l.length := by
   intro l
   induction l using compactL.induct with
   | case1 => simp [compactL]
   | case2 => simp [compactL]
   | case3 y r ih => rw [compactL, if_pos rfl]; simp only [List.length_cons] at ih ⊢; omega
   | case4 x y r h ih => rw [compactL, if_neg h]; simp only [List.length_cons] at ih ⊢; omega
  have h1 := this (c.mergeSort (leF fun x0 x1 => PF.impl_compareLiterals x0 x1))
  rw [ht, List.length_mergeSort] at h1
  unfold lim at hl; omega
 cases t with
 | nil =>
  rw [iter_bk (s' := 1) rfl]; rfl
 | cons x t =>
  have key : ∀ (m : List Int) (k : Nat), k + 1 + m.length = (x :: t).length → (∀ i y, m[i]? = some y → (x :: t)[k + 1 + i]? = some y) → iter (S := Int) (X := ((List Int) × Bool)) (fun s49 => (bif (decide (s49 < (len (x :: t)))) then bd (ix (x :: t) s49) (fun x94 => bd (ix (x :: t) (wr (s49 - 1))) (fun x102 => (bif (x94 == (wr (-x102))) then some (Lp.rt ([], false)) else some (Lp.nx (wr (s49 + 1)))))) else some (Lp.bk s49))) ((k + 1 : Nat) : Int) =
   some (bif anyI (fun i y => match i with | 0 => false | i + 1 => match (x :: t)[i]? with | some z => y == wr (-z) | none => false) m (k + 1) then .rt ([], false) else .go (((x :: t).length : Nat) : Int)) := by
   intro m
   induction m with
   | nil =>
    intro k hk _
    simp only [List.length_nil, Nat.add_zero] at hk
    rw [iter_bk (s' := ((k + 1 : Nat) : Int))]
    · rw [hk]; rfl
    · have hd : decide (((k + 1 : Nat) : Int) < len (x :: t)) = false := by rw [len_eq, ← hk]; simp
      rw [hd]; rfl
   | cons y m ih =>
    intro k hk hm
    simp only [List.length_cons (a := y)] at hk
    have hy : (x :: t)[k + 1]? = some y := by simpa using hm 0 y rfl
    have hd : decide (((k + 1 : Nat) : Int) < len (x :: t)) = true := by rw [len_eq]; simp only [decide_eq_true_eq]; omega
    have hkl : k < (x :: t).length := by omega
    have hz := List.getElem?_eq_getElem hkl
    simp only [anyI]
    cases hb : (y == wr (-(x :: t)[k])) with
    | true =>
     rw [iter_rt (x := ([], false))]
     · simp [hz, hb]
     · simp only [hd, cond_true, ix_get, hy, bd_some, wr_pred (show 0 < k + 1 by omega) (show k + 1 < (x :: t).length by omega) (by omega), Nat.add_sub_cancel, hz, hb]
    | false =>
     rw [iter_nx (s' := ((k + 1 + 1 : Nat) : Int))]
     · rw [ih (k + 1) (by omega) fun i z hz => by have := hm (i + 1) z (by simpa using hz); rwa [show k + 1 + (i + 1) = k + 1 + 1 + i by omega] at this]
       simp [hz, hb]
     · simp only [hd, cond_true, ix_get, hy, bd_some, wr_pred (show 0 < k + 1 by omega) (show k + 1 < (x :: t).length by omega) (by omega), Nat.add_sub_cancel, hz, hb, cond_false]
       rw [wr_succ (n := (x :: t).length) (by omega) (by omega)]; simp
  have hk := key t 0 (by simp; omega) (by intro i y hy; rw [show 0 + 1 + i = i + 1 by omega]; simpa using hy)
  rw [show ((0 + 1 : Nat) : Int) = 1 from rfl] at hk
  rw [hk]
  have ha := anyI_adj (l := x :: t) (p := fun i y => match i with | 0 => false | i + 1 => match (x :: t)[i]? with | some z => y == wr (-z) | none => false) (q := fun _ => false) (r := fun a b => !(b == wr (-a))) (fun _ _ => rfl) (fun i a b h1 _ => by simp only [h1]; simp)
  simp only [anyI, Bool.false_or, Nat.zero_add] at ha
  rw [show (0 + 1 : Nat) = 1 from rfl, ha]
  unfold noComp
  rw [show ((x :: t).all fun _ => !false) = true by simp]
  cases adj (fun a b => !(b == wr (-a))) (x :: t) <;> rfl
theorem slices_Concat2 {a b : List Int} (hl : a.length + b.length ≤ lim) : slices_Concat_int_int [a, b] = some (a ++ b) := by
 have hl' : a.length + b.length ≤ 4294967296 := hl
 have e1 : wr (0 + len a) = (a.length : Int) := by rw [wr_of _ (by rw [len_eq]; omega) (by rw [len_eq]; omega), len_eq]; omega
 have e2 : wr ((a.length : Int) + len b) = ((a.length + b.length : Nat) : Int) := by rw [wr_of _ (by rw [len_eq]; omega) (by rw [len_eq]; omega), len_eq]; omega
 have d1 : decide ((a.length : Int) < 0) = false := by rw [decide_eq_false_iff_not]; omega
 have d2 : decide (((a.length + b.length : Nat) : Int) < 0) = false := by rw [decide_eq_false_iff_not]; omega
 unfold slices_Concat_int_int forL
 rw [forLFrom_nx (s' := (a.length : Int)) (by rw [e1, d1]; rfl), forLFrom_nx (s' := ((a.length + b.length : Nat) : Int)) (by rw [e2, d2]; rfl), forLFrom_nil, bdR_go]
 unfold slices_Grow_int_int
 rw [if_pos (by omega), bd_some]
 rw [forLFrom_nx (s' := a) (by rw [app_ok (by simp; omega), bd_some]; rfl), forLFrom_nx (s' := a ++ b) (by rw [app_ok hl, bd_some]), forLFrom_nil, bdR_go]
def joined (a b : List Int) : List Int × Bool := match joinL a b with | some s => (s, true) | none => ([], false)
theorem clause_joined {a b : List Int} (ha : Srt a) (hb : Srt b) (sa : Sm a) (sb : Sm b) (hl : a.length + b.length < lim) : impl_clause (a ++ b) = some (joined a b) := by
 rw [impl_clause_eq (by simpa using hl)]
 simp only
 generalize ht : compactL ((a ++ b).mergeSort (leF fun x0 x1 => PF.impl_compareLiterals x0 x1)) = t
 have hm : ∀ x, x ∈ t ↔ x ∈ a ∨ x ∈ b := fun x => by rw [← ht, compactL_mem, List.mem_mergeSort, List.mem_append]
 have hs : Sm t := fun x hx => by
  rcases (hm x).1 hx with h | h
  · exact sa x h
  · exact sb x h
 have hab : ∀ x ∈ t, impl_abs x = x.natAbs := fun x hx => by
  have := hs x hx
  rw [impl_abs_eq (by unfold okI; omega), vr_abs this.1 this.2.1]
 have hlt : t.Pairwise fun x y => litLe x y ∧ x ≠ y := by
  rw [← ht]
  exact compactL_strict (fun x y h1 h2 => by unfold litLe at *; omega) (sorted_lit _)
 have hw : ∀ x ∈ t, wr (-x) = -x := fun x hx => by have := hs x hx; exact wr_of _ (by omega) (by omega)
 have hspec := joinL_spec ha sa hb sb
 unfold joined
 by_cases hex : ∃ y ∈ b, -y ∈ a
 · rw [if_pos hex] at hspec
   rw [hspec]
   have hn : noComp t = false := by
    cases hn : noComp t with
    | false => rfl
    | true =>
     exfalso
     -- neighbours have other variables, so all have
     have hsrt : Srt t := by
      refine adj_pairwise (r := fun x y => !(y == wr (-x)) && decide (x.natAbs < y.natAbs ∨ (x.natAbs = y.natAbs ∧ y < x))) (R := fun x y : Int => x.natAbs < y.natAbs) (fun _ _ _ => Nat.lt_trans) (fun x y hx hy hr => ?_) ?_
      · have h1 := hs x hx; have h2 := hs y hy
        simp only [Bool.and_eq_true, Bool.not_eq_true', beq_eq_false_iff_ne, ne_eq, decide_eq_true_eq] at hr
        rw [hw x hx] at hr
        omega
      · have hp : t.Pairwise fun x y => (decide (x.natAbs < y.natAbs ∨ (x.natAbs = y.natAbs ∧ y < x))) = true := by
         refine List.Pairwise.imp_of_mem ?_ hlt
         intro x y hx hy h
         simp only [decide_eq_true_eq]
         unfold litLe at h
         rw [hab x hx, hab y hy] at h
         omega
        have h1 := adj_of_pairwise hp
        unfold noComp at hn
        clear hp hlt hm hspec ht hs hab hw
        revert h1 hn
        generalize t = t
        intro hn h1
        induction t with
        | nil => rfl
        | cons x t ih =>
         cases t with
         | nil => rfl
         | cons y t =>
          simp only [adj, Bool.and_eq_true] at hn h1 ⊢
          exact ⟨⟨hn.1, h1.1⟩, ih hn.2 h1.2⟩
     obtain ⟨y, hy, hy2⟩ := hex
     have h1 := (hm y).2 (.inr hy)
     have h2 := (hm (-y)).2 (.inl hy2)
     have h0 := sb y hy
     -- two of one variable
     obtain ⟨i, hi⟩ := List.mem_iff_getElem?.1 h1
     obtain ⟨j, hj⟩ := List.mem_iff_getElem?.1 h2
     have hlen1 := (List.getElem?_eq_some_iff.1 hi).1
     have hlen2 := (List.getElem?_eq_some_iff.1 hj).1
     rw [List.getElem?_eq_getElem hlen1] at hi
     rw [List.getElem?_eq_getElem hlen2] at hj
     simp only [Option.some.injEq] at hi hj
     have hpw := List.pairwise_iff_getElem.1 hsrt
     rcases Nat.lt_trichotomy i j with h | h | h
     · have := hpw i j hlen1 hlen2 h; rw [hi, hj] at this; omega
     · subst h; rw [hi] at hj; omega
     · have := hpw j i hlen2 hlen1 h; rw [hi, hj] at this; omega
   rw [hn]; rfl
 · rw [if_neg hex] at hspec
   obtain ⟨s, h1, h2, h3⟩ := hspec
   rw [h1]
   have hne : ∀ x ∈ t, -x ∉ t := fun x hx hx2 => by
    have h0 := hs x hx
    rcases (hm x).1 hx with ha1 | hb1 <;> rcases (hm (-x)).1 hx2 with ha2 | hb2
    · have hpw := List.pairwise_iff_getElem.1 ha
      obtain ⟨i, hi1, hi⟩ := List.getElem_of_mem ha1
      obtain ⟨j, hj1, hj⟩ := List.getElem_of_mem ha2
      rcases Nat.lt_trichotomy i j with h | h | h
      · have := hpw i j hi1 hj1 h; rw [hi, hj] at this; omega
      · subst h; rw [hi] at hj; omega
      · have := hpw j i hj1 hi1 h; rw [hi, hj] at this; omega
    · exact hex ⟨-x, hb2, by rw [Int.neg_neg]; exact ha1⟩
    · exact hex ⟨x, hb1, ha2⟩
    · have hpw := List.pairwise_iff_getElem.1 hb
      obtain ⟨i, hi1, hi⟩ := List.getElem_of_mem hb1
      obtain ⟨j, hj1, hj⟩ := List.getElem_of_mem hb2
      rcases Nat.lt_trichotomy i j with h | h | h
      · have := hpw i j hi1 hj1 h; rw [hi, hj] at this; omega
      · subst h; rw [hi] at hj; omega
      · have := hpw j i hj1 hi1 h; rw [hi, hj] at this; omega
   have hn : noComp t = true := by
    unfold noComp
    refine adj_of_pairwise (List.Pairwise.imp_of_mem ?_ hlt)
    intro x y hx hy _
    rw [hw x hx]
    simp only [Bool.not_eq_true', beq_eq_false_iff_ne, ne_eq]
    intro e; subst e; exact hne x hx hy
   have hsrt : Srt t := by
    refine List.Pairwise.imp_of_mem ?_ hlt
    intro x y hx hy h
    unfold litLe at h
    rw [hab x hx, hab y hy] at h
    have : y ≠ -x := fun e => by subst e; exact hne x hx hy
    omega
   rw [hn]
   rw [srt_unique hsrt h2 fun x => by rw [hm, h3]]; rfl
def res (a b : List Int) (v : Int) : List Int × Bool := bif !a.contains v || !b.contains (wr (-v)) then ([], false) else joined (without a v) (without b v)
theorem without_len (c : List Int) (v : Int) : (without c v).length ≤ c.length := List.length_filter_le _ _
theorem spec_l2Resolve_eq {a b : List Int} {v : Int} (hl : a.length + b.length ≤ lim) : spec_l2Resolve a b v = some (res a b v) := by
 have h1 := without_len a v; have h2 := without_len b v
 unfold spec_l2Resolve res
 rw [spec_l2Has_eq, bd_some]
 cases a.contains v with
 | false => rfl
 | true =>
  simp only [Bool.not_true, cond_false, Bool.false_or]
  rw [spec_l2Has_eq, bd_some, bd_some]
  cases b.contains (wr (-v)) with
  | false => rfl
  | true =>
   simp only [Bool.not_true, cond_false]
   rw [spec_l2Without_eq (by omega), bd_some, spec_l2Without_eq (by omega), bd_some, spec_l2Join_eq (by omega), bd_some]
   unfold joined
   cases joinL (without a v) (without b v) <;> rfl
theorem IsC.sm {V : Int} {c : List Int} (h : IsC V c) : Sm c := fun l hl => by have := h.lit l hl; have := h.hi; omega
theorem impl_resolve_eq {V : Int} {a b : List Int} {v : Int} (ha : IsC V a) (hb : IsC V b) : impl_resolve a b v = some (res a b v) := by
 have h1 := without_len a v; have h2 := without_len b v
 have h3 := ha.len; have h4 := hb.len
 have hlim : lim = 4294967296 := rfl
 unfold impl_resolve res
 rw [slices_Contains_int_int_eq, bd_some]
 cases a.contains v with
 | false => rfl
 | true =>
  simp only [Bool.not_true, cond_false, Bool.false_or]
  rw [slices_Contains_int_int_eq, bd_some, bd_some]
  cases b.contains (wr (-v)) with
  | false => rfl
  | true =>
   simp only [Bool.not_true, cond_false]
   rw [impl_withoutVar_eq ha.ok.2 (by omega), bd_some, impl_withoutVar_eq hb.ok.2 (by omega), bd_some, slices_Concat2 (by omega), bd_some,
    clause_joined (a := without a v) (b := without b v) (ha.srt.sublist List.filter_sublist) (hb.srt.sublist List.filter_sublist) (fun x hx => ha.sm x (List.mem_filter.1 hx).1) (fun x hx => hb.sm x (List.mem_filter.1 hx).1) (by omega), bd_some]
end Go.PF
namespace Go.PF
open Go.Pu
def clAt (S : List ResStep) (k : Int) : List Int := match S[k.toNat]? with | some y => y.clause | none => []
def earlierB (F : Cnf) (S : List ResStep) (i : Nat) (k : Int) : Bool := inB k 0 ((i : Int) - 1) && clauseB F.vars (clAt S k)
def axB (F : Cnf) (x : ResStep) : Bool := inB x.right 0 (len F.clauses - 1) && match F.clauses[x.right.toNat]? with | some c => c == x.clause | none => false
def stepB (F : Cnf) (S : List ResStep) (i : Nat) (x : ResStep) : Bool :=
 clauseB F.vars x.clause &&
 bif x.left == -1 then x.pivot == 0 && axB F x
 else earlierB F S i x.left &&
  bif x.right == -1 then x.pivot == 0 && partB (clAt S x.left) x.clause
  else earlierB F S i x.right && (inB x.pivot 1 F.vars && ((res (clAt S x.left) (clAt S x.right) x.pivot).2 && (res (clAt S x.left) (clAt S x.right) x.pivot).1 == x.clause))
theorem earlier_at {S : List ResStep} {i : Nat} {k : Int} (hi : i < S.length) (h : inB k 0 ((i : Int) - 1) = true) : ∃ y, ix S k = some y ∧ clAt S k = y.clause ∧ y ∈ S := by
 rw [inB_iff] at h
 obtain ⟨y, h1, h2⟩ := ix_of (xs := S) (i := k) h.1 (by omega)
 exact ⟨y, h1, by unfold clAt; rw [h2], List.mem_of_getElem? h2⟩
theorem wr_lt {i n : Nat} (h : i < n) (hn : n ≤ 9223372036854775807) : wr ((i : Int) - 1) = (i : Int) - 1 := wr_of _ (by omega) (by omega)
theorem spec_l7Clause_eq {F : Cnf} {S : List ResStep} {i : Nat} {k : Int} (hS : okL okResStep S) (hi : i < S.length) : spec_l7Clause F S (i : Int) k = some (earlierB F S i k) := by
 unfold spec_l7Clause earlierB
 rw [wr_lt hi hS.1, spec_l1In_eq]
 cases h : inB k 0 ((i : Int) - 1) with
 | false => rfl
 | true =>
  obtain ⟨y, h1, h2, h3⟩ := earlier_at hi h
  simp only [cond_true, Bool.true_and]
  rw [h1, bd_some, spec_l2Clause_eq (hS.2 y h3).1, bd_some, bd_some, h2]
theorem impl_earlier_eq {F : Cnf} {S : List ResStep} {i : Nat} {k : Int} (hS : okL okResStep S) (hi : i < S.length) : impl_earlier F S (i : Int) k = some (bif earlierB F S i k then (clAt S k, true) else ([], false)) := by
 unfold impl_earlier earlierB
 rw [wr_lt hi hS.1, impl_within_eq]
 cases h : inB k 0 ((i : Int) - 1) with
 | false => rfl
 | true =>
  obtain ⟨y, h1, h2, h3⟩ := earlier_at hi h
  simp only [Bool.not_true, cond_false, Bool.true_and]
  rw [h1, bd_some, impl_IsClause_eq (hS.2 y h3).1, bd_some, bd_some, h2]
  cases clauseB F.vars y.clause <;> rfl
theorem ax_at {F : Cnf} {x : ResStep} (h : inB x.right 0 (len F.clauses - 1) = true) : ∃ c, ix F.clauses x.right = some c ∧ axB F x = (c == x.clause) := by
 have h' := inB_iff.1 h
 obtain ⟨c, h1, h2⟩ := ix_of (xs := F.clauses) (i := x.right) h'.1 (by rw [len_eq] at h'; omega)
 exact ⟨c, h1, by unfold axB; rw [h, h2]; rfl⟩
theorem wr_len {A : Type} {l : List A} (h : l.length ≤ 9223372036854775807) : wr (len l - 1) = len l - 1 := wr_of _ (by rw [len_eq]; omega) (by rw [len_eq]; omega)
theorem spec_l7Correct_eq {F : Cnf} {S : List ResStep} {i : Nat} {x : ResStep} (hF : okCnf F) (hS : okL okResStep S) (hx : S[i]? = some x) : spec_l7Correct F S (i : Int) = some (stepB F S i x) := by
 have hi := (List.getElem?_eq_some_iff.1 hx).1
 have hm := List.mem_of_getElem? hx
 unfold spec_l7Correct stepB
 rw [ix_get, hx, bd_some, spec_l2Clause_eq (hS.2 x hm).1, bd_some]
 cases hc : clauseB F.vars x.clause with
 | false => rfl
 | true =>
  simp only [Bool.not_true, cond_false, Bool.true_and]
  cases hl : x.left == -1 with
  | true =>
   simp only [cond_true]
   cases hp : x.pivot == 0 with
   | false => rfl
   | true =>
    simp only [cond_true, Bool.true_and, spec_l1In_eq, wr_len hF.2.1]
    cases hr : inB x.right 0 (len F.clauses - 1) with
    | false => unfold axB; rw [hr]; rfl
    | true =>
     obtain ⟨c, h1, h2⟩ := ax_at hr
     simp only [cond_true]
     rw [h1, bd_some, spec_l1Same_eq, bd_some, bd_some, h2]
  | false =>
   simp only [cond_false]
   rw [spec_l7Clause_eq hS hi, bd_some]
   cases he : earlierB F S i x.left with
   | false => rfl
   | true =>
    simp only [Bool.not_true, cond_false, Bool.true_and]
    have he' : inB x.left 0 ((i : Int) - 1) = true ∧ clauseB F.vars (clAt S x.left) = true := by unfold earlierB at he; simpa using he
    obtain ⟨y, y1, y2, y3⟩ := earlier_at hi he'.1
    cases hr : x.right == -1 with
    | true =>
     simp only [cond_true]
     cases hp : x.pivot == 0 with
     | false => rfl
     | true =>
      simp only [cond_true, Bool.true_and]
      rw [y1, bd_some, spec_l2Sub_eq, bd_some, bd_some, y2]
    | false =>
     simp only [cond_false]
     rw [spec_l7Clause_eq hS hi, bd_some]
     cases hq : earlierB F S i x.right with
     | false => rfl
     | true =>
      simp only [Bool.not_true, cond_false, Bool.true_and, spec_l1In_eq]
      have hq' : inB x.right 0 ((i : Int) - 1) = true ∧ clauseB F.vars (clAt S x.right) = true := by unfold earlierB at hq; simpa using hq
      obtain ⟨z, z1, z2, z3⟩ := earlier_at hi hq'.1
      cases hv : inB x.pivot 1 F.vars with
      | false => rfl
      | true =>
       simp only [Bool.not_true, cond_false, Bool.true_and]
       have cy := (clauseB_iff.1 he'.2).len; have cz := (clauseB_iff.1 hq'.2).len
       rw [y2] at cy; rw [z2] at cz
       rw [y1, bd_some, z1, bd_some, spec_l2Resolve_eq (by unfold lim; omega), bd_some, y2, z2]
       cases (res y.clause z.clause x.pivot).2 with
       | false => rfl
       | true =>
        simp only [cond_true, Bool.true_and]
        rw [spec_l1Same_eq, bd_some, bd_some]
theorem impl_correct_eq {F : Cnf} {S : List ResStep} {i : Nat} {x : ResStep} (hF : okCnf F) (hS : okL okResStep S) (hx : S[i]? = some x) : impl_correct F S (i : Int) = some (stepB F S i x) := by
 have hi := (List.getElem?_eq_some_iff.1 hx).1
 have hm := List.mem_of_getElem? hx
 unfold impl_correct stepB
 rw [ix_get, hx, bd_some, impl_IsClause_eq (hS.2 x hm).1, bd_some]
 cases hc : clauseB F.vars x.clause with
 | false => rfl
 | true =>
  simp only [Bool.not_true, cond_false, Bool.true_and]
  cases hl : x.left == -1 with
  | true =>
   simp only [cond_true]
   cases hp : x.pivot == 0 with
   | false => rfl
   | true =>
    simp only [cond_true, Bool.true_and, impl_within_eq, wr_len hF.2.1]
    cases hr : inB x.right 0 (len F.clauses - 1) with
    | false => unfold axB; rw [hr]; rfl
    | true =>
     obtain ⟨c, h1, h2⟩ := ax_at hr
     simp only [cond_true]
     rw [h1, bd_some, slices_Equal_int_int_eq, bd_some, bd_some, h2]
  | false =>
   simp only [cond_false]
   rw [impl_earlier_eq hS hi, bd_some]
   cases he : earlierB F S i x.left with
   | false => rfl
   | true =>
    simp only [cond_true, Bool.not_true, cond_false, Bool.true_and]
    have he' : inB x.left 0 ((i : Int) - 1) = true ∧ clauseB F.vars (clAt S x.left) = true := by unfold earlierB at he; simpa using he
    cases hr : x.right == -1 with
    | true =>
     simp only [cond_true]
     cases hp : x.pivot == 0 with
     | false => rfl
     | true =>
      simp only [cond_true, Bool.true_and]
      rw [impl_part_eq, bd_some, bd_some]
    | false =>
     simp only [cond_false]
     rw [impl_earlier_eq hS hi, bd_some]
     cases hq : earlierB F S i x.right with
     | false => rfl
     | true =>
      simp only [cond_true, Bool.not_true, cond_false, Bool.true_and, impl_isVar_eq]
      have hq' : inB x.right 0 ((i : Int) - 1) = true ∧ clauseB F.vars (clAt S x.right) = true := by unfold earlierB at hq; simpa using hq
      cases hv : inB x.pivot 1 F.vars with
      | false => rfl
      | true =>
       simp only [Bool.not_true, cond_false, Bool.true_and]
       rw [impl_resolve_eq (clauseB_iff.1 he'.2) (clauseB_iff.1 hq'.2), bd_some]
       cases (res (clAt S x.left) (clAt S x.right) x.pivot).2 with
       | false => rfl
       | true =>
        simp only [cond_true, Bool.true_and]
        rw [slices_Equal_int_int_eq, bd_some, bd_some]
def derB (F : Cnf) (S : List ResStep) : Bool := cnfB F && (decide (len S ≤ 200) && !anyI (fun i x => !stepB F S i x) S 0)
theorem spec_l7Wrong_eq {F : Cnf} {S : List ResStep} (hF : okCnf F) (hS : okL okResStep S) : ∃ r, spec_l7Wrong F S = some r ∧ decide (r < 0) = !anyI (fun i x => !stepB F S i x) S 0 := by
 unfold spec_l7Wrong
 rw [forL_find (p := fun i x => !stepB F S i x) (v := fun i _ => (i : Int)) (fun i x hx => by rw [spec_l7Correct_eq hF hS hx, bd_some])]
 cases h : findI (fun i x => !stepB F S i x) S 0 with
 | none => exact ⟨-1, rfl, by rw [findI_none.1 h]; rfl⟩
 | some z => obtain ⟨_, _, _, h4⟩ := findI_some h; exact ⟨_, rfl, by rw [h4]; simp⟩
theorem impl_firstWrong_eq {F : Cnf} {S : List ResStep} (hF : okCnf F) (hS : okL okResStep S) : ∃ r, impl_firstWrong F S = some r ∧ decide (r < 0) = !anyI (fun i x => !stepB F S i x) S 0 := by
 unfold impl_firstWrong
 rw [forL_find (p := fun i x => !stepB F S i x) (v := fun i _ => (i : Int)) (fun i x hx => by rw [impl_correct_eq hF hS hx, bd_some])]
 cases h : findI (fun i x => !stepB F S i x) S 0 with
 | none => exact ⟨-1, rfl, by rw [findI_none.1 h]; rfl⟩
 | some z => obtain ⟨_, _, _, h4⟩ := findI_some h; exact ⟨_, rfl, by rw [h4]; simp⟩
theorem spec_l7Good_eq {F : Cnf} {S : List ResStep} (hF : okCnf F) (hS : okL okResStep S) : spec_l7Good F S = some (derB F S) := by
 obtain ⟨r, h1, h2⟩ := spec_l7Wrong_eq hF hS
 unfold spec_l7Good spec_l7Asked derB
 rw [spec_l2Good_eq hF, h1]
 cases cnfB F <;> cases decide (len S ≤ 200) <;> simp [h2]
theorem impl_IsDerivation_eq {F : Cnf} {S : List ResStep} (hF : okCnf F) (hS : okL okResStep S) : impl_IsDerivation F S = some (derB F S) := by
 obtain ⟨r, h1, h2⟩ := impl_firstWrong_eq hF hS
 unfold impl_IsDerivation derB
 rw [impl_IsCnf_eq hF, h1]
 cases cnfB F <;> cases decide (len S ≤ 200) <;> simp [h2]
structure IsD (F : Cnf) (S : List ResStep) : Prop where
 cnf : cnfB F = true
 le : S.length ≤ 200
 step : ∀ i x, S[i]? = some x → stepB F S i x = true
theorem derB_iff {F : Cnf} {S : List ResStep} : derB F S = true ↔ IsD F S := by
 unfold derB
 rw [Bool.and_eq_true, Bool.and_eq_true, Bool.not_eq_true', anyI_false, decide_eq_true_eq, len_eq]
 constructor
 · rintro ⟨h1, h2, h3⟩; exact ⟨h1, by omega, fun i x hx => by have := h3 i x hx; simpa using this⟩
 · rintro ⟨h1, h2, h3⟩; exact ⟨h1, by omega, fun i x hx => by simp [h3 i x hx]⟩
theorem IsD.clause {F : Cnf} {S : List ResStep} (h : IsD F S) {x : ResStep} (hx : x ∈ S) : IsC F.vars x.clause := by
 obtain ⟨i, hi⟩ := List.mem_iff_getElem?.1 hx
 have := h.step i x hi
 unfold stepB at this
 rw [Bool.and_eq_true] at this
 exact clauseB_iff.1 this.1
end Go.PF
namespace Go.PF
open Go.Pu
abbrev Asc (c : List Int) : Prop := c.Pairwise fun a b => a < b
end Go.PF
namespace Go.PF
open Go.Pu
def proofB (F : Cnf) (S : List ResStep) : Bool := derB F S && decide (0 < len S)
theorem impl_isProof_eq {F : Cnf} {S : List ResStep} (hF : okCnf F) (hS : okL okResStep S) : impl_isProof F S = some (proofB F S) := by
 unfold impl_isProof proofB
 rw [impl_IsDerivation_eq hF hS, bd_some]
 cases derB F S <;> simp
structure IsPv (n : Nat) (out : List (List Int)) : Prop where
 len : out.length = n
 asc : ∀ y ∈ out, Asc y
 sm : ∀ y ∈ out, ∀ z ∈ y, 1 ≤ z ∧ z ≤ 12
end Go.PF
namespace Go.PF
open Go.Pu
def refB (F : Cnf) (S : List ResStep) : Bool := derB F S && (decide (0 < len S) && match S[S.length - 1]? with | some x => len x.clause == 0 | none => false)
theorem ix_last {S : List ResStep} (hS : okL okResStep S) (h : 0 < S.length) : ∃ x, S[S.length - 1]? = some x ∧ ix S (wr (len S - 1)) = some x := by
 have hx : S[S.length - 1]? = some S[S.length - 1] := List.getElem?_eq_getElem (by omega)
 refine ⟨_, hx, ?_⟩
 have := hS.1
 rw [len_eq, wr_of _ (by omega) (by omega), show (S.length : Int) - 1 = ((S.length - 1 : Nat) : Int) by omega]
 exact ix_nat hx
theorem spec_ref {F : Cnf} {S : List ResStep} (hF : okCnf F) (hS : okL okResStep S) : spec_l7Refutes F S = some (refB F S) := by
 unfold spec_l7Refutes refB
 rw [spec_l7Good_eq hF hS, bd_some]
 by_cases h : 0 < S.length
 · obtain ⟨x, h1, h2⟩ := ix_last hS h
   rw [h1]
   simp only [spec_l7Last, h2, bd_some, show decide (0 < len S) = true by rw [len_eq, decide_eq_true_eq]; omega]
   cases derB F S <;> rfl
 · simp only [show decide (0 < len S) = false by rw [len_eq, decide_eq_false_iff_not]; omega]
   cases derB F S <;> rfl
theorem impl_ref {F : Cnf} {S : List ResStep} (hF : okCnf F) (hS : okL okResStep S) : impl_IsRefutation F S = some (refB F S) := by
 unfold impl_IsRefutation refB
 rw [impl_IsDerivation_eq hF hS, bd_some]
 by_cases h : 0 < S.length
 · obtain ⟨x, h1, h2⟩ := ix_last hS h
   rw [h1]
   simp only [impl_last_impl_ResStep, h2, bd_some, show decide (0 < len S) = true by rw [len_eq, decide_eq_true_eq]; omega]
   cases derB F S <;> rfl
 · simp only [show decide (0 < len S) = false by rw [len_eq, decide_eq_false_iff_not]; omega]
   cases derB F S <;> rfl
end Go.PF
namespace Go.PF
open Go.Pu
section
variable {α : Type}
structure STO (lt : α → α → Bool) : Prop where
 irr : ∀ a, lt a a = false
 tr : ∀ a b c, lt a b = true → lt b c = true → lt a c = true
 tot : ∀ a b, lt a b = false → lt b a = false → a = b
variable {lt : α → α → Bool}
end
theorem ltB_irr : ∀ a : List UInt8, ltB a a = false
 | [] => rfl
 | x :: a => by simp [ltB, ltB_irr a]
theorem ltB_tr : ∀ {a b c : List UInt8}, ltB a b = true → ltB b c = true → ltB a c = true
 | [], [], _, h, _ => by cases h
 | _ :: _, [], _, h, _ => by cases h
 | _, _ :: _, [], _, h => by cases h
 | [], _ :: _, _ :: _, _, _ => rfl
 | x :: a, y :: b, z :: c, h1, h2 => by
  simp only [ltB, Bool.or_eq_true, decide_eq_true_eq, Bool.and_eq_true, beq_iff_eq] at *
  rcases h1 with h1 | ⟨rfl, h1⟩ <;> rcases h2 with h2 | ⟨rfl, h2⟩
  · exact .inl (UInt8.lt_trans h1 h2)
  · exact .inl h1
  · exact .inl h2
  · exact .inr ⟨rfl, ltB_tr h1 h2⟩
end Go.PF
namespace Go.PF
open Go.Pu
def wRecS (a : List Record) : Nat := a.length + tot (fun r : Record => r.name.size) a
theorem sz_Record {a : Record} {s : Int} (ha : okRecord a) (h0 : 0 ≤ s) (h1 : s ≤ 1048576) : laws_szRecord a s < 0 ∨ laws_szRecord a s + a.name.size = s := by
 have : a.name.size ≤ 9223372036854775807 := ha.1
 unfold laws_szRecord
 rw [wr_of _ (by omega) (by omega)]
 by_cases h : s - (a.name.size : Int) < 0
 · left; simp [h]
 · right; simp only [h, decide_false, cond_false]; omega
theorem sz_RecordS {a : List Record} {s : Int} (ha : okL okRecord a) (h0 : 0 ≤ s) (h1 : s ≤ 1048576) : ∃ r, laws_szRecordS a s = some r ∧ (r < 0 ∨ r + wRecS a = s) :=
 sz_list (sz := fun y s => some (laws_szRecord y s)) (wt := fun r : Record => r.name.size) (fun _ _ _ => rfl) (fun y hy _ h0 h1 => ⟨_, rfl, sz_Record (ha.2 y hy) h0 h1⟩) ha.1 h0 h1
theorem to_RecordS {a : List Record} (h : wRecS a ≤ lim) : laws_toRecordS a = some a := by
 have := to_list (g := fun y => some (laws_toRecord y)) (h := id) (z := Record.mk ByteArray.empty 0 0 0) (l := a) (f := fun i32 y31 s32 => bd (ix s32 ((i32 : Nat) : Int)) (fun x126 => bd (put s32 ((i32 : Nat) : Int) (laws_toRecord y31)) (fun xs131 => some (Lp.nx xs131)))) (fun _ _ _ => rfl) (fun y hy => rfl) (by unfold wRecS at h; omega)
 rw [List.map_id] at this; exact this
theorem eq_Record (a : Record) : laws_eqRecord a a = true := by unfold laws_eqRecord; simp
theorem eq_RecordS (a : List Record) : laws_eqRecordS a a = some true :=
 eq_list (eq := fun y x => some (laws_eqRecord y x)) (fun _ _ _ => rfl) (fun y _ => by rw [eq_Record])
theorem wr4 {k : Int} (h0 : 0 ≤ k) (h1 : k + 4 ≤ 9223372036854775807) : wr (k + 1) = k + 1 ∧ wr (k + 1 + 1) = k + 2 ∧ wr (k + 2 + 1) = k + 3 ∧ wr (k + 3 + 1) = k + 4 :=
 ⟨wr_of _ (by omega) (by omega), by rw [wr_of _ (by omega) (by omega)]; omega, by rw [wr_of _ (by omega) (by omega)]; omega, by rw [wr_of _ (by omega) (by omega)]; omega⟩
theorem tot_four {A : Type} (l : List A) : tot (fun _ => 4) l = 4 * l.length := by
 induction l with
 | nil => rfl
 | cons x l ih => simp only [tot, ih, List.length_cons]; omega
theorem mark_RecordS {a : List Record} {k : Int} (h0 : 0 ≤ k) (h1 : k + 4 * a.length ≤ 9223372036854775807) : (laws_markRecordS a k).2 = k + 4 * a.length := by
 have := mark_end (F := fun (y : Record) m => ((Record.mk (PF.laws_markText m) (wr (m + 1)) (wr ((wr (m + 1)) + 1)) (wr ((wr ((wr (m + 1)) + 1)) + 1))), (wr ((wr ((wr ((wr (m + 1)) + 1)) + 1)) + 1)))) (wt := fun _ => 4) (l := a) (k := k)
  (fun y _ k h0 h1 => by
   obtain ⟨a1, a2, a3, a4⟩ := wr4 h0 (by omega)
   simp only [a1, a2, a3, a4]; omega) h0 (by rw [tot_four]; omega)
 rw [tot_four] at this
 unfold laws_markRecordS
 rw [this]; omega
theorem held_RecordS (a : List Record) {k : Int} (h0 : 0 ≤ k) (h1 : k + 4 * a.length ≤ 9223372036854775807) : laws_heldRecordS (laws_markRecordS a k).1 k = some (laws_markRecordS a k).2 := by
 unfold laws_heldRecordS laws_markRecordS forL
 rw [held_list (F := fun (y : Record) m => ((Record.mk (PF.laws_markText m) (wr (m + 1)) (wr ((wr (m + 1)) + 1)) (wr ((wr ((wr (m + 1)) + 1)) + 1))), (wr ((wr ((wr ((wr (m + 1)) + 1)) + 1)) + 1)))) (wt := fun _ => 4) (l := a) (k := k)
  (fun y _ k h0 h1 => by
   obtain ⟨a1, a2, a3, a4⟩ := wr4 h0 (by omega)
   refine ⟨?_, fun i => ?_⟩
   · simp only [a1, a2, a3, a4]; omega
   · simp) h0 (by rw [tot_four]; omega)]
 rfl
def bs (b : ByteArray) : List UInt8 := b.data.toList
theorem bs_ext {a b : ByteArray} (h : bs a = bs b) : a = b := by
 cases a; cases b; unfold bs at h; simp only [ByteArray.mk.injEq]; exact Array.toList_inj.1 h
theorem bs_len (a : ByteArray) : (bs a).length = a.size := by unfold bs; rw [Array.length_toList]; rfl
theorem bs_at {s : ByteArray} {k : Nat} : (bs s)[k]? = s.data[k]? := by unfold bs; rw [Array.getElem?_toList]
theorem ixS_at {s : ByteArray} {k : Nat} {c : UInt8} (h : (bs s)[k]? = some c) : ixS s (k : Int) = some (c.toNat : Int) := by
 unfold ixS; rw [if_pos (by omega), ← bs_at]; simp [h]
theorem toList_bs (s : ByteArray) : s.toList = bs s := by
 have key : ∀ (n i : Nat) (r : List UInt8), s.size - i = n → ByteArray.toList.loop s i r = r.reverse ++ (bs s).drop i := by
  intro n
  induction n with
  | zero =>
   intro i r h
   unfold ByteArray.toList.loop
   rw [if_neg (by omega), List.drop_eq_nil_of_le (by rw [bs_len]; omega), List.append_nil]
  | succ n ih =>
   intro i r h
   unfold ByteArray.toList.loop
   rw [if_pos (by omega), ih (i + 1) _ (by omega)]
   have hi : i < (bs s).length := by rw [bs_len]; omega
   rw [List.drop_eq_getElem_cons hi, List.reverse_cons, List.append_assoc]
   congr 1
   have : s.get! i = (bs s)[i] := by
    unfold bs ByteArray.get!
    simp
    have hs : i < s.data.size := by have := bs_len s; rw [bs_len] at hi; exact hi
    rw [getElem!_pos s.data i hs]
    exact (Array.getElem_toList _).symm
   rw [this]; rfl
 unfold ByteArray.toList
 rw [key _ 0 [] rfl]; simp
theorem eqS (a b : ByteArray) : (a.toList == b.toList) = decide (a = b) := by
 rw [toList_bs, toList_bs]
 by_cases h : a = b
 · subst h; simp
 · have : bs a ≠ bs b := fun e => h (bs_ext e)
   simp [h, this]
theorem ltS_irr (a : ByteArray) : ltS a a = false := ltB_irr _
theorem ltS_tr {a b c : ByteArray} (h1 : ltS a b = true) (h2 : ltS b c = true) : ltS a c = true := ltB_tr h1 h2
theorem cmpB : ∀ a b : List UInt8, (Go.Lib.compareBytes a b < 0 ↔ ltB a b = true) ∧ (Go.Lib.compareBytes a b = 0 ↔ a = b)
 | [], [] => by simp [Go.Lib.compareBytes, ltB]
 | [], _ :: _ => by simp [Go.Lib.compareBytes, ltB]
 | _ :: _, [] => by simp [Go.Lib.compareBytes, ltB]
 | x :: a, y :: b => by
  have ih := cmpB a b
  unfold Go.Lib.compareBytes
  simp only [ltB, Bool.or_eq_true, decide_eq_true_eq, Bool.and_eq_true, beq_iff_eq, List.cons.injEq]
  by_cases h1 : x < y
  · have : x ≠ y := fun e => by subst e; exact UInt8.lt_irrefl _ h1
    simp [h1, this]
  · by_cases h2 : y < x
    · have : x ≠ y := fun e => by subst e; exact UInt8.lt_irrefl _ h2
      simp [h1, h2, this]
    · have : x = y := UInt8.le_antisymm (UInt8.not_lt.1 h2) (UInt8.not_lt.1 h1)
      subst this
      simp [h1, ih]
theorem cmpS_neg (a b : ByteArray) : cmpS a b < 0 ↔ ltS a b = true := by
 unfold cmpS ltS; rw [toList_bs, toList_bs]; exact (cmpB (bs a) (bs b)).1
theorem cmpS_zero (a b : ByteArray) : cmpS a b = 0 ↔ a = b := by
 unfold cmpS
 exact (cmpB (bs a) (bs b)).2.trans ⟨bs_ext, fun h => by rw [h]⟩
theorem forR_any {α X : Type} {xs : List α} {body : Nat → Unit → Option (Lp Unit X)} {p : Nat → α → Bool} {v : X} (h : ∀ i x, xs[i]? = some x → body i () = some (bif p i x then .rt v else .nx ())) :
 forR 0 xs.length body () = some (bif anyI p xs 0 then .rt v else .go ()) := by
 have key : ∀ (m : List α) (k : Nat), (∀ i y, m[i]? = some y → xs[k + i]? = some y) → forFrom body m.length k () = some (bif anyI p m k then .rt v else .go ()) := by
  intro m
  induction m with
  | nil => intro k _; rfl
  | cons y m ih =>
   intro k hm
   have h1 := h k y (by have := hm 0 y rfl; simpa using this)
   simp only [List.length_cons, forFrom, h1, anyI]
   cases p k y with
   | true => rfl
   | false => exact ih (k + 1) fun i z hz => by have := hm (i + 1) z (by simpa using hz); rwa [show k + (i + 1) = k + 1 + i by omega] at this
 unfold forR
 exact key xs 0 (by simp)
end Go.PF
namespace Go.PF
open Go.Pu
def badC (c : UInt8) : Bool := (decide ((c.toNat : Int) < 97) || decide (122 < (c.toNat : Int))) && (decide ((c.toNat : Int) < 48) || decide (57 < (c.toNat : Int)))
def nmB (s : ByteArray) : Bool := inB (s.size : Int) 1 12 && !anyI (fun _ c => badC c) (bs s) 0
theorem chk_size {s : ByteArray} (h : s.size ≤ 4611686018427387904) : chk (s.size : Int) = some (bs s).length := by
 unfold chk; rw [if_pos (by omega), bs_len]; simp
theorem spec_name (s : ByteArray) : spec_l31Name s = some (nmB s) := by
 unfold spec_l31Name nmB
 rw [spec_l1In_eq]
 cases h : inB (s.size : Int) 1 12 with
 | false => rfl
 | true =>
  have : s.size ≤ 12 := by unfold inB at h; simp at h; omega
  rw [Bool.not_true, cond_false, Bool.true_and, chk_size (by omega), bd_some]
  rw [forR_any (p := fun _ c => badC c) (v := false) (fun i c hc => by
   rw [ixS_at hc]
   simp only [bd_some]
   unfold badC
   cases decide ((c.toNat : Int) < 97) <;> cases decide (122 < (c.toNat : Int)) <;> cases decide ((c.toNat : Int) < 48) <;> cases decide (57 < (c.toNat : Int)) <;> rfl)]
  cases anyI (fun _ c => badC c) (bs s) 0 <;> rfl
theorem impl_name {s : ByteArray} (h : s.size ≤ 4611686018427387904) : impl_nameOk s = some (nmB s) := by
 unfold impl_nameOk nmB
 rw [chk_size h, bd_some, impl_within_eq]
 rw [forR_any (p := fun _ c => badC c) (v := false) (fun i c hc => by
  rw [ixS_at hc]
  simp only [bd_some]
  unfold badC
  cases decide ((c.toNat : Int) < 97) <;> cases decide (122 < (c.toNat : Int)) <;> cases decide ((c.toNat : Int) < 48) <;> cases decide (57 < (c.toNat : Int)) <;> rfl)]
 cases anyI (fun _ c => badC c) (bs s) 0 <;> cases inB (s.size : Int) 1 12 <;> rfl
def rcB (r : Record) : Bool := ((nmB r.name && inB r.system 1 4) && inB r.size 1 9999) && inB r.extra 0 9999
def bef (a b : Record) : Bool := ltS a.name b.name || (decide (a.name = b.name) && decide (a.system < b.system))
def bookB (l : List Record) : Bool := decide (l.length ≤ 24) && (l.all rcB && adj bef l)
theorem spec_before (a b : Record) : spec_l31Before a b.name b.system = bef a b := by
 unfold spec_l31Before bef
 rw [eqS]
 cases ltS a.name b.name <;> cases decide (a.name = b.name) <;> rfl
def cmpR (a b : Record) : Int := if cmpS a.name b.name = 0 then (if a.system < b.system then -1 else if b.system < a.system then 1 else 0) else cmpS a.name b.name
theorem impl_compare (a b : Record) : impl_compareRecords a b = some (cmpR a b) := by
 unfold impl_compareRecords
 have hN : ∀ x : Int, cmp_isNaN_int x = false := fun x => by unfold cmp_isNaN_int; simp
 have hc : cmp_Compare_int a.system b.system = if a.system < b.system then -1 else if b.system < a.system then 1 else 0 := by
  unfold cmp_Compare_int
  rw [hN, hN, cond_false, cond_false]
  by_cases h1 : a.system < b.system
  · rw [bifT (decide_eq_true h1), if_pos h1]
  · rw [bifF (decide_eq_false h1), if_neg h1]
    by_cases h2 : b.system < a.system
    · rw [bifT (decide_eq_true h2), if_pos h2]
    · rw [bifF (decide_eq_false h2), if_neg h2]
 rw [hc]
 unfold cmp_Or_int cmpR strings_Compare
 generalize hx : (if a.system < b.system then (-1 : Int) else if b.system < a.system then 1 else 0) = x
 rw [forL_find (p := fun _ y => !(y == 0)) (v := fun _ y => y) (fun i y _ => rfl)]
 cases hz : cmpS a.name b.name == 0 with
 | true =>
  have h0 : cmpS a.name b.name = 0 := by simpa using hz
  rw [if_pos h0, h0]
  cases hy : x == 0 with
  | true =>
   have : x = 0 := by simpa using hy
   rw [this]; rfl
  | false =>
   have e : findI (fun _ (y : Int) => !(y == 0)) [0, x] 0 = some (1, x) := by simp [findI, hy]
   rw [e]; rfl
 | false =>
  have h0 : cmpS a.name b.name ≠ 0 := by simpa using hz
  rw [if_neg h0]
  have e : findI (fun _ (y : Int) => !(y == 0)) [cmpS a.name b.name, x] 0 = some (0, cmpS a.name b.name) := by simp [findI, hz]
  rw [e]; rfl
theorem cmpR_neg (a b : Record) : decide (cmpR a b < 0) = bef a b := by
 unfold cmpR bef
 have h1 := cmpS_neg a.name b.name; have h2 := cmpS_zero a.name b.name
 by_cases h : a.name = b.name
 · rw [if_pos (h2.2 h), decide_eq_true h, Bool.true_and, h, ltS_irr, Bool.false_or]
   by_cases h3 : a.system < b.system
   · rw [if_pos h3, decide_eq_true h3]; rfl
   · rw [if_neg h3, decide_eq_false h3]
     split <;> rfl
 · rw [if_neg (fun e => h (h2.1 e)), decide_eq_false h, Bool.false_and, Bool.or_false]
   cases hl : ltS a.name b.name with
   | true => exact decide_eq_true (h1.2 hl)
   | false => exact decide_eq_false fun g => by rw [h1.1 g] at hl; cases hl
theorem cmpR_ge (a b : Record) : decide (0 ≤ cmpR a b) = !bef a b := by
 rw [← cmpR_neg]
 by_cases h : cmpR a b < 0
 · rw [decide_eq_true h, decide_eq_false (by omega)]; rfl
 · rw [decide_eq_false h, decide_eq_true (by omega)]; rfl
def sameK (a b : Record) : Bool := decide (a.name = b.name) && decide (a.system = b.system)
theorem cmpR_zero (a b : Record) : (cmpR a b == 0) = sameK a b := by
 unfold cmpR sameK
 have h2 := cmpS_zero a.name b.name
 by_cases h : a.name = b.name
 · rw [if_pos (h2.2 h), decide_eq_true h, Bool.true_and]
   by_cases h3 : a.system < b.system
   · rw [if_pos h3, decide_eq_false (by omega)]; rfl
   · rw [if_neg h3]
     by_cases h4 : b.system < a.system
     · rw [if_pos h4, decide_eq_false (by omega)]; rfl
     · rw [if_neg h4, decide_eq_true (by omega)]; rfl
 · rw [if_neg (fun e => h (h2.1 e)), decide_eq_false h, Bool.false_and, beq_eq_false_iff_ne]
   exact fun e => h (h2.1 e)
theorem bef_tr {a b c : Record} (h1 : bef a b = true) (h2 : bef b c = true) : bef a c = true := by
 unfold bef at *
 simp only [Bool.or_eq_true, Bool.and_eq_true, decide_eq_true_eq] at *
 rcases h1 with h1 | ⟨h1, g1⟩ <;> rcases h2 with h2 | ⟨h2, g2⟩
 · exact .inl (ltS_tr h1 h2)
 · exact .inl (h2 ▸ h1)
 · exact .inl (h1 ▸ h2)
 · exact .inr ⟨h1.trans h2, by omega⟩
def recBad (l : List Record) (i : Nat) (y : Record) : Bool := !rcB y || (decide (0 < i) && (match l[i - 1]? with | some x => !bef x y | none => false))
theorem rec_any (l : List Record) : anyI (recBad l) l 0 = !(l.all rcB && adj bef l) := by
 have := anyI_adj (l := l) (p := recBad l) (q := fun y => !rcB y) (r := bef) (fun y _ => by unfold recBad; simp) (fun i x y hx hy => by unfold recBad; simp [hx])
 rw [this]; simp
theorem spec_book (l : List Record) : spec_l31Good l = some (bookB l) := by
 unfold spec_l31Good bookB
 by_cases h24 : l.length ≤ 24
 · rw [bifF (decide_eq_false (by rw [len_eq]; omega)), decide_eq_true h24, Bool.true_and]
   rw [forL_any (p := recBad l) (v := false) (fun i y hy => by
    rw [spec_name, bd_some]
    have hi := lt_of_get hy
    have e : (bif (bif (bif (!nmB y.name) then true else (!(spec_l31System y.system))) then true else (!(spec_l1In y.size 1 9999))) then true else (!(spec_l1In y.extra 0 9999))) = !rcB y := by
     unfold spec_l31System rcB
     rw [spec_l1In_eq, spec_l1In_eq, spec_l1In_eq]
     cases nmB y.name <;> cases inB y.system 1 4 <;> cases inB y.size 1 9999 <;> cases inB y.extra 0 9999 <;> rfl
    rw [e]
    unfold recBad
    cases rcB y with
    | false => rfl
    | true =>
     rw [Bool.not_true, cond_false, Bool.false_or]
     by_cases h0 : 0 < i
     · rw [bifT (decide_eq_true (show 0 < ((i : Nat) : Int) by omega)), wr_pred h0 hi (by omega), ix_get, decide_eq_true h0, Bool.true_and]
       obtain ⟨x, hx⟩ : ∃ x, l[i - 1]? = some x := ⟨_, List.getElem?_eq_getElem (by omega)⟩
       rw [hx, bd_some, spec_before]; rfl
     · rw [bifF (decide_eq_false (show ¬ 0 < ((i : Nat) : Int) by omega)), decide_eq_false h0]; rfl), rec_any]
   cases l.all rcB && adj bef l <;> rfl
 · rw [bifT (decide_eq_true (by rw [len_eq]; omega)), decide_eq_false h24]; rfl
theorem impl_book {l : List Record} (hl : l.length ≤ lim) (hn : ∀ y ∈ l, y.name.size ≤ 4611686018427387904) : impl_IsBook l = some (bookB l) := by
 have hlm : lim = 4294967296 := rfl
 unfold impl_IsBook bookB
 rw [forL_any (p := recBad l) (v := false) (fun i y hy => by
  rw [impl_name (hn y (List.mem_of_getElem? hy)), bd_some]
  have hi := lt_of_get hy
  have e : (bif (bif (bif (!nmB y.name) then true else (!(impl_systemOk y.system))) then true else (!(impl_within y.size 1 9999))) then true else (!(impl_within y.extra 0 9999))) = !rcB y := by
   unfold impl_systemOk rcB
   rw [impl_within_eq, impl_within_eq, impl_within_eq]
   cases nmB y.name <;> cases inB y.system 1 4 <;> cases inB y.size 1 9999 <;> cases inB y.extra 0 9999 <;> rfl
  rw [e]
  unfold recBad
  cases rcB y with
  | false => rfl
  | true =>
   rw [Bool.not_true, cond_false, Bool.false_or]
   by_cases h0 : 0 < i
   · rw [bifT (decide_eq_true (show 0 < ((i : Nat) : Int) by omega)), wr_pred h0 hi (by omega), ix_get, decide_eq_true h0, Bool.true_and]
     obtain ⟨x, hx⟩ : ∃ x, l[i - 1]? = some x := ⟨_, List.getElem?_eq_getElem (by omega)⟩
     rw [hx, bd_some, impl_compare, bd_some, cmpR_ge]; rfl
   · rw [bifF (decide_eq_false (show ¬ 0 < ((i : Nat) : Int) by omega)), decide_eq_false h0]; rfl), rec_any]
 have e : decide (len l ≤ 24) = decide (l.length ≤ 24) := decide_eq_decide.2 (by rw [len_eq]; omega)
 rw [e]
 cases l.all rcB && adj bef l <;> cases decide (l.length ≤ 24) <;> rfl
end Go.PF
namespace Go.PF
open Go.Pu
def plc (l : List Record) (r : Record) : Nat := (l.takeWhile fun x => bef x r).length
theorem plc_le (l : List Record) (r : Record) : plc l r ≤ l.length := (List.takeWhile_sublist _).length_le
theorem plc_at {l : List Record} {r : Record} (hs : l.Pairwise fun a b => bef a b = true) : ∀ {i : Nat} {x : Record}, l[i]? = some x → bef x r = decide (i < plc l r) := by
 induction l with
 | nil => intro i x h; simp at h
 | cons y l ih =>
  obtain ⟨h1, h2⟩ := List.pairwise_cons.1 hs
  have ih := fun {i x} => @ih h2 i x
  intro i x h
  cases hy : bef y r with
  | true =>
   have e : plc (y :: l) r = plc l r + 1 := by unfold plc; rw [List.takeWhile_cons, if_pos hy]; rfl
   rw [e]
   cases i with
   | zero => simp at h; subst h; rw [hy]; simp
   | succ i =>
    rw [ih (by simpa using h)]
    exact decide_eq_decide.2 (by omega)
  | false =>
   have e : plc (y :: l) r = 0 := by unfold plc; rw [List.takeWhile_cons, if_neg (by rw [hy]; simp)]; rfl
   rw [e, decide_eq_false (Nat.not_lt_zero i)]
   cases i with
   | zero => simp at h; subst h; exact hy
   | succ i =>
    have hm : x ∈ l := List.mem_of_getElem? (i := i) (by simpa using h)
    cases hx : bef x r with
    | false => rfl
    | true => rw [bef_tr (h1 x hm) hx] at hy; cases hy
theorem mid_eq {lo hi : Nat} (h : lo + hi < 9223372036854775808) : wrk true 64 (shrK 64 (wrk false 64 (wr ((lo : Int) + (hi : Int)))) 1) = (((lo + hi) / 2 : Nat) : Int) := by
 have e1 : wr ((lo : Int) + (hi : Int)) = ((lo + hi : Nat) : Int) := by rw [wr_of _ (by omega) (by omega)]; omega
 have e2 : wrk false 64 ((lo + hi : Nat) : Int) = ((lo + hi : Nat) : Int) := by
  unfold wrk
  simp only [Bool.false_and]
  have : (((lo + hi : Nat) : Int)) % (2 ^ 64 : Int) = ((lo + hi : Nat) : Int) := Int.emod_eq_of_lt (by omega) (by omega)
  rw [this]; rfl
 have e3 : shrK 64 ((lo + hi : Nat) : Int) 1 = (((lo + hi) / 2 : Nat) : Int) := by
  unfold shrK
  show Int.fdiv _ (2 ^ 1) = _
  rw [Int.fdiv_eq_ediv_of_nonneg _ (by omega)]
  omega
 have e4 : wrk true 64 (((lo + hi) / 2 : Nat) : Int) = (((lo + hi) / 2 : Nat) : Int) := by
  unfold wrk
  have : ((((lo + hi) / 2 : Nat) : Int)) % (2 ^ 64 : Int) = (((lo + hi) / 2 : Nat) : Int) := Int.emod_eq_of_lt (by omega) (by omega)
  simp only [this, Bool.true_and]
  rw [if_neg]
  rw [decide_eq_true_eq]
  omega
 rw [e1, e2, e3, e4]
def bsBody (l : List Record) (r : Record) : Int × Int → Option (Lp (Int × Int) Empty) := fun s29 => (bif (decide (s29.1 < s29.2)) then bd (ix l (wrk true 64 (shrK 64 (wrk false 64 (wr (s29.1 + s29.2))) 1))) (fun x42074 => bd (impl_compareRecords x42074 r) (fun r51068 => (bif (decide (r51068 < 0)) then some (Lp.nx ((wr ((wrk true 64 (shrK 64 (wrk false 64 (wr (s29.1 + s29.2))) 1)) + 1)), s29.2)) else some (Lp.nx (s29.1, (wrk true 64 (shrK 64 (wrk false 64 (wr (s29.1 + s29.2))) 1))))))) else some (Lp.bk (s29.1, s29.2)))
theorem bs_iter {l : List Record} {r : Record} (hs : l.Pairwise fun a b => bef a b = true) (hl : l.length ≤ lim) : ∀ (m lo hi : Nat), hi - lo ≤ m → lo ≤ plc l r → plc l r ≤ hi → hi ≤ l.length →
 iter (bsBody l r) ((lo : Int), (hi : Int)) = some (.go ((plc l r : Int), (plc l r : Int))) := by
 have hlm : lim = 4294967296 := rfl
 intro m
 induction m with
 | zero =>
  intro lo hi h1 h2 h3 h4
  have e1 : lo = plc l r := by omega
  have e2 : hi = plc l r := by omega
  subst e1
  rw [e2]
  refine iter_bk ?_
  unfold bsBody
  rw [bifF (decide_eq_false (by simp))]
 | succ m ih =>
  intro lo hi h1 h2 h3 h4
  by_cases hlt : lo < hi
  · obtain ⟨x, hx⟩ : ∃ x, l[(lo + hi) / 2]? = some x := ⟨_, List.getElem?_eq_getElem (by omega)⟩
    have hb := plc_at hs (r := r) hx
    have e : bsBody l r ((lo : Int), (hi : Int)) = (bif bef x r then some (.nx ((((lo + hi) / 2 + 1 : Nat) : Int), (hi : Int))) else some (.nx ((lo : Int), (((lo + hi) / 2 : Nat) : Int)))) := by
     unfold bsBody
     rw [bifT (decide_eq_true (by show (lo : Int) < (hi : Int); omega))]
     show bd (ix l (wrk true 64 (shrK 64 (wrk false 64 (wr ((lo : Int) + (hi : Int)))) 1))) _ = _
     rw [mid_eq (by omega), ix_nat hx, bd_some, impl_compare, bd_some, cmpR_neg]
     rw [show wr ((((lo + hi) / 2 : Nat) : Int) + 1) = (((lo + hi) / 2 + 1 : Nat) : Int) by rw [wr_of _ (by omega) (by omega)]; omega]
    by_cases hk : (lo + hi) / 2 < plc l r
    · rw [hb, decide_eq_true hk] at e
      rw [iter_nx e]
      exact ih _ _ (by omega) (by omega) h3 h4
    · rw [hb, decide_eq_false hk] at e
      rw [iter_nx e]
      exact ih _ _ (by omega) h2 (by omega) (by omega)
  · exact ih lo hi (by omega) h2 h3 h4
def fnd (l : List Record) (r : Record) : Bool := match l[plc l r]? with | some x => sameK x r | none => false
theorem search_eq {l : List Record} {r : Record} (hs : l.Pairwise fun a b => bef a b = true) (hl : l.length ≤ lim) :
 slices_BinarySearchFunc_impl_Record_impl_Record_impl_Record l r (fun x0 x1 => impl_compareRecords x0 x1) = some ((plc l r : Int), fnd l r) := by
 have e : iter (bsBody l r) (0, len l) = some (.go ((plc l r : Int), (plc l r : Int))) := bs_iter hs hl l.length 0 l.length (by omega) (Nat.zero_le _) (plc_le l r) (Nat.le_refl _)
 unfold slices_BinarySearchFunc_impl_Record_impl_Record_impl_Record
 show bdR (iter (bsBody l r) (0, len l)) _ _ = _
 rw [e]
 show bd (bif (decide ((plc l r : Int) < (len l))) then bd (ix l (plc l r : Int)) (fun x => bd (impl_compareRecords x r) (fun c => some (c == 0))) else some false) (fun t => some ((plc l r : Int), t)) = _
 unfold fnd
 by_cases h : plc l r < l.length
 · obtain ⟨x, hx⟩ : ∃ x, l[plc l r]? = some x := ⟨_, List.getElem?_eq_getElem h⟩
   rw [bifT (decide_eq_true (by rw [len_eq]; omega)), ix_nat hx, bd_some, impl_compare, bd_some, bd_some, cmpR_zero, hx]
 · rw [bifF (decide_eq_false (by rw [len_eq]; omega)), bd_some, List.getElem?_eq_none (by omega)]
def better (r x : Record) : Bool := decide (r.size < x.size) || (x.size == r.size && decide (r.extra < x.extra))
def entL (l : List Record) (r : Record) : List Record :=
 match l[plc l r]? with
 | some x => bif sameK x r then (bif better r x then l.set (plc l r) r else l) else l.take (plc l r) ++ [r] ++ l.drop (plc l r)
 | none => l.take (plc l r) ++ [r] ++ l.drop (plc l r)
theorem entL_mem {l : List Record} {r x : Record} (h : x ∈ entL l r) : x ∈ l ∨ x = r := by
 have key : x ∈ l.take (plc l r) ++ [r] ++ l.drop (plc l r) → x ∈ l ∨ x = r := by
  intro h
  simp only [List.mem_append, List.mem_singleton] at h
  rcases h with (h | h) | h
  · exact .inl (List.mem_of_mem_take h)
  · exact .inr h
  · exact .inl (List.mem_of_mem_drop h)
 unfold entL at h
 split at h
 · rename_i y hy
   cases h1 : sameK y r with
   | false => rw [h1, cond_false] at h; exact key h
   | true =>
    rw [h1, cond_true] at h
    cases h2 : better r y with
    | false => rw [h2, cond_false] at h; exact .inl h
    | true => rw [h2, cond_true] at h; exact List.mem_or_eq_of_mem_set h
 · exact key h
theorem entL_len (l : List Record) (r : Record) : (entL l r).length ≤ l.length + 1 := by
 have hp := plc_le l r
 have key : (l.take (plc l r) ++ [r] ++ l.drop (plc l r)).length = l.length + 1 := by simp; omega
 unfold entL
 split
 · rename_i y hy
   cases sameK y r with
   | false => rw [cond_false, key]; exact Nat.le_refl _
   | true =>
    rw [cond_true]
    cases better r y with
    | false => rw [cond_false]; omega
    | true => rw [cond_true, List.length_set]; omega
 · rw [key]; exact Nat.le_refl _
end Go.PF
namespace Go.PF
open Go.Pu
theorem book_sorted {l : List Record} (h : bookB l = true) : l.length ≤ 24 ∧ (∀ y ∈ l, rcB y = true) ∧ l.Pairwise fun a b => bef a b = true := by
 unfold bookB at h
 simp only [Bool.and_eq_true, decide_eq_true_eq, List.all_eq_true] at h
 exact ⟨h.1, h.2.1, adj_pairwise (R := fun a b => bef a b = true) (fun _ _ _ h1 h2 => bef_tr h1 h2) (fun _ _ _ _ h => h) h.2.2⟩
theorem cut_take {A : Type} {l : List A} {k : Nat} (h : k ≤ l.length) : cut l 0 (k : Int) = some (l.take k) := by
 unfold cut; rw [if_pos (by omega)]; simp
theorem cut_drop {A : Type} {l : List A} {k : Nat} (h : k ≤ l.length) : cut l (k : Int) (len l) = some (l.drop k) := by
 unfold cut; rw [len_eq, if_pos (by omega)]; simp
theorem set_midE {A : Type} {l : List A} {k : Nat} {x y : A} (h : l[k]? = some y) : l.take k ++ [x] ++ l.drop (k + 1) = l.set k x := by
 have hk := lt_of_get h
 rw [List.set_eq_take_append_cons_drop, if_pos hk]
 simp
theorem set_self {A : Type} {l : List A} {k : Nat} {y : A} (h : l[k]? = some y) : l.set k y = l := by
 apply List.ext_getElem?
 intro j
 rw [List.getElem?_set]
 split
 · rename_i e; subst e; rw [h]; simp [lt_of_get h]
 · rfl
theorem sameK_split (x r : Record) : ((decide (x.name = r.name)) && (x.system == r.system)) = sameK x r := by
 unfold sameK
 by_cases h : x.system = r.system
 · rw [decide_eq_true h, beq_iff_eq.2 h]
 · rw [decide_eq_false h, beq_eq_false_iff_ne.2 h]
theorem spec_enter {l : List Record} {r : Record} (hl : l.length + 2 ≤ lim) : spec_l31Enter l r = some (bif bookB (entL l r) then (entL l r, true) else ([], false)) := by
 have hlm : lim = 4294967296 := rfl
 have hp := plc_le l r
 unfold spec_l31Enter
 rw [iter_while (xs := l) (p := fun x => bef x r) (fun i y hy => by
  have hi := lt_of_get hy
  rw [bifT (decide_eq_true (show (i : Int) < len l by rw [len_eq]; omega)), ix_nat hy, bd_some, spec_before, bd_some, wr_succ hi (by omega)]) (by
  rw [bifF (decide_eq_false (show ¬ (l.length : Int) < len l by rw [len_eq]; omega)), bd_some]; rfl)]
 rw [show (List.takeWhile (fun x => bef x r) l).length = plc l r from rfl, bdR_go]
 rw [cut_take hp, bd_some, app_ok (by simp; omega), bd_some, List.nil_append]
 have fin : ∀ out, bd (spec_l31Good out) (fun r138437 => (bif (!r138437) then some (([] : List Record), false) else some (out, true))) = some (bif bookB out then (out, true) else ([], false)) := by
  intro out
  rw [spec_book, bd_some]
  cases bookB out <;> rfl
 have ins : ∀ (hn : entL l r = l.take (plc l r) ++ [r] ++ l.drop (plc l r)), bdR (S := List Record) (X := Empty) (bd (app (l.take (plc l r)) [r]) (fun xs117415 => bd (cut l (plc l r : Int) (len l)) (fun xs126415 => bd (app xs117415 xs126415) (fun xs129415 => some (Rs.go xs129415))))) (fun s69302 => bd (spec_l31Good s69302) (fun r138437 => (bif (!r138437) then some ([], false) else some (s69302, true)))) (fun x69304 => nomatch x69304) = some (bif bookB (entL l r) then (entL l r, true) else ([], false)) := by
  intro hn
  rw [app_ok (by simp; omega), bd_some, cut_drop hp, bd_some, app_ok (by simp; omega), bd_some, bdR_go, fin, hn]
 by_cases h : plc l r < l.length
 · obtain ⟨x, hx⟩ : ∃ x, l[plc l r]? = some x := ⟨_, List.getElem?_eq_getElem h⟩
   rw [bifT (decide_eq_true (show (plc l r : Int) < len l by rw [len_eq]; omega)), ix_nat hx, bd_some, bd_some, eqS]
   have he : entL l r = bif sameK x r then (bif better r x then l.set (plc l r) r else l) else l.take (plc l r) ++ [r] ++ l.drop (plc l r) := by unfold entL; rw [hx]
   have hk := sameK_split x r
   cases h1 : decide (x.name = r.name) with
   | false =>
    rw [h1, Bool.false_and] at hk
    rw [← hk, cond_false] at he
    rw [cond_false, bd_some]
    exact ins he
   | true =>
    rw [h1, Bool.true_and] at hk
    rw [cond_true, bd_some, bd_some]
    cases h2 : x.system == r.system with
    | false =>
     rw [h2] at hk; rw [← hk, cond_false] at he
     exact ins he
    | true =>
     rw [h2] at hk; rw [← hk, cond_true] at he
     rw [cond_true, bd_some]
     have tl : ∀ y, bd (app (l.take (plc l r)) [y]) (fun xs81404 => bd (cut l (wr ((plc l r : Int) + 1)) (len l)) (fun xs93404 => bd (app xs81404 xs93404) (fun xs96404 => some (Rs.go (S := List Record) (X := Empty) xs96404)))) = some (.go (l.set (plc l r) y)) := by
      intro y
      rw [app_ok (by simp; omega), bd_some, show wr ((plc l r : Int) + 1) = ((plc l r + 1 : Nat) : Int) by rw [wr_of _ (by omega) (by omega)]; omega, cut_drop (by omega), bd_some, app_ok (by simp; omega), bd_some, set_midE hx]
     have hb : (bif (decide (r.size < x.size)) then true else (bif (x.size == r.size) then (decide (r.extra < x.extra)) else false)) = better r x := by unfold better; rw [bif_ff, bif_tt]
     rw [hb]
     cases h3 : better r x with
     | true =>
      rw [h3, cond_true] at he
      have := tl r
      show bdR (bd (app (l.take (plc l r)) [r]) _) _ _ = _
      rw [this, bdR_go, fin, he]
     | false =>
      rw [h3, cond_false] at he
      have := tl x
      show bdR (bd (app (l.take (plc l r)) [x]) _) _ _ = _
      rw [this, bdR_go, fin, he, set_self hx]
 · rw [bifF (decide_eq_false (show ¬ (plc l r : Int) < len l by rw [len_eq]; omega)), bd_some, cond_false, bd_some]
   exact ins (by unfold entL; rw [List.getElem?_eq_none (by omega)])
def entB (l : List Record) (r : Record) : Bool := bookB l && (bookB (entL l r) && bookB [r])
theorem impl_enter_eq {l : List Record} {r : Record} (hl : l.length + 2 ≤ lim) (hn : ∀ y ∈ l, y.name.size ≤ 4611686018427387904) (hr : r.name.size ≤ 4611686018427387904) :
 impl_enter l r = some (bif entB l r then (entL l r, false) else ([], true)) := by
 have hlm : lim = 4294967296 := rfl
 unfold impl_enter entB
 rw [impl_book (by omega) hn, bd_some]
 cases hB : bookB l with
 | false => rfl
 | true =>
  obtain ⟨g1, g2, g3⟩ := book_sorted hB
  have hp := plc_le l r
  rw [Bool.not_true, cond_false, Bool.true_and]
  have hc : slices_Clone_impl_Record_impl_Record l = some l := by
   unfold slices_Clone_impl_Record_impl_Record
   rw [app_ok (by simp; omega), bd_some, List.nil_append]
  rw [hc, bd_some, search_eq g3 (by omega), bd_some]
  have fin : ∀ out, out = entL l r → bd (impl_IsBook out) (fun r340 => bd (bif (!r340) then some true else bd (impl_IsBook [r]) (fun r377 => some (!r377))) (fun t360 => (bif t360 then some (([] : List Record), true) else some (out, false)))) = some (bif (bookB (entL l r) && bookB [r]) then (entL l r, false) else ([], true)) := by
   rintro out rfl
   have hlen := entL_len l r
   rw [impl_book (by omega) (fun y hy => (entL_mem hy).elim (hn y) fun e => e ▸ hr), bd_some, impl_book (l := [r]) (by simp; omega) (fun y hy => by simp at hy; exact hy ▸ hr)]
   cases bookB (entL l r) <;> cases bookB [r] <;> rfl
  have ins : (hn : entL l r = l.take (plc l r) ++ [r] ++ l.drop (plc l r)) → bd (slices_Insert_impl_Record_impl_Record l (plc l r : Int) [r]) (fun r203 => some (Rs.go (S := List Record) (X := Empty) r203.1)) = some (.go (entL l r)) := by
   intro hn
   unfold slices_Insert_impl_Record_impl_Record insL
   rw [if_pos ⟨by omega, by omega, rfl, by omega⟩, bd_some, Int.toNat_natCast, hn]
  cases hx : l[plc l r]? with
  | none =>
   have hf : fnd l r = false := by unfold fnd; rw [hx]
   have he : entL l r = l.take (plc l r) ++ [r] ++ l.drop (plc l r) := by unfold entL; rw [hx]
   show bdR (bif (!fnd l r) then bd (slices_Insert_impl_Record_impl_Record l (plc l r : Int) [r]) (fun r203 => some (Rs.go r203.1)) else _) _ _ = _
   rw [hf, Bool.not_false, cond_true, ins he, bdR_go]
   exact fin _ rfl
  | some x =>
   have hf : fnd l r = sameK x r := by unfold fnd; rw [hx]
   have he : entL l r = bif sameK x r then (bif better r x then l.set (plc l r) r else l) else l.take (plc l r) ++ [r] ++ l.drop (plc l r) := by unfold entL; rw [hx]
   show bdR (bif (!fnd l r) then bd (slices_Insert_impl_Record_impl_Record l (plc l r : Int) [r]) (fun r203 => some (Rs.go r203.1)) else _) _ _ = _
   rw [hf]
   cases hs : sameK x r with
   | false =>
    rw [hs, cond_false] at he
    rw [Bool.not_false, cond_true, ins he, bdR_go]
    exact fin _ rfl
   | true =>
    rw [hs, cond_true] at he
    rw [Bool.not_true, cond_false]
    simp only [ix_nat hx, bd_some]
    have hb : (bif decide (r.size < x.size) then some true else bd (bif x.size == r.size then some (decide (r.extra < x.extra)) else some false) (fun t284 => some t284)) = some (better r x) := by
     unfold better
     cases decide (r.size < x.size) <;> cases x.size == r.size <;> rfl
    rw [hb, bd_some]
    cases h3 : better r x with
    | true =>
     rw [h3, cond_true] at he
     rw [cond_true, put_ok (lt_of_get hx), bd_some, bdR_go]
     exact fin _ he.symm
    | false =>
     rw [h3, cond_false] at he
     rw [cond_false, bdR_go]
     exact fin _ he.symm
theorem impl_entered_eq {l : List Record} {nm : ByteArray} {s n w : Int} (hl : l.length + 2 ≤ lim) (hn : ∀ y ∈ l, y.name.size ≤ 4611686018427387904) (hr : nm.size ≤ 4611686018427387904) :
 impl_entered l nm s n w = some (bif entB l (Record.mk nm s n w) then (entL l (Record.mk nm s n w), true) else ([], false)) := by
 unfold impl_entered
 rw [impl_enter_eq hl hn hr, bd_some]
 unfold errors_Is
 cases entB l (Record.mk nm s n w) <;> rfl
end Go.PF
namespace Go.PF
open Go.Pu
def wdt (S : List ResStep) : Int := S.foldl (fun s y => mx s (len y.clause)) 0
theorem most_mx (a b : Int) : spec_l1Most a b = mx a b := by
 unfold spec_l1Most mx
 by_cases h : b < a
 · rw [bifT (decide_eq_true h), if_neg (by omega)]
 · rw [bifF (decide_eq_false h)]
   split
   · rfl
   · omega
theorem spec_width (S : List ResStep) : spec_l31Width S = some (wdt S) := by
 unfold spec_l31Width
 rw [forL_fold (g := fun s (y : ResStep) => mx s (len y.clause)) (fun i y s _ => by rw [most_mx])]
 rfl
theorem impl_width {F : Cnf} {S : List ResStep} (hF : okCnf F) (hS : okL okResStep S) : impl_WidthOfProof F S = some (bif proofB F S then (wdt S, true) else (0, false)) := by
 unfold impl_WidthOfProof
 rw [impl_isProof_eq hF hS, bd_some]
 cases proofB F S with
 | false => rfl
 | true =>
  rw [Bool.not_true, cond_false, forL_fold (g := fun s (y : ResStep) => mx s (len y.clause)) (fun i y s _ => rfl)]
  rfl
theorem wdt_le {S : List ResStep} {n : Nat} (h : ∀ y ∈ S, y.clause.length ≤ n) : 0 ≤ wdt S ∧ wdt S ≤ n := by
 have key : ∀ (l : List ResStep) (s : Int), (∀ y ∈ l, y.clause.length ≤ n) → 0 ≤ s → s ≤ n → 0 ≤ l.foldl (fun s y => mx s (len y.clause)) s ∧ l.foldl (fun s y => mx s (len y.clause)) s ≤ n := by
  intro l
  induction l with
  | nil => intro s _ h0 h1; exact ⟨h0, h1⟩
  | cons y l ih =>
   intro s hl h0 h1
   have hy := hl y (by simp)
   have e : 0 ≤ mx s (len y.clause) ∧ mx s (len y.clause) ≤ n := by
    unfold mx; rw [len_eq]; split <;> omega
   exact ih _ (fun z hz => hl z (by simp [hz])) e.1 e.2
 exact key S 0 h (Int.le_refl _) (by omega)
theorem ref_parts {F : Cnf} {S : List ResStep} (h : refB F S = true) : IsD F S ∧ 0 < S.length ∧ proofB F S = true := by
 unfold refB at h
 simp only [Bool.and_eq_true, decide_eq_true_eq] at h
 refine ⟨derB_iff.1 h.1, by have := h.2.1; rw [len_eq] at this; omega, ?_⟩
 unfold proofB
 rw [h.1, decide_eq_true h.2.1]; rfl
def recOf (nm : ByteArray) (S : List ResStep) : Record := Record.mk nm 1 (len S) (wdt S)
def entV (b : List Record) (nm : ByteArray) (F : Cnf) (S : List ResStep) : List Record × Bool := bif refB F S && entB b (recOf nm S) then (entL b (recOf nm S), true) else ([], false)
theorem one_book {F : Cnf} {S : List ResStep} {nm : ByteArray} (h : refB F S = true) : bookB [recOf nm S] = nmB nm := by
 obtain ⟨hD, h0, _⟩ := ref_parts h
 obtain ⟨w0, w1⟩ := wdt_le (S := S) (n := 12) fun y hy => (hD.clause hy).len
 have hl := hD.le
 have e1 : inB (len S) 1 9999 = true := by unfold inB; rw [len_eq, decide_eq_true (by omega), decide_eq_true (by omega)]; rfl
 have e2 : inB (wdt S) 0 9999 = true := by unfold inB; rw [decide_eq_true (by omega), decide_eq_true (by omega)]; rfl
 have e3 : inB 1 1 4 = true := by decide
 unfold bookB
 simp only [List.length_singleton, List.all_cons, List.all_nil, Bool.and_true, adj]
 unfold rcB recOf
 simp only [e1, e2, e3, Bool.and_true]
 rfl
theorem impl_EnterResolution_eq {b : List Record} {nm : ByteArray} {F : Cnf} {S : List ResStep} (hF : okCnf F) (hS : okL okResStep S) (hl : b.length + 2 ≤ lim) (hn : ∀ y ∈ b, y.name.size ≤ 4611686018427387904) (hr : nm.size ≤ 4611686018427387904) :
 impl_EnterResolution b nm F S = some (entV b nm F S) := by
 unfold impl_EnterResolution entV
 rw [impl_width hF hS, bd_some, impl_ref hF hS]
 cases hR : refB F S with
 | false => cases proofB F S <;> rfl
 | true =>
  rw [(ref_parts hR).2.2]
  show bd (bd (some true) (fun r46 => some (!r46))) _ = _
  rw [bd_some, bd_some]
  show bd (impl_entered b nm 1 (len S) (wdt S)) _ = _
  rw [impl_entered_eq hl hn hr, bd_some]
  rfl
theorem spec_EnterResolution_eq {b : List Record} {nm : ByteArray} {F : Cnf} {S : List ResStep} (hF : okCnf F) (hS : okL okResStep S) (hl : b.length + 2 ≤ lim) :
 spec_EnterResolution b nm F S = some (entV b nm F S) := by
 unfold spec_EnterResolution spec_l31Takes entV entB
 rw [spec_book, bd_some, spec_name, spec_ref hF hS]
 cases hB : bookB b with
 | false => cases refB F S <;> rfl
 | true =>
  cases hR : refB F S with
  | false => cases nmB nm <;> rfl
  | true =>
   rw [one_book hR]
   cases hN : nmB nm with
   | false => simp
   | true =>
    simp only [cond_true, bd_some, Bool.not_true, cond_false, Bool.and_true, Bool.true_and]
    rw [spec_width, bd_some]
    show bd (spec_l31Enter b (recOf nm S)) _ = _
    rw [spec_enter hl, bd_some]
theorem entV_small (b : List Record) (nm : ByteArray) (F : Cnf) (S : List ResStep) : (entV b nm F S).1.length ≤ 25 := by
 unfold entV
 cases h : refB F S && entB b (recOf nm S) with
 | false => simp
 | true =>
  rw [Bool.and_eq_true] at h
  have h2 := h.2
  unfold entB at h2
  rw [Bool.and_eq_true] at h2
  have := (book_sorted h2.1).1
  have := entL_len b (recOf nm S)
  simp only [cond_true]; omega
theorem plain_EnterResolution (a0 : List Record) (a1 : ByteArray) (a2 : Cnf) (a3 : List ResStep) (o0 : okL okRecord a0) (o1 : okS a1) (o2 : okCnf a2) (o3 : okL okResStep a3) : laws_FnExactEnterResolution a0 a1 a2 a3 = some true := by
 have hlm : lim = 4294967296 := rfl
 unfold laws_FnExactEnterResolution
 by_cases hN : 1048576 < (a1.size : Int)
 · rw [bifT (decide_eq_true hN)]
 rw [bifF (decide_eq_false hN)]
 obtain ⟨r0, q0, z0⟩ := sz_RecordS o0 (s := 1048576) (by omega) (by omega)
 rw [q0, bd_some]
 by_cases n0 : r0 < 0
 · simp [n0]
 obtain ⟨r1, q1, z1⟩ := sz_Cnf o2 (s := r0) (by omega) (by omega)
 simp only [n0, decide_false, cond_false]
 rw [q1, bd_some]
 by_cases n1 : r1 < 0
 · simp [n1]
 obtain ⟨r2, q2, z2⟩ := sz_ResStepS o3 (s := r1) (by omega) (by omega)
 simp only [n1, decide_false, cond_false]
 rw [q2, bd_some]
 by_cases n2 : r2 < 0
 · simp [n2]
 simp only [n2, decide_false, cond_false]
 have y0 : wRecS a0 ≤ 1048576 := by omega
 have y0' : a0.length ≤ 1048576 := by unfold wRecS at y0; omega
 have t0 := to_RecordS (a := a0) (by omega)
 have t1 := to_Cnf (a := a2) (by unfold lim; omega)
 have t2 := to_ResStepS (a := a3) (by unfold lim; omega)
 have hn : ∀ y ∈ a0, y.name.size ≤ 4611686018427387904 := fun y hy => by
  have := tot_mem (wt := fun r : Record => r.name.size) hy
  unfold wRecS at y0; omega
 have hs := spec_EnterResolution_eq (b := a0) (nm := a1) o2 o3 (by omega)
 have hi := impl_EnterResolution_eq (b := a0) (nm := a1) o2 o3 (by omega) hn (by omega)
 have hm := entV_small a0 a1 a2 a3
 generalize entV a0 a1 a2 a3 = g at hs hi hm
 have w0 : tot wIntS a2.clauses ≤ 1048576 := by unfold wCnf wIntSS at z1; omega
 have w1 := mResStep_le (a := a3) (by omega)
 have m0 := mark_RecordS (a := a0) (k := 1) (by omega) (by omega)
 have m1 := mark_Cnf (a := a2) (k := (laws_markRecordS a0 1).2) (by omega) (by unfold big; omega)
 have m2 := mark_ResStepS (a := a3) (k := (laws_markCnf a2 (laws_markRecordS a0 1).2).2) (by omega) (by unfold big; omega)
 have mg := mark_RecordS (a := g.1) (k := 1) (by omega) (by omega)
 have hg := held_RecordS g.1 (k := 1) (by omega) (by omega)
 have d1 : decide ((laws_markResStepS a3 (laws_markCnf a2 (laws_markRecordS a0 1).2).2).2 < 0) = false := by rw [decide_eq_false_iff_not]; omega
 have d2 : decide ((laws_markRecordS g.1 1).2 < 0) = false := by rw [decide_eq_false_iff_not]; omega
 simp only [t0, t1, t2, hs, hi, hg, d1, d2, bd_some, eq_RecordS, eq_ResStepS, eq_Cnf, BEq.rfl, Bool.not_true, cond_false, bif_tt, Bool.or_false]
end Go.PF
