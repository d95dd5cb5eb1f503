/- The frame of a law, type by type: sizes, copies, comparisons, marks. Literals, clauses, families of clauses; what both packages ask of them. Resolvents: the merged list of one package is the sorted list of the other. Resolvents and derivations: both packages answer alike. Derivations: both packages accept the same ones. Sets of ints as ascending lists; the pivots of a proof. The pivots of the steps of a proof; the reference and the program answer alike; the law. The steps that a derivation needs: both sides tell the same ones. The needed steps, told by the program; the reference's second mask. Up to a place: the needed steps there. TrimSteps: the law. The needed steps of a list of steps of which only the shape is known. -/
import Derived.Test.YtjkdeonnohadeaaGreatLpPf
namespace Go.PF
open Go.Pu

def big : Int := 9223372036854775807
def wIntS (a : List Int) : Nat := a.length
def wIntSS (a : List (List Int)) : Nat := a.length + tot wIntS a
def wCnf (a : Cnf) : Nat := wIntSS a.clauses
theorem sz_IntS {a : List Int} {s : Int} (ha : okL okI a) (h0 : 0 ≤ s) (h1 : s ≤ 1048576) : laws_szIntS a s < 0 ∨ laws_szIntS a s + wIntS a = s := by
  have := ha.1
  unfold laws_szIntS wIntS
  rw [wr_of _ (by rw [len_eq]; omega) (by rw [len_eq]; omega)]
  by_cases h : s - len a < 0
  · left; simp [h]
  · right; simp only [h, decide_false, cond_false]; rw [len_eq]; omega
theorem sz_IntSS {a : List (List Int)} {s : Int} (ha : okL (okL okI) a) (h0 : 0 ≤ s) (h1 : s ≤ 1048576) : ∃ r, laws_szIntSS a s = some r ∧ (r < 0 ∨ r + wIntSS a = s) :=
  sz_list (sz := fun y s => some (laws_szIntS y s)) (wt := wIntS) (fun _ _ _ => rfl) (fun y hy _ h0 h1 => ⟨_, rfl, sz_IntS (ha.2 y hy) h0 h1⟩) ha.1 h0 h1
theorem sz_Cnf {a : Cnf} {s : Int} (ha : okCnf a) (h0 : 0 ≤ s) (h1 : s ≤ 1048576) : ∃ r, laws_szCnf a s = some r ∧ (r < 0 ∨ r + wCnf a = s) := by
  obtain ⟨r, h2, h3⟩ := sz_IntSS ha.2 h0 h1
  unfold laws_szCnf
  rw [h2, bd_some]
  by_cases h : r < 0
  · exact ⟨-1, by simp [h], .inl (by omega)⟩
  · exact ⟨r, by simp [h], h3⟩
theorem to_IntS {a : List Int} (h : wIntS a ≤ lim) : laws_toIntS a = some a := by
  have := to_list (β := Int) (g := fun y => some y) (h := id) (z := 0) (l := a) (f := fun i y s => bd (ix s (i : Int)) fun _ => bd (put s (i : Int) y) fun xs => some (.nx xs)) (fun _ _ _ => rfl) (fun _ _ => rfl) h
  rw [List.map_id] at this; exact this
theorem to_IntSS {a : List (List Int)} (h : wIntSS a ≤ lim) : laws_toIntSS a = some a := by
  have := to_list (g := laws_toIntS) (h := id) (z := []) (l := a) (fun _ _ _ => rfl) (fun y hy => to_IntS (by have := tot_mem (wt := wIntS) hy; unfold wIntSS at h; omega)) (by unfold wIntSS at h; omega)
  rw [List.map_id] at this; exact this
theorem to_Cnf {a : Cnf} (h : wCnf a ≤ lim) : laws_toCnf a = some a := by
  unfold laws_toCnf; rw [to_IntSS h]; rfl
theorem eq_IntS (a : List Int) : laws_eqIntS a a = some true :=
  eq_list (eq := fun y x => some (y == x)) (fun _ _ _ => rfl) (fun y _ => by simp)
theorem eq_IntSS (a : List (List Int)) : laws_eqIntSS a a = some true := eq_list (eq := laws_eqIntS) (fun _ _ _ => rfl) (fun y _ => eq_IntS y)
theorem eq_Cnf (a : Cnf) : laws_eqCnf a a = some true := by unfold laws_eqCnf; rw [eq_IntSS]; simp
theorem eq_ResStep (a : ResStep) : laws_eqResStep a a = some true := by unfold laws_eqResStep; rw [eq_IntS]; simp
theorem eq_ResStepS (a : List ResStep) : laws_eqResStepS a a = some true := eq_list (eq := laws_eqResStep) (fun _ _ _ => rfl) (fun y _ => eq_ResStep y)

def mResStep (a : ResStep) : Nat := a.clause.length + 3
theorem tot_one {A : Type} (l : List A) : tot (fun _ => 1) l = l.length := by induction l with
  | nil => rfl
  | cons _ l ih => simp [tot, ih]; omega
theorem mark_IntS {a : List Int} {k : Int} (h0 : 0 ≤ k) (h1 : k + a.length ≤ big) : (laws_markIntS a k).2 = k + a.length := by
  have := mark_end (F := fun (_ : Int) m => (m, wr (m + 1))) (wt := fun _ => 1) (l := a) (k := k) (fun y _ k h0 h1 => wr_of _ (by omega) (by omega)) h0 (by rw [tot_one]; exact h1)
  rw [tot_one] at this; exact this
theorem mark_IntSS {a : List (List Int)} {k : Int} (h0 : 0 ≤ k) (h1 : k + tot wIntS a ≤ big) : (laws_markIntSS a k).2 = k + tot wIntS a :=
  mark_end (wt := wIntS) (fun _ _ _ h0 h1 => mark_IntS h0 h1) h0 h1
theorem mark_Cnf {a : Cnf} {k : Int} (h0 : 0 ≤ k) (h1 : k + tot wIntS a.clauses ≤ big) : (laws_markCnf a k).2 = k + tot wIntS a.clauses := mark_IntSS h0 h1
theorem wr3 {k : Int} (h0 : 0 ≤ k) (h1 : k + 3 ≤ big) : wr (k + 1) = k + 1 ∧ wr (k + 1 + 1) = k + 2 ∧ wr (k + 2 + 1) = k + 3 := by
  unfold big at h1
  exact ⟨wr_of _ (by omega) (by omega), by rw [wr_of _ (by omega) (by omega)]; omega, by rw [wr_of _ (by omega) (by omega)]; omega⟩
theorem mark_ResStepS {a : List ResStep} {k : Int} (h0 : 0 ≤ k) (h1 : k + tot mResStep a ≤ big) : (laws_markResStepS a k).2 = k + tot mResStep a := by
  refine mark_end (wt := mResStep) (fun y _ k h0 h1 => ?_) h0 h1
  unfold mResStep at h1 ⊢
  have e := mark_IntS (a := y.clause) h0 (by unfold big; omega)
  obtain ⟨a1, a2, a3⟩ := wr3 (k := k + y.clause.length) (by omega) (by unfold big; omega)
  simp only [e, a1, a2, a3]; omega
theorem held_IntS {a : List Int} {k : Int} (h0 : 0 ≤ k) (h1 : k + a.length ≤ big) : laws_heldIntS (laws_markIntS a k).1 k = some (laws_markIntS a k).2 := by
  have := held_list (F := fun (_ : Int) m => (m, wr (m + 1))) (wt := fun _ => 1) (l := a) (k := k) (i := 0) (f := fun _ y s => bif !(y == s) then some (.rt (-1)) else some (.nx (wr (s + 1)))) (fun y _ k h0 h1 => ⟨wr_of _ (by omega) (by omega), fun i => by simp⟩) h0 (by rw [tot_one]; exact h1)
  unfold laws_heldIntS forL
  unfold laws_markIntS
  rw [this]; rfl
theorem held_ResStepS {a : List ResStep} {k : Int} (h0 : 0 ≤ k) (h1 : k + tot mResStep a ≤ big) : laws_heldResStepS (laws_markResStepS a k).1 k = some (laws_markResStepS a k).2 := by
  unfold laws_heldResStepS forL laws_markResStepS
  rw [held_list (wt := mResStep) (fun y _ k h0 h1 => ?_) h0 h1]
  · rfl
  · unfold mResStep at h1 ⊢
    have e := mark_IntS (a := y.clause) h0 (by unfold big; omega)
    obtain ⟨a1, a2, a3⟩ := wr3 (k := k + y.clause.length) (by omega) (by unfold big; omega)
    refine ⟨by simp only [e, a1, a2, a3]; omega, fun i => ?_⟩
    have hh := held_IntS (a := y.clause) h0 (by unfold big; omega)
    simp only [e] at hh
    simp only [e, a1, a2, a3, hh, bd_some]
    have : ¬ (k + (y.clause.length : Int) < 0) := by omega
    simp [this]
end Go.PF
namespace Go.PF
open Go.Pu

def vr (l : Int) : Int := bif decide (l < 0) then wr (-l) else l
theorem spec_l2Var_eq (l : Int) : spec_l2Var l = vr l := rfl
theorem vr_abs {l : Int} (h1 : -12 ≤ l) (h2 : l ≤ 12) : vr l = l.natAbs := by
  unfold vr
  by_cases h : l < 0
  · simp only [h, decide_true, cond_true]; rw [wr_of _ (by omega) (by omega)]; omega
  · simp only [h, decide_false, cond_false]; omega
theorem impl_abs_eq {l : Int} (h : okI l) : impl_abs l = vr l := by
  obtain ⟨h1, h2⟩ := h
  unfold impl_abs vr mx
  by_cases h0 : l < 0
  · simp only [h0, decide_true, cond_true]
    by_cases hm : l = -9223372036854775808
    · subst hm; decide
    · rw [wr_of _ (by omega) (by omega), if_pos (by omega)]
  · simp only [h0, decide_false, cond_false]
    rw [wr_of _ (by omega) (by omega)]
    by_cases hz : l = 0
    · subst hz; rfl
    · rw [if_neg (by omega)]

def inB (a b c : Int) : Bool := decide (b ≤ a) && decide (a ≤ c)
theorem inB_iff {a b c : Int} : inB a b c = true ↔ b ≤ a ∧ a ≤ c := by simp [inB]
theorem spec_l1In_eq (a b c : Int) : spec_l1In a b c = inB a b c := by simp [spec_l1In, inB]
theorem impl_within_eq (a b c : Int) : impl_within a b c = inB a b c := by simp [impl_within, inB]
def varsB (v : Int) : Bool := inB v 0 12
theorem varsB_iff {v : Int} : varsB v = true ↔ 0 ≤ v ∧ v ≤ 12 := inB_iff
theorem spec_l2Vars_eq (v : Int) : spec_l2Vars v = varsB v := spec_l1In_eq _ _ _
theorem impl_varsOk_eq (v : Int) : impl_varsOk v = varsB v := impl_within_eq _ _ _
def litB (v l : Int) : Bool := inB l (wr (-v)) v && !(l == 0)
theorem spec_l2Lit_eq (v l : Int) : spec_l2Lit v l = litB v l := by simp [spec_l2Lit, litB, spec_l1In_eq]
theorem impl_isLiteral_eq (v l : Int) : impl_isLiteral v l = litB v l := by simp [impl_isLiteral, litB, impl_within_eq, Bool.and_comm]
def clauseB (v : Int) (c : List Int) : Bool := varsB v && (c.all (litB v) && adj (fun a b => decide (vr a < vr b)) c)

theorem spec_l2Clause_eq {v : Int} {c : List Int} (hc : okL okI c) : spec_l2Clause v c = some (clauseB v c) := by
  unfold spec_l2Clause clauseB
  rw [spec_l2Vars_eq]
  cases hv : varsB v with
  | false => rfl
  | true =>
    simp only [Bool.not_true, cond_false, Bool.true_and]
    rw [forL_any (p := fun i y => !litB v y || match i with | 0 => false | i + 1 => match c[i]? with | some x => decide (vr y ≤ vr x) | none => false) (v := false) (fun i y hy => by
      rw [spec_l2Lit_eq]
      cases hl : litB v y with
      | false => simp
      | true =>
        cases i with
        | zero => simp
        | succ i =>
          have hi : i + 1 < c.length := (List.getElem?_eq_some_iff.1 hy).1
          have hp : decide ((0 : Int) < ((i + 1 : Nat) : Int)) = true := by simp
          rw [hp, wr_pred (by omega) hi hc.1, ix_get]
          simp only [Nat.add_sub_cancel]
          rw [List.getElem?_eq_getElem (show i < c.length by omega)]
          simp only [Bool.not_true, cond_false, cond_true, bd_some, Bool.false_or, spec_l2Var_eq]
          rfl)]
    rw [anyI_adj (q := fun y => !litB v y) (r := fun a b => decide (vr a < vr b)) (by intro y _; simp) (by
      intro i x y hx hy
      simp only [hx]
      congr 1
      by_cases h : vr x < vr y
      · simp [h]
      · simp [h]; omega)]
    simp only [Bool.not_not]
    cases (c.all fun y => litB v y) && adj (fun a b => decide (vr a < vr b)) c <;> rfl
theorem impl_IsClause_eq {v : Int} {c : List Int} (hc : okL okI c) : impl_IsClause v c = some (clauseB v c) := by
  unfold impl_IsClause clauseB
  rw [impl_varsOk_eq]
  rw [forL_any (p := fun i y => !litB v y || match i with | 0 => false | i + 1 => match c[i]? with | some x => decide (vr y ≤ vr x) | none => false) (v := false) (fun i y hy => by
      rw [impl_isLiteral_eq]
      cases hl : litB v y with
      | false => simp
      | true =>
        cases i with
        | zero => simp
        | succ i =>
          have hi : i + 1 < c.length := (List.getElem?_eq_some_iff.1 hy).1
          have hp : decide ((0 : Int) < ((i + 1 : Nat) : Int)) = true := by simp
          rw [hp, wr_pred (by omega) hi hc.1, ix_get]
          simp only [Nat.add_sub_cancel]
          rw [List.getElem?_eq_getElem (show i < c.length by omega)]
          simp only [Bool.not_true, cond_false, cond_true, bd_some, Bool.false_or]
          rw [impl_abs_eq (hc.2 _ (List.mem_of_getElem? hy)), impl_abs_eq (hc.2 _ (List.getElem_mem _))])]
  rw [anyI_adj (q := fun y => !litB v y) (r := fun a b => decide (vr a < vr b)) (by intro y _; simp) (by
      intro i x y hx hy
      simp only [hx]
      congr 1
      by_cases h : vr x < vr y
      · simp [h]
      · simp [h]; omega)]
  simp only [Bool.not_not]
  cases (c.all fun y => litB v y) && adj (fun a b => decide (vr a < vr b)) c <;> simp

structure IsC (v : Int) (c : List Int) : Prop where
  lo : 0 ≤ v
  hi : v ≤ 12
  lit : ∀ l ∈ c, -v ≤ l ∧ l ≤ v ∧ l ≠ 0
  srt : c.Pairwise fun a b => a.natAbs < b.natAbs
theorem adj_pairwise {α : Type} {r : α → α → Bool} {R : α → α → Prop} (ht : ∀ a b c, R a b → R b c → R a c) : ∀ {l : List α}, (∀ a b, a ∈ l → b ∈ l → r a b = true → R a b) → adj r l = true → l.Pairwise R := by
  intro l
  induction l with
  | nil => intro _ _; exact .nil
  | cons a l ih =>
    intro hr h
    cases l with
    | nil => simp
    | cons b l =>
      simp only [adj, Bool.and_eq_true] at h
      have hp := ih (fun x y hx hy => hr x y (by simp [hx]) (by simp [hy])) h.2
      have hab := hr a b (by simp) (by simp) h.1
      refine List.pairwise_cons.2 ⟨fun x hx => ?_, hp⟩
      rcases List.mem_cons.1 hx with rfl | hx
      · exact hab
      · exact ht _ _ _ hab ((List.pairwise_cons.1 hp).1 x hx)
theorem adj_of_pairwise {α : Type} {r : α → α → Bool} {l : List α} (h : l.Pairwise fun a b => r a b = true) : adj r l = true := by
  induction l with
  | nil => rfl
  | cons a l ih =>
    cases l with
    | nil => rfl
    | cons b l =>
      obtain ⟨h1, h2⟩ := List.pairwise_cons.1 h
      simp only [adj, Bool.and_eq_true]
      exact ⟨h1 b (by simp), ih h2⟩
theorem litB_iff {v l : Int} (h1 : 0 ≤ v) (h2 : v ≤ 12) : litB v l = true ↔ -v ≤ l ∧ l ≤ v ∧ l ≠ 0 := by
  unfold litB
  rw [wr_of _ (by omega) (by omega)]
  simp [inB]; omega
theorem clauseB_iff {v : Int} {c : List Int} : clauseB v c = true ↔ IsC v c := by
  unfold clauseB
  rw [Bool.and_eq_true, Bool.and_eq_true, varsB_iff, List.all_eq_true]
  constructor
  · rintro ⟨⟨h1, h2⟩, h3, h4⟩
    have hl : ∀ l ∈ c, -v ≤ l ∧ l ≤ v ∧ l ≠ 0 := fun l hl => (litB_iff h1 h2).1 (h3 l hl)
    refine ⟨h1, h2, hl, adj_pairwise (R := fun a b : Int => a.natAbs < b.natAbs) (fun _ _ _ => Nat.lt_trans) (fun a b ha hb hr => ?_) h4⟩
    have := hl a ha; have := hl b hb
    simp only [decide_eq_true_eq] at hr
    rw [vr_abs (by omega) (by omega), vr_abs (by omega) (by omega)] at hr
    omega
  · rintro ⟨h1, h2, h3, h4⟩
    refine ⟨⟨h1, h2⟩, fun l hl => (litB_iff h1 h2).2 (h3 l hl), adj_of_pairwise (List.Pairwise.imp_of_mem ?_ h4)⟩
    intro a b ha hb hr
    have := h3 a ha; have := h3 b hb
    simp only [decide_eq_true_eq]
    rw [vr_abs (by omega) (by omega), vr_abs (by omega) (by omega)]
    omega
theorem srt_len : ∀ {c : List Int} {k n : Nat}, c.Pairwise (fun a b => a.natAbs < b.natAbs) → (∀ l ∈ c, k < l.natAbs ∧ l.natAbs ≤ n) → c.length + k ≤ max k n := by
  intro c
  induction c with
  | nil => intro k n _ _; simp; omega
  | cons a c ih =>
    intro k n h hl
    obtain ⟨h1, h2⟩ := List.pairwise_cons.1 h
    have ha := hl a (by simp)
    have := ih (k := a.natAbs) (n := n) h2 fun l hm => ⟨h1 l hm, (hl l (by simp [hm])).2⟩
    simp only [List.length_cons]; omega
theorem IsC.len {v : Int} {c : List Int} (h : IsC v c) : c.length ≤ 12 := by
  have := srt_len (k := 0) (n := 12) h.srt fun l hl => by have := h.lit l hl; have := h.hi; omega
  omega
theorem IsC.ok {v : Int} {c : List Int} (h : IsC v c) : okL okI c := by
  refine ⟨by have := h.len; omega, fun l hl => ?_⟩
  have := h.lit l hl; have := h.hi
  unfold okI; omega

/-! families -/
def cnfB (f : Cnf) : Bool := varsB f.vars && decide (len f.clauses ≤ 60) && f.clauses.all (clauseB f.vars)
theorem spec_l2Good_eq {f : Cnf} (hf : okCnf f) : spec_l2Good f = some (cnfB f) := by
  unfold spec_l2Good cnfB
  rw [spec_l2Vars_eq]
  cases hv : varsB f.vars with
  | false => rfl
  | true =>
    have e : (decide (60 < len f.clauses)) = !decide (len f.clauses ≤ 60) := by
      by_cases h : len f.clauses ≤ 60
      · simp [h]
      · simp [h]; omega
    simp only [Bool.not_true, cond_false, Bool.true_and]
    rw [e]
    cases hl : decide (len f.clauses ≤ 60) with
    | false => rfl
    | true =>
      have hlen : f.clauses.length ≤ 60 := by have := of_decide_eq_true hl; rw [len_eq] at this; omega
      simp only [Bool.not_true, cond_false, Bool.true_and]
      rw [iter_any (xs := f.clauses) (p := fun _ c => !clauseB f.vars c) (v := false) (fun i y hy => by
        have hi := (List.getElem?_eq_some_iff.1 hy).1
        have hd : decide ((i : Int) < len f.clauses) = true := by rw [len_eq]; simp; omega
        rw [hd, ix_get, hy]
        simp only [cond_true, bd_some]
        rw [spec_l2Clause_eq (hf.2.2 _ (List.mem_of_getElem? hy)), bd_some]
        cases clauseB f.vars y with
        | false => simp only [Bool.not_false, cond_true]
        | true => rw [wr_succ hi (by omega)]) (by
        have hd : decide (((f.clauses.length : Nat) : Int) < len f.clauses) = false := by rw [len_eq]; simp
        rw [hd, cond_false])]
      rw [anyI_any, show (f.clauses.any fun y => !clauseB f.vars y) = !f.clauses.all (clauseB f.vars) by rw [List.all_eq_not_any_not, Bool.not_not]]
      cases f.clauses.all (clauseB f.vars) <;> rfl
theorem impl_IsCnf_eq {f : Cnf} (hf : okCnf f) : impl_IsCnf f = some (cnfB f) := by
  unfold impl_IsCnf cnfB
  rw [impl_varsOk_eq]
  rw [forL_any (p := fun _ c => !clauseB f.vars c) (v := false) (fun i y hy => by
    rw [impl_IsClause_eq (hf.2.2 _ (List.mem_of_getElem? hy)), bd_some])]
  rw [anyI_any, show (f.clauses.any fun y => !clauseB f.vars y) = !f.clauses.all (clauseB f.vars) by rw [List.all_eq_not_any_not, Bool.not_not]]
  cases f.clauses.all (clauseB f.vars) <;> simp

/-! lists of numbers -/
theorem spec_l1Same_eq (a b : List Int) : spec_l1Same a b = some (a == b) := by
  unfold spec_l1Same
  rw [len_eq, len_eq]
  by_cases hl : a.length = b.length
  · have : (((a.length : Nat) : Int) == ((b.length : Nat) : Int)) = true := by simp [hl]
    rw [this]
    simp only [Bool.not_true, cond_false]
    rw [forL_any (p := fun i y => match b[i]? with | some x => !(y == x) | none => false) (v := false) (fun i y hy => by
      have hi := (List.getElem?_eq_some_iff.1 hy).1
      rw [ix_get, List.getElem?_eq_getElem (by omega), bd_some])]
    have e : anyI (fun i y => match b[i]? with | some x => !(y == x) | none => false) a 0 = !(a == b) := by
      by_cases hab : a = b
      · subst hab
        rw [show (a == a) = true by simp]
        rw [anyI_false.2]; rfl
        intro i y hy; rw [Nat.zero_add, hy]; simp
      · rw [show (a == b) = false by simpa using hab]
        cases h : anyI (fun i y => match b[i]? with | some x => !(y == x) | none => false) a 0 with
        | true => rfl
        | false =>
          exfalso; apply hab
          rw [anyI_false] at h
          apply List.ext_getElem hl
          intro i h1 h2
          have := h i a[i] (by simp [h1])
          rw [Nat.zero_add, List.getElem?_eq_getElem h2] at this
          simpa using this
    rw [e]; cases a == b <;> rfl
  · have : (((a.length : Nat) : Int) == ((b.length : Nat) : Int)) = false := by simp; omega
    rw [this]
    have : (a == b) = false := by
      rw [beq_eq_false_iff_ne]; intro e; subst e; exact hl rfl
    rw [this]; rfl
theorem slices_Equal_int_int_eq (a b : List Int) : slices_Equal_int_int a b = some (a == b) := spec_l1Same_eq a b
theorem spec_l1Has_eq (c : List Int) (l : Int) : spec_l1Has c l = some (c.contains l) := by
  unfold spec_l1Has
  rw [forL_any (p := fun _ y => y == l) (v := true) (fun i y _ => rfl), anyI_any]
  rw [show (c.any fun y => y == l) = c.contains l by induction c with | nil => rfl | cons x c ih => rw [List.any_cons, List.contains_cons, ih, Bool.beq_comm]]
  cases c.contains l <;> rfl
theorem spec_l2Has_eq (c : List Int) (l : Int) : spec_l2Has c l = some (c.contains l) := by unfold spec_l2Has; rw [spec_l1Has_eq]; rfl
theorem contains_any (c : List Int) (l : Int) : (c.any fun y => l == y) = c.contains l := by induction c with
  | nil => rfl
  | cons x c ih => rw [List.any_cons, List.contains_cons, ih]
theorem slices_Index_int_int_ge (c : List Int) (l : Int) : ∃ r, slices_Index_int_int c l = some r ∧ decide (0 ≤ r) = c.contains l := by
  unfold slices_Index_int_int
  rw [forL_find (p := fun _ y => l == y) (v := fun i _ => (i : Int)) (fun i y _ => rfl)]
  cases h : findI (fun _ y => l == y) c 0 with
  | none =>
    refine ⟨-1, rfl, ?_⟩
    have := findI_none.1 h
    rw [anyI_any, contains_any] at this; rw [this]; rfl
  | some z =>
    obtain ⟨_, _, _, h4⟩ := findI_some h
    rw [anyI_any, contains_any] at h4
    exact ⟨_, rfl, by rw [h4]; simp⟩
theorem slices_Contains_int_int_eq (c : List Int) (l : Int) : slices_Contains_int_int c l = some (c.contains l) := by
  obtain ⟨r, h1, h2⟩ := slices_Index_int_int_ge c l
  unfold slices_Contains_int_int; rw [h1, bd_some, h2]
theorem slices_IndexFunc_int_int_ge {c : List Int} {f : Int → Option Bool} {g : Int → Bool} (h : ∀ y ∈ c, f y = some (g y)) : ∃ r, slices_IndexFunc_int_int c f = some r ∧ decide (0 ≤ r) = c.any g ∧ (∀ z, findI (fun _ y => g y) c 0 = some z → r = z.1) ∧ (findI (fun _ y => g y) c 0 = none → r = -1) := by
  unfold slices_IndexFunc_int_int
  rw [forL_find (p := fun _ y => g y) (v := fun i _ => (i : Int)) (fun i y hy => by rw [h y (List.mem_of_getElem? hy), bd_some])]
  cases hf : findI (fun _ y => g y) c 0 with
  | none =>
    refine ⟨-1, rfl, ?_, nofun, fun _ => rfl⟩
    have := findI_none.1 hf
    rw [anyI_any] at this; rw [this]; rfl
  | some z =>
    obtain ⟨_, _, _, h4⟩ := findI_some hf
    rw [anyI_any] at h4
    exact ⟨_, rfl, by rw [h4]; simp, fun z' hz => (by cases hz; rfl), nofun⟩
def partB (a b : List Int) : Bool := a.all fun y => b.contains y
end Go.PF
namespace Go.PF
open Go.Pu

theorem foldl_filter {α : Type} {p : α → Bool} : ∀ {l s : List α}, l.foldl (fun s y => bif p y then s ++ [y] else s) s = s ++ l.filter p := by
  intro l
  induction l with
  | nil => intro s; simp
  | cons y l ih =>
    intro s
    rw [List.foldl_cons, ih]
    cases h : p y <;> simp [h]
theorem forL_filter {α X : Type} {f : Nat → α → List α → Option (Lp (List α) X)} {p : α → Bool} {l : List α} (hf : ∀ i y s, l[i]? = some y → f i y s = bif p y then bd (app s [y]) fun xs => some (.nx xs) else some (.nx s)) (hl : l.length ≤ lim) :
    forL l f [] = some (.go (l.filter p)) := by
  have := (forL_foldI (X := X) (body := f) (fun s y => bif p y then s ++ [y] else s) (l := l) (s := []) (fun i s => s.length ≤ i) (by simp) (fun i x t hx ht => by
    have hi := (List.getElem?_eq_some_iff.1 hx).1
    rw [hf i x t hx]
    cases p x with
    | false => exact ⟨rfl, by simp only [cond_false]; omega⟩
    | true =>
      simp only [cond_true]
      rw [app_ok (by simp; omega), bd_some]
      exact ⟨rfl, by simp; omega⟩)).1
  rw [this, foldl_filter]; rfl

def without (c : List Int) (v : Int) : List Int := c.filter fun y => !(vr y == v)
theorem spec_l2Without_eq {c : List Int} {v : Int} (hl : c.length ≤ lim) : spec_l2Without c v = some (without c v) := by
  unfold spec_l2Without without
  rw [forL_filter (p := fun y => !(vr y == v)) (fun i y s _ => by rfl) hl]; rfl

theorem filter_take {α : Type} {p : α → Bool} {c : List α} {j : Nat} {x : α} (hx : c[j]? = some x) : (c.take (j + 1)).filter p = (c.take j).filter p ++ bif p x then [x] else [] := by
  rw [List.take_add_one, hx, Option.toList_some, List.filter_append]
  cases h : p x <;> simp [List.filter, h]
theorem del_loop {α : Type} {n : Nat} (hn : n ≤ 9223372036854775806) {c : List α} (hc : c.length = n) {f : α → Option Bool} {g : α → Bool} (h : ∀ y ∈ c, f y = some (g y)) :
    ∀ (m j i : Nat) (s : List α), j + m = n → i ≤ j → s.length = n → s.take i = (c.take j).filter (fun y => !g y) → s.drop j = c.drop j →
      ∃ s' i', iter (S := (List α) × Int × Int) (X := Empty) (fun s32 => (bif (decide (s32.2.2 < (len s32.1))) then bd (ix s32.1 s32.2.2) (fun x143 => bd (f x143) (fun r145 => (bif (!r145) then bd (ix s32.1 s32.2.1) (fun _ => bd (put s32.1 s32.2.1 x143) (fun xs167 => some (Lp.nx (xs167, (wr (s32.2.1 + 1)), (wr (s32.2.2 + 1)))))) else some (Lp.nx (s32.1, s32.2.1, (wr (s32.2.2 + 1))))))) else some (Lp.bk (s32.1, s32.2.1, s32.2.2)))) (s, (i : Int), (j : Int)) =
        some (.go (s', ((i' : Nat) : Int), (n : Int))) ∧ i' ≤ n ∧ s'.length = n ∧ s'.take i' = c.filter (fun y => !g y) := by
  intro m
  induction m with
  | zero =>
    intro j i s hj hi hs ht _
    have : j = n := by omega
    subst this
    refine ⟨s, i, iter_bk ?_, hi, hs, by rw [ht, List.take_of_length_le (by omega)]⟩
    have hd : decide (((j : Nat) : Int) < len s) = false := by rw [len_eq, hs]; simp
    simp only [hd, cond_false]
  | succ m ih =>
    intro j i s hj hi hs ht hd
    have hjn : j < n := by omega
    have hx : s[j]? = some c[j] := by
      have := congrArg (·[0]?) hd
      simp only [List.getElem?_drop, Nat.add_zero] at this
      rw [this]; exact List.getElem?_eq_getElem (by omega)
    have hlt : decide (((j : Nat) : Int) < len s) = true := by rw [len_eq, hs]; simp; omega
    have hg := h c[j] (List.getElem_mem _)
    have e1 : wr ((j : Int) + 1) = ((j + 1 : Nat) : Int) := by rw [wr_of _ (by omega) (by omega)]; simp
    have e2 : wr ((i : Int) + 1) = ((i + 1 : Nat) : Int) := by rw [wr_of _ (by omega) (by omega)]; simp
    cases hgc : g c[j] with
    | true =>
      obtain ⟨s', i', q1, q2⟩ := ih (j + 1) i s (by omega) (by omega) hs (by
        rw [ht, filter_take (List.getElem?_eq_getElem (by omega)), hgc]; simp) (by
        have := congrArg (List.drop 1) hd
        rwa [List.drop_drop, List.drop_drop] at this)
      refine ⟨s', i', ?_, q2⟩
      rw [← q1]
      refine iter_nx ?_
      simp only [hlt, cond_true, ix_get, hx, bd_some, hg, hgc, Bool.not_true, cond_false, e1]
    | false =>
      obtain ⟨s', i', q1, q2⟩ := ih (j + 1) (i + 1) (s.set i c[j]) (by omega) (by omega) (by simpa using hs) (by
        rw [List.take_add_one, List.getElem?_set_self (by omega), List.take_set_of_le (Nat.le_refl _), ht, filter_take (List.getElem?_eq_getElem (show j < c.length by omega)), hgc]; rfl) (by
        rw [List.drop_set_of_lt (by omega)]
        have := congrArg (List.drop 1) hd
        rwa [List.drop_drop, List.drop_drop] at this)
      refine ⟨s', i', ?_, q2⟩
      rw [← q1]
      refine iter_nx ?_
      simp only [hlt, cond_true, ix_get, hx, bd_some, hg, hgc, Bool.not_false, e1, e2]
      rw [List.getElem?_eq_getElem (show i < s.length by omega), bd_some, put_ok (by omega), bd_some]
theorem slices_DeleteFunc_int_int_eq {c : List Int} {f : Int → Option Bool} {g : Int → Bool} (h : ∀ y ∈ c, f y = some (g y)) (hl : c.length ≤ lim) : slices_DeleteFunc_int_int c f = some (c.filter fun y => !g y) := by
  obtain ⟨r, h1, _, h3, h4⟩ := slices_IndexFunc_int_int_ge h
  unfold slices_DeleteFunc_int_int
  rw [h1, bd_some]
  unfold lim at hl
  cases hf : findI (fun _ y => g y) c 0 with
  | none =>
    rw [h4 hf]
    have := findI_none.1 hf
    rw [anyI_any, List.any_eq_false] at this
    simp only [BEq.rfl, cond_true]
    rw [List.filter_eq_self.2]
    intro y hy; have := this y hy; simp only [Bool.not_eq_true] at this; rw [this]; rfl
  | some z =>
    have hz := h3 z hf
    subst hz
    obtain ⟨_, k2, k3, _⟩ := findI_some hf
    rw [Nat.sub_zero] at k2
    have hzl := (List.getElem?_eq_some_iff.1 k2).1
    have hne : (((z.1 : Nat) : Int) == -1) = false := by simp
    rw [hne, cond_false, show wr (((z.1 : Nat) : Int) + 1) = ((z.1 + 1 : Nat) : Int) by rw [wr_of _ (by omega) (by omega)]; simp]
    obtain ⟨s', i', q1, q2, q3, q4⟩ := del_loop (n := c.length) (by omega) rfl h (c.length - (z.1 + 1)) (z.1 + 1) z.1 c (by omega) (by omega) rfl (by
      rw [List.take_add_one, k2]
      have hall : ∀ y ∈ c.take z.1, g y = false := by
        intro y hy
        obtain ⟨i, hi⟩ := List.mem_iff_getElem?.1 hy
        rw [List.getElem?_take] at hi
        split at hi
        · rename_i hlt
          -- no earlier one
          have key : ∀ (l : List Int) (k : Nat) (z : Nat × Int), findI (fun _ y => g y) l k = some z → ∀ i y, l[i]? = some y → k + i < z.1 → g y = false := by
            intro l
            induction l with
            | nil => intro k z _ i y hy; simp at hy
            | cons x l ih =>
              intro k z hz i y hy hlt
              simp only [findI] at hz
              cases hgx : g x with
              | true => rw [hgx] at hz; simp at hz; subst hz; simp at hlt; omega
              | false =>
                rw [hgx] at hz; simp only [cond_false] at hz
                cases i with
                | zero => simp at hy; subst hy; exact hgx
                | succ i => exact ih (k + 1) z hz i y (by simpa using hy) (by omega)
          exact key c 0 z hf i y hi (by omega)
        · cases hi
      rw [List.filter_append, List.filter_eq_self.2 (fun y hy => by rw [hall y hy]; rfl)]
      simp [k3]) rfl
    rw [q1, bdR_go]
    simp only
    rw [show len s' = ((s'.length : Nat) : Int) from rfl, cut_ok (by omega) (Nat.le_refl _), bd_some]
    have hcl : clearL 0 s' (i' : Int) = s'.take i' ++ List.replicate (s'.length - i') 0 := by unfold clearL; simp
    rw [hcl, show (0 : Int) = ((0 : Nat) : Int) from rfl, cut_ok (Nat.zero_le _) (by simp; omega), bd_some, List.drop_zero, List.take_left' (by simp; omega), q4]
theorem slices_Clone_int_int_eq {c : List Int} (hl : c.length ≤ lim) : slices_Clone_int_int c = some c := by
  unfold slices_Clone_int_int; rw [app_ok (by simpa using hl)]; rfl
theorem impl_withoutVar_eq {c : List Int} {v : Int} (hc : ∀ y ∈ c, okI y) (hl : c.length ≤ lim) : impl_withoutVar c v = some (without c v) := by
  unfold impl_withoutVar without
  rw [slices_Clone_int_int_eq hl, bd_some, slices_DeleteFunc_int_int_eq (g := fun y => vr y == v) (fun y hy => by unfold impl_withoutVar_1; rw [impl_abs_eq (hc y hy)]) hl]; rfl

/-! the merged list -/
def putL (c : List Int) (l : Int) : List Int := c.takeWhile (fun y => decide (vr y < vr l)) ++ l :: c.dropWhile (fun y => decide (vr y < vr l))
theorem spec_l1Own_eq {c : List Int} (hl : c.length ≤ lim) : spec_l1Own c = some c := by
  unfold spec_l1Own; rw [app_ok (by simpa using hl)]; rfl
theorem takeWhile_le {α : Type} {p : α → Bool} (l : List α) : (l.takeWhile p).length ≤ l.length := (List.takeWhile_prefix p).length_le
theorem take_takeWhile {α : Type} {p : α → Bool} (l : List α) : l.take (l.takeWhile p).length = l.takeWhile p := by
  conv => lhs; rw [← List.takeWhile_append_dropWhile (p := p) (l := l)]
  rw [List.takeWhile_append_dropWhile]
  exact List.prefix_iff_eq_take.1 (List.takeWhile_prefix p) |>.symm
theorem drop_takeWhile {α : Type} {p : α → Bool} (l : List α) : l.drop (l.takeWhile p).length = l.dropWhile p := by
  have h := List.takeWhile_append_dropWhile (p := p) (l := l)
  have h2 : l.drop (l.takeWhile p).length = (l.takeWhile p ++ l.dropWhile p).drop (l.takeWhile p).length := by rw [h]
  rw [h2, List.drop_left]
theorem spec_l2Put_eq {c : List Int} {l : Int} (hl : c.length + 1 ≤ lim) : spec_l2Put c l = some (putL c l) := by
  unfold spec_l2Put putL
  have hl' : c.length + 1 ≤ 4294967296 := hl
  rw [iter_while (xs := c) (p := fun y => decide (vr y < vr l)) (fun i y hy => by
    have hi := (List.getElem?_eq_some_iff.1 hy).1
    have hd : decide ((i : Int) < len c) = true := by rw [len_eq]; simp; omega
    rw [hd, ix_get, hy]
    simp only [cond_true, bd_some, spec_l2Var_eq]
    rw [wr_succ hi (by omega)]; rfl) (by
    have hd : decide (((c.length : Nat) : Int) < len c) = false := by rw [len_eq]; simp
    rw [hd]; rfl), bdR_go]
  have hk := takeWhile_le (p := fun y => decide (vr y < vr l)) c
  rw [show (0 : Int) = ((0 : Nat) : Int) from rfl, cut_ok (Nat.zero_le _) hk, bd_some, List.drop_zero, take_takeWhile, spec_l1Own_eq (by omega), bd_some, app_ok (by simp; omega), bd_some,
    len_eq, cut_ok hk (Nat.le_refl _), bd_some, List.take_length, drop_takeWhile, app_ok, bd_some]
  · simp
  · have := congrArg List.length (List.takeWhile_append_dropWhile (p := fun y => decide (vr y < vr l)) (l := c))
    simp only [List.length_append] at this ⊢
    simp only [List.length_singleton]
    unfold lim; omega
theorem putL_length (c : List Int) (l : Int) : (putL c l).length = c.length + 1 := by
  have := congrArg List.length (List.takeWhile_append_dropWhile (p := fun y => decide (vr y < vr l)) (l := c))
  unfold putL; simp only [List.length_append, List.length_cons] at this ⊢; omega
def joinL : List Int → List Int → Option (List Int)
  | s, [] => some s
  | s, y :: b => bif s.contains (wr (-y)) then none else joinL (bif !s.contains y then putL s y else s) b
theorem spec_l2Join_eq {a b : List Int} (hl : a.length + b.length ≤ lim) : spec_l2Join a b = some (match joinL a b with | some s => (s, true) | none => ([], false)) := by
  unfold spec_l2Join
  rw [spec_l1Own_eq (by omega), bd_some]
  have key : ∀ (F : Nat → Int → List Int → Option (Lp (List Int) (List Int × Bool))), (∀ i y s, F i y s = bd (PF.spec_l2Has s (wr (-y))) (fun r200 => (bif r200 then some (Lp.rt ([], false)) else bd (PF.spec_l2Has s y) (fun r222 => (bif (!r222) then bd (PF.spec_l2Put s y) (fun r239 => some (Lp.nx r239)) else some (Lp.nx s)))))) →
      ∀ (b : List Int) (i : Nat) (s : List Int), s.length + b.length ≤ lim → forLFrom F b i s = some (match joinL s b with | some s => .go s | none => .rt ([], false)) := by
    intro F hF b
    induction b with
    | nil => intro i s _; rfl
    | cons y b ih =>
      intro i s hs
      simp only [List.length_cons] at hs
      rw [forLFrom, hF, spec_l2Has_eq, bd_some, spec_l2Has_eq, bd_some, joinL]
      cases s.contains (wr (-y)) with
      | true => rfl
      | false =>
        simp only [cond_false]
        cases s.contains y with
        | true => simp only [Bool.not_true, cond_false]; exact ih (i + 1) s (by omega)
        | false =>
          simp only [Bool.not_false, cond_true]
          rw [spec_l2Put_eq (c := s) (by omega), bd_some]
          exact ih (i + 1) _ (by rw [putL_length]; omega)
  unfold forL
  rw [key _ (fun _ _ _ => rfl) b 0 a hl]
  cases joinL a b <;> rfl

abbrev Srt (c : List Int) : Prop := c.Pairwise fun a b => a.natAbs < b.natAbs
def Sm (c : List Int) : Prop := ∀ l ∈ c, -12 ≤ l ∧ l ≤ 12 ∧ l ≠ 0
theorem putL_mem {c : List Int} {l x : Int} : x ∈ putL c l ↔ x = l ∨ x ∈ c := by
  have h := List.takeWhile_append_dropWhile (p := fun y => decide (vr y < vr l)) (l := c)
  have : x ∈ c ↔ x ∈ c.takeWhile (fun y => decide (vr y < vr l)) ∨ x ∈ c.dropWhile (fun y => decide (vr y < vr l)) := by rw [← List.mem_append, h]
  unfold putL
  rw [this, List.mem_append, List.mem_cons]
  constructor
  · rintro (h | h | h)
    · exact .inr (.inl h)
    · exact .inl h
    · exact .inr (.inr h)
  · rintro (h | h | h)
    · exact .inr (.inl h)
    · exact .inl h
    · exact .inr (.inr h)
theorem putL_srt {c : List Int} {l : Int} (hc : Srt c) (hs : Sm c) (hl : -12 ≤ l ∧ l ≤ 12) (hn : ∀ x ∈ c, x.natAbs ≠ l.natAbs) : Srt (putL c l) := by
  have hv : ∀ x ∈ c, (decide (vr x < vr l) = true ↔ x.natAbs < l.natAbs) := fun x hx => by
    have := hs x hx
    rw [decide_eq_true_eq, vr_abs (by omega) (by omega), vr_abs hl.1 hl.2]; omega
  unfold putL
  induction c with
  | nil => simp
  | cons y c ih =>
    obtain ⟨h1, h2⟩ := List.pairwise_cons.1 hc
    rw [List.takeWhile_cons, List.dropWhile_cons]
    by_cases hy : decide (vr y < vr l) = true
    · rw [if_pos hy, if_pos hy, List.cons_append]
      have ih := ih h2 (fun x hx => hs x (by simp [hx])) (fun x hx => hn x (by simp [hx])) (fun x hx => hv x (by simp [hx]))
      refine List.pairwise_cons.2 ⟨fun x hx => ?_, ih⟩
      rcases (putL_mem (c := c) (l := l)).1 hx with rfl | hx
      · exact (hv y (by simp)).1 hy
      · exact h1 x hx
    · rw [if_neg hy, if_neg hy, List.nil_append]
      have hly : l.natAbs < y.natAbs := by
        have := hn y (by simp)
        have h3 : ¬ y.natAbs < l.natAbs := fun h => hy ((hv y (by simp)).2 h)
        omega
      refine List.pairwise_cons.2 ⟨fun x hx => ?_, hc⟩
      rcases List.mem_cons.1 hx with rfl | hx
      · exact hly
      · have := h1 x hx; omega
theorem joinL_spec : ∀ {b s : List Int}, Srt s → Sm s → Srt b → Sm b →
    (if ∃ y ∈ b, -y ∈ s then joinL s b = none else ∃ t, joinL s b = some t ∧ Srt t ∧ ∀ x, x ∈ t ↔ x ∈ s ∨ x ∈ b) := by
  intro b
  induction b with
  | nil => intro s hs _ _ _; simp only [List.not_mem_nil, false_and, exists_false, if_false, or_false]; exact ⟨s, rfl, hs, fun _ => Iff.rfl⟩
  | cons y b ih =>
    intro s hs hs2 hb hb2
    obtain ⟨h1, h2⟩ := List.pairwise_cons.1 hb
    have hy := hb2 y (by simp)
    have hw : wr (-y) = -y := wr_of _ (by omega) (by omega)
    simp only [joinL, hw]
    by_cases hn : -y ∈ s
    · rw [if_pos ⟨y, by simp, hn⟩, List.contains_iff_mem.2 hn]; rfl
    · have hnc : s.contains (-y) = false := by rw [Bool.eq_false_iff]; exact fun h => hn (List.contains_iff_mem.1 h)
      rw [hnc, cond_false]
      by_cases hin : y ∈ s
      · rw [List.contains_iff_mem.2 hin]
        simp only [Bool.not_true, cond_false]
        have := ih hs hs2 h2 (fun x hx => hb2 x (by simp [hx]))
        have e1 : (∃ z ∈ y :: b, -z ∈ s) ↔ ∃ z ∈ b, -z ∈ s := by
          constructor
          · rintro ⟨z, hz, hz2⟩
            rcases List.mem_cons.1 hz with rfl | hz
            · exact absurd hz2 hn
            · exact ⟨z, hz, hz2⟩
          · rintro ⟨z, hz, hz2⟩; exact ⟨z, by simp [hz], hz2⟩
        simp only [e1]
        split at this
        · rename_i hex; rw [if_pos hex]; exact this
        · rename_i hex
          rw [if_neg hex]
          obtain ⟨t, t1, t2, t3⟩ := this
          refine ⟨t, t1, t2, fun x => ?_⟩
          rw [t3, List.mem_cons]
          constructor
          · rintro (h | h)
            · exact .inl h
            · exact .inr (.inr h)
          · rintro (h | rfl | h)
            · exact .inl h
            · exact .inl hin
            · exact .inr h
      · have hic : s.contains y = false := by rw [Bool.eq_false_iff]; exact fun h => hin (List.contains_iff_mem.1 h)
        rw [hic]
        simp only [Bool.not_false, cond_true]
        have hne : ∀ x ∈ s, x.natAbs ≠ y.natAbs := fun x hx e => by
          have : x = y ∨ x = -y := by omega
          rcases this with rfl | rfl
          · exact hin hx
          · exact hn hx
        have := ih (putL_srt hs hs2 ⟨hy.1, hy.2.1⟩ hne) (fun x hx => by
          rcases putL_mem.1 hx with rfl | hx
          · exact hy
          · exact hs2 x hx) h2 (fun x hx => hb2 x (by simp [hx]))
        have e1 : (∃ z ∈ y :: b, -z ∈ s) ↔ ∃ z ∈ b, -z ∈ putL s y := by
          constructor
          · rintro ⟨z, hz, hz2⟩
            rcases List.mem_cons.1 hz with rfl | hz
            · exact absurd hz2 hn
            · exact ⟨z, hz, putL_mem.2 (.inr hz2)⟩
          · rintro ⟨z, hz, hz2⟩
            rcases putL_mem.1 hz2 with e | hz2
            · have := h1 z hz; omega
            · exact ⟨z, by simp [hz], hz2⟩
        simp only [e1]
        split at this
        · rename_i hex; rw [if_pos hex]; exact this
        · rename_i hex
          rw [if_neg hex]
          obtain ⟨t, t1, t2, t3⟩ := this
          refine ⟨t, t1, t2, fun x => ?_⟩
          rw [t3, putL_mem, List.mem_cons]
          constructor
          · rintro ((h | h) | h)
            · exact .inr (.inl h)
            · exact .inl h
            · exact .inr (.inr h)
          · rintro (h | h | h)
            · exact .inl (.inr h)
            · exact .inl (.inl h)
            · exact .inr h

/-! the sorted list -/
end Go.PF
namespace Go.PF
open Go.Pu

theorem srt_unique : ∀ {a b : List Int}, Srt a → Srt b → (∀ x, x ∈ a ↔ x ∈ b) → a = b := by
  intro a
  induction a with
  | nil =>
    intro b _ _ h
    cases b with
    | nil => rfl
    | cons y b => exact absurd ((h y).2 (by simp)) (by simp)
  | cons x a ih =>
    intro b ha hb h
    cases b with
    | nil => exact absurd ((h x).1 (by simp)) (by simp)
    | cons y b =>
      obtain ⟨a1, a2⟩ := List.pairwise_cons.1 ha
      obtain ⟨b1, b2⟩ := List.pairwise_cons.1 hb
      have hxy : x = y := by
        rcases List.mem_cons.1 ((h x).1 (by simp)) with e | e
        · exact e
        · rcases List.mem_cons.1 ((h y).2 (by simp)) with e' | e'
          · exact e'.symm
          · have := b1 x e; have := a1 y e'; omega
      subst hxy
      rw [ih a2 b2 fun z => ?_]
      constructor
      · intro hz
        rcases List.mem_cons.1 ((h z).1 (by simp [hz])) with e | e
        · subst e; have := a1 z hz; omega
        · exact e
      · intro hz
        rcases List.mem_cons.1 ((h z).2 (by simp [hz])) with e | e
        · subst e; have := b1 z hz; omega
        · exact e

theorem compactL_mem {A : Type} [DecidableEq A] : ∀ {l : List A} {x : A}, x ∈ compactL l ↔ x ∈ l
  | [], x => by simp [compactL]
  | [y], x => by simp [compactL]
  | y :: z :: r, x => by
    rw [compactL]
    split
    · rename_i h; subst h
      rw [compactL_mem]; simp
    · rw [List.mem_cons, compactL_mem]; simp
theorem compactL_strict {A : Type} [DecidableEq A] {R : A → A → Prop} (ha : ∀ a b, R a b → R b a → a = b) : ∀ {l : List A}, l.Pairwise R → (compactL l).Pairwise fun a b => R a b ∧ a ≠ b
  | [], _ => by simp [compactL]
  | [y], _ => by simp [compactL]
  | y :: z :: r, h => by
    obtain ⟨h1, h2⟩ := List.pairwise_cons.1 h
    rw [compactL]
    split
    · exact compactL_strict ha h2
    · rename_i hne
      refine List.pairwise_cons.2 ⟨fun x hx => ?_, compactL_strict ha h2⟩
      have hx' := compactL_mem.1 hx
      refine ⟨h1 x hx', fun e => ?_⟩
      subst e
      rcases List.mem_cons.1 hx' with e | e
      · exact hne e
      · exact hne (ha _ _ (h1 z (by simp)) ((List.pairwise_cons.1 h2).1 y e))

def litLe (x y : Int) : Prop := impl_abs x < impl_abs y ∨ (impl_abs x = impl_abs y ∧ y ≤ x)
def cmpL (x y : Int) : Int := if impl_abs x < impl_abs y then -1 else if impl_abs y < impl_abs x then 1 else if y < x then -1 else if x < y then 1 else 0
theorem impl_compareLiterals_cmpL (x y : Int) : impl_compareLiterals x y = some (cmpL x y) := by
  have hc : ∀ a b : Int, cmp_Compare_int a b = if a < b then -1 else if b < a then 1 else 0 := fun a b => by
    unfold cmp_Compare_int cmp_isNaN_int
    simp only [BEq.rfl, Bool.not_true, cond_false]
    by_cases h1 : a < b
    · simp [h1]
    · by_cases h2 : b < a <;> simp [h1, h2]
  unfold impl_compareLiterals cmp_Or_int cmpL
  rw [hc, hc]
  by_cases h1 : impl_abs x < impl_abs y
  · simp [h1, forL, forLFrom]
  · by_cases h2 : impl_abs y < impl_abs x
    · simp [h1, h2, forL, forLFrom]
    · by_cases h3 : y < x
      · simp [h1, h2, h3, forL, forLFrom]
      · by_cases h4 : x < y <;> simp [h1, h2, h3, h4, forL, forLFrom]
theorem cmpL_neg {x y : Int} : cmpL x y < 0 ↔ impl_abs x < impl_abs y ∨ (impl_abs x = impl_abs y ∧ y < x) := by
  unfold cmpL
  split
  · omega
  · split
    · omega
    · split
      · omega
      · split <;> omega
theorem leF_lit {x y : Int} : leF (fun x0 x1 => PF.impl_compareLiterals x0 x1) x y = true ↔ litLe x y := by
  unfold leF litLe
  simp only [impl_compareLiterals_cmpL]
  rw [Bool.not_eq_true', decide_eq_false_iff_not, cmpL_neg]
  omega
theorem sort_lit {xs : List Int} (hl : xs.length < lim) : slices_SortFunc_int_int xs (fun x0 x1 => PF.impl_compareLiterals x0 x1) = some (xs.mergeSort (leF fun x0 x1 => PF.impl_compareLiterals x0 x1)) := by
  unfold slices_SortFunc_int_int sortF
  rw [if_pos]
  refine ⟨cmpL, hl, fun x _ y _ => impl_compareLiterals_cmpL x y, fun x _ => ?_, fun x _ y _ z _ h1 h2 => ?_, fun x _ y _ z _ h1 h2 => ?_, fun x _ y _ h1 h2 => ?_⟩
  · rw [cmpL_neg]; omega
  · rw [cmpL_neg] at *; omega
  · rw [cmpL_neg] at *; omega
  · rw [cmpL_neg] at *; omega
theorem sorted_lit (xs : List Int) : (xs.mergeSort (leF fun x0 x1 => PF.impl_compareLiterals x0 x1)).Pairwise litLe := by
  have := List.pairwise_mergeSort (le := leF fun x0 x1 => PF.impl_compareLiterals x0 x1) (fun a b c h1 h2 => by
    rw [leF_lit] at *; unfold litLe at *; omega) (fun a b => by
    rw [Bool.or_eq_true, leF_lit, leF_lit]; unfold litLe; omega) xs
  exact this.imp fun h => leF_lit.1 h

def noComp (t : List Int) : Bool := adj (fun a b => !(b == wr (-a))) t
theorem impl_clause_eq {c : List Int} (hl : c.length < lim) : impl_clause c = some (let t := compactL (c.mergeSort (leF fun x0 x1 => PF.impl_compareLiterals x0 x1)); bif noComp t then (t, true) else ([], false)) := by
  unfold impl_clause
  rw [slices_Clone_int_int_eq (by omega), bd_some, sort_lit hl, bd_some]
  unfold slices_Compact_int_int
  rw [bd_some]
  simp only
  generalize ht : compactL (c.mergeSort (leF fun x0 x1 => PF.impl_compareLiterals x0 x1)) = t
  have htl : t.length ≤ 4294967296 := by
    have : ∀ l : List Int, (compactL l).length ≤ l.length := by
      intro l
      induction l using compactL.induct with
      | case1 => simp [compactL]
      | case2 => simp [compactL]
      | case3 y r ih => rw [compactL, if_pos rfl]; simp only [List.length_cons] at ih ⊢; omega
      | case4 x y r h ih => rw [compactL, if_neg h]; simp only [List.length_cons] at ih ⊢; omega
    have h1 := this (c.mergeSort (leF fun x0 x1 => PF.impl_compareLiterals x0 x1))
    rw [ht, List.length_mergeSort] at h1
    unfold lim at hl; omega
  cases t with
  | nil =>
    rw [iter_bk (s' := 1) rfl]; rfl
  | cons x t =>
    have key : ∀ (m : List Int) (k : Nat), k + 1 + m.length = (x :: t).length → (∀ i y, m[i]? = some y → (x :: t)[k + 1 + i]? = some y) → iter (S := Int) (X := ((List Int) × Bool)) (fun s49 => (bif (decide (s49 < (len (x :: t)))) then bd (ix (x :: t) s49) (fun x94 => bd (ix (x :: t) (wr (s49 - 1))) (fun x102 => (bif (x94 == (wr (-x102))) then some (Lp.rt ([], false)) else some (Lp.nx (wr (s49 + 1)))))) else some (Lp.bk s49))) ((k + 1 : Nat) : Int) =
        some (bif anyI (fun i y => match i with | 0 => false | i + 1 => match (x :: t)[i]? with | some z => y == wr (-z) | none => false) m (k + 1) then .rt ([], false) else .go (((x :: t).length : Nat) : Int)) := by
      intro m
      induction m with
      | nil =>
        intro k hk _
        simp only [List.length_nil, Nat.add_zero] at hk
        rw [iter_bk (s' := ((k + 1 : Nat) : Int))]
        · rw [hk]; rfl
        · have hd : decide (((k + 1 : Nat) : Int) < len (x :: t)) = false := by rw [len_eq, ← hk]; simp
          rw [hd]; rfl
      | cons y m ih =>
        intro k hk hm
        simp only [List.length_cons (a := y)] at hk
        have hy : (x :: t)[k + 1]? = some y := by simpa using hm 0 y rfl
        have hd : decide (((k + 1 : Nat) : Int) < len (x :: t)) = true := by rw [len_eq]; simp only [decide_eq_true_eq]; omega
        have hkl : k < (x :: t).length := by omega
        have hz := List.getElem?_eq_getElem hkl
        simp only [anyI]
        cases hb : (y == wr (-(x :: t)[k])) with
        | true =>
          rw [iter_rt (x := ([], false))]
          · simp [hz, hb]
          · simp only [hd, cond_true, ix_get, hy, bd_some, wr_pred (show 0 < k + 1 by omega) (show k + 1 < (x :: t).length by omega) (by omega), Nat.add_sub_cancel, hz, hb]
        | false =>
          rw [iter_nx (s' := ((k + 1 + 1 : Nat) : Int))]
          · rw [ih (k + 1) (by omega) fun i z hz => by have := hm (i + 1) z (by simpa using hz); rwa [show k + 1 + (i + 1) = k + 1 + 1 + i by omega] at this]
            simp [hz, hb]
          · simp only [hd, cond_true, ix_get, hy, bd_some, wr_pred (show 0 < k + 1 by omega) (show k + 1 < (x :: t).length by omega) (by omega), Nat.add_sub_cancel, hz, hb, cond_false]
            rw [wr_succ (n := (x :: t).length) (by omega) (by omega)]; simp
    have hk := key t 0 (by simp; omega) (by intro i y hy; rw [show 0 + 1 + i = i + 1 by omega]; simpa using hy)
    rw [show ((0 + 1 : Nat) : Int) = 1 from rfl] at hk
    rw [hk]
    have ha := anyI_adj (l := x :: t) (p := fun i y => match i with | 0 => false | i + 1 => match (x :: t)[i]? with | some z => y == wr (-z) | none => false) (q := fun _ => false) (r := fun a b => !(b == wr (-a))) (fun _ _ => rfl) (fun i a b h1 _ => by simp only [h1]; simp)
    simp only [anyI, Bool.false_or, Nat.zero_add] at ha
    rw [show (0 + 1 : Nat) = 1 from rfl, ha]
    unfold noComp
    rw [show ((x :: t).all fun _ => !false) = true by simp]
    cases adj (fun a b => !(b == wr (-a))) (x :: t) <;> rfl

theorem slices_Concat2 {a b : List Int} (hl : a.length + b.length ≤ lim) : slices_Concat_int_int [a, b] = some (a ++ b) := by
  have hl' : a.length + b.length ≤ 4294967296 := hl
  have e1 : wr (0 + len a) = (a.length : Int) := by rw [wr_of _ (by rw [len_eq]; omega) (by rw [len_eq]; omega), len_eq]; omega
  have e2 : wr ((a.length : Int) + len b) = ((a.length + b.length : Nat) : Int) := by rw [wr_of _ (by rw [len_eq]; omega) (by rw [len_eq]; omega), len_eq]; omega
  have d1 : decide ((a.length : Int) < 0) = false := by rw [decide_eq_false_iff_not]; omega
  have d2 : decide (((a.length + b.length : Nat) : Int) < 0) = false := by rw [decide_eq_false_iff_not]; omega
  unfold slices_Concat_int_int forL
  rw [forLFrom_nx (s' := (a.length : Int)) (by rw [e1, d1]; rfl), forLFrom_nx (s' := ((a.length + b.length : Nat) : Int)) (by rw [e2, d2]; rfl), forLFrom_nil, bdR_go]
  unfold slices_Grow_int_int
  rw [if_pos (by omega), bd_some]
  rw [forLFrom_nx (s' := a) (by rw [app_ok (by simp; omega), bd_some]; rfl), forLFrom_nx (s' := a ++ b) (by rw [app_ok hl, bd_some]), forLFrom_nil, bdR_go]

def joined (a b : List Int) : List Int × Bool := match joinL a b with | some s => (s, true) | none => ([], false)
theorem clause_joined {a b : List Int} (ha : Srt a) (hb : Srt b) (sa : Sm a) (sb : Sm b) (hl : a.length + b.length < lim) : impl_clause (a ++ b) = some (joined a b) := by
  rw [impl_clause_eq (by simpa using hl)]
  simp only
  generalize ht : compactL ((a ++ b).mergeSort (leF fun x0 x1 => PF.impl_compareLiterals x0 x1)) = t
  have hm : ∀ x, x ∈ t ↔ x ∈ a ∨ x ∈ b := fun x => by rw [← ht, compactL_mem, List.mem_mergeSort, List.mem_append]
  have hs : Sm t := fun x hx => by
    rcases (hm x).1 hx with h | h
    · exact sa x h
    · exact sb x h
  have hab : ∀ x ∈ t, impl_abs x = x.natAbs := fun x hx => by
    have := hs x hx
    rw [impl_abs_eq (by unfold okI; omega), vr_abs this.1 this.2.1]
  have hlt : t.Pairwise fun x y => litLe x y ∧ x ≠ y := by
    rw [← ht]
    exact compactL_strict (fun x y h1 h2 => by unfold litLe at *; omega) (sorted_lit _)
  have hw : ∀ x ∈ t, wr (-x) = -x := fun x hx => by have := hs x hx; exact wr_of _ (by omega) (by omega)
  have hspec := joinL_spec ha sa hb sb
  unfold joined
  by_cases hex : ∃ y ∈ b, -y ∈ a
  · rw [if_pos hex] at hspec
    rw [hspec]
    have hn : noComp t = false := by
      cases hn : noComp t with
      | false => rfl
      | true =>
        exfalso
        -- neighbours have other variables, so all have
        have hsrt : Srt t := by
          refine adj_pairwise (r := fun x y => !(y == wr (-x)) && decide (x.natAbs < y.natAbs ∨ (x.natAbs = y.natAbs ∧ y < x))) (R := fun x y : Int => x.natAbs < y.natAbs) (fun _ _ _ => Nat.lt_trans) (fun x y hx hy hr => ?_) ?_
          · have h1 := hs x hx; have h2 := hs y hy
            simp only [Bool.and_eq_true, Bool.not_eq_true', beq_eq_false_iff_ne, ne_eq, decide_eq_true_eq] at hr
            rw [hw x hx] at hr
            omega
          · have hp : t.Pairwise fun x y => (decide (x.natAbs < y.natAbs ∨ (x.natAbs = y.natAbs ∧ y < x))) = true := by
              refine List.Pairwise.imp_of_mem ?_ hlt
              intro x y hx hy h
              simp only [decide_eq_true_eq]
              unfold litLe at h
              rw [hab x hx, hab y hy] at h
              omega
            have h1 := adj_of_pairwise hp
            unfold noComp at hn
            clear hp hlt hm hspec ht hs hab hw
            revert h1 hn
            generalize t = t
            intro hn h1
            induction t with
            | nil => rfl
            | cons x t ih =>
              cases t with
              | nil => rfl
              | cons y t =>
                simp only [adj, Bool.and_eq_true] at hn h1 ⊢
                exact ⟨⟨hn.1, h1.1⟩, ih hn.2 h1.2⟩
        obtain ⟨y, hy, hy2⟩ := hex
        have h1 := (hm y).2 (.inr hy)
        have h2 := (hm (-y)).2 (.inl hy2)
        have h0 := sb y hy
        -- two of one variable
        obtain ⟨i, hi⟩ := List.mem_iff_getElem?.1 h1
        obtain ⟨j, hj⟩ := List.mem_iff_getElem?.1 h2
        have hlen1 := (List.getElem?_eq_some_iff.1 hi).1
        have hlen2 := (List.getElem?_eq_some_iff.1 hj).1
        rw [List.getElem?_eq_getElem hlen1] at hi
        rw [List.getElem?_eq_getElem hlen2] at hj
        simp only [Option.some.injEq] at hi hj
        have hpw := List.pairwise_iff_getElem.1 hsrt
        rcases Nat.lt_trichotomy i j with h | h | h
        · have := hpw i j hlen1 hlen2 h; rw [hi, hj] at this; omega
        · subst h; rw [hi] at hj; omega
        · have := hpw j i hlen2 hlen1 h; rw [hi, hj] at this; omega
    rw [hn]; rfl
  · rw [if_neg hex] at hspec
    obtain ⟨s, h1, h2, h3⟩ := hspec
    rw [h1]
    have hne : ∀ x ∈ t, -x ∉ t := fun x hx hx2 => by
      have h0 := hs x hx
      rcases (hm x).1 hx with ha1 | hb1 <;> rcases (hm (-x)).1 hx2 with ha2 | hb2
      · have hpw := List.pairwise_iff_getElem.1 ha
        obtain ⟨i, hi1, hi⟩ := List.getElem_of_mem ha1
        obtain ⟨j, hj1, hj⟩ := List.getElem_of_mem ha2
        rcases Nat.lt_trichotomy i j with h | h | h
        · have := hpw i j hi1 hj1 h; rw [hi, hj] at this; omega
        · subst h; rw [hi] at hj; omega
        · have := hpw j i hj1 hi1 h; rw [hi, hj] at this; omega
      · exact hex ⟨-x, hb2, by rw [Int.neg_neg]; exact ha1⟩
      · exact hex ⟨x, hb1, ha2⟩
      · have hpw := List.pairwise_iff_getElem.1 hb
        obtain ⟨i, hi1, hi⟩ := List.getElem_of_mem hb1
        obtain ⟨j, hj1, hj⟩ := List.getElem_of_mem hb2
        rcases Nat.lt_trichotomy i j with h | h | h
        · have := hpw i j hi1 hj1 h; rw [hi, hj] at this; omega
        · subst h; rw [hi] at hj; omega
        · have := hpw j i hj1 hi1 h; rw [hi, hj] at this; omega
    have hn : noComp t = true := by
      unfold noComp
      refine adj_of_pairwise (List.Pairwise.imp_of_mem ?_ hlt)
      intro x y hx hy _
      rw [hw x hx]
      simp only [Bool.not_eq_true', beq_eq_false_iff_ne, ne_eq]
      intro e; subst e; exact hne x hx hy
    have hsrt : Srt t := by
      refine List.Pairwise.imp_of_mem ?_ hlt
      intro x y hx hy h
      unfold litLe at h
      rw [hab x hx, hab y hy] at h
      have : y ≠ -x := fun e => by subst e; exact hne x hx hy
      omega
    rw [hn]
    rw [srt_unique hsrt h2 fun x => by rw [hm, h3]]; rfl

/-! resolvents -/
def res (a b : List Int) (v : Int) : List Int × Bool := bif !a.contains v || !b.contains (wr (-v)) then ([], false) else joined (without a v) (without b v)
theorem without_len (c : List Int) (v : Int) : (without c v).length ≤ c.length := List.length_filter_le _ _
theorem spec_l2Resolve_eq {a b : List Int} {v : Int} (hl : a.length + b.length ≤ lim) : spec_l2Resolve a b v = some (res a b v) := by
  have h1 := without_len a v; have h2 := without_len b v
  unfold spec_l2Resolve res
  rw [spec_l2Has_eq, bd_some]
  cases a.contains v with
  | false => rfl
  | true =>
    simp only [Bool.not_true, cond_false, Bool.false_or]
    rw [spec_l2Has_eq, bd_some, bd_some]
    cases b.contains (wr (-v)) with
    | false => rfl
    | true =>
      simp only [Bool.not_true, cond_false]
      rw [spec_l2Without_eq (by omega), bd_some, spec_l2Without_eq (by omega), bd_some, spec_l2Join_eq (by omega), bd_some]
      unfold joined
      cases joinL (without a v) (without b v) <;> rfl
theorem IsC.sm {V : Int} {c : List Int} (h : IsC V c) : Sm c := fun l hl => by have := h.lit l hl; have := h.hi; omega
theorem impl_resolve_eq {V : Int} {a b : List Int} {v : Int} (ha : IsC V a) (hb : IsC V b) : impl_resolve a b v = some (res a b v) := by
  have h1 := without_len a v; have h2 := without_len b v
  have h3 := ha.len; have h4 := hb.len
  have hlim : lim = 4294967296 := rfl
  unfold impl_resolve res
  rw [slices_Contains_int_int_eq, bd_some]
  cases a.contains v with
  | false => rfl
  | true =>
    simp only [Bool.not_true, cond_false, Bool.false_or]
    rw [slices_Contains_int_int_eq, bd_some, bd_some]
    cases b.contains (wr (-v)) with
    | false => rfl
    | true =>
      simp only [Bool.not_true, cond_false]
      rw [impl_withoutVar_eq ha.ok.2 (by omega), bd_some, impl_withoutVar_eq hb.ok.2 (by omega), bd_some, slices_Concat2 (by omega), bd_some,
        clause_joined (a := without a v) (b := without b v) (ha.srt.sublist List.filter_sublist) (hb.srt.sublist List.filter_sublist) (fun x hx => ha.sm x (List.mem_filter.1 hx).1) (fun x hx => hb.sm x (List.mem_filter.1 hx).1) (by omega), bd_some]
end Go.PF
namespace Go.PF
open Go.Pu

def clAt (S : List ResStep) (k : Int) : List Int := match S[k.toNat]? with | some y => y.clause | none => []
def earlierB (F : Cnf) (S : List ResStep) (i : Nat) (k : Int) : Bool := inB k 0 ((i : Int) - 1) && clauseB F.vars (clAt S k)
def axB (F : Cnf) (x : ResStep) : Bool := inB x.right 0 (len F.clauses - 1) && match F.clauses[x.right.toNat]? with | some c => c == x.clause | none => false
def stepB (F : Cnf) (S : List ResStep) (i : Nat) (x : ResStep) : Bool :=
  clauseB F.vars x.clause &&
  bif x.left == -1 then x.pivot == 0 && axB F x
  else earlierB F S i x.left &&
    bif x.right == -1 then x.pivot == 0 && partB (clAt S x.left) x.clause
    else earlierB F S i x.right && (inB x.pivot 1 F.vars && ((res (clAt S x.left) (clAt S x.right) x.pivot).2 && (res (clAt S x.left) (clAt S x.right) x.pivot).1 == x.clause))

theorem wr_len {A : Type} {l : List A} (h : l.length ≤ 9223372036854775807) : wr (len l - 1) = len l - 1 := wr_of _ (by rw [len_eq]; omega) (by rw [len_eq]; omega)

structure IsD (F : Cnf) (S : List ResStep) : Prop where
  cnf : cnfB F = true
  le : S.length ≤ 200
  step : ∀ i x, S[i]? = some x → stepB F S i x = true
theorem IsD.clause {F : Cnf} {S : List ResStep} (h : IsD F S) {x : ResStep} (hx : x ∈ S) : IsC F.vars x.clause := by
  obtain ⟨i, hi⟩ := List.mem_iff_getElem?.1 hx
  have := h.step i x hi
  unfold stepB at this
  rw [Bool.and_eq_true] at this
  exact clauseB_iff.1 this.1
theorem IsD.nums {F : Cnf} {S : List ResStep} (h : IsD F S) {i : Nat} {x : ResStep} (hx : S[i]? = some x) :
    (x.left = -1 ∧ x.pivot = 0 ∧ 0 ≤ x.right ∧ x.right < len F.clauses) ∨ (0 ≤ x.left ∧ x.left < i ∧ x.right = -1 ∧ x.pivot = 0) ∨ (0 ≤ x.left ∧ x.left < i ∧ 0 ≤ x.right ∧ x.right < i ∧ 1 ≤ x.pivot ∧ x.pivot ≤ F.vars) := by
  have := h.step i x hx
  unfold stepB at this
  rw [Bool.and_eq_true] at this
  obtain ⟨_, this⟩ := this
  cases hl : x.left == -1 with
  | true =>
    rw [hl] at this
    simp only [cond_true, Bool.and_eq_true, beq_iff_eq] at this
    unfold axB at this
    rw [Bool.and_eq_true, inB_iff] at this
    have := beq_iff_eq.1 hl
    left; omega
  | false =>
    rw [hl] at this
    simp only [cond_false, Bool.and_eq_true] at this
    obtain ⟨h1, this⟩ := this
    unfold earlierB at h1
    rw [Bool.and_eq_true, inB_iff] at h1
    cases hr : x.right == -1 with
    | true =>
      rw [hr] at this
      simp only [cond_true, Bool.and_eq_true, beq_iff_eq] at this
      have := beq_iff_eq.1 hr
      right; left; omega
    | false =>
      rw [hr] at this
      simp only [cond_false, Bool.and_eq_true] at this
      obtain ⟨h2, h3, _⟩ := this
      unfold earlierB at h2
      rw [Bool.and_eq_true, inB_iff] at h2
      rw [inB_iff] at h3
      right; right; omega
theorem IsD.before {F : Cnf} {S : List ResStep} (h : IsD F S) {i : Nat} {x : ResStep} (hx : S[i]? = some x) (hl : 0 ≤ x.left) : x.left < i ∧ (0 ≤ x.right → x.right < i) := by
  rcases h.nums hx with h | h | h <;> omega
end Go.PF
namespace Go.PF
open Go.Pu

abbrev Asc (c : List Int) : Prop := c.Pairwise fun a b => a < b
theorem asc_len : ∀ {c : List Int} {lo hi : Int}, Asc c → (∀ x ∈ c, lo < x ∧ x ≤ hi) → (c.length : Int) ≤ max 0 (hi - lo) := by
  intro c
  induction c with
  | nil => intro lo hi _ _; simp only [List.length_nil]; omega
  | cons a c ih =>
    intro lo hi h hl
    obtain ⟨h1, h2⟩ := List.pairwise_cons.1 h
    have ha := hl a (by simp)
    have := ih (lo := a) (hi := hi) h2 fun x hx => ⟨h1 x hx, (hl x (by simp [hx])).2⟩
    simp only [List.length_cons]; omega
def prem (x : ResStep) : List Int := bif decide (x.left < 0) then [] else bif decide (0 ≤ x.left) && decide (0 ≤ x.right) then [x.left, x.right] else [x.left]
theorem impl_premises_eq (x : ResStep) : impl_ResStep_premises x = prem x := by
  unfold impl_ResStep_premises prem impl_ResStep_isAxiom impl_ResStep_isWeakening
  by_cases h1 : x.left < 0
  · simp [h1]
  · by_cases h2 : x.right < 0
    · have h3 : ¬ 0 ≤ x.right := by omega
      have h4 : 0 ≤ x.left := by omega
      simp [h1, h2, h3, h4]
    · have h3 : 0 ≤ x.right := by omega
      have h4 : 0 ≤ x.left := by omega
      simp [h1, h2, h3, h4]
theorem prem_len (x : ResStep) : (prem x).length ≤ 2 := by
  unfold prem
  cases decide (x.left < 0) <;> cases (decide (0 ≤ x.left) && decide (0 ≤ x.right)) <;> simp
theorem IsD.prem {F : Cnf} {S : List ResStep} (h : IsD F S) {i : Nat} {x : ResStep} (hx : S[i]? = some x) : ∀ k ∈ prem x, 0 ≤ k ∧ k < i := by
  intro k hk
  unfold PF.prem at hk
  have hb := h.before hx
  by_cases h1 : x.left < 0
  · simp [h1] at hk
  · have h0 : 0 ≤ x.left := by omega
    obtain ⟨b1, b2⟩ := hb h0
    by_cases h2 : 0 ≤ x.right
    · simp only [h1, decide_false, cond_false, h0, h2, decide_true, Bool.and_true, cond_true, List.mem_cons, List.not_mem_nil, or_false] at hk
      rcases hk with rfl | rfl
      · omega
      · have := b2 h2; omega
    · simp only [h1, decide_false, cond_false, h0, h2, decide_true, Bool.and_false, List.mem_cons, List.not_mem_nil, or_false] at hk
      rw [hk]; omega
end Go.PF
namespace Go.PF
open Go.Pu

theorem forR_fold {S X : Type} {α : Type} {xs : List α} {body : Nat → S → Option (Lp S X)} {F : S → α → S} (I : Nat → S → Prop) {s0 : S} (h0 : I 0 s0)
    (h : ∀ i x s, xs[i]? = some x → I i s → body i s = some (.nx (F s x)) ∧ I (i + 1) (F s x)) : forR 0 xs.length body s0 = some (.go (xs.foldl F s0)) := by
  have key : ∀ (m : List α) (k : Nat) (s : S), (∀ i y, m[i]? = some y → xs[k + i]? = some y) → I k s → forFrom body m.length k s = some (.go (m.foldl F s)) := by
    intro m
    induction m with
    | nil => intro k s _ _; rfl
    | cons y m ih =>
      intro k s hm hI
      obtain ⟨h1, h2⟩ := h k y s (by have := hm 0 y rfl; simpa using this) hI
      simp only [List.length_cons, forFrom, h1, List.foldl_cons]
      exact ih (k + 1) (F s y) (fun i z hz => by have := hm (i + 1) z (by simpa using hz); rwa [show k + (i + 1) = k + 1 + i by omega] at this) h2
  unfold forR
  exact key xs 0 s0 (by simp) h0
theorem chk_len {A : Type} {xs : List A} (h : xs.length ≤ 2) : chk (len xs) = some xs.length := by
  unfold chk; rw [if_pos (by rw [len_eq]; omega), len_eq]; simp

/-! what a proof is -/
def isRes (x : ResStep) : Bool := decide (0 ≤ x.left) && decide (0 ≤ x.right)
def atL (out : List (List Int)) (k : Int) : List Int := (out[k.toNat]?).getD []
structure IsPv (n : Nat) (out : List (List Int)) : Prop where
  len : out.length = n
  asc : ∀ y ∈ out, Asc y
  sm : ∀ y ∈ out, ∀ z ∈ y, 1 ≤ z ∧ z ≤ 12
theorem IsPv.at {n : Nat} {out : List (List Int)} (h : IsPv n out) (k : Int) : (atL out k).length ≤ 12 ∧ ∀ z ∈ atL out k, 1 ≤ z ∧ z ≤ 12 := by
  unfold atL
  cases hk : out[k.toNat]? with
  | none => simp
  | some y =>
    have hy := List.mem_of_getElem? hk
    simp only [Option.getD_some]
    have := asc_len (lo := 0) (hi := 12) (h.asc y hy) fun x hx => by have := h.sm y hy x hx; omega
    exact ⟨by omega, h.sm y hy⟩
theorem IsD.vars_le {F : Cnf} {S : List ResStep} (h : IsD F S) : 0 ≤ F.vars ∧ F.vars ≤ 12 := by
  have := h.cnf
  unfold cnfB at this
  simp only [Bool.and_eq_true] at this
  exact varsB_iff.1 this.1.1
theorem IsD.pivot {F : Cnf} {S : List ResStep} (h : IsD F S) {i : Nat} {x : ResStep} (hx : S[i]? = some x) (hr : isRes x = true) : 1 ≤ x.pivot ∧ x.pivot ≤ 12 := by
  have hv := h.vars_le
  unfold isRes at hr
  simp only [Bool.and_eq_true, decide_eq_true_eq] at hr
  rcases h.nums hx with h | h | h <;> omega
end Go.PF
namespace Go.PF
open Go.Pu

/-! loops that count down -/
theorem take_rev {α : Type} {xs : List α} {k : Nat} {x : α} (hx : xs[k]? = some x) : (xs.take (k + 1)).zipIdx.reverse = (x, k) :: (xs.take k).zipIdx.reverse := by
  obtain ⟨hk, he⟩ := List.getElem?_eq_some_iff.1 hx
  rw [← he, List.take_succ_eq_append_getElem hk, List.zipIdx_append]
  simp [Nat.min_eq_left (Nat.le_of_lt hk)]
theorem iter_down {σ α X : Type} {xs : List α} {body : σ × Int → Option (Lp (σ × Int) X)} {F : σ → α × Nat → σ} (I : Nat → σ → Prop) {s0 : σ} (h0 : I xs.length s0)
    (h : ∀ (i : Nat) x s, xs[i]? = some x → I (i + 1) s → body (s, (i : Int)) = some (.nx (F s (x, i), (i : Int) - 1)) ∧ I i (F s (x, i))) (he : ∀ s, body (s, -1) = some (.bk (s, -1))) :
    iter body (s0, len xs - 1) = some (.go (xs.zipIdx.reverse.foldl F s0, -1)) ∧ I 0 (xs.zipIdx.reverse.foldl F s0) := by
  have key : ∀ (k : Nat) (s : σ), k ≤ xs.length → I k s → iter body (s, (k : Int) - 1) = some (.go ((xs.take k).zipIdx.reverse.foldl F s, -1)) ∧ I 0 ((xs.take k).zipIdx.reverse.foldl F s) := by
    intro k
    induction k with
    | zero => intro s _ hI; exact ⟨iter_bk (he s), hI⟩
    | succ k ih =>
      intro s hk hI
      obtain ⟨x, hx⟩ : ∃ x, xs[k]? = some x := ⟨_, List.getElem?_eq_getElem (by omega)⟩
      obtain ⟨h1, h2⟩ := h k x s hx hI
      rw [take_rev hx, List.foldl_cons, show ((k + 1 : Nat) : Int) - 1 = (k : Int) by omega, iter_nx h1]
      exact ih _ (by omega) h2
  have := key xs.length s0 (Nat.le_refl _) h0
  rwa [List.take_length] at this
theorem bdR_down {σ α X β : Type} {xs : List α} {body : σ × Int → Option (Lp (σ × Int) X)} {k : σ × Int → Option β} {l : X → Option β} {r : Option β} (F : σ → α × Nat → σ) (I : Nat → σ → Prop) {s0 : σ} (h0 : I xs.length s0)
    (h : ∀ (i : Nat) x s, xs[i]? = some x → I (i + 1) s → body (s, (i : Int)) = some (.nx (F s (x, i), (i : Int) - 1)) ∧ I i (F s (x, i))) (he : ∀ s, body (s, -1) = some (.bk (s, -1)))
    (hk : ∀ s, I 0 s → k (s, -1) = r) : bdR (iter body (s0, len xs - 1)) k l = r := by
  obtain ⟨h1, h2⟩ := iter_down I h0 h he
  rw [h1, bdR_go]; exact hk _ h2
theorem forB_foldI {S α X : Type} {xs : List α} {body : α → Nat → S → Option (Lp S X)} (F : S → α × Nat → S) (I : Nat → S → Prop) {s0 : S} (h0 : I xs.length s0)
    (h : ∀ (i : Nat) x s, xs[i]? = some x → I (i + 1) s → body x i s = some (.nx (F s (x, i))) ∧ I i (F s (x, i))) :
    forB xs body s0 = some (.go (xs.zipIdx.reverse.foldl F s0)) ∧ I 0 (xs.zipIdx.reverse.foldl F s0) := by
  have key : ∀ (k j : Nat) (s : S), k ≤ xs.length → I k s → forLFrom (fun _ p s => body p.1 p.2 s) (xs.take k).zipIdx.reverse j s = some (.go ((xs.take k).zipIdx.reverse.foldl F s)) ∧ I 0 ((xs.take k).zipIdx.reverse.foldl F s) := by
    intro k
    induction k with
    | zero => intro j s _ hI; exact ⟨rfl, hI⟩
    | succ k ih =>
      intro j s hk hI
      obtain ⟨x, hx⟩ : ∃ x, xs[k]? = some x := ⟨_, List.getElem?_eq_getElem (by omega)⟩
      obtain ⟨h1, h2⟩ := h k x s hx hI
      rw [take_rev hx, List.foldl_cons, forLFrom_nx h1]
      exact ih _ _ (by omega) h2
  have := key xs.length 0 s0 (Nat.le_refl _) h0
  rwa [List.take_length] at this

/-! the mask -/
def bAt (M : List Bool) (i : Nat) : Bool := (M[i]?).getD false
def setT (M : List Bool) (ks : List Int) : List Bool := ks.foldl (fun M k => M.set k.toNat true) M
theorem setT_len : ∀ {ks : List Int} {M : List Bool}, (setT M ks).length = M.length := by
  intro ks
  induction ks with
  | nil => intro M; rfl
  | cons k ks ih => intro M; unfold setT at ih ⊢; rw [List.foldl_cons, ih]; simp
theorem setT_out : ∀ {ks : List Int} {M : List Bool} {i j : Nat}, (∀ k ∈ ks, 0 ≤ k ∧ k < j) → j ≤ i → (setT M ks)[i]? = M[i]? := by
  intro ks
  induction ks with
  | nil => intro M i j _ _; rfl
  | cons k ks ih =>
    intro M i j h hi
    have h1 := h k (by simp)
    have := ih (M := M.set k.toNat true) (i := i) (fun z hz => h z (by simp [hz])) hi
    unfold setT at this ⊢
    rw [List.foldl_cons, this, List.getElem?_set_ne (by omega)]
theorem setT_in : ∀ {ks : List Int} {M : List Bool} {k : Int}, (∀ k ∈ ks, 0 ≤ k ∧ k < M.length) → (k ∈ ks ∨ bAt M k.toNat = true) → bAt (setT M ks) k.toNat = true := by
  intro ks
  induction ks with
  | nil => intro M k _ hk; rcases hk with h | h; · cases h
           · exact h
  | cons z ks ih =>
    intro M k h hk
    have h1 := h z (by simp)
    have h2 := ih (M := M.set z.toNat true) (k := k) (fun y hy => by have := h y (by simp [hy]); simpa using this) (by
      rcases hk with hk | hk
      · rcases List.mem_cons.1 hk with rfl | hk
        · right; unfold bAt; rw [List.getElem?_set_self (by omega)]; rfl
        · exact .inl hk
      · right
        unfold bAt at hk ⊢
        rw [List.getElem?_set]
        split
        · rw [if_pos (by omega)]; rfl
        · exact hk)
    unfold setT at h2 ⊢
    rw [List.foldl_cons]; exact h2
theorem setT_set {ks : List Int} : ∀ {M : List Bool} {j : Nat}, (∀ k ∈ ks, 0 ≤ k ∧ k < j) → (setT M ks).set j true = setT (M.set j true) ks := by
  induction ks with
  | nil => intro M j _; rfl
  | cons k ks ih =>
    intro M j h
    have h1 := h k (by simp)
    have := ih (M := M.set k.toNat true) (j := j) (fun z hz => h z (by simp [hz]))
    unfold setT at this ⊢
    rw [List.foldl_cons, List.foldl_cons, this, List.set_comm _ _ (by omega)]

def nst (M : List Bool) (p : ResStep × Nat) : List Bool := bif bAt M p.2 then setT M (prem p.1) else M
theorem nst_len {M : List Bool} {p : ResStep × Nat} : (nst M p).length = M.length := by unfold nst; cases bAt M p.2 <;> simp [setT_len]
def rem (S : List ResStep) (k : Nat) (M : List Bool) : List Bool := (S.take k).zipIdx.reverse.foldl nst M
def mask (S : List ResStep) : List Bool := rem S S.length ((List.replicate S.length false).set (S.length - 1) true)
theorem rem_succ {S : List ResStep} {k : Nat} {x : ResStep} (hx : S[k]? = some x) (M : List Bool) : rem S (k + 1) M = rem S k (nst M (x, k)) := by
  unfold rem; rw [take_rev hx, List.foldl_cons]
theorem rem_len {S : List ResStep} : ∀ {k : Nat} {M : List Bool}, k ≤ S.length → (rem S k M).length = M.length := by
  intro k
  induction k with
  | zero => intro M _; rfl
  | succ k ih =>
    intro M hk
    obtain ⟨x, hx⟩ : ∃ x, S[k]? = some x := ⟨_, List.getElem?_eq_getElem (by omega)⟩
    rw [rem_succ hx, ih (by omega), nst_len]
theorem mask_len (S : List ResStep) : (mask S).length = S.length := by unfold mask; rw [rem_len (Nat.le_refl _)]; simp
theorem uses_loop {us : List Int} {M : List Bool} {i : Nat} (hi : i < M.length) (hu : ∀ k ∈ us, 0 ≤ k ∧ k < i) (hl : us.length ≤ 2) {f : List Bool × Int → Option (Lp (List Bool × Int) Empty)}
    (hf : ∀ s, f s = bd (bif decide (s.2 < len us) then bd (ix s.1 (i : Int)) (fun x => some x) else some false) (fun t => bif t then bd (ix us s.2) (fun x => bd (ix s.1 x) (fun _ => bd (put s.1 x true) (fun xs => some (.nx (xs, wr (s.2 + 1)))))) else some (.bk (s.1, s.2)))) :
    ∃ k, iter f (M, 0) = some (.go (bif bAt M i then setT M us else M, k)) := by
  have hat : ∀ {M : List Bool}, i < M.length → ix M (i : Int) = some (bAt M i) := fun {M} h => by rw [ix_get]; unfold bAt; rw [List.getElem?_eq_getElem h]; rfl
  cases hb : bAt M i with
  | false =>
    refine ⟨0, iter_bk ?_⟩
    rw [hf]
    simp only [hat hi, hb]
    cases decide ((0 : Int) < len us) <;> rfl
  | true =>
    refine ⟨us.length, ?_⟩
    have := iter_foldI (X := Empty) (xs := us) (body := f) (F := fun M k => M.set k.toNat true) (s0 := M) (fun _ N => N.length = M.length ∧ bAt N i = true) ⟨rfl, hb⟩ (fun j k N hk hN => by
      have hj := (List.getElem?_eq_some_iff.1 hk).1
      have hkb := hu k (List.mem_of_getElem? hk)
      rw [hf]
      have hd : decide ((j : Int) < len us) = true := by rw [len_eq]; simp; omega
      obtain ⟨y, hy, _⟩ := ix_of (xs := N) hkb.1 (by omega)
      have hp : put N k true = some (N.set k.toNat true) := by
        have := put_ok (xs := N) (i := k.toNat) (x := true) (by omega)
        rwa [show ((k.toNat : Nat) : Int) = k by omega] at this
      simp only [hd, cond_true, hat (show i < N.length by omega), hN.2, bd_some, ix_get, hk, hy, hp]
      rw [wr_succ hj (by omega)]
      refine ⟨rfl, by simpa using hN.1, ?_⟩
      have h2 := hN.2
      unfold bAt at h2 ⊢
      rw [List.getElem?_set_ne (by omega)]; exact h2) (fun N => by
      rw [hf]
      have hd : decide ((us.length : Int) < len us) = false := by rw [len_eq]; simp
      simp only [hd, cond_false, bd_some])
    simp only [cond_true]
    exact this.1
theorem wr_down {i n : Nat} (h : i < n) (hn : n ≤ 9223372036854775807) : wr ((i : Int) - 1) = (i : Int) - 1 := wr_of _ (by omega) (by omega)
theorem ix_len {A : Type} {M : List A} {i : Nat} (h : i < M.length) : ∃ y, ix M (i : Int) = some y := ⟨_, by rw [ix_get, List.getElem?_eq_getElem h]⟩

end Go.PF
namespace Go.PF
open Go.Pu

theorem bdR_forB {S α X β : Type} {xs : List α} {body : α → Nat → S → Option (Lp S X)} {k : S → Option β} {l : X → Option β} {r : Option β} (F : S → α × Nat → S) (I : Nat → S → Prop) {s0 : S} (h0 : I xs.length s0)
    (h : ∀ (i : Nat) x s, xs[i]? = some x → I (i + 1) s → body x i s = some (.nx (F s (x, i))) ∧ I i (F s (x, i)))
    (hk : ∀ s, I 0 s → k s = r) : bdR (forB xs body s0) k l = r := by
  obtain ⟨h1, h2⟩ := forB_foldI F I h0 h
  rw [h1, bdR_go]; exact hk _ h2

/-! slices.Reverse -/
structure Rv (xs : List Int) (i : Nat) (ys : List Int) : Prop where
  len : ys.length = xs.length
  at_ : ∀ m, m < xs.length → ys[m]? = if m < i ∨ xs.length ≤ m + i then xs[xs.length - 1 - m]? else xs[m]?
theorem Rv.step {xs ys : List Int} {i : Nat} (h : Rv xs i ys) (hi : i + i + 1 < xs.length) {a b : Int} (ha : ys[i]? = some a) (hb : ys[xs.length - 1 - i]? = some b) :
    Rv xs (i + 1) ((ys.set i b).set (xs.length - 1 - i) a) := by
  have hl := h.len
  refine ⟨by simp [hl], fun m hm => ?_⟩
  have h1 := h.at_ i (by omega); rw [ha, if_neg (by omega)] at h1
  have h2 := h.at_ (xs.length - 1 - i) (by omega); rw [hb, if_neg (by omega)] at h2
  rw [List.getElem?_set]
  by_cases e : xs.length - 1 - i = m
  · rw [if_pos e, if_pos (by simp [hl]; omega), if_pos (by omega), show xs.length - 1 - m = i by omega]; exact h1
  · rw [if_neg e, List.getElem?_set]
    by_cases e2 : i = m
    · subst e2; rw [if_pos rfl, if_pos (by omega), if_pos (by omega)]; exact h2
    · rw [if_neg e2, h.at_ m hm]
      by_cases c : m < i ∨ xs.length ≤ m + i
      · rw [if_pos c, if_pos (by omega)]
      · rw [if_neg c, if_neg (by omega)]
theorem Rv.fin {xs ys : List Int} {i : Nat} (h : Rv xs i ys) (hi : ¬ i + i + 1 < xs.length) : ys = xs.reverse := by
  have hl := h.len
  apply List.ext_getElem?
  intro m
  by_cases hm : m < xs.length
  · rw [h.at_ m hm, List.getElem?_reverse hm]
    split
    · rfl
    · congr 1; omega
  · rw [List.getElem?_eq_none (by omega), List.getElem?_eq_none (by simp; omega)]
theorem bdR_rev {β : Type} {xs : List Int} {body : List Int × Int × Int → Option (Lp (List Int × Int × Int) Empty)} {k : List Int × Int × Int → Option β} {l : Empty → Option β} {r : Option β}
    (h1 : ∀ (i : Nat) ys a b, i + i + 1 < xs.length → ys.length = xs.length → ys[i]? = some a → ys[xs.length - 1 - i]? = some b → body (ys, (i : Int), len xs - 1 - i) = some (.nx ((ys.set i b).set (xs.length - 1 - i) a, ((i + 1 : Nat) : Int), len xs - 1 - ((i + 1 : Nat) : Int))))
    (h2 : ∀ (i : Nat) ys, ¬ i + i + 1 < xs.length → ∃ p, body (ys, (i : Int), len xs - 1 - i) = some (.bk (ys, p))) (hk : ∀ p, k (xs.reverse, p) = r) : bdR (iter body (xs, 0, len xs - 1)) k l = r := by
  have key : ∀ (k i : Nat) ys, xs.length - i - i ≤ k → Rv xs i ys → ∃ p, iter body (ys, (i : Int), len xs - 1 - i) = some (.go (xs.reverse, p)) := by
    intro k
    induction k with
    | zero =>
      intro i ys hk hR
      obtain ⟨p, hp⟩ := h2 i ys (by omega)
      refine ⟨p, ?_⟩
      rw [iter_bk hp, hR.fin (by omega)]
    | succ k ih =>
      intro i ys hk hR
      by_cases hi : i + i + 1 < xs.length
      · obtain ⟨a, ha⟩ : ∃ a, ys[i]? = some a := ⟨_, List.getElem?_eq_getElem (by rw [hR.len]; omega)⟩
        obtain ⟨b, hb⟩ : ∃ b, ys[xs.length - 1 - i]? = some b := ⟨_, List.getElem?_eq_getElem (by rw [hR.len]; omega)⟩
        rw [iter_nx (h1 i ys a b hi hR.len ha hb)]
        exact ih _ _ (by omega) (hR.step hi ha hb)
      · obtain ⟨p, hp⟩ := h2 i ys hi
        exact ⟨p, by rw [iter_bk hp, hR.fin hi]⟩
  obtain ⟨p, hp⟩ := key xs.length 0 xs (by omega) ⟨rfl, fun m hm => by rw [if_neg (by omega)]⟩
  rw [show len xs - 1 - ((0 : Nat) : Int) = len xs - 1 by omega, show ((0 : Nat) : Int) = 0 from rfl] at hp
  rw [hp, bdR_go]; exact hk p
theorem slices_Reverse_eq {xs : List Int} (hl : xs.length ≤ lim) : slices_Reverse_int_int xs = some xs.reverse := by
  unfold slices_Reverse_int_int
  rw [wr_len (by unfold lim at hl; omega)]
  refine bdR_rev ?ha ?hb (fun p => rfl)
  case ha =>
    intro i ys a b hi hy h1 h2
    have hc : decide ((i : Int) < len xs - 1 - i) = true := by rw [len_eq]; simp; omega
    have hj : len xs - 1 - (i : Int) = ((xs.length - 1 - i : Nat) : Int) := by rw [len_eq]; omega
    have h3 : (ys.set i b)[xs.length - 1 - i]? = some b := by rw [List.getElem?_set_ne (by omega)]; exact h2
    unfold lim at hl
    simp only [hc, cond_true]
    rw [hj]
    simp only [ix_get, h1, h2, bd_some, put_ok (show i < ys.length by omega), h3, put_ok (show xs.length - 1 - i < (ys.set i b).length by simp; omega)]
    rw [wr_of _ (by omega) (by omega), wr_of _ (by omega) (by omega)]
    have e1 : ((xs.length - 1 - i : Nat) : Int) - 1 = len xs - 1 - ((i + 1 : Nat) : Int) := by rw [len_eq]; omega
    rw [e1]; rfl
  case hb =>
    intro i ys hi
    have hc : decide ((i : Int) < len xs - 1 - i) = false := by rw [len_eq]; simp; omega
    simp only [hc, cond_false]
    exact ⟨_, rfl⟩

/-! the program -/
def need (S : List ResStep) : List Nat := (List.range S.length).filter (bAt (mask S))
def needI (S : List ResStep) : List Int := (need S).map fun i => ((i : Nat) : Int)
theorem need_le (S : List ResStep) : (need S).length ≤ S.length := by
  have := List.length_filter_le (bAt (mask S)) (List.range S.length); unfold need; simpa using this
def tailN (S : List ResStep) (k : Nat) : List Int := (((List.range' k (S.length - k)).filter (bAt (mask S))).reverse).map fun i => ((i : Nat) : Int)
theorem tailN_step {S : List ResStep} {k : Nat} (hk : k < S.length) : tailN S k = bif bAt (mask S) k then tailN S (k + 1) ++ [((k : Nat) : Int)] else tailN S (k + 1) := by
  unfold tailN
  rw [show S.length - k = (S.length - (k + 1)) + 1 by omega, List.range'_succ, List.filter_cons]
  cases bAt (mask S) k <;> simp
end Go.PF
namespace Go.PF
open Go.Pu
def needTo (S : List ResStep) (k : Nat) : List Nat := (List.range k).filter (bAt (mask S))
theorem needTo_all (S : List ResStep) : needTo S S.length = need S := rfl
theorem needTo_succ (S : List ResStep) (k : Nat) : needTo S (k + 1) = bif bAt (mask S) k then needTo S k ++ [k] else needTo S k := by
  unfold needTo
  rw [List.range_succ, List.filter_append]
  cases h : bAt (mask S) k <;> simp [h]
theorem needTo_le (S : List ResStep) (k : Nat) : (needTo S k).length ≤ k := by
  have := List.length_filter_le (bAt (mask S)) (List.range k); unfold needTo; simpa using this
theorem mask_ix {S : List ResStep} {i : Nat} {x : ResStep} (hx : S[i]? = some x) : ix (mask S) (i : Int) = some (bAt (mask S) i) := by
  have hi := (List.getElem?_eq_some_iff.1 hx).1
  rw [ix_get]; unfold bAt; rw [List.getElem?_eq_getElem (by rw [mask_len]; exact hi)]; rfl
theorem needI_at {S : List ResStep} {j : Nat} {k : Int} (hj : (needI S)[j]? = some k) : ∃ i x, (need S)[j]? = some i ∧ k = ((i : Nat) : Int) ∧ S[i]? = some x ∧ bAt (mask S) i = true := by
  unfold needI at hj
  rw [List.getElem?_map] at hj
  cases hn : (need S)[j]? with
  | none => rw [hn] at hj; cases hj
  | some i =>
    rw [hn] at hj
    have hm := List.mem_of_getElem? hn
    unfold need at hm
    rw [List.mem_filter, List.mem_range] at hm
    exact ⟨i, S[i], rfl, by simpa using hj.symm, List.getElem?_eq_getElem hm.1, hm.2⟩
theorem needI_length (S : List ResStep) : (needI S).length = (need S).length := by unfold needI; simp
end Go.PF
namespace Go.PF
open Go.Pu
theorem index_at {v : Int} : ∀ {a b : List Int}, v ∉ a → slices_Index_int_int (a ++ v :: b) v = some ((a.length : Nat) : Int) := by
  intro a b hv
  unfold slices_Index_int_int
  have key : ∀ (a : List Int) (k : Nat), v ∉ a → forLFrom (S := Unit) (X := Int) (fun i22 y21 s22 => (bif (v == y21) then some (Lp.rt ((i22 : Nat) : Int)) else some (Lp.nx ()))) (a ++ v :: b) k () = some (.rt (((k + a.length : Nat) : Nat) : Int)) := by
    intro a
    induction a with
    | nil => intro k _; simp [forLFrom]
    | cons x a ih =>
      intro k h
      rw [List.mem_cons, not_or] at h
      rw [List.cons_append]
      unfold forLFrom
      rw [show (v == x) = false by rw [beq_eq_false_iff_ne]; exact h.1]
      simp only [cond_false]
      rw [ih (k + 1) h.2]
      simp; omega
  unfold forL
  rw [key a 0 hv]
  simp
def posN (S : List ResStep) (k : Int) : Int := (((needTo S k.toNat).length : Nat) : Int)
def trimX (S : List ResStep) (x : ResStep) : ResStep := bif decide (0 ≤ x.left) then (bif decide (0 ≤ x.right) then ⟨x.clause, posN S x.left, posN S x.right, x.pivot⟩ else ⟨x.clause, posN S x.left, x.right, x.pivot⟩) else x
def trimAt (S : List ResStep) (i : Nat) : Option ResStep := (S[i]?).map (trimX S)
def trimL (S : List ResStep) (l : List Nat) : List ResStep := l.filterMap (trimAt S)
theorem trimL_len {S : List ResStep} : ∀ {l : List Nat}, (∀ i ∈ l, i < S.length) → (trimL S l).length = l.length := by
  intro l
  induction l with
  | nil => intro _; rfl
  | cons i l ih =>
    intro h
    have hi := h i (by simp)
    have := ih fun j hj => h j (by simp [hj])
    unfold trimL at this ⊢
    have e : trimAt S i = some (trimX S S[i]) := by unfold trimAt; rw [List.getElem?_eq_getElem hi]; rfl
    rw [List.filterMap_cons_some e, List.length_cons, List.length_cons, this]
theorem needTo_lt {S : List ResStep} {k : Nat} : ∀ i ∈ needTo S k, i < k := fun i hi => by
  unfold needTo at hi; rw [List.mem_filter, List.mem_range] at hi; exact hi.1
theorem need_split {S : List ResStep} {k : Nat} (hk : k < S.length) (hm : bAt (mask S) k = true) : ∃ r, need S = needTo S k ++ k :: r := by
  refine ⟨(List.range' (k + 1) (S.length - (k + 1))).filter (bAt (mask S)), ?_⟩
  unfold need needTo
  have e : List.range S.length = List.range k ++ k :: List.range' (k + 1) (S.length - (k + 1)) := by
    have h1 := List.range'_append_1 (s := 0) (m := k) (n := S.length - k)
    rw [Nat.zero_add, show k + (S.length - k) = S.length by omega] at h1
    rw [List.range_eq_range', List.range_eq_range', ← List.range'_succ, show S.length - (k + 1) + 1 = S.length - k by omega]
    exact h1.symm
  rw [e, List.filter_append, List.filter_cons, if_pos hm]
theorem index_need {S : List ResStep} {k : Int} (h0 : 0 ≤ k) (hk : k < S.length) (hm : bAt (mask S) k.toNat = true) : slices_Index_int_int (needI S) k = some (posN S k) := by
  obtain ⟨r, hr⟩ := need_split (S := S) (k := k.toNat) (by omega) hm
  unfold needI
  rw [hr, List.map_append, List.map_cons, show ((k.toNat : Nat) : Int) = k by omega, index_at, List.length_map]
  · rfl
  · intro hc
    obtain ⟨i, hi, he⟩ := List.mem_map.1 hc
    have := needTo_lt i hi; omega
theorem prem_left {x : ResStep} (h : 0 ≤ x.left) : x.left ∈ prem x := by
  unfold prem
  have e : decide (x.left < 0) = false := by simp; omega
  rw [e]; simp only [cond_false]
  cases decide (0 ≤ x.left) && decide (0 ≤ x.right) <;> simp
theorem prem_right {x : ResStep} (h : 0 ≤ x.left) (h2 : 0 ≤ x.right) : x.right ∈ prem x := by
  unfold prem
  have e : decide (x.left < 0) = false := by simp; omega
  rw [e]; simp [h, h2]
theorem trimX_clause (S : List ResStep) (x : ResStep) : (trimX S x).clause = x.clause := by
  unfold trimX; cases decide (0 ≤ x.left) <;> cases decide (0 ≤ x.right) <;> rfl
theorem tot_leT {A : Type} {wt : A → Nat} {n : Nat} : ∀ {l : List A}, (∀ x ∈ l, wt x ≤ n) → tot wt l ≤ n * l.length := by
  intro l
  induction l with
  | nil => intro _; simp [tot]
  | cons x l ih =>
    intro h
    have h1 := h x (by simp); have h2 := ih fun y hy => h y (by simp [hy])
    simp only [tot, List.length_cons, Nat.mul_add, Nat.mul_one]; omega
end Go.PF
namespace Go.PF
open Go.Pu
structure IsW (V : Int) (S : List ResStep) : Prop where
  le : S.length ≤ 200
  clause : ∀ {x : ResStep}, x ∈ S → IsC V x.clause
  nums : ∀ {i : Nat} {x : ResStep}, S[i]? = some x → (x.left = -1 ∧ True) ∨ (0 ≤ x.left ∧ x.left < i ∧ x.right = -1 ∧ True) ∨ (0 ≤ x.left ∧ x.left < i ∧ 0 ≤ x.right ∧ x.right < i ∧ True)
theorem IsW.before {V : Int} {S : List ResStep} (h : IsW V S) {i : Nat} {x : ResStep} (hx : S[i]? = some x) (hl : 0 ≤ x.left) : x.left < i ∧ (0 ≤ x.right → x.right < i) := by
  rcases h.nums hx with h | h | h <;> omega
theorem IsW.prem {V : Int} {S : List ResStep} (h : IsW V S) {i : Nat} {x : ResStep} (hx : S[i]? = some x) : ∀ k ∈ prem x, 0 ≤ k ∧ k < i := by
  intro k hk
  unfold PF.prem at hk
  have hb := h.before hx
  by_cases h1 : x.left < 0
  · simp [h1] at hk
  · have h0 : 0 ≤ x.left := by omega
    obtain ⟨b1, b2⟩ := hb h0
    by_cases h2 : 0 ≤ x.right
    · simp only [h1, decide_false, cond_false, h0, h2, decide_true, Bool.and_true, cond_true, List.mem_cons, List.not_mem_nil, or_false] at hk
      rcases hk with rfl | rfl
      · omega
      · have := b2 h2; omega
    · simp only [h1, decide_false, cond_false, h0, h2, decide_true, Bool.and_false, List.mem_cons, List.not_mem_nil, or_false] at hk
      rw [hk]; omega
theorem rem_outW {V : Int} {S : List ResStep} (h : IsW V S) : ∀ {k i : Nat} {M : List Bool}, k ≤ S.length → k ≤ i + 1 → (rem S k M)[i]? = M[i]? := by
  intro k
  induction k with
  | zero => intro i M _ _; rfl
  | succ k ih =>
    intro i M hk hi
    obtain ⟨x, hx⟩ : ∃ x, S[k]? = some x := ⟨_, List.getElem?_eq_getElem (by omega)⟩
    rw [rem_succ hx, ih (by omega) (by omega)]
    unfold nst
    cases bAt M k with
    | true => exact setT_out (h.prem hx) (by omega)
    | false => rfl
theorem mask_premW {V : Int} {S : List ResStep} (h : IsW V S) {i : Nat} {x : ResStep} (hx : S[i]? = some x) (hm : bAt (mask S) i = true) : ∀ k ∈ prem x, bAt (mask S) k.toNat = true := by
  intro k hk
  have hi := (List.getElem?_eq_some_iff.1 hx).1
  have key : ∀ (m : Nat) (M : List Bool), M.length = S.length → m ≤ S.length → (i < m ∨ bAt M k.toNat = true) → bAt (rem S m M) i = true → bAt (rem S m M) k.toNat = true := by
    intro m
    induction m with
    | zero => intro M hM _ h1 _; rcases h1 with h1 | h1; · omega
              · exact h1
    | succ m ih =>
      intro M hM hm' h1 h2
      obtain ⟨y, hy⟩ : ∃ y, S[m]? = some y := ⟨_, List.getElem?_eq_getElem (by omega)⟩
      rw [rem_succ hy] at h2 ⊢
      refine ih _ (by rw [nst_len, hM]) (by omega) ?_ h2
      by_cases e : i = m
      · subst e
        rw [hx] at hy; cases hy
        right
        have h3 : bAt M i = true := by
          have := rem_outW h (k := i) (i := i) (M := nst M (x, i)) (by omega) (by omega)
          unfold bAt at h2 ⊢
          rw [this] at h2
          unfold nst at h2
          cases hb : bAt M i with
          | true => exact hb
          | false => rw [hb] at h2; exact h2
        unfold nst
        simp only [h3, cond_true]
        exact setT_in (fun z hz => by have := h.prem hx z hz; omega) (.inl hk)
      · rcases h1 with h1 | h1
        · exact .inl (by omega)
        · right
          unfold nst
          cases bAt M m with
          | true => exact setT_in (fun z hz => by have := h.prem hy z hz; omega) (.inr h1)
          | false => exact h1
  have hk1 := h.prem hx k hk
  exact key _ _ (by simp) (Nat.le_refl _) (.inl hi) hm

theorem uses_premW {V : Int} {S : List ResStep} (h : IsW V S) {i : Nat} {x : ResStep} (hx : S[i]? = some x) : spec_l7Uses x = prem x := by
  unfold spec_l7Uses prem
  rcases h.nums hx with ⟨h1, _⟩ | ⟨h1, h2, h3, _⟩ | ⟨h1, h2, h3, h4, _⟩
  · simp [h1]
  · have e1 : (x.left == -1) = false := by rw [beq_eq_false_iff_ne]; omega
    have e2 : decide (x.left < 0) = false := by simp; omega
    have e3 : (x.right == -1) = true := by rw [beq_iff_eq]; exact h3
    have e4 : decide (0 ≤ x.right) = false := by simp; omega
    simp [e1, e2, e3, e4]
  · have e1 : (x.left == -1) = false := by rw [beq_eq_false_iff_ne]; omega
    have e2 : decide (x.left < 0) = false := by simp; omega
    have e3 : (x.right == -1) = false := by rw [beq_eq_false_iff_ne]; omega
    have e4 : decide (0 ≤ x.left) = true := by simp; omega
    have e5 : decide (0 ≤ x.right) = true := by simp; omega
    simp [e1, e2, e3, e4, e5]

theorem spec_l7Needed_eqW {V : Int} {S : List ResStep} (h : IsW V S) : spec_l7Needed S = some (mask S) := by
  have hS := h.le
  unfold spec_l7Needed
  rw [show len S = ((S.length : Nat) : Int) from rfl, mk2_ok (by unfold lim; omega), bd_some]
  rw [show wr (((S.length : Nat) : Int) - 1) = len S - 1 from wr_len (by omega)]
  have hI : ∀ M, (M.length = S.length ∧ rem S 0 (bif (0 == S.length) then M.set (S.length - 1) true else M) = mask S) → M = mask S := fun M hM => by
    have h2 := hM.2
    by_cases h0 : S.length = 0
    · have e : S = [] := List.eq_nil_of_length_eq_zero h0
      subst e
      have : M = [] := List.eq_nil_of_length_eq_zero hM.1
      subst this; rfl
    · rw [show (0 == S.length) = false by rw [beq_eq_false_iff_ne]; omega] at h2
      exact h2
  refine bdR_down (X := Empty) (xs := S) (fun M p => nst (bif p.2 == S.length - 1 then M.set p.2 true else M) p) (s0 := List.replicate S.length false)
    (fun k M => M.length = S.length ∧ rem S k (bif (k == S.length) then M.set (S.length - 1) true else M) = mask S) ⟨by simp, by simp [mask]⟩ ?hh ?he ?hk
  case hk => intro M hM; rw [hI M hM]
  case he => intro M; rfl
  case hh =>
    intro i x M hx ⟨hM, hr⟩
    have hi := (List.getElem?_eq_some_iff.1 hx).1
    have hd : decide ((0 : Int) ≤ (i : Int)) = true := by simp
    have hix : ix S (i : Int) = some x := by rw [ix_get]; exact hx
    have hcmp : ((i : Int) == len S - 1) = (i == S.length - 1) := by
      rw [len_eq, Bool.eq_iff_iff, beq_iff_eq, beq_iff_eq]; omega
    have hwd : wr ((i : Int) - 1) = (i : Int) - 1 := wr_down hi (by omega)
    have key2 : ∀ N : List Bool, N.length = S.length → ∃ k, iter (S := List Bool × Int) (X := Empty) (fun s => bd (bif decide (s.2 < len (spec_l7Uses x)) then bd (ix s.1 (i : Int)) (fun x => some x) else some false) (fun t => bif t then bd (ix (spec_l7Uses x) s.2) (fun z => bd (ix s.1 z) (fun _ => bd (put s.1 z true) (fun xs => some (.nx (xs, wr (s.2 + 1)))))) else some (.bk (s.1, s.2)))) (N, 0) = some (.go (nst N (x, i), k)) := fun N hN => by
      rw [uses_premW h hx]
      exact uses_loop (us := prem x) (M := N) (i := i) (by omega) (h.prem hx) (prem_len x) (fun s => rfl)
    have hstep : rem S i (nst (bif i == S.length - 1 then M.set i true else M) (x, i)) = mask S := by
      rw [← rem_succ hx]
      by_cases e : i = S.length - 1
      · have e1 : (i == S.length - 1) = true := by rw [beq_iff_eq]; exact e
        have e2 : (i + 1 == S.length) = true := by rw [beq_iff_eq]; omega
        rw [e2] at hr
        rw [e1]
        simp only [cond_true] at hr ⊢
        rw [e]; rw [e] at hr; exact hr
      · have e1 : (i == S.length - 1) = false := by rw [beq_eq_false_iff_ne]; exact e
        have e2 : (i + 1 == S.length) = false := by rw [beq_eq_false_iff_ne]; omega
        rw [e2] at hr
        rw [e1]
        exact hr
    have hlen : (nst (bif i == S.length - 1 then M.set i true else M) (x, i)).length = S.length := by
      rw [nst_len]; cases (i == S.length - 1) <;> simp [hM]
    refine ⟨?_, hlen, ?_⟩
    · simp only [hd, cond_true, hcmp]
      obtain ⟨y, hy⟩ := ix_len (M := M) (i := i) (by omega)
      cases hc : (i == S.length - 1) with
      | true =>
        simp only [cond_true, hy, bd_some, put_ok (show i < M.length by omega), hix]
        obtain ⟨k, hk⟩ := key2 (M.set i true) (by simpa using hM)
        rw [hk, bdR_go, hwd]
      | false =>
        simp only [cond_false, hix, bd_some]
        obtain ⟨k, hk⟩ := key2 M hM
        rw [hk, bdR_go, hwd]
    · rw [show (i == S.length) = false by rw [beq_eq_false_iff_ne]; omega]
      exact hstep
theorem impl_neededSteps_eqW {V : Int} {S : List ResStep} (h : IsW V S) : impl_neededSteps S = some (needI S) := by
  have hS := h.le
  unfold impl_neededSteps
  rw [show len S = ((S.length : Nat) : Int) from rfl, mk2_ok (by unfold lim; omega), bd_some]
  rw [show wr (((S.length : Nat) : Int) - 1) = len S - 1 from wr_len (by omega)]
  refine bdR_forB (X := Empty) (xs := S) (fun s p => bif bAt (mask S) p.2 then (s.1 ++ [((p.2 : Nat) : Int)], setT s.2 (prem p.1)) else s) (s0 := ([], List.replicate S.length false))
    (fun k s => s.2.length = S.length ∧ rem S k (s.2.set (S.length - 1) true) = mask S ∧ s.1 = tailN S k) ⟨by simp, by simp [mask], by simp [tailN]⟩ ?hh ?hk
  case hk =>
    rintro ⟨out, M⟩ ⟨_, _, rfl⟩
    have e : tailN S 0 = (needI S).reverse := by unfold tailN needI need; rw [List.map_reverse, List.range_eq_range']; simp
    have hl := need_le S
    show bd (slices_Reverse_int_int (tailN S 0)) _ = _
    rw [e, slices_Reverse_eq (by unfold needI; simp; unfold lim; omega), bd_some, List.reverse_reverse]
  case hh =>
    rintro i x ⟨out, M⟩ hx ⟨hM, hr, rfl⟩
    have hi := (List.getElem?_eq_some_iff.1 hx).1
    dsimp only at hM hr ⊢
    have hp := prem_len x
    have hb := h.prem hx
    -- whether it is needed
    have hn : bAt (mask S) i = bAt (M.set (S.length - 1) true) i := by
      rw [← hr]; unfold bAt; rw [rem_outW h (by omega) (by omega)]
    have hMi : ix M (i : Int) = some (bAt M i) := by rw [ix_get]; unfold bAt; rw [List.getElem?_eq_getElem (by omega)]; rfl
    have hc : (bif !bAt M i then decide ((i : Int) < len S - 1) else false) = !bAt (mask S) i := by
      rw [hn]
      unfold bAt
      by_cases e : i = S.length - 1
      · have e1 : decide ((i : Int) < len S - 1) = false := by rw [len_eq]; simp; omega
        rw [e1, ← e, List.getElem?_set_self (by omega)]; simp
      · have e1 : decide ((i : Int) < len S - 1) = true := by rw [len_eq]; simp; omega
        rw [e1, List.getElem?_set_ne (by omega)]; simp
    have hr2 := hr
    rw [rem_succ hx] at hr2
    have ht := tailN_step hi
    simp only [hMi, bd_some, hc]
    cases hm : bAt (mask S) i with
    | false =>
      rw [hm] at ht hn
      simp only [Bool.not_false, cond_true, cond_false] at ht ⊢
      refine ⟨trivial, hM, ?_, ht.symm⟩
      rw [← hr2]
      unfold nst
      dsimp only
      rw [← hn]; rfl
    | true =>
      rw [hm] at ht hn
      simp only [Bool.not_true, cond_true, cond_false] at ht ⊢
      have hl : (tailN S (i + 1)).length ≤ S.length := by
        unfold tailN; simp
        have := List.length_filter_le (bAt (mask S)) (List.range' (i + 1) (S.length - (i + 1)))
        simp at this; omega
      rw [app_ok (by simp; unfold lim; omega), bd_some]
      simp only [impl_premises_eq]
      rw [chk_len hp, bd_some]
      rw [forR_fold (X := Empty) (xs := prem x) (F := fun M k => M.set k.toNat true) (s0 := M) (fun _ N => N.length = S.length) hM (fun j k N hk hN => by
        have hkb := hb k (List.mem_of_getElem? hk)
        obtain ⟨y, hy, _⟩ := ix_of (xs := N) hkb.1 (by omega)
        have hput : put N k true = some (N.set k.toNat true) := by
          have := put_ok (xs := N) (i := k.toNat) (x := true) (by omega)
          rwa [show ((k.toNat : Nat) : Int) = k by omega] at this
        simp only [ix_get, hk, bd_some, hy, hput]
        exact ⟨trivial, by simpa using hN⟩), bdR_go]
      refine ⟨rfl, ?_, ?_, ht.symm⟩
      · exact (setT_len (ks := prem x) (M := M)).trans hM
      · rw [← hr2]
        unfold nst
        dsimp only
        rw [← hn]
        simp only [cond_true]
        exact congrArg (rem S i) (setT_set (fun k hk => by have := hb k hk; omega))

theorem spec_moved_trimW {V : Int} {S : List ResStep} (h : IsW V S) {i : Nat} {x : ResStep} (hx : S[i]? = some x) {to : List Int} (ht : ∀ k : Int, k ∈ prem x → ix to k = some (posN S k)) : spec_l7Moved x to = some (trimX S x) := by
  have hc := (h.clause (List.mem_of_getElem? hx)).len
  unfold spec_l7Moved trimX
  rw [spec_l1Own_eq (by unfold lim; omega), bd_some]
  cases hl : decide (0 ≤ x.left) with
  | false => rfl
  | true =>
    have h0 := of_decide_eq_true hl
    simp only [cond_true]
    rw [ht _ (prem_left h0), bd_some]
    cases hr : decide (0 ≤ x.right) with
    | false => rfl
    | true =>
      simp only [cond_true]
      rw [ht _ (prem_right h0 (of_decide_eq_true hr)), bd_some]
theorem impl_moved_trimW {V : Int} {S : List ResStep} (h : IsW V S) {i : Nat} {x : ResStep} (hx : S[i]? = some x) {f : Int → Option Int} (ht : ∀ k : Int, k ∈ prem x → f k = some (posN S k)) : impl_ResStep_moved x f = some (trimX S x) := by
  have hc := (h.clause (List.mem_of_getElem? hx)).len
  unfold impl_ResStep_moved trimX impl_ResStep_isResolvent impl_ResStep_isAxiom
  rw [slices_Clone_int_int_eq (by unfold lim; omega), bd_some]
  by_cases hl : 0 ≤ x.left
  · have hl' : ¬ x.left < 0 := by omega
    have e1 := ht _ (prem_left hl)
    by_cases hr : 0 ≤ x.right
    · have e2 := ht _ (prem_right hl hr)
      simp only [hl, hr, hl', decide_true, decide_false, cond_true, Bool.not_false, bd_some, bdR_go, e1, e2]
    · simp only [hl, hr, hl', decide_true, decide_false, cond_true, cond_false, Bool.not_false, bd_some, bdR_go, e1]
  · have hl' : x.left < 0 := by omega
    simp only [hl, hl', decide_true, decide_false, cond_false, Bool.not_true, bdR_go]
theorem spec_l7Trim_eqW {V : Int} {S : List ResStep} (hD : IsW V S) : spec_l7Trim S = some (trimL S (need S)) := by
  have hSl := hD.le
  unfold spec_l7Trim
  rw [spec_l7Needed_eqW hD, bd_some, show len S = ((S.length : Nat) : Int) from rfl, mk2_ok (by unfold lim; omega), bd_some]
  obtain ⟨⟨out, to⟩, h1, h2, h3⟩ := forL_inv (X := Empty) (l := S) (s := ([], List.replicate S.length 0)) (body := fun i4445 y4444 s4445 => bd (ix (mask S) ((i4445 : Nat) : Int)) (fun x4630 => (bif x4630 then bd (ix s4445.2 ((i4445 : Nat) : Int)) (fun x4639 => bd (put s4445.2 ((i4445 : Nat) : Int) (len s4445.1)) (fun xs4644 => bd (PF.spec_l7Moved y4444 xs4644) (fun r4662 => bd (app s4445.1 [r4662]) (fun xs4679 => some (Lp.nx (xs4679, xs4644)))))) else some (Lp.nx (s4445.1, s4445.2)))))
    (fun i s => s.1 = trimL S (needTo S i) ∧ s.2.length = S.length ∧ ∀ k, k < i → bAt (mask S) k = true → s.2[k]? = some (((needTo S k).length : Nat) : Int)) ⟨rfl, by simp, fun k hk => by omega⟩ (fun i x s hx ⟨hs, hl, ht⟩ => by
      obtain ⟨out, to⟩ := s
      dsimp only at hs hl ht ⊢
      subst hs
      have hi := (List.getElem?_eq_some_iff.1 hx).1
      rw [mask_ix hx, bd_some, needTo_succ]
      cases hm : bAt (mask S) i with
      | false =>
        refine ⟨_, rfl, rfl, hl, fun k hk hmk => ht k ?_ hmk⟩
        rcases Nat.lt_or_ge k i with h | h
        · exact h
        · have : k = i := by omega
          subst this; rw [hm] at hmk; cases hmk
      | true =>
        obtain ⟨y, hy⟩ := ix_len (M := to) (i := i) (by omega)
        have hlen : len (trimL S (needTo S i)) = (((needTo S i).length : Nat) : Int) := by rw [len_eq, trimL_len (fun j hj => by have := needTo_lt j hj; omega)]
        have hto : ∀ k, k < i + 1 → bAt (mask S) k = true → (to.set i (((needTo S i).length : Nat) : Int))[k]? = some (((needTo S k).length : Nat) : Int) := fun k hk hmk => by
          by_cases e : k = i
          · subst e; rw [List.getElem?_set_self (by omega)]
          · rw [List.getElem?_set_ne (by omega)]; exact ht k (by omega) hmk
        simp only [cond_true, hy, bd_some, put_ok (show i < to.length by omega), hlen]
        rw [spec_moved_trimW hD hx (fun k hk => by
          have hb := hD.prem hx k hk
          have hmk := mask_premW hD hx hm k hk
          have := hto k.toNat (by omega) hmk
          unfold ix
          rw [if_pos hb.1, this]; rfl), bd_some]
        have hle := needTo_le S i
        rw [app_ok (by rw [trimL_len (fun j hj => by have := needTo_lt j hj; omega)]; simp; unfold lim; omega), bd_some]
        refine ⟨_, rfl, ?_, by simpa using hl, hto⟩
        show _ = trimL S (needTo S i ++ [i])
        unfold trimL
        rw [List.filterMap_append]
        have e : trimAt S i = some (trimX S x) := by unfold trimAt; rw [hx]; rfl
        rw [List.filterMap_cons_some e]; rfl)
  rw [h1, bdR_go]
  exact congrArg some h2
theorem impl_trimSteps_eqW {V : Int} {S : List ResStep} (hD : IsW V S) : impl_trimSteps S = some (trimL S (need S)) := by
  have hSl := hD.le
  have hn := need_le S
  unfold impl_trimSteps
  rw [impl_neededSteps_eqW hD, bd_some]
  obtain ⟨s, h1, h2⟩ := forL_inv (X := Empty) (l := needI S) (s := []) (body := fun i50 y49 s50 => bd (ix S y49) (fun x133 => bd (PF.impl_ResStep_moved x133 (fun x0 => PF.impl_trimSteps_1 x0 (needI S))) (fun r137 => bd (app s50 [r137]) (fun xs152 => some (Lp.nx xs152)))))
    (fun j s => s = trimL S ((need S).take j)) rfl (fun j k s hj hs => by
      subst hs
      obtain ⟨i, x, g1, rfl, hx, hm⟩ := needI_at hj
      have hjl := (List.getElem?_eq_some_iff.1 g1).1
      simp only [ix_get, hx, bd_some]
      rw [impl_moved_trimW hD hx (fun k hk => by
        have hb := hD.prem hx k hk
        have hi := (List.getElem?_eq_some_iff.1 hx).1
        unfold impl_trimSteps_1
        rw [index_need hb.1 (by omega) (mask_premW hD hx hm k hk), bd_some]), bd_some]
      have hlt : ∀ i ∈ (need S).take j, i < S.length := fun i hi => needTo_lt (S := S) i (by rw [needTo_all]; exact List.mem_of_mem_take hi)
      rw [app_ok (by rw [trimL_len hlt]; simp; unfold lim; omega), bd_some]
      refine ⟨_, rfl, ?_⟩
      rw [List.take_add_one, g1]
      unfold trimL
      rw [List.filterMap_append]
      have e : trimAt S i = some (trimX S x) := by unfold trimAt; rw [hx]; rfl
      show _ = _ ++ List.filterMap _ [i]
      rw [List.filterMap_cons_some e]; rfl)
  rw [h1, bdR_go, h2, needI_length, List.take_length]
end Go.PF

