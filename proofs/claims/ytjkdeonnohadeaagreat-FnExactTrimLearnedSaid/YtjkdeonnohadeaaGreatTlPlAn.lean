/- Learned clauses: the trail that a learned clause leaves, and its analysis. -/
import Derived.Test.YtjkdeonnohadeaaGreatTlPlUo
import Derived.Test.YtjkdeonnohadeaaGreatTlPlDW
set_option linter.unusedVariables false
namespace Go.PF
open Go.Pu
def negL (c : List Int) : List Int := c.map fun y => wr (-y)
theorem negL_isC {V : Int} {c : List Int} (h : IsC V c) : IsC V (negL c) := by
  have hv := h.hi
  have e : ∀ y ∈ c, wr (-y) = -y := fun y hy => by have := h.lit y hy; exact wr_of _ (by omega) (by omega)
  refine ⟨h.lo, h.hi, fun l hl => ?_, ?_⟩
  · obtain ⟨y, hy, rfl⟩ := List.mem_map.1 hl
    have := h.lit y hy
    rw [e y hy]; omega
  · unfold negL
    rw [List.pairwise_map]
    refine h.srt.imp_of_mem fun {a b} ha hb hab => ?_
    rw [e a ha, e b hb]; omega
theorem spec_l11Deny_eq {c : List Int} (hl : c.length ≤ lim) : spec_l11Deny c = some (negL c) := by
  unfold spec_l11Deny negL
  rw [(forL_foldI (X := Empty) (fun s y => s ++ [wr (-y)]) (fun i s => s.length ≤ i) (l := c) (s := []) (by simp) (fun i x t hx ht => by
    have hi := (List.getElem?_eq_some_iff.1 hx).1
    exact ⟨by rw [app_ok (by simp; omega), bd_some], by simp; omega⟩)).1, bdR_go]
  congr 1
  have : ∀ (c s : List Int), c.foldl (fun s y => s ++ [wr (-y)]) s = s ++ c.map fun y => wr (-y) := by
    intro c
    induction c with
    | nil => simp
    | cons y c ih => intro s; simp [ih]
  simpa using this c []
theorem impl_negated_eq {c : List Int} (hl : c.length ≤ lim) : impl_negated c = some (negL c) := spec_l11Deny_eq hl
def lk (F : Cnf) (ls : List (List Int)) (i : Nat) : List (List Int) := F.clauses ++ ls.take i
structure LOk (F : Cnf) (ls : List (List Int)) : Prop where
  v : 0 ≤ F.vars ∧ F.vars ≤ 12
  fl : F.clauses.length ≤ 60
  f : ∀ c ∈ F.clauses, IsC F.vars c
  ll : ls.length ≤ 60
  l : ∀ c ∈ ls, IsC F.vars c
theorem LOk.k {F : Cnf} {ls : List (List Int)} (h : LOk F ls) (i : Nat) : KOk F.vars (lk F ls i) := by
  have := h.fl; have := h.ll
  refine ⟨by unfold lk; simp; omega, fun c hc => ?_⟩
  rcases List.mem_append.1 hc with hc | hc
  · exact h.f c hc
  · exact h.l c (List.mem_of_mem_take hc)
theorem spec_l11With_eq {F : Cnf} {ls : List (List Int)} (h : LOk F ls) {i : Nat} : spec_l11With F (ls.take i) = some ⟨F.vars, lk F ls i⟩ := by
  have := h.fl; have := h.ll
  unfold spec_l11With lk
  rw [app_ok (by simp; unfold lim; omega), bd_some, app_ok (by simp; unfold lim; omega), bd_some]; rfl
theorem concatLL2 {a b : List (List Int)} (hl : a.length + b.length ≤ 1000) : slices_Concat_LLint_Lint [a, b] = some (a ++ b) := by
  have e1 : wr (0 + len a) = (a.length : Int) := by rw [wr_of _ (by rw [len_eq]; omega) (by rw [len_eq]; omega), len_eq]; omega
  have e2 : wr ((a.length : Int) + len b) = ((a.length + b.length : Nat) : Int) := by rw [wr_of _ (by rw [len_eq]; omega) (by rw [len_eq]; omega), len_eq]; omega
  have d1 : decide ((a.length : Int) < 0) = false := by rw [decide_eq_false_iff_not]; omega
  have d2 : decide (((a.length + b.length : Nat) : Int) < 0) = false := by rw [decide_eq_false_iff_not]; omega
  unfold slices_Concat_LLint_Lint forL
  rw [forLFrom_nx (s' := (a.length : Int)) (by rw [e1, d1]; rfl), forLFrom_nx (s' := ((a.length + b.length : Nat) : Int)) (by rw [e2, d2]; rfl), forLFrom_nil, bdR_go]
  unfold slices_Grow_LLint_Lint
  rw [if_pos (by unfold lim; omega), bd_some]
  rw [forLFrom_nx (s' := a) (by rw [app_ok (by simp; unfold lim; omega), bd_some]; rfl), forLFrom_nx (s' := a ++ b) (by rw [app_ok (by unfold lim; omega), bd_some]), forLFrom_nil, bdR_go]
theorem cut_take {A : Type} {xs : List A} {i : Nat} (h : i ≤ xs.length) : cut xs 0 (i : Int) = some (xs.take i) := by
  have := cut_ok (xs := xs) (a := 0) (b := i) (Nat.zero_le _) h
  simpa using this
theorem impl_before_eq {F : Cnf} {ls : List (List Int)} (h : LOk F ls) {i : Nat} (hi : i ≤ ls.length) : impl_before F ls (i : Int) = some (lk F ls i) := by
  have := h.fl; have := h.ll
  unfold impl_before lk
  rw [cut_take hi, bd_some, concatLL2 (by simp; omega), bd_some]
def goodL (F : Cnf) (ls : List (List Int)) : Bool := cnfB F && (decide (len ls ≤ 60) && ls.all (clauseB F.vars))
theorem goodL_ok {F : Cnf} {ls : List (List Int)} (h : goodL F ls = true) : LOk F ls := by
  unfold goodL cnfB at h
  simp only [Bool.and_eq_true, decide_eq_true_eq, List.all_eq_true] at h
  obtain ⟨⟨⟨h1, h2⟩, h3⟩, h4, h5⟩ := h
  exact ⟨varsB_iff.1 h1, by rw [len_eq] at h2; omega, fun c hc => clauseB_iff.1 (h3 c hc), by rw [len_eq] at h4; omega, fun c hc => clauseB_iff.1 (h5 c hc)⟩
theorem spec_l11Takes_eq {F : Cnf} {ls : List (List Int)} (hF : okCnf F) (hl : okL (okL okI) ls) : spec_l11Takes F ls = some (goodL F ls) := by
  unfold spec_l11Takes goodL
  rw [spec_l2Good_eq hF, bd_some]
  cases cnfB F with
  | false => rfl
  | true =>
    have e : (decide (60 < len ls)) = !decide (len ls ≤ 60) := by
      by_cases h : len ls ≤ 60
      · simp [h]
      · simp [h]; omega
    simp only [Bool.not_true, cond_false, Bool.true_and]
    rw [e]
    cases decide (len ls ≤ 60) with
    | false => rfl
    | true =>
      simp only [Bool.not_true, cond_false, Bool.true_and]
      rw [forL_any (p := fun _ c => !clauseB F.vars c) (v := false) (fun i y hy => by rw [spec_l2Clause_eq (hl.2 _ (List.mem_of_getElem? hy)), bd_some])]
      rw [anyI_any, show (ls.any fun y => !clauseB F.vars y) = !ls.all (clauseB F.vars) by rw [List.all_eq_not_any_not, Bool.not_not]]
      cases ls.all (clauseB F.vars) <;> rfl
theorem impl_listOk_eq {F : Cnf} {ls : List (List Int)} (hF : okCnf F) (hl : okL (okL okI) ls) : impl_listOk F ls = some (goodL F ls) := by
  unfold impl_listOk goodL
  rw [impl_IsCnf_eq hF, bd_some]
  cases cnfB F with
  | false => rfl
  | true =>
    simp only [cond_true, Bool.true_and]
    cases decide (len ls ≤ 60) with
    | false => rfl
    | true =>
      simp only [cond_true, Bool.true_and]
      have : slices_ContainsFunc_LLint_Lint ls (fun x0 => PF.impl_listOk_1 x0 F) = some (ls.any fun c => !clauseB F.vars c) := by
        unfold slices_ContainsFunc_LLint_Lint slices_IndexFunc_LLint_Lint
        rw [forL_find (p := fun _ c => !clauseB F.vars c) (v := fun i _ => ((i : Nat) : Int)) (fun i y hy => by show bd (PF.impl_listOk_1 y F) _ = _; unfold impl_listOk_1; rw [impl_IsClause_eq (hl.2 _ (List.mem_of_getElem? hy)), bd_some, bd_some])]
        rw [← anyI_any (fun c => !clauseB F.vars c) ls 0]
        cases hf : findI (fun _ c => !clauseB F.vars c) ls 0 with
        | none => rw [findI_none.1 hf]; rfl
        | some z => rw [(findI_some hf).2.2.2, bdR_rt, bd_some, decide_eq_true (by omega)]
      rw [this, bd_some, bd_some, show (ls.any fun y => !clauseB F.vars y) = !ls.all (clauseB F.vars) by rw [List.all_eq_not_any_not, Bool.not_not], Bool.not_not]
def folB (F : Cnf) (ls : List (List Int)) (i : Nat) (y : List Int) : Bool := (unitP (lk F ls i) (negL y)).2.2
def firstU (F : Cnf) (ls : List (List Int)) : Option (Nat × List Int) := findI (fun i y => !folB F ls i y) ls 0
theorem spec_l11First_eq {F : Cnf} {ls : List (List Int)} (h : LOk F ls) : spec_l11First F ls = some (zAt (firstU F ls)) := by
  unfold spec_l11First
  rw [forL_find (p := fun i y => !folB F ls i y) (v := fun i _ => ((i : Nat) : Int)) (fun i y hy => by
    have hi := (List.getElem?_eq_some_iff.1 hy).1
    have hy' := h.l _ (List.mem_of_getElem? hy)
    have hyl := hy'.len
    rw [cut_take (by omega), bd_some, spec_l11With_eq h, bd_some]
    unfold spec_l11Follows
    rw [spec_l11Deny_eq (by unfold lim; omega), bd_some, spec_l3Steps_eq (F := ⟨F.vars, lk F ls i⟩) (h.k i) (negL_isC hy'), bd_some, bd_some]; rfl)]
  unfold firstU
  cases findI (fun i y => !folB F ls i y) ls 0 <;> rfl
theorem impl_firstUnfollowed_eq {F : Cnf} {ls : List (List Int)} (h : LOk F ls) : impl_firstUnfollowed F ls = some (zAt (firstU F ls)) := by
  unfold impl_firstUnfollowed
  rw [forL_find (p := fun i y => !folB F ls i y) (v := fun i _ => ((i : Nat) : Int)) (fun i y hy => by
    have hi := (List.getElem?_eq_some_iff.1 hy).1
    have hy' := h.l _ (List.mem_of_getElem? hy)
    have hyl := hy'.len
    rw [impl_before_eq h (by omega), bd_some]
    unfold impl_follows
    rw [impl_negated_eq (by unfold lim; omega), bd_some, impl_propagate_eq (h.k i) (negL_isC hy'), bd_some, bd_some]; rfl)]
  unfold firstU
  cases findI (fun i y => !folB F ls i y) ls 0 <;> rfl
def learnB (F : Cnf) (ls : List (List Int)) : Bool := goodL F ls && decide (zAt (firstU F ls) < 0)
theorem spec_l11Good_eq {F : Cnf} {ls : List (List Int)} (hF : okCnf F) (hl : okL (okL okI) ls) : spec_l11Good F ls = some (learnB F ls) := by
  unfold spec_l11Good learnB
  rw [spec_l11Takes_eq hF hl, bd_some]
  cases h : goodL F ls with
  | false => rfl
  | true => simp only [cond_true, Bool.true_and]; rw [spec_l11First_eq (goodL_ok h), bd_some, bd_some]
theorem impl_learned_eq {F : Cnf} {ls : List (List Int)} (hF : okCnf F) (hl : okL (okL okI) ls) : impl_learned F ls = some (learnB F ls) := by
  unfold impl_learned learnB
  rw [impl_listOk_eq hF hl, bd_some]
  cases h : goodL F ls with
  | false => rfl
  | true => simp only [cond_true, Bool.true_and]; rw [impl_firstUnfollowed_eq (goodL_ok h), bd_some, bd_some]
theorem learnB_fol {F : Cnf} {ls : List (List Int)} (h : learnB F ls = true) {i : Nat} {y : List Int} (hy : ls[i]? = some y) : folB F ls i y = true := by
  unfold learnB at h
  rw [Bool.and_eq_true] at h
  have h2 := h.2
  have hn : firstU F ls = none := by
    cases hf : firstU F ls with
    | none => rfl
    | some z => rw [hf] at h2; have h3 := of_decide_eq_true h2; simp only [zAt] at h3; omega
  have := anyI_false.1 (findI_none.1 hn) i y hy
  simpa using this
/-! the trail -/
theorem iter_find {α X : Type} {xs : List α} {body : Int → Option (Lp Int X)} {p : Nat → α → Bool} {v : Nat → α → X} (h : ∀ (i : Nat) y, xs[i]? = some y → body (i : Int) = (bif p i y then some (.rt (v i y)) else some (.nx ((i : Int) + 1)))) (he : body (xs.length : Int) = some (.bk (xs.length : Int))) :
    iter body 0 = some (match findI p xs 0 with | some z => .rt (v z.1 z.2) | none => .go (xs.length : Int)) := by
  have key : ∀ (m : List α) (k : Nat), k + m.length = xs.length → (∀ i y, m[i]? = some y → xs[k + i]? = some y) → iter body (k : Int) = some (match findI p m k with | some z => .rt (v z.1 z.2) | none => .go (xs.length : Int)) := by
    intro m
    induction m with
    | nil => intro k hk _; simp at hk; subst hk; exact iter_bk he
    | cons y m ih =>
      intro k hk hm
      have h0 := h k y (by have := hm 0 y rfl; simpa using this)
      unfold findI
      cases hp : p k y with
      | true => rw [hp] at h0; exact iter_rt h0
      | false =>
        rw [hp] at h0
        rw [iter_nx h0]
        exact ih (k + 1) (by simp at hk; omega) fun i z hz => by have := hm (i + 1) z (by simpa using hz); rwa [show k + (i + 1) = k + 1 + i by omega] at this
  exact key xs 0 (by simp) (by simp)
def fz (K : List (List Int)) (a : List Int) : Option (Nat × List Int) := findI (fun _ c => decide (clv c a < 0)) K 0
theorem fz_some {K : List (List Int)} {a : List Int} (h : falB K a = true) : ∃ z, fz K a = some z ∧ K[z.1]? = some z.2 := by
  unfold fz
  cases hf : findI (fun _ c => decide (clv c a < 0)) K 0 with
  | none =>
    have := findI_none.1 hf
    rw [anyI_any] at this
    unfold falB at h; rw [h] at this; cases this
  | some z => exact ⟨z, rfl, by have := (findI_some hf).2.1; simpa using this⟩
theorem spec_l9False_eq {V : Int} {F : Cnf} (hK : KOk V F.clauses) (a : List Int) : spec_l9False F a = some (zAt (fz F.clauses a)) := by
  unfold spec_l9False
  have hl := hK.len
  rw [iter_find (xs := F.clauses) (p := fun _ c => decide (clv c a < 0)) (v := fun i _ => ((i : Nat) : Int)) (fun i y hy => by
    have hi := (List.getElem?_eq_some_iff.1 hy).1
    rw [decide_eq_true (by rw [len_eq]; omega), cond_true, ix_get, hy, bd_some, spec_l3Value_eq, bd_some, wr_succ hi (by omega)]) (by
    rw [decide_eq_false (by rw [len_eq]; omega), cond_false])]
  unfold fz
  cases findI (fun _ c => decide (clv c a < 0)) F.clauses 0 <;> rfl
theorem falF_head {a : List Int} : ∀ {cs : List (List Int)} {i : Nat} {z : Nat × List Int}, findI (fun _ c => decide (clv c a < 0)) cs i = some z → ix (falF a i cs) 0 = some ((z.1 : Nat) : Int) := by
  intro cs
  induction cs with
  | nil => intro i z h; cases h
  | cons c cs ih =>
    intro i z h
    unfold findI at h
    unfold falF
    cases hd : decide (clv c a < 0) with
    | true => rw [hd] at h; cases h; rfl
    | false => rw [hd] at h; exact ih h
end Go.PF
