/- MiddleStep: the law. -/
import Derived.Test.YtbbdfaegfiepeaaGreatMsPl9
import Derived.Test.YtbbdfaegfiepeaaGreatMsPlM2
set_option linter.unusedVariables false
namespace Go.PF
open Go.Pu
theorem cnf_of {n : Int} (h : cnfT n = true) : ∃ P, spec_l17Cnf n = some P ∧ impl_Pigeonhole (wr (n + 1)) n = some (P, true) ∧ cnfB P = true := by
  unfold cnfT at h
  split at h
  · rename_i p q b h1 h2
    simp only [Bool.and_eq_true, beq_iff_eq] at h
    obtain ⟨hb, hv, hc, hg⟩ := h
    have hpq : q = p := by cases p; cases q; simp only at hv hc; rw [hv, hc]
    rw [hpq, hb] at h2
    exact ⟨p, (c_l17 n).le _ h1, (c_hole _ n).le _ h2, hg⟩
  · cases h
theorem cnfB_ok {P : Cnf} (h : cnfB P = true) : okCnf P := by
  unfold cnfB at h
  simp only [Bool.and_eq_true, decide_eq_true_eq, List.all_eq_true] at h
  obtain ⟨⟨h1, h2⟩, h3⟩ := h
  rw [len_eq] at h2
  have := varsB_iff.1 h1
  exact ⟨⟨by omega, by omega⟩, by omega, fun c hc => (clauseB_iff.1 (h3 c hc)).ok⟩
/-- the one who is left, by the bits -/
noncomputable def crI (n : Int) (a : Int) : Int := (spec_l28Critical n a).getD 0
/-- what holds at each number of holes -/
structure Tab (n : Int) (M : Nat) : Prop where
  lo : 1 ≤ n
  hi : n ≤ 3
  cnt : nn (wr (n * (wr (n + 1)))) = some ()
  all : shlK true 64 1 (wr (n * (wr (n + 1)))) = M
  max : M ≤ 4096
  cnf : cnfT n = true
  spec : ∀ a : Nat, a < M → spec_l28Critical n (a : Int) = some (crI n a)
  impl : ∀ a : Nat, a < M → impl_leftOf n (a : Int) = some (crI n a)
theorem left_of {U : List Int} {n : Int} {a : Nat} (hU : impl_upTo n = some U) (hl : U.length ≤ lim) (h : leftT U n a = true) : spec_l28Critical n (a : Int) = some (crI n a) ∧ impl_leftOf n (a : Int) = some (crI n a) := by
  unfold leftT at h
  split at h
  · rename_i x y h1 h2
    simp only [Bool.and_eq_true, beq_iff_eq] at h
    have e := (c_l28 n a).le _ h1
    have e2 := (c_left (a := (a : Int)) hU hl).le _ h2
    unfold crI
    rw [e, e2, h.1]; exact ⟨rfl, rfl⟩
  · cases h
theorem range_all {p : Nat → Bool} {s n : Nat} (h : (List.range' s n).all p = true) {a : Nat} (h1 : s ≤ a) (h2 : a < s + n) : p a = true :=
  List.all_eq_true.1 h a (List.mem_range'_1.2 ⟨h1, h2⟩)
theorem tab1 : Tab 1 4 := by
  have hU : impl_upTo 1 = some [1] := (c_up 1).le _ (by decide +kernel)
  have h : ∀ a : Nat, a < 4 → leftT [1] 1 a = true := fun a ha => List.all_eq_true.1 leftT1 a (List.mem_range.2 ha)
  exact ⟨by omega, by omega, by decide +kernel, by decide +kernel, by omega, cnfT1, fun a ha => (left_of hU (by decide) (h a ha)).1, fun a ha => (left_of hU (by decide) (h a ha)).2⟩
theorem tab2 : Tab 2 64 := by
  have hU : impl_upTo 2 = some [1, 2] := (c_up 2).le _ (by decide +kernel)
  have h : ∀ a : Nat, a < 64 → leftT [1, 2] 2 a = true := fun a ha => List.all_eq_true.1 leftT2 a (List.mem_range.2 ha)
  exact ⟨by omega, by omega, by decide +kernel, by decide +kernel, by omega, cnfT2, fun a ha => (left_of hU (by decide) (h a ha)).1, fun a ha => (left_of hU (by decide) (h a ha)).2⟩
theorem tab3 : Tab 3 4096 := by
  have hU : impl_upTo 3 = some [1, 2, 3] := (c_up 3).le _ (by decide +kernel)
  have h : ∀ a : Nat, a < 4096 → leftT [1, 2, 3] 3 a = true := fun a ha => by
    by_cases h1 : a < 1024
    · exact range_all leftT3a (by omega) (by omega)
    by_cases h2 : a < 2048
    · exact range_all leftT3b (by omega) (by omega)
    by_cases h3 : a < 3072
    · exact range_all leftT3c (by omega) (by omega)
    · exact range_all leftT3d (by omega) (by omega)
  exact ⟨by omega, by omega, by decide +kernel, by decide +kernel, by omega, cnfT3, fun a ha => (left_of hU (by decide) (h a ha)).1, fun a ha => (left_of hU (by decide) (h a ha)).2⟩
theorem tab_of {n : Int} (h1 : 1 ≤ n) (h2 : n ≤ 3) : ∃ M, Tab n M := by
  rcases (by omega : n = 1 ∨ n = 2 ∨ n = 3) with e | e | e
  · exact ⟨_, e ▸ tab1⟩
  · exact ⟨_, e ▸ tab2⟩
  · exact ⟨_, e ▸ tab3⟩
/-- all critical assignments, in order -/
noncomputable def allF (n : Int) (s : List Int) (a : Nat) : List Int := bif decide (0 < crI n a) then s ++ [(a : Int)] else s
noncomputable def allL (n : Int) (M : Nat) : List Int := (List.range M).foldl (allF n) []
def AllI (M i : Nat) (s : List Int) : Prop := s.length ≤ i ∧ ∀ y ∈ s, ∃ a : Nat, a < M ∧ y = (a : Int)
theorem allF_step {n : Int} {M i : Nat} {s : List Int} (hi : i < M) (h : AllI M i s) : AllI M (i + 1) (allF n s i) := by
  unfold allF AllI
  cases decide (0 < crI n i)
  · exact ⟨by have := h.1; simp; omega, h.2⟩
  · refine ⟨by have := h.1; simp; omega, fun y hy => ?_⟩
    simp only [cond_true, List.mem_append, List.mem_singleton] at hy
    rcases hy with hy | hy
    · exact h.2 y hy
    · exact ⟨i, hi, hy⟩
theorem range_at {M i x : Nat} (h : (List.range M)[i]? = some x) : x = i ∧ i < M := by
  have hl := lt_of_get h
  simp only [List.length_range] at hl
  rw [List.getElem?_eq_getElem (by simpa using hl)] at h
  simp at h
  exact ⟨h.symm, hl⟩
section
variable {n : Int} {M : Nat} (T : Tab n M)
include T
theorem allL_inv : AllI M M (allL n M) ∧ spec_l28All n = some (allL n M) := by
  have hm := T.max
  have hlim : lim = 4294967296 := rfl
  unfold spec_l28All
  have key := iter_foldI (X := Empty) (xs := List.range M) (F := allF n) (s0 := []) (body := (fun s26 => bd (nn (wr (n * (wr (n + 1))))) (fun u73 => (bif (decide (s26.2 < (shlK true 64 1 (wr (n * (wr (n + 1))))))) then bd (PF.spec_l28Critical n s26.2) (fun r75 => (bif (decide (0 < r75)) then bd (app s26.1 [s26.2]) (fun xs86 => some (Lp.nx (xs86, (wr (s26.2 + 1))))) else some (Lp.nx (s26.1, (wr (s26.2 + 1)))))) else some (Lp.bk (s26.1, s26.2))))))
    (AllI M) ⟨by simp, nofun⟩ (fun i x s hx hI => by
      obtain ⟨rfl, hi⟩ := range_at hx
      refine ⟨?_, allF_step hi hI⟩
      have hl := hI.1
      rw [T.cnt, bd_some, T.all]
      simp only [show decide ((x : Int) < (M : Int)) = true by rw [decide_eq_true_eq]; omega, cond_true, T.spec x hi, bd_some, wr_of ((x : Int) + 1) (by omega) (by omega)]
      unfold allF
      cases decide (0 < crI n x)
      · rfl
      · rw [cond_true, app_ok (by simp; omega), bd_some]; rfl) (fun s => by
      rw [T.cnt, bd_some, T.all]
      simp only [List.length_range, show decide ((M : Int) < (M : Int)) = false by rw [decide_eq_false_iff_not]; omega, cond_false])
  simp only [List.length_range] at key
  refine ⟨key.2, ?_⟩
  rw [key.1, bdR_go]; rfl
theorem critical_eq : impl_critical n = some (allL n M) := by
  have hm := T.max
  have hlim : lim = 4294967296 := rfl
  unfold impl_critical
  rw [T.cnt, bd_some, T.all, show chk (M : Int) = some M by unfold chk; rw [if_pos (by omega)]; simp, bd_some]
  have key := forR_fold (X := Empty) (xs := List.range M) (F := allF n) (s0 := []) (body := (fun i24 s24 => bd (PF.impl_leftOf n ((i24 : Nat) : Int)) (fun r69 => (bif (decide (0 < r69)) then bd (app s24 [((i24 : Nat) : Int)]) (fun xs80 => some (Lp.nx xs80)) else some (Lp.nx s24)))))
    (AllI M) ⟨by simp, nofun⟩ (fun i x s hx hI => by
      obtain ⟨rfl, hi⟩ := range_at hx
      refine ⟨?_, allF_step hi hI⟩
      have hl := hI.1
      rw [T.impl x hi, bd_some]
      unfold allF
      cases decide (0 < crI n x)
      · rfl
      · rw [cond_true, app_ok (by simp; omega), bd_some]; rfl)
  rw [List.length_range] at key
  rw [key, bdR_go]; rfl
end
/-- a clause under an assignment -/
def trB (c : List Int) (a : Int) : Bool := c.any fun l => (andK true 64 (shrK 64 a (wr (vr l - 1))) 1 == 1) == decide (0 < l)
theorem nn_lit {V : Int} {c : List Int} (hc : IsC V c) {l : Int} (hl : l ∈ c) : nn (wr (vr l - 1)) = some () := by
  have := hc.lit l hl
  have := hc.hi
  rw [vr_abs (by omega) (by omega), wr_of _ (by omega) (by omega)]
  unfold nn; rw [if_neg (by omega)]
theorem spec_true {V : Int} {c : List Int} (hc : IsC V c) (a : Int) : spec_l5True c a = some (trB c a) := by
  unfold spec_l5True trB
  rw [forL_any (p := fun _ l => (andK true 64 (shrK 64 a (wr (vr l - 1))) 1 == 1) == decide (0 < l)) (v := true) (fun i l hl => by
    rw [spec_l2Var_eq, nn_lit hc (List.mem_of_getElem? hl), bd_some]), anyI_any]
  cases c.any fun l => (andK true 64 (shrK 64 a (wr (vr l - 1))) 1 == 1) == decide (0 < l) <;> rfl
theorem impl_true {V : Int} {c : List Int} (hc : IsC V c) (a : Int) : impl_holds c a = some (trB c a) := by
  unfold impl_holds
  rw [slices_ContainsFunc_int_int_eq (g := fun l => (andK true 64 (shrK 64 a (wr (vr l - 1))) 1 == 1) == decide (0 < l)) fun l hl => by
    unfold impl_holds_1
    rw [impl_abs_eq (hc.ok.2 l hl), nn_lit hc hl, bd_some], bd_some]
  rfl
/-! the weight: as many as there are left ones -/
theorem mput_keys {m : List (Int × Bool)} {k : Int} : (mput m k true).map Prod.fst = if k ∈ m.map Prod.fst then m.map Prod.fst else m.map Prod.fst ++ [k] := by
  induction m with
  | nil => rfl
  | cons p m ih =>
    unfold mput
    cases h : k == p.1 with
    | true =>
      have := beq_iff_eq.1 h
      simp [this]
    | false =>
      have hne : k ≠ p.1 := fun e => by rw [e] at h; simp at h
      rw [cond_false, List.map_cons, ih, List.map_cons]
      by_cases hk : k ∈ m.map Prod.fst
      · rw [if_pos hk, if_pos (List.mem_cons_of_mem _ hk)]
      · rw [if_neg hk, if_neg (fun e => (List.mem_cons.1 e).elim hne hk)]; rfl
structure Same (m : List (Int × Bool)) (c : List Int) : Prop where
  nd : (m.map Prod.fst).Nodup
  asc : Asc c
  mem : ∀ x, x ∈ m.map Prod.fst ↔ x ∈ c
theorem Same.put {m : List (Int × Bool)} {c : List Int} (h : Same m c) (k : Int) : Same (mput m k true) (putI c k) := by
  refine ⟨?_, putI_asc h.asc, fun x => ?_⟩
  · rw [mput_keys]
    split
    · exact h.nd
    · rename_i hk
      rw [List.nodup_append]
      refine ⟨h.nd, by simp, fun a ha b hb => ?_⟩
      rw [List.mem_singleton.1 hb]
      exact fun e => hk (e ▸ ha)
  · rw [mput_keys, putI_mem]
    split
    · rename_i hk
      rw [h.mem]
      exact ⟨.inr, fun e => e.elim (fun e => e ▸ (h.mem k).1 hk) id⟩
    · rw [List.mem_append, h.mem, List.mem_singleton, or_comm]
theorem Same.len {m : List (Int × Bool)} {c : List Int} (h : Same m c) : m.length = c.length := by
  have hc : c.Nodup := h.asc.imp fun h => by omega
  have := ((List.perm_ext_iff_of_nodup h.nd hc).2 h.mem).length_eq
  simpa using this
theorem same_fold {f : Int → Int} : ∀ {L : List Int} {m : List (Int × Bool)} {c : List Int}, Same m c → Same (L.foldl (fun m x => mput m (f x) true) m) (L.foldl (fun c x => putI c (f x)) c) := by
  intro L
  induction L with
  | nil => intro m c h; exact h
  | cons x L ih => intro m c h; exact ih (h.put _)
theorem foldl_some {A B : Type} {p : A → Bool} {g : B → A → B} : ∀ {L : List A} {s : B}, L.foldl (fun s y => bif p y then g s y else s) s = (L.filter p).foldl g s := by
  intro L
  induction L with
  | nil => intro s; rfl
  | cons y L ih =>
    intro s
    rw [List.foldl_cons, List.filter_cons]
    cases h : p y
    · simpa using ih
    · simpa using ih
noncomputable def wtI (n : Int) (c L : List Int) : Int := len ((L.filter fun a => !trB c a).foldl (fun s a => putI s (crI n a)) [])
section
variable {n : Int} {M : Nat} (T : Tab n M) {V : Int} {c : List Int} (hc : IsC V c)
include T hc
theorem spec_weight : spec_l28Weight n c (allL n M) = some (wtI n c (allL n M)) := by
  have hlim : lim = 4294967296 := rfl
  obtain ⟨hl, hm⟩ := (allL_inv T).1
  have := T.max
  unfold spec_l28Weight
  rw [(forL_foldI (X := Empty) (l := allL n M) (s := []) (g := fun s y => bif !trB c y then putI s (crI n y) else s) (I := fun i s => Asc s ∧ s.length ≤ i) ⟨List.Pairwise.nil, Nat.le_refl _⟩ (fun i y s hy hI => by
    obtain ⟨a, ha, e⟩ := hm y (List.mem_of_getElem? hy)
    have hi := lt_of_get hy
    rw [spec_true hc, bd_some]
    cases trB c y
    · simp only [Bool.not_false, cond_true]
      rw [e, T.spec a ha, bd_some, spec_l1Put_eq hI.1 (by omega), bd_some]
      refine ⟨rfl, putI_asc hI.1, ?_⟩
      have := putI_length s (crI n a)
      omega
    · exact ⟨rfl, hI.1, by simpa using Nat.le_succ_of_le hI.2⟩)).1, bdR_go, foldl_some]
  rfl
theorem impl_weight_eq : impl_weight n c = some (wtI n c (allL n M)) := by
  have hlim : lim = 4294967296 := rfl
  obtain ⟨hl, hm⟩ := (allL_inv T).1
  have := T.max
  unfold impl_weight impl_falseCritical
  rw [critical_eq T, bd_some, slices_DeleteFunc_int_int_eq (g := trB c) (fun y _ => by unfold impl_falseCritical_1; rw [impl_true hc, bd_some]) (by omega), bd_some, bd_some]
  have hf : ((allL n M).filter fun a => !trB c a).length ≤ (allL n M).length := List.length_filter_le _ _
  have hmf : ∀ y ∈ (allL n M).filter (fun a => !trB c a), ∃ a : Nat, a < M ∧ y = (a : Int) := fun y hy => hm y (List.mem_filter.1 hy).1
  unfold wtI
  generalize (allL n M).filter (fun a => !trB c a) = L at hf hmf
  rw [show chk (len L) = some L.length by unfold chk; rw [len_eq, if_pos (by omega)]; simp, bd_some]
  rw [forR_fold (X := Empty) (xs := L) (F := fun m x => mput m (crI n x) true) (s0 := []) (fun _ _ => True) trivial (fun i x s hx _ => by
    obtain ⟨a, ha, e⟩ := hmf x (List.mem_of_getElem? hx)
    rw [ix_nat hx, bd_some, e, T.impl a ha, bd_some]
    exact ⟨rfl, trivial⟩), bdR_go, len_eq, len_eq]
  have := (same_fold (f := crI n) (L := L) (m := []) (c := []) ⟨List.nodup_nil, List.Pairwise.nil, fun _ => Iff.rfl⟩).len
  rw [this]
end
/-- a refutation -/
def refB (F : Cnf) (S : List ResStep) : Bool := derB F S && (decide (0 < len S) && match S[S.length - 1]? with | some x => len x.clause == 0 | none => false)
theorem ix_last {S : List ResStep} (hS : okL okResStep S) (h : 0 < S.length) : ∃ x, S[S.length - 1]? = some x ∧ ix S (wr (len S - 1)) = some x := by
  have hx : S[S.length - 1]? = some S[S.length - 1] := List.getElem?_eq_getElem (by omega)
  refine ⟨_, hx, ?_⟩
  have := hS.1
  rw [len_eq, wr_of _ (by omega) (by omega), show (S.length : Int) - 1 = ((S.length - 1 : Nat) : Int) by omega]
  exact ix_nat hx
theorem spec_ref {F : Cnf} {S : List ResStep} (hF : okCnf F) (hS : okL okResStep S) : spec_l7Refutes F S = some (refB F S) := by
  unfold spec_l7Refutes refB
  rw [spec_l7Good_eq hF hS, bd_some]
  by_cases h : 0 < S.length
  · obtain ⟨x, h1, h2⟩ := ix_last hS h
    rw [h1]
    simp only [spec_l7Last, h2, bd_some, show decide (0 < len S) = true by rw [len_eq, decide_eq_true_eq]; omega]
    cases derB F S <;> rfl
  · simp only [show decide (0 < len S) = false by rw [len_eq, decide_eq_false_iff_not]; omega]
    cases derB F S <;> rfl
theorem impl_ref {F : Cnf} {S : List ResStep} (hF : okCnf F) (hS : okL okResStep S) : impl_IsRefutation F S = some (refB F S) := by
  unfold impl_IsRefutation refB
  rw [impl_IsDerivation_eq hF hS, bd_some]
  by_cases h : 0 < S.length
  · obtain ⟨x, h1, h2⟩ := ix_last hS h
    rw [h1]
    simp only [impl_last_impl_ResStep, h2, bd_some, show decide (0 < len S) = true by rw [len_eq, decide_eq_true_eq]; omega]
    cases derB F S <;> rfl
  · simp only [show decide (0 < len S) = false by rw [len_eq, decide_eq_false_iff_not]; omega]
    cases derB F S <;> rfl
theorem mid_eq {a0 : Int} {a1 : List ResStep} (o1 : okL okResStep a1) : ∃ g, spec_MiddleStep a0 a1 = some g ∧ impl_MiddleStep a0 a1 = some g := by
  by_cases h : 1 ≤ a0 ∧ a0 ≤ 3
  · obtain ⟨M, T⟩ := tab_of h.1 h.2
    obtain ⟨P, p1, p2, p3⟩ := cnf_of T.cnf
    have hP := cnfB_ok p3
    have h1 : spec_l17Holes a0 = true := by unfold spec_l17Holes; rw [spec_l1In_eq, inB_iff]; exact h
    have h2 : impl_holesOk a0 = true := by unfold impl_holesOk; rw [impl_within_eq, inB_iff]; exact h
    unfold spec_MiddleStep impl_MiddleStep impl_PigeonCnf
    rw [h1, h2, p1, p2]
    simp only [Bool.not_true, cond_false, bd_some, spec_ref hP o1, impl_ref hP o1]
    cases hr : refB P a1 with
    | false => exact ⟨_, rfl, rfl⟩
    | true =>
      have hd : IsD P a1 := derB_iff.1 (by unfold refB at hr; simp only [Bool.and_eq_true] at hr; exact hr.1)
      simp only [Bool.not_true, cond_false, (allL_inv T).2, bd_some]
      have hw : ∀ (i : Nat) (x : ResStep), a1[i]? = some x → spec_l28Weight a0 x.clause (allL a0 M) = some (wtI a0 x.clause (allL a0 M)) ∧ impl_weight a0 x.clause = some (wtI a0 x.clause (allL a0 M)) := fun i x hx =>
        ⟨spec_weight T (hd.clause (List.mem_of_getElem? hx)), impl_weight_eq T (hd.clause (List.mem_of_getElem? hx))⟩
      rw [forL_find (p := fun _ (x : ResStep) => (bif (decide ((wr (a0 + 1)) ≤ (wr (3 * wtI a0 x.clause (allL a0 M))))) then (decide ((wr (3 * wtI a0 x.clause (allL a0 M))) ≤ (wr (2 * (wr (a0 + 1)))))) else false)) (v := fun i _ => ((i : Int), true)) (fun i x hx => by rw [(hw i x hx).1, bd_some]),
        forL_find (p := fun _ (x : ResStep) => (bif (decide ((wr (a0 + 1)) ≤ (wr (3 * wtI a0 x.clause (allL a0 M))))) then (decide ((wr (3 * wtI a0 x.clause (allL a0 M))) ≤ (wr (2 * (wr (a0 + 1)))))) else false)) (v := fun i _ => ((i : Int), true)) (fun i x hx => by rw [(hw i x hx).2, bd_some])]
      generalize findI _ a1 0 = q
      cases q with
      | none => exact ⟨_, rfl, rfl⟩
      | some z => exact ⟨_, rfl, rfl⟩
  · have h1 : spec_l17Holes a0 = false := by unfold spec_l17Holes; rw [spec_l1In_eq]; rw [← Bool.not_eq_true, inB_iff]; exact h
    have h2 : impl_holesOk a0 = false := by unfold impl_holesOk; rw [impl_within_eq]; rw [← Bool.not_eq_true, inB_iff]; exact h
    unfold spec_MiddleStep impl_MiddleStep impl_PigeonCnf
    rw [h1, h2]
    exact ⟨_, rfl, rfl⟩
theorem plain_MiddleStep (a0 : Int) (a1 : List ResStep) (o0 : okI a0) (o1 : okL okResStep a1) : laws_FnExactMiddleStep a0 a1 = some true := by
  unfold laws_FnExactMiddleStep
  obtain ⟨r1, q1, z1⟩ := sz_ResStepS o1 (s := 1048576) (by omega) (by omega)
  rw [q1, bd_some]
  by_cases n1 : r1 < 0
  · simp [n1]
  simp only [n1, decide_false, cond_false]
  have hlim : lim = 4294967296 := rfl
  have t1 := to_ResStepS (a := a1) (by omega)
  obtain ⟨g, hs, hi⟩ := mid_eq (a0 := a0) o1
  simp only [t1, hs, hi, bd_some, eq_ResStepS, BEq.rfl, Bool.not_true, cond_false]
end Go.PF
