/- TreeClauses: leaves, steps, the law. -/
import Derived.Test.YtmpfnnkmplkfoaaGreatTcPlT4
set_option linter.unusedVariables false
namespace Go.PF
open Go.Pu
def kC (K : List (List Int)) (r : Int) : List Int := (ix K r).getD []
def aI (A : List Int) (i : Int) : Int := (ix A i).getD (-1)
def cA (S : List ResStep) (i : Int) : List Int := match ix S i with | some x => x.clause | none => []
theorem kC_of {K : List (List Int)} {r : Int} (h0 : 0 ≤ r) (h1 : r < K.length) : ix K r = some (kC K r) ∧ kC K r ∈ K := by
  obtain ⟨x, hx, h2⟩ := ix_of (xs := K) h0 h1
  have : kC K r = x := by unfold kC; rw [hx]; rfl
  rw [this]; exact ⟨hx, List.mem_of_getElem? h2⟩
theorem aI_of {A : List Int} {i : Int} (h0 : 0 ≤ i) (h1 : i < A.length) : ix A i = some (aI A i) ∧ aI A i ∈ A := by
  obtain ⟨x, hx, h2⟩ := ix_of (xs := A) h0 h1
  have : aI A i = x := by unfold aI; rw [hx]; rfl
  rw [this]; exact ⟨hx, List.mem_of_getElem? h2⟩
theorem aI_app {A B : List Int} {i : Int} (h0 : 0 ≤ i) (h1 : i < A.length) : ix (A ++ B) i = some (aI A i) := by
  rw [← (aI_of h0 h1).1]
  unfold ix
  rw [if_pos h0, if_pos h0, List.getElem?_append_left (by omega)]
theorem cA_of {S : List ResStep} {i : Int} (h0 : 0 ≤ i) (h1 : i < S.length) : ∃ x, ix S i = some x ∧ x.clause = cA S i ∧ x ∈ S := by
  obtain ⟨x, hx, hx2⟩ := ix_of (xs := S) h0 h1
  exact ⟨x, hx, by unfold cA; rw [hx], List.mem_of_getElem? hx2⟩
/-! the leaves -/
def badAt (F : Cnf) (P : List (List Int)) (i : Nat) (y : TreeNode) : Bool := bif inn y then false else decide (0 ≤ clv (kC F.clauses y.clause) (pAt P i))
theorem spec_l9Bad_eq {F : Cnf} {N : List TreeNode} {P : List (List Int)} (hT : TOk F N) (hP : POk F.vars N.length P) : ∃ r, spec_l9Bad F N P = some r ∧ decide (r < 0) = !anyI (badAt F P) N 0 := by
  unfold spec_l9Bad
  rw [forL_find (p := badAt F P) (v := fun i _ => ((i : Nat) : Int)) (fun i y hy => by
    have hi := (List.getElem?_eq_some_iff.1 hy).1
    have hok := hT.n.ok i y hy
    unfold badAt spec_l9Leaf
    cases hn : y.var == 0 with
    | false =>
      have hin : inn y = true := by unfold inn; rw [hn]; rfl
      rw [hin]; rfl
    | true =>
      have hin : inn y = false := by unfold inn; rw [hn]; rfl
      obtain ⟨c1, c2⟩ := hok.leaf hin
      rw [hin]
      simp only [cond_true, cond_false]
      rw [(kC_of c1 c2).1, bd_some, ix_get, (hP.at hi).1, bd_some, spec_l3Value_eq, bd_some, bd_some])]
  cases hf : findI (badAt F P) N 0 with
  | none =>
    refine ⟨-1, rfl, ?_⟩
    rw [findI_none.1 hf]; rfl
  | some z =>
    refine ⟨_, rfl, ?_⟩
    rw [(findI_some hf).2.2.2, decide_eq_false (by omega)]; rfl
def upN (n : Nat) : List Int := (List.range n).map fun i : Nat => (i : Int) + 1
theorem impl_upTo_n {n : Nat} (hn : n ≤ 1000) : impl_upTo (n : Int) = some (upN n) := by
  unfold impl_upTo
  have key : ∀ (m k : Nat), k + m = n → iter (S := ((List Int) × Int)) (X := Empty) (fun s22 => (bif (decide (s22.2 ≤ (n : Int))) then bd (app s22.1 [s22.2]) (fun xs66 => some (Lp.nx (xs66, (wr (s22.2 + 1))))) else some (Lp.bk (s22.1, s22.2)))) (upN k, (k : Int) + 1) = some (.go (upN n, (n : Int) + 1)) := by
    intro m
    induction m with
    | zero =>
      intro k hk
      simp at hk; subst hk
      exact iter_bk (by rw [decide_eq_false (by omega)]; rfl)
    | succ m ih =>
      intro k hk
      have hl : (upN k).length = k := by simp [upN]
      rw [iter_nx (s' := (upN (k + 1), ((k + 1 : Nat) : Int) + 1)) (by
        show (bif decide ((k : Int) + 1 ≤ (n : Int)) then _ else _) = _
        rw [decide_eq_true (by omega), cond_true, app_ok (by simp [hl]; unfold lim; omega), bd_some, wr_of _ (by omega) (by omega)]
        unfold upN
        rw [List.range_succ, List.map_append]; rfl)]
      exact ih (k + 1) (by omega)
  have := key n 0 (by omega)
  rw [show ((0 : Nat) : Int) + 1 = 1 by omega] at this
  rw [show (([], 1) : List Int × Int) = (upN 0, 1) from rfl, this, bdR_go]
theorem anyI_range {α : Type} {p : Nat → α → Bool} {N : List α} : anyI p N 0 = (List.range N.length).any fun i => match N[i]? with | some y => p i y | none => false := by
  cases h : (List.range N.length).any fun i => match N[i]? with | some y => p i y | none => false with
  | false =>
    rw [anyI_false]
    intro i y hy
    rw [List.any_eq_false] at h
    have := h i (List.mem_range.2 (List.getElem?_eq_some_iff.1 hy).1)
    rw [hy] at this
    rw [Nat.zero_add]; simpa using this
  | true =>
    cases h2 : anyI p N 0 with
    | true => rfl
    | false =>
      rw [anyI_false] at h2
      obtain ⟨i, hi, hp⟩ := List.any_eq_true.1 h
      have hi := List.mem_range.1 hi
      rw [List.getElem?_eq_getElem hi] at hp
      have := h2 i N[i] (List.getElem?_eq_getElem hi)
      rw [Nat.zero_add] at this
      simp only at hp
      rw [this] at hp; cases hp
theorem impl_badLeaf_eq {F : Cnf} {N : List TreeNode} {P : List (List Int)} (hP : treeP F N = some P) : ∃ r, impl_badLeaf F N = some r ∧ decide (r < 0) = !anyI (badAt F P) N 0 := by
  obtain ⟨hT, hPo⟩ := treeP_ok hP
  have hB : treeB F N = true := by
    unfold treeP at hP
    cases h : treeB F N with
    | true => rfl
    | false => rw [h] at hP; cases hP
  have hle := hT.le
  have hv : pathsV F N = (P, true) := by unfold pathsV; rw [hP]
  unfold impl_badLeaf
  rw [impl_paths_eq hB, bd_some, hv, show len N = ((N.length : Nat) : Int) from rfl, impl_upTo_n (by omega), bd_some]
  simp only
  obtain ⟨r, h1, h2, _⟩ := slices_IndexFunc_int_int_ge (c := upN N.length) (f := fun x0 => PF.impl_badLeaf_1 x0 N F P) (g := fun x => match N[(x - 1).toNat]? with | some y => badAt F P (x - 1).toNat y | none => false) (fun x hx => by
    obtain ⟨i, hi, rfl⟩ := List.mem_map.1 hx
    have hi := List.mem_range.1 hi
    have hw : wr ((i : Int) + 1 - 1) = (i : Int) := by rw [wr_of _ (by omega) (by omega)]; omega
    have hy : N[i]? = some N[i] := List.getElem?_eq_getElem hi
    have hok := hT.n.ok i N[i] hy
    rw [show ((i : Int) + 1 - 1).toNat = i by omega]
    unfold impl_badLeaf_1
    rw [hw, ix_get, hy, bd_some]
    simp only
    unfold badAt
    cases hn : N[i].var == 0 with
    | false =>
      have hin : inn N[i] = true := by unfold inn; rw [hn]; rfl
      rw [hin]; rfl
    | true =>
      have hin : inn N[i] = false := by unfold inn; rw [hn]; rfl
      obtain ⟨c1, c2⟩ := hok.leaf hin
      rw [hin]
      simp only [cond_true, cond_false]
      rw [(kC_of c1 c2).1, bd_some, ix_get, (hPo.at hi).1, bd_some, impl_clauseValue_eq, bd_some, bd_some])
  rw [h1, bd_some]
  refine ⟨r, rfl, ?_⟩
  rw [anyI_range, show decide (r < 0) = !decide (0 ≤ r) by rw [Bool.eq_iff_iff]; simp, h2]
  unfold upN
  rw [List.any_map]
  refine congrArg (fun q => !((List.range N.length).any q)) (funext fun i => ?_) |>.symm
  simp only [Function.comp_apply, show ((i : Int) + 1 - 1).toNat = i by omega]
  cases N[i]? <;> rfl
def searchP (F : Cnf) (N : List TreeNode) : Bool := match treeP F N with | some P => !anyI (badAt F P) N 0 | none => false
theorem spec_l9Search_eq {F : Cnf} {N : List TreeNode} (hF : okCnf F) (hl : okL okTreeNode N) : ∃ P, spec_l9Search F N = some (P, searchP F N) := by
  unfold spec_l9Search searchP
  rw [spec_l9Paths_eq hF hl, bd_some]
  unfold pathsV
  cases h : treeP F N with
  | none => exact ⟨[], rfl⟩
  | some P =>
    obtain ⟨hT, hPo⟩ := treeP_ok h
    obtain ⟨r, h1, h2⟩ := spec_l9Bad_eq hT hPo
    simp only [cond_true]
    rw [h1, bd_some, bd_some, h2]
    exact ⟨P, rfl⟩
theorem impl_searchTree_eq {F : Cnf} {N : List TreeNode} (hF : okCnf F) (hl : okL okTreeNode N) : impl_searchTree F N = some (searchP F N) := by
  unfold impl_searchTree impl_IsSearchTree searchP
  rw [impl_IsTree_eq hF hl, bd_some]
  cases h : treeP F N with
  | none => rfl
  | some P =>
    obtain ⟨r, h1, h2⟩ := impl_badLeaf_eq h
    simp only [Option.isSome_some, Bool.not_true, cond_false]
    rw [h1, bd_some, bd_some, h2]
/-! the steps -/
def tstep (F : Cnf) (s : List ResStep × List Int) (y : TreeNode) : List ResStep × List Int :=
  bif !inn y then (s.1 ++ [⟨kC F.clauses y.clause, -1, y.clause, 0⟩], s.2 ++ [len s.1])
  else bif !(cA s.1 (aI s.2 y.low)).contains y.var then (s.1, s.2 ++ [aI s.2 y.low])
  else bif !(cA s.1 (aI s.2 y.high)).contains (wr (-y.var)) then (s.1, s.2 ++ [aI s.2 y.high])
  else (s.1 ++ [⟨(res (cA s.1 (aI s.2 y.low)) (cA s.1 (aI s.2 y.high)) y.var).1, aI s.2 y.low, aI s.2 y.high, y.var⟩], s.2 ++ [len s.1])
structure TI (F : Cnf) (i : Nat) (s : List ResStep × List Int) : Prop where
  al : s.2.length = i
  a : ∀ a ∈ s.2, 0 ≤ a ∧ a < s.1.length
  w : ∀ x ∈ s.1, IsC F.vars x.clause
  l : s.1.length ≤ i
theorem TI.cl {F : Cnf} {i : Nat} {s : List ResStep × List Int} (h : TI F i s) {k : Int} (h0 : 0 ≤ k) (h1 : k < i) : ix s.2 k = some (aI s.2 k) ∧ (0 ≤ aI s.2 k ∧ aI s.2 k < s.1.length) ∧ (∃ x, ix s.1 (aI s.2 k) = some x ∧ x.clause = cA s.1 (aI s.2 k)) ∧ IsC F.vars (cA s.1 (aI s.2 k)) := by
  have hal := h.al
  obtain ⟨e1, e2⟩ := aI_of (A := s.2) h0 (by omega)
  have hb := h.a _ e2
  obtain ⟨x, x1, x2, x3⟩ := cA_of (S := s.1) hb.1 hb.2
  exact ⟨e1, hb, ⟨x, x1, x2⟩, x2 ▸ h.w x x3⟩
theorem TI.add {F : Cnf} {i : Nat} {s : List ResStep × List Int} (h : TI F i s) {x : ResStep} (hx : IsC F.vars x.clause) : TI F (i + 1) (s.1 ++ [x], s.2 ++ [len s.1]) := by
  have hl := h.l
  refine ⟨by simp [h.al], fun a ha => ?_, fun y hy => ?_, by simp; omega⟩
  · rcases List.mem_append.1 ha with ha | ha
    · have := h.a a ha; simp only [List.length_append, List.length_singleton]; omega
    · rw [List.mem_singleton.1 ha, len_eq]; simp only [List.length_append, List.length_singleton]; omega
  · rcases List.mem_append.1 hy with hy | hy
    · exact h.w y hy
    · rw [List.mem_singleton.1 hy]; exact hx
theorem TI.same {F : Cnf} {i : Nat} {s : List ResStep × List Int} (h : TI F i s) {a : Int} (h0 : 0 ≤ a) (h1 : a < s.1.length) : TI F (i + 1) (s.1, s.2 ++ [a]) := by
  have hl := h.l
  refine ⟨by simp [h.al], fun b hb => ?_, h.w, by simp; omega⟩
  rcases List.mem_append.1 hb with hb | hb
  · exact h.a b hb
  · rw [List.mem_singleton.1 hb]; exact ⟨h0, h1⟩
theorem tstep_ok {F : Cnf} {N : List TreeNode} (hT : TOk F N) {i : Nat} {s : List ResStep × List Int} (h : TI F i s) {y : TreeNode} (hy : N[i]? = some y) : TI F (i + 1) (tstep F s y) := by
  have hok := hT.n.ok i y hy
  unfold tstep
  cases hn : inn y with
  | false =>
    obtain ⟨c1, c2⟩ := hok.leaf hn
    exact h.add (hT.f _ (kC_of c1 c2).2)
  | true =>
    obtain ⟨v1, v2, g1, g2, g3, g4, g5⟩ := hok.inner hn
    obtain ⟨_, b1, _, c1⟩ := h.cl g1 g2
    obtain ⟨_, b2, _, c2⟩ := h.cl g3 g4
    simp only [Bool.not_true, cond_false]
    cases (cA s.1 (aI s.2 y.low)).contains y.var with
    | false => exact h.same b1.1 b1.2
    | true =>
      simp only [Bool.not_true, cond_false]
      cases (cA s.1 (aI s.2 y.high)).contains (wr (-y.var)) with
      | false => exact h.same b2.1 b2.2
      | true => exact h.add (res_isC c1 c2)
def stepsT (F : Cnf) (N : List TreeNode) : List ResStep × List Int := N.foldl (tstep F) ([], [])
theorem stepsT_ok {F : Cnf} {N : List TreeNode} (hT : TOk F N) : TI F N.length (stepsT F N) :=
  (forL_foldI (X := Empty) (body := fun _ y s => some (.nx (tstep F s y))) (tstep F) (fun i s => TI F i s) (l := N) (s := ([], [])) ⟨rfl, (fun a h => by cases h), (fun a h => by cases h), by simp⟩ (fun i y s hy hs => ⟨rfl, tstep_ok hT hs hy⟩)).2
theorem spec_l9Steps_eq {F : Cnf} {N : List TreeNode} (hT : TOk F N) : spec_l9Steps F N = some (stepsT F N) := by
  have hle := hT.le
  unfold spec_l9Steps
  obtain ⟨q, h1, s, rfl, h3⟩ := forL_inv (X := Empty) (l := N) (s := ([], [])) (body := (fun (i40 : Nat) (y39 : TreeNode) (s40 : List Int × List ResStep) => (bif (PF.spec_l9Leaf y39) then bd (app s40.1 [(len s40.2)]) (fun xs111289 => bd (ix F.clauses y39.clause) (fun x132306 => bd (app [] x132306) (fun xs138300 => bd (app s40.2 [(ResStep.mk xs138300 (-1) y39.clause 0)]) (fun xs153300 => some (Lp.nx (xs111289, xs153300)))))) else bd (ix s40.1 y39.low) (fun x162323 => bd (ix s40.2 x162323) (fun x162331 => bd (ix s40.1 y39.high) (fun x162341 => bd (ix s40.2 x162341) (fun x162349 => bd (PF.spec_l2Has x162331.clause y39.var) (fun r162356 => (bif (!r162356) then bd (ix s40.1 y39.low) (fun x162368 => bd (app s40.1 [x162368]) (fun xs162375 => some (Lp.nx (xs162375, s40.2)))) else bd (PF.spec_l2Has x162349.clause (wr (-y39.var))) (fun r162386 => (bif (!r162386) then bd (ix s40.1 y39.high) (fun x162398 => bd (app s40.1 [x162398]) (fun xs162405 => some (Lp.nx (xs162405, s40.2)))) else bd (PF.spec_l2Resolve x162331.clause x162349.clause y39.var) (fun r162416 => bd (app s40.1 [(len s40.2)]) (fun xs162431 => bd (ix xs162431 y39.low) (fun x180448 => bd (ix xs162431 y39.high) (fun x195448 => bd (app s40.2 [(ResStep.mk r162416.1 x180448 x195448 y39.var)]) (fun xs213442 => some (Lp.nx (xs162431, xs213442))))))))))))))))))
    (fun i q => ∃ s : List ResStep × List Int, q = (s.2, s.1) ∧ TI F i s ∧ s = (N.take i).foldl (tstep F) ([], [])) ⟨([], []), rfl, ⟨rfl, (fun a h => by cases h), (fun a h => by cases h), by simp⟩, rfl⟩ (fun i y q hy ⟨s, e, hs, hf⟩ => by
      subst e
      have hi := (List.getElem?_eq_some_iff.1 hy).1
      have hok := hT.n.ok i y hy
      have hal := hs.al; have hsl := hs.l
      refine ⟨((tstep F s y).2, (tstep F s y).1), ?_, tstep F s y, rfl, tstep_ok hT hs hy, by rw [List.take_add_one, hy]; simp [← hf]⟩
      unfold tstep spec_l9Leaf
      simp only
      have ha : ∀ z, app s.2 [z] = some (s.2 ++ [z]) := fun z => app_ok (by simp; unfold lim; omega)
      have hb : ∀ z, app s.1 [z] = some (s.1 ++ [z]) := fun z => app_ok (by simp; unfold lim; omega)
      cases hn : y.var == 0 with
      | true =>
        have hin : inn y = false := by unfold inn; rw [hn]; rfl
        obtain ⟨c1, c2⟩ := hok.leaf hin
        obtain ⟨k1, k2⟩ := kC_of c1 c2
        have hcl := (hT.f _ k2).len
        rw [hin]
        simp only [cond_true, Bool.not_false, ha, bd_some, k1, hb]
        rw [app_ok (by simp; unfold lim; omega), bd_some]; rfl
      | false =>
        have hin : inn y = true := by unfold inn; rw [hn]; rfl
        obtain ⟨v1, v2, g1, g2, g3, g4, g5⟩ := hok.inner hin
        obtain ⟨e1, b1, ⟨x1, p1, q1⟩, c1⟩ := hs.cl g1 g2
        obtain ⟨e2, b2, ⟨x2, p2, q2⟩, c2⟩ := hs.cl g3 g4
        have hl1 := c1.len; have hl2 := c2.len
        rw [hin]
        simp only [cond_false, Bool.not_true, e1, e2, p1, p2, bd_some, spec_l2Has_eq, q1, q2, ha]
        cases (cA s.1 (aI s.2 y.low)).contains y.var with
        | false => rfl
        | true =>
          simp only [cond_false, Bool.not_true]
          cases (cA s.1 (aI s.2 y.high)).contains (wr (-y.var)) with
          | false => rfl
          | true =>
            simp only [cond_false, Bool.not_true]
            rw [spec_l2Resolve_eq (by unfold lim; omega), bd_some, aI_app g1 (by omega), bd_some, aI_app g3 (by omega), bd_some, hb, bd_some])
  rw [h1, bdR_go]
  obtain ⟨h4, h5⟩ := h3
  rw [List.take_length] at h5
  unfold stepsT; rw [← h5]
theorem impl_treeSteps_eq {F : Cnf} {N : List TreeNode} (hT : TOk F N) : impl_treeSteps F N = some (some ⟨(stepsT F N).1, (stepsT F N).2⟩) := by
  have hle := hT.le
  unfold impl_treeSteps
  obtain ⟨q, h1, s, rfl, h3⟩ := forL_inv (X := Empty) (l := N) (s := ([], [])) (body := (fun (i38 : Nat) (y37 : TreeNode) (s38 : List Int × List ResStep) => bdR (S := ((List ResStep) × Int)) (X := Empty) ((bif (y37.var == 0) then bd (ix F.clauses y37.clause) (fun x360319 => bd (PF.slices_Clone_int_int x360319) (fun r366313 => bd (β := _) (bd (app s38.2 [(ResStep.mk r366313 (-1) y37.clause 0)]) (fun xs441346 => some (xs441346, (wr ((len xs441346) - 1)))) : Option ((List ResStep) × Int)) (fun s417332 => some (Rs.go (s417332.1, s417332.2))))) else bd (ix s38.1 y37.low) (fun x411336 => bd (ix s38.1 y37.high) (fun x435336 => bd (PF.impl_weaver_resolvent (weaver.mk s38.2 s38.1) x411336 x435336 y37.var) (fun r447330 => some (Rs.go (r447330.2.steps, r447330.1))))))) (fun s342304 => bd (app s38.1 [s342304.2]) (fun xs456363 => some (Lp.nx (xs456363, s342304.1)))) (fun x342306 => nomatch x342306)))
    (fun i q => ∃ s : List ResStep × List Int, q = (s.2, s.1) ∧ TI F i s ∧ s = (N.take i).foldl (tstep F) ([], [])) ⟨([], []), rfl, ⟨rfl, (fun a h => by cases h), (fun a h => by cases h), by simp⟩, rfl⟩ (fun i y q hy ⟨s, e, hs, hf⟩ => by
      subst e
      have hi := (List.getElem?_eq_some_iff.1 hy).1
      have hok := hT.n.ok i y hy
      have hal := hs.al; have hsl := hs.l
      refine ⟨((tstep F s y).2, (tstep F s y).1), ?_, tstep F s y, rfl, tstep_ok hT hs hy, by rw [List.take_add_one, hy]; simp [← hf]⟩
      unfold tstep
      simp only
      have ha : ∀ z, app s.2 [z] = some (s.2 ++ [z]) := fun z => app_ok (by simp; unfold lim; omega)
      have hb : ∀ z, app s.1 [z] = some (s.1 ++ [z]) := fun z => app_ok (by simp; unfold lim; omega)
      have hw : ∀ z, wr (len (s.1 ++ [z]) - 1) = len s.1 := fun z => by rw [len_eq, len_eq, List.length_append, List.length_singleton, wr_of _ (by omega) (by omega)]; omega
      cases hn : y.var == 0 with
      | true =>
        have hin : inn y = false := by unfold inn; rw [hn]; rfl
        obtain ⟨c1, c2⟩ := hok.leaf hin
        obtain ⟨k1, k2⟩ := kC_of c1 c2
        have hcl := (hT.f _ k2).len
        rw [hin]
        simp only [cond_true, Bool.not_false, bd_some, k1, hb]
        rw [slices_Clone_int_int_eq (by unfold lim; omega), bd_some, bdR_go]
        simp only [hw, ha, bd_some]
      | false =>
        have hin : inn y = true := by unfold inn; rw [hn]; rfl
        obtain ⟨v1, v2, g1, g2, g3, g4, g5⟩ := hok.inner hin
        obtain ⟨e1, b1, ⟨x1, p1, q1⟩, c1⟩ := hs.cl g1 g2
        obtain ⟨e2, b2, ⟨x2, p2, q2⟩, c2⟩ := hs.cl g3 g4
        rw [hin]
        unfold impl_weaver_resolvent
        simp only [cond_false, Bool.not_true, e1, e2, p1, p2, bd_some, slices_Contains_int_int_eq, q1, q2]
        cases (cA s.1 (aI s.2 y.low)).contains y.var with
        | false => simp only [Bool.not_false, cond_true, bd_some, bdR_go, ha]
        | true =>
          simp only [cond_false, Bool.not_true]
          cases (cA s.1 (aI s.2 y.high)).contains (wr (-y.var)) with
          | false => simp only [Bool.not_false, cond_true, bd_some, bdR_go, ha]
          | true =>
            simp only [cond_false, Bool.not_true]
            rw [impl_resolve_eq c1 c2, bd_some]
            simp only [hb, bd_some, hw, bdR_go, ha])
  erw [h1]
  rw [bdR_go]
  obtain ⟨h4, h5⟩ := h3
  rw [List.take_length] at h5
  unfold stepsT; rw [← h5]
def treeO (F : Cnf) (N : List TreeNode) : List (List Int) := (stepsT F N).2.map (cA (stepsT F N).1)
def treeV (F : Cnf) (N : List TreeNode) : List (List Int) × Bool := bif !searchP F N then ([], false) else (treeO F N, true)
theorem search_ok {F : Cnf} {N : List TreeNode} (h : searchP F N = true) : TOk F N := by
  unfold searchP at h
  cases hP : treeP F N with
  | none => rw [hP] at h; cases h
  | some P => exact (treeP_ok hP).1
theorem spec_TreeClauses_eq {F : Cnf} {N : List TreeNode} (hF : okCnf F) (hl : okL okTreeNode N) : spec_TreeClauses F N = some (treeV F N) := by
  unfold spec_TreeClauses treeV
  obtain ⟨P, hP⟩ := spec_l9Search_eq hF hl
  rw [hP, bd_some]
  cases hs : searchP F N with
  | false => rfl
  | true =>
    have hT := search_ok hs
    have hle := hT.le
    have hI := stepsT_ok hT
    simp only [Bool.not_true, cond_false]
    rw [spec_l9Steps_eq hT, bd_some]
    have hal := hI.al
    obtain ⟨s, h1, h2⟩ := forL_inv (X := Empty) (l := N) (s := []) (body := (fun i64 y63 s64 => bd (ix (stepsT F N).2 ((i64 : Nat) : Int)) (fun x157 => bd (ix (stepsT F N).1 x157) (fun x165 => bd (app [] x165.clause) (fun xs169 => bd (app s64 [xs169]) (fun xs190 => some (Lp.nx xs190)))))))
      (fun i s => s = ((stepsT F N).2.take i).map (cA (stepsT F N).1)) rfl (fun i y s hy hs => by
        subst hs
        have hi := (List.getElem?_eq_some_iff.1 hy).1
        obtain ⟨a, ha⟩ : ∃ a, (stepsT F N).2[i]? = some a := ⟨_, List.getElem?_eq_getElem (by omega)⟩
        have hb := hI.a a (List.mem_of_getElem? ha)
        obtain ⟨x, x1, x2, x3⟩ := cA_of hb.1 hb.2
        have hcl := (hI.w x x3).len
        have e1 : app ([] : List Int) x.clause = some x.clause := by rw [app_ok (by simp; unfold lim; omega)]; rfl
        refine ⟨_, ?_, rfl⟩
        rw [ix_get, ha, bd_some, x1, bd_some, e1, bd_some, app_ok (by simp; unfold lim; omega), bd_some, List.take_add_one, ha, x2]
        simp)
    rw [h1, bdR_go, h2, show N.length = (stepsT F N).2.length by omega, List.take_length]; rfl
theorem impl_TreeClauses_eq {F : Cnf} {N : List TreeNode} (hF : okCnf F) (hl : okL okTreeNode N) : impl_TreeClauses F N = some (treeV F N) := by
  unfold impl_TreeClauses treeV
  rw [impl_searchTree_eq hF hl, bd_some]
  cases hs : searchP F N with
  | false => rfl
  | true =>
    have hT := search_ok hs
    have hle := hT.le
    have hI := stepsT_ok hT
    have hal := hI.al
    simp only [Bool.not_true, cond_false]
    rw [impl_treeSteps_eq hT, bd_some, bd_some]
    obtain ⟨s, h1, h2⟩ := forL_inv (X := Empty) (l := (stepsT F N).2) (s := []) (body := (fun i56 y55 s56 => bd (ix (stepsT F N).1 y55) (fun x143 => bd (PF.slices_Clone_int_int x143.clause) (fun r147 => bd (app s56 [r147]) (fun xs168 => some (Lp.nx xs168))))))
      (fun i s => s = ((stepsT F N).2.take i).map (cA (stepsT F N).1)) rfl (fun i a s ha hs => by
        subst hs
        have hi := (List.getElem?_eq_some_iff.1 ha).1
        have hb := hI.a a (List.mem_of_getElem? ha)
        obtain ⟨x, x1, x2, x3⟩ := cA_of hb.1 hb.2
        have hcl := (hI.w x x3).len
        refine ⟨_, ?_, rfl⟩
        rw [x1, bd_some, slices_Clone_int_int_eq (by unfold lim; omega), bd_some, app_ok (by simp; unfold lim; omega), bd_some, List.take_add_one, ha, x2]
        simp)
    simp only
    rw [h1, bdR_go, h2, List.take_length]; rfl
theorem treeV_small {F : Cnf} {N : List TreeNode} : tot wIntS (treeV F N).1 ≤ 10000 := by
  unfold treeV
  cases hs : searchP F N with
  | false => simp [tot]
  | true =>
    have hT := search_ok hs
    have hle := hT.le
    have hI := stepsT_ok hT
    simp only [Bool.not_true, cond_false]
    have key : ∀ {l : List (List Int)}, (∀ x ∈ l, x.length ≤ 12) → tot wIntS l ≤ 12 * l.length := by
      intro l
      induction l with
      | nil => intro _; simp [tot]
      | cons x l ih =>
        intro h
        have h1 := h x (by simp); have h2 := ih fun y hy => h y (by simp [hy])
        simp only [tot, List.length_cons, Nat.mul_add, Nat.mul_one]; unfold wIntS at h2 ⊢; omega
    have h1 := key (l := treeO F N) fun c hc => by
      unfold treeO at hc
      obtain ⟨a, ha, rfl⟩ := List.mem_map.1 hc
      have hb := hI.a a ha
      obtain ⟨x, x1, x2, x3⟩ := cA_of hb.1 hb.2
      rw [← x2]; exact (hI.w x x3).len
    have h2 : (treeO F N).length = N.length := by unfold treeO; rw [List.length_map]; exact hI.al
    omega
theorem plain_TreeClauses (a0 : Cnf) (a1 : List TreeNode) (o0 : okCnf a0) (o1 : okL okTreeNode a1) : laws_FnExactTreeClauses a0 a1 = some true := by
  unfold laws_FnExactTreeClauses
  obtain ⟨r0, q0, z0⟩ := sz_Cnf o0 (s := 1048576) (by omega) (by omega)
  rw [q0, bd_some]
  by_cases n0 : r0 < 0
  · simp [n0]
  have z1 := sz_TreeNodeS o1 (s := r0) (by omega) (by omega)
  simp only [n0, decide_false, cond_false]
  by_cases n1 : laws_szTreeNodeS a1 r0 < 0
  · simp [n1]
  simp only [n1, decide_false, cond_false]
  have t0 := to_Cnf (a := a0) (by unfold lim; omega)
  have t1 := to_TreeNodeS (a := a1) (by unfold lim; omega)
  have hs := spec_TreeClauses_eq o0 o1
  have hi := impl_TreeClauses_eq o0 o1
  have hm := treeV_small (F := a0) (N := a1)
  generalize treeV a0 a1 = g at hs hi hm
  have w0 : tot wIntS a0.clauses ≤ 1048576 := by unfold wCnf wIntSS at z0; omega
  have w1 : tot mTreeNode a1 ≤ 4194304 := by rw [tot_four]; omega
  have m0 := mark_Cnf (a := a0) (k := 1) (by omega) (by unfold big; omega)
  have m1 := mark_TreeNodeS (a := a1) (k := (laws_markCnf a0 1).2) (by omega) (by unfold big; omega)
  have mg := mark_IntSS (a := g.1) (k := 1) (by omega) (by unfold big; omega)
  have hg := held_IntSS (a := g.1) (k := 1) (by omega) (by unfold big; omega)
  have d1 : decide ((laws_markTreeNodeS a1 (laws_markCnf a0 1).2).2 < 0) = false := by rw [decide_eq_false_iff_not]; omega
  have d2 : decide ((laws_markIntSS g.1 1).2 < 0) = false := by rw [decide_eq_false_iff_not]; omega
  simp only [t0, t1, hs, hi, hg, d1, d2, bd_some, eq_IntSS, eq_TreeNodeS, eq_Cnf, BEq.rfl, Bool.not_true, cond_false, bif_tt, Bool.or_false]
end Go.PF
