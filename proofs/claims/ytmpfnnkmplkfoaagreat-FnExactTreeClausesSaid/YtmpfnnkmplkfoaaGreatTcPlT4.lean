/- Search trees: both sides find the same paths. -/
import Derived.Test.YtmpfnnkmplkfoaaGreatTcPlT3
set_option linter.unusedVariables false
namespace Go.PF
open Go.Pu
theorem range_get {n i x : Nat} (h : (List.range n)[i]? = some x) : x = i ∧ i < n := by
  obtain ⟨h1, h2⟩ := List.getElem?_eq_some_iff.1 h
  simp at h1 h2
  exact ⟨h2.symm, h1⟩
theorem uses_all {N : List TreeNode} : ((List.range (N.length - 1)).any fun x => !(N.countP (chB x) == 1)) = !usesOk N := by
  unfold usesOk
  rw [List.all_eq_not_any_not, Bool.not_not]
theorem spec_l9Paths_eq {F : Cnf} {N : List TreeNode} (hF : okCnf F) (hl : okL okTreeNode N) : spec_l9Paths F N = some (pathsV F N) := by
  unfold spec_l9Paths pathsV treeP treeB
  rw [spec_l2Good_eq hF, bd_some, spec_l1In_eq]
  cases hc : cnfB F with
  | false => rfl
  | true =>
    cases hz : sizeB N with
    | false =>
      have : inB (len N) 1 199 = false := hz
      rw [this]; rfl
    | true =>
      have hz1 : inB (len N) 1 199 = true := hz
      have hz2 := inB_iff.1 hz1
      rw [len_eq] at hz2
      rw [hz1]
      simp only [Bool.not_true, cond_false, Bool.true_and, Bool.and_true]
      rw [show len N = ((N.length : Nat) : Int) from rfl, mk2_ok (by unfold lim; omega), bd_some]
      have hcb := hc
      unfold cnfB at hcb
      simp only [Bool.and_eq_true, decide_eq_true_eq] at hcb
      have hfl : F.clauses.length ≤ 60 := by have := hcb.1.2; rw [len_eq] at this; omega
      have hloop := forL_chk (X := List (List Int) × Bool) (xs := N) (p := fun i y => !nodeB F i y) (v := ([], false)) (F := useU) (s := List.replicate N.length 0)
        (body := (fun i67 y66 s67 => (bif (!(PF.spec_l9Node F y66 ((i67 : Nat) : Int))) then some (Lp.rt ([], false)) else (bif (!(PF.spec_l9Leaf y66)) then bd (ix s67 y66.low) (fun x267235 => bd (ix s67 y66.low) (fun x276235 => bd (put s67 y66.low (wr (x267235 + 1))) (fun xs279232 => bd (ix xs279232 y66.high) (fun x324249 => bd (ix xs279232 y66.high) (fun x333249 => bd (put xs279232 y66.high (wr (x324249 + 1))) (fun xs336246 => some (Lp.nx xs336246))))))) else some (Lp.nx s67)))))
        (fun i U => UI N i U) ⟨by simp, fun x hx => by rw [List.getElem?_replicate, if_pos hx]; rfl⟩ (fun i y U hy hU => by
          have hi := (List.getElem?_eq_some_iff.1 hy).1
          refine ⟨fun hp => by show (bif !nodeB F i y then _ else _) = _; rw [hp]; rfl, fun hp => ?_⟩
          have hb : nodeB F i y = true := by simpa using hp
          have hok := nodeB_ok (F := F) hfl (by omega) hb
          have hnx := hU.step (by omega) hy hok
          refine ⟨?_, hnx⟩
          show (bif !nodeB F i y then _ else (bif inn y then _ else _)) = _
          rw [hb]
          unfold useU
          have hlen := hU.len
          cases hn : inn y with
          | false => rfl
          | true =>
            obtain ⟨_, _, g1, g2, g3, g4, g5⟩ := hok.inner hn
            have e1 := ix_getD (xs := U) g1 (by omega)
            have e2 := ix_getD (xs := U.set y.low.toNat (wr ((U[y.low.toNat]?).getD 0 + 1))) g3 (by simp; omega)
            simp only [Bool.not_true, cond_false, cond_true, e1, bd_some]
            rw [put_nat g1 (by omega), bd_some]
            simp only [e2, bd_some]
            rw [put_nat g3 (by simp; omega), bd_some])
      cases hn : nodesB F N with
      | false =>
        have ha : anyI (fun i y => !nodeB F i y) N 0 = true := by unfold nodesB at hn; simpa using hn
        rw [hloop.1 ha, bdR_rt]; rfl
      | true =>
        have ha : anyI (fun i y => !nodeB F i y) N 0 = false := by unfold nodesB at hn; simpa using hn
        obtain ⟨h1, h2⟩ := hloop.2 ha
        have hT : TOk F N := treeB_ok (by unfold treeB; rw [hc, hz, hn]; rfl)
        rw [h1, bdR_go]
        simp only [cond_true]
        have hpos := hT.pos
        have hw : wr (((N.length : Nat) : Int) - 1) = ((N.length - 1 : Nat) : Int) := by rw [wr_of _ (by omega) (by omega)]; omega
        rw [hw]
        have hU := h2.at_
        rw [iter_any (xs := List.range (N.length - 1)) (p := fun _ x => !(N.countP (chB x) == 1)) (v := (([], false) : List (List Int) × Bool)) (fun i x hx => by
          obtain ⟨rfl, hi⟩ := range_get hx
          have h3 := hU x (by omega)
          rw [List.take_length] at h3
          have hwn : wr ((x : Int) + 1) = (x : Int) + 1 := wr_succ (n := N.length) (by omega) (by omega)
          rw [decide_eq_true (by omega), cond_true, ix_get, h3, bd_some, hwn]
          rw [show ((((N.countP (chB x) : Nat) : Int)) == 1) = (N.countP (chB x) == 1) by rw [Bool.eq_iff_iff, beq_iff_eq, beq_iff_eq]; omega]) (by
          rw [List.length_range, decide_eq_false (by omega)]; rfl), anyI_any, uses_all]
        cases hu : usesOk N with
        | false => rfl
        | true =>
          simp only [Bool.not_true, cond_false, bdR_go, cond_true]
          rw [mk2_ok (by unfold lim; omega), bd_some, ix_get, List.getElem?_replicate, if_pos (by omega), bd_some, put_ok (by simp; omega), bd_some]
          have e0 : (List.replicate N.length ([] : List Int)).set (N.length - 1) [] = P0 N := p0_set N
          rw [e0, show ((N.length - 1 : Nat) : Int) = len N - 1 by rw [len_eq]; omega]
          have hpl := fun f hf => spec_path_step (f := f) hT hf
          rw [pathR_run]
          cases hr : runD pstep N N.length (P0 N) with
          | none => rw [(hpl _ (fun _ _ => by rfl)).1 hr]; rfl
          | some P => rw [((hpl _ (fun _ _ => by rfl)).2 P hr).1]; rfl
/-! the program -/
theorem impl_varsOf_lits {V : Int} {p : List Int} (h : IsC V p) : impl_varsOf [p] = some (setI (p.map vr)) := by
  have hpl := h.len
  unfold impl_varsOf forL
  have hp : forLFrom (X := Empty) (fun i164 y163 s164 => bd (app s164 [(PF.impl_abs y163)]) (fun xs232 => some (Lp.nx xs232))) p 0 [] = some (.go (p.map vr)) := by
    have := forL_push (X := Empty) (f := fun _ y => some (impl_abs y)) (g := vr) (l := p) (s := []) (fun i y hy => by
      have := h.ok.2 y (List.mem_of_getElem? hy)
      rw [impl_abs_eq this]) (by simp; unfold lim; omega)
    simp only [bd_some, List.nil_append, forL] at this
    exact this
  rw [forLFrom_nx (s' := p.map vr) (by rw [hp, bdR_go]), forLFrom_nil, bdR_go, sort_compact (by simp; unfold lim; omega)]
theorem varsOf_has {V : Int} {p : List Int} (h : IsC V p) {v : Int} (hv : 1 ≤ v ∧ v ≤ 12) : (setI (p.map vr)).contains v = hasV p v := by
  unfold hasV
  have hw : wr (-v) = -v := wr_of _ (by omega) (by omega)
  rw [hw, Bool.eq_iff_iff, Bool.or_eq_true, List.contains_iff_mem, List.contains_iff_mem, List.contains_iff_mem, setI_mem, List.mem_map]
  constructor
  · rintro ⟨x, hx, rfl⟩
    have h1 := h.sm x hx
    rw [vr_abs h1.1 h1.2.1]
    rcases Int.lt_or_le x 0 with h2 | h2
    · right; rw [show -((x.natAbs : Nat) : Int) = x by omega]; exact hx
    · left; rw [show ((x.natAbs : Nat) : Int) = x by omega]; exact hx
  · rintro (hx | hx)
    · exact ⟨v, hx, by rw [vr_abs (by omega) (by omega)]; omega⟩
    · exact ⟨-v, hx, by rw [vr_abs (by omega) (by omega)]; omega⟩
structure SP2 (F : Cnf) (N : List TreeNode) (s : List Bool × List (List Int)) : Prop where
  m : s.1.length = N.length
  p : POk F.vars N.length s.2
theorem impl_path_loop {F : Cnf} {N : List TreeNode} (hT : TOk F N) {f : TreeNode → Nat → List Bool × List (List Int) → Option (Lp (List Bool × List (List Int)) Bool)}
    (hf : ∀ y j M P, f y j (M, P) = bd (ix M ((j : Nat) : Int)) (fun x324362 => (bif (!x324362) then some (Lp.rt false) else (bif (y.var == 0) then some (Lp.nx (M, P)) else bd (ix M y.low) (fun x336378 => bd (bif x336378 then some true else bd (ix M y.high) (fun x354378 => some x354378)) (fun t324371_11 => bd (bif t324371_11 then some true else bd (ix P ((j : Nat) : Int)) (fun x372378 => bd (PF.impl_varsOf [x372378]) (fun r381377 => bd (PF.slices_Contains_int_int r381377 y.var) (fun r390377 => some r390377)))) (fun t324371_22 => (bif t324371_22 then some (Lp.rt false) else bd (ix M y.low) (fun x399398 => bd (put M y.low true) (fun xs399403 => bd (ix xs399403 y.high) (fun x399414 => bd (put xs399403 y.high true) (fun xs399419 => bd (ix P ((j : Nat) : Int)) (fun x417430 => bd (PF.impl_set x417430 (wr (-y.var))) (fun r432424 => bd (ix P y.low) (fun x435430 => bd (put P y.low r432424) (fun xs438432 => bd (ix xs438432 ((j : Nat) : Int)) (fun x462447 => bd (PF.impl_set x462447 y.var) (fun r474441 => bd (ix xs438432 y.high) (fun x477447 => bd (put xs438432 y.high r474441) (fun xs480449 => some (Lp.nx (xs399419, xs480449)))))))))))))))))))))) :
    (runD istep N N.length (M0 N, P0 N) = none → forB N f (M0 N, P0 N) = some (.rt false)) ∧ ∀ s, runD istep N N.length (M0 N, P0 N) = some s → forB N f (M0 N, P0 N) = some (.go s) ∧ SP2 F N s := by
  have hle := hT.le
  refine forB_opt (fun _ s => SP2 F N s) ⟨by simp [M0], p0_ok hT⟩ (fun i y s hy hs => ?_)
  obtain ⟨M, P⟩ := s
  have hi := (List.getElem?_eq_some_iff.1 hy).1
  have hok := hT.n.ok i y hy
  have hP := hs.p; have hM : M.length = N.length := hs.m
  obtain ⟨e1, hc⟩ := hP.at hi
  have hpl := hc.len
  have hl : P.length = N.length := hP.len
  have hix : ix P (i : Int) = some (pAt P i) := by rw [ix_get]; exact e1
  have hb : ∀ (k : Nat), k < N.length → ix M (k : Int) = some (bAt M k) := fun k hk => by rw [ix_get]; unfold bAt; rw [List.getElem?_eq_getElem (by omega)]; rfl
  have hst := fun P' => pstep_ok (P' := P') hP rfl hi hok
  rw [hf, hb i hi, bd_some]
  unfold istep
  cases hsn : bAt M i with
  | false => exact ⟨fun _ => rfl, fun s' h => by cases h⟩
  | true =>
    simp only [Bool.not_true, cond_false]
    cases hn : y.var == 0 with
    | true =>
      have hin : inn y = false := by unfold inn; rw [hn]; rfl
      simp only [hin, Bool.not_false, cond_true]
      exact ⟨(fun h => nomatch h), fun s' h => by cases h; exact ⟨rfl, hs⟩⟩
    | false =>
      have hin : inn y = true := by unfold inn; rw [hn]; rfl
      obtain ⟨v1, v2, g1, g2, g3, g4, g5⟩ := hok.inner hin
      have hv12 := hc.hi
      have hlo : ix M y.low = some (bAt M y.low.toNat) := by have := hb y.low.toNat (by omega); rwa [show ((y.low.toNat : Nat) : Int) = y.low by omega] at this
      have hhi : ix M y.high = some (bAt M y.high.toNat) := by have := hb y.high.toNat (by omega); rwa [show ((y.high.toNat : Nat) : Int) = y.high by omega] at this
      simp only [hin, Bool.not_true, cond_false]
      rw [hlo, bd_some]
      have hc1 : (bif bAt M y.low.toNat then some true else bd (ix M y.high) (fun x354378 => some x354378)) = some (bAt M y.low.toNat || bAt M y.high.toNat) := by
        cases bAt M y.low.toNat with
        | true => rfl
        | false => rw [cond_false, hhi, bd_some, Bool.false_or]
      rw [hc1, bd_some]
      cases hbb : bAt M y.low.toNat || bAt M y.high.toNat with
      | true => exact ⟨fun _ => rfl, fun s' h => by cases h⟩
      | false =>
        simp only [cond_false]
        rw [hix, bd_some, impl_varsOf_lits hc, bd_some, slices_Contains_int_int_eq, bd_some, bd_some, varsOf_has hc ⟨v1, by omega⟩]
        unfold pstep at hst ⊢
        simp only [hin, Bool.not_true, cond_false] at hst ⊢
        cases hh : hasV (pAt P i) y.var with
        | true => exact ⟨fun _ => rfl, fun s' h => by cases h⟩
        | false =>
          rw [hh] at hst
          simp only [cond_false] at hst ⊢
          refine ⟨(fun h => nomatch h), fun s' h => ?_⟩
          cases h
          have hm := hasV_mem hc (v := y.var) ⟨v1, by omega⟩ hh
          have hw : wr (-y.var) = -y.var := wr_of _ (by omega) (by omega)
          have s1 : impl_set (pAt P i) (wr (-y.var)) = some (putL (pAt P i) (wr (-y.var))) := by
            rw [hw, impl_set_eq hc (by omega), setA_put hc (by omega) (fun x hx => by have := hm x hx; omega)]
          have s2 : impl_set (pAt P i) y.var = some (putL (pAt P i) y.var) := by
            rw [impl_set_eq hc (by omega), setA_put hc (by omega) hm]
          clear hw
          obtain ⟨x1, hx1⟩ := ix_ex (xs := P) g1 (by omega)
          have hi2 : ix (P.set y.low.toNat (putL (pAt P i) (wr (-y.var)))) (i : Int) = some (pAt P i) := by rw [ix_get, List.getElem?_set_ne (by omega)]; exact e1
          obtain ⟨x2, hx2⟩ := ix_ex (xs := P.set y.low.toNat (putL (pAt P i) (wr (-y.var)))) g3 (by simp; omega)
          obtain ⟨x3, hx3⟩ := ix_ex (xs := M.set y.low.toNat true) g3 (by simp; omega)
          refine ⟨?_, ⟨by simp [hM], hst _ rfl⟩⟩
          rw [bd_some, put_nat g1 (by omega), bd_some, hx3, bd_some, put_nat g3 (by simp; omega), bd_some, bd_some, s1, bd_some, hx1, bd_some, put_nat g1 (by omega), bd_some, hi2, bd_some, s2, bd_some, hx2, bd_some, put_nat g3 (by simp; omega), bd_some]
theorem impl_paths_eq {F : Cnf} {N : List TreeNode} (hB : treeB F N = true) : impl_paths N = some (pathsV F N) := by
  have hT := treeB_ok hB
  have hle := hT.le; have hpos := hT.pos
  have hpl := fun f hf => impl_path_loop (f := f) hT hf
  unfold impl_paths pathsV treeP
  rw [hB]
  rw [show len N = ((N.length : Nat) : Int) from rfl, mk2_ok (by unfold lim; omega), bd_some, mk2_ok (by unfold lim; omega), bd_some]
  have hw : wr (((N.length : Nat) : Int) - 1) = ((N.length - 1 : Nat) : Int) := by rw [wr_of _ (by omega) (by omega)]; omega
  rw [hw, ix_get, List.getElem?_replicate, if_pos (by omega), bd_some, put_ok (by simp; omega), bd_some]
  have e := imp_iff hT.n hpos (P0 N)
  rw [impR_run] at e
  simp only [cond_true]
  rw [← e]
  show bdR (forB N _ (M0 N, P0 N)) _ _ = _
  cases hr : runD istep N N.length (M0 N, P0 N) with
  | none => rw [(hpl _ (fun _ _ _ _ => by rfl)).1 hr]; rfl
  | some s => rw [((hpl _ (fun _ _ _ _ => by rfl)).2 s hr).1]; rfl
theorem treeP_ok {F : Cnf} {N : List TreeNode} {P : List (List Int)} (h : treeP F N = some P) : TOk F N ∧ POk F.vars N.length P := by
  unfold treeP at h
  cases hB : treeB F N with
  | false => rw [hB] at h; cases h
  | true =>
    rw [hB] at h
    have hT := treeB_ok hB
    simp only [cond_true] at h
    cases hu : usesOk N with
    | false => rw [hu] at h; cases h
    | true =>
      rw [hu] at h
      simp only [cond_true] at h
      rw [pathR_run] at h
      refine ⟨hT, ?_⟩
      have key : ∀ {k : Nat} {Q R : List (List Int)}, k ≤ N.length → POk F.vars N.length Q → runD pstep N k Q = some R → POk F.vars N.length R := by
        intro k
        induction k with
        | zero => intro Q R _ hQ h; cases h; exact hQ
        | succ k ih =>
          intro Q R hk hQ h
          obtain ⟨y, hy⟩ : ∃ y, N[k]? = some y := ⟨_, List.getElem?_eq_getElem (by omega)⟩
          unfold runD at h
          rw [hy] at h
          simp only at h
          cases hs : pstep Q y k with
          | none => rw [hs] at h; cases h
          | some Q' =>
            rw [hs] at h
            exact ih (by omega) (pstep_ok hQ rfl (by omega) (hT.n.ok k y hy) hs) h
      exact key (Nat.le_refl _) (p0_ok hT) h
theorem impl_IsTree_eq {F : Cnf} {N : List TreeNode} (hF : okCnf F) (hl : okL okTreeNode N) : impl_IsTree F N = some (treeP F N).isSome := by
  unfold impl_IsTree
  rw [impl_IsCnf_eq hF, bd_some, impl_within_eq]
  cases hB : treeB F N with
  | true =>
    have hB2 := hB
    unfold treeB at hB2
    rw [Bool.and_eq_true, Bool.and_eq_true] at hB2
    obtain ⟨⟨h1, h2⟩, h3⟩ := hB2
    have h2' : inB (len N) 1 199 = true := h2
    rw [h1, h2']
    simp only [Bool.not_true, cond_false]
    rw [forL_any (p := fun i y => !nodeB F i y) (v := false) (fun i y _ => by rw [impl_nodeOk_eq])]
    have ha : anyI (fun i y => !nodeB F i y) N 0 = false := by unfold nodesB at h3; simpa using h3
    rw [ha, cond_false, bdR_go, impl_paths_eq hB, bd_some]
    unfold pathsV
    cases treeP F N <;> rfl
  | false =>
    have hP : treeP F N = none := by unfold treeP; rw [hB]; rfl
    rw [hP]
    unfold treeB at hB
    cases h1 : cnfB F with
    | false => rfl
    | true =>
      cases h2 : sizeB N with
      | false => have h2' : inB (len N) 1 199 = false := h2; rw [h2']; rfl
      | true =>
        have h2' : inB (len N) 1 199 = true := h2
        rw [h1, h2] at hB
        rw [h2']
        simp only [Bool.not_true, cond_false]
        rw [forL_any (p := fun i y => !nodeB F i y) (v := false) (fun i y _ => by rw [impl_nodeOk_eq])]
        have ha : anyI (fun i y => !nodeB F i y) N 0 = true := by unfold nodesB at hB; simpa using hB
        rw [ha]; rfl
end Go.PF
