/- TrimLearned: the law. -/
import Derived.Test.YtjkdeonnohadeaaGreatTlPlAo
import Derived.Test.YtjkdeonnohadeaaGreatTlPl11
set_option linter.unusedVariables false
namespace Go.PF
open Go.Pu
theorem an_reason {V : Int} {K : List (List Int)} {t : List (Int × Int)} (h : TrOk V K t) : ∀ {l : List ((Int × Int) × Nat)} {s : List l11Use × List Int}, (∀ p ∈ l, p.1 ∈ t) → (∀ u ∈ s.1, 0 ≤ u.reason ∧ u.reason < K.length) →
    ∀ u ∈ (l.foldl (anS K) s).1, 0 ≤ u.reason ∧ u.reason < K.length := by
  intro l
  induction l with
  | nil => intro s _ h; exact h
  | cons p l ih =>
    intro s hl hs
    rw [List.foldl_cons]
    refine ih (fun q hq => hl q (by simp [hq])) ?_
    unfold anS
    cases s.2.contains (wr (-p.1.1)) with
    | false => exact hs
    | true =>
      simp only [Bool.not_true, cond_false]
      intro u hu
      rcases List.mem_append.1 hu with hu | hu
      · exact hs u hu
      · rw [List.mem_singleton.1 hu]
        obtain ⟨_, c, h1, h2, _⟩ := h.q p.1 (hl p (by simp))
        exact ⟨h1, h2⟩
theorem zip_fst_mem {α : Type} {xs : List α} {p : α × Nat} (h : p ∈ xs.zipIdx.reverse) : p.1 ∈ xs := by
  rw [List.mem_reverse] at h
  have h2 := List.mem_zipIdx h
  rw [h2.2.2]; exact List.getElem_mem _
theorem lk_len {F : Cnf} {ls : List (List Int)} {i : Nat} (hi : i ≤ ls.length) : (lk F ls i).length = F.clauses.length + i := by
  unfold lk; rw [List.length_append, List.length_take]; omega
theorem usedL_b {F : Cnf} {ls : List (List Int)} (h : LOk F ls) (hg : learnB F ls = true) {i : Nat} (hi : i < ls.length) : ∀ u ∈ usedL F ls i, 0 ≤ u ∧ u < F.clauses.length + i := by
  intro u hu
  have hA := an_ok h hg hi
  have hl := lk_len (F := F) (ls := ls) (i := i) (by omega)
  unfold usedL at hu
  rw [setI_mem] at hu
  rcases List.mem_append.1 hu with hu | hu
  · obtain ⟨x, hx, rfl⟩ := List.mem_map.1 hu
    have := an_reason hA.t (s := ([], kAt (lk F ls i) (cfl F ls i))) (fun p hp => zip_fst_mem hp) (fun u hu => by cases hu) x hx
    omega
  · rw [List.mem_singleton.1 hu]
    obtain ⟨n, z1, z2, _⟩ := hA.z
    omega
theorem usedL_len {F : Cnf} {ls : List (List Int)} (h : LOk F ls) (hg : learnB F ls = true) {i : Nat} (hi : i < ls.length) : (usedL F ls i).length ≤ 100 := by
  obtain ⟨s1, s2⟩ := spec_l11Analyse_eq h hg hi
  have ht := (an_ok h hg hi).t.len
  have hul := s2.l
  have := setI_length ((anF F ls i).1.map (·.reason) ++ [cfl F ls i])
  unfold usedL
  simp only [List.length_append, List.length_map, List.length_singleton] at this
  omega
theorem impl_analysis_eq {F : Cnf} {ls : List (List Int)} (h : LOk F ls) (hg : learnB F ls = true) {i : Nat} (hi : i < ls.length) : impl_analysis F ls (i : Int) = some ((anF F ls i).2, usedL F ls i) := by
  obtain ⟨s1, s2⟩ := spec_l11Analyse_eq h hg hi
  have ht := (an_ok h hg hi).t.len
  obtain ⟨n, z1, z2, z3, z4⟩ := (an_ok h hg hi).z
  have hul := s2.l; have hcl := s2.c.len
  unfold impl_analysis
  rw [impl_before_eq h (by omega), bd_some, impl_trail_eq h hg hi, bd_some]
  simp only
  rw [z3, bd_some, forB_an (h.k i) (an_ok h hg hi).t z4, bdR_go, bd_some, anI_fold]
  simp only
  rw [app_ok (by simp; unfold lim; omega), bd_some, slices_Sort_eq (by simp; unfold lim; omega), bd_some, slices_Clone_int_int_eq (by unfold lim; omega), bd_some]
  unfold slices_Compact_int_int
  rw [bd_some]; rfl
/-! the mask -/
def usP (F : Cnf) (ls : List (List Int)) (i : Nat) : List Int := ((usedL F ls i).filter fun u => decide (len F.clauses ≤ u)).map fun u => wr (u - len F.clauses)
theorem usP_b {F : Cnf} {ls : List (List Int)} (h : LOk F ls) (hg : learnB F ls = true) {i : Nat} (hi : i < ls.length) : ∀ k ∈ usP F ls i, 0 ≤ k ∧ k < i := by
  intro k hk
  obtain ⟨u, hu, rfl⟩ := List.mem_map.1 hk
  obtain ⟨h1, h2⟩ := List.mem_filter.1 hu
  have hb := usedL_b h hg hi u h1
  have hfl := h.fl; have hll := h.ll
  simp only [decide_eq_true_eq] at h2
  rw [len_eq] at h2 ⊢
  rw [wr_of _ (by omega) (by omega)]
  omega
def tst (F : Cnf) (ls : List (List Int)) (M : List Bool) (i : Nat) : List Bool := bif bAt M i then setT M (usP F ls i) else M
def trem (F : Cnf) (ls : List (List Int)) (k : Nat) (M : List Bool) : List Bool := (ls.take k).zipIdx.reverse.foldl (fun M p => tst F ls M p.2) M
def tmask (F : Cnf) (ls : List (List Int)) : List Bool := trem F ls ls.length ((List.replicate ls.length false).set (ls.length - 1) true)
theorem tst_len {F : Cnf} {ls : List (List Int)} {M : List Bool} {i : Nat} : (tst F ls M i).length = M.length := by unfold tst; cases bAt M i <;> simp [setT_len]
theorem trem_succ {F : Cnf} {ls : List (List Int)} {k : Nat} {x : List Int} (hx : ls[k]? = some x) (M : List Bool) : trem F ls (k + 1) M = trem F ls k (tst F ls M k) := by
  unfold trem; rw [take_rev hx, List.foldl_cons]
theorem trem_out {F : Cnf} {ls : List (List Int)} (h : LOk F ls) (hg : learnB F ls = true) : ∀ {k i : Nat} {M : List Bool}, k ≤ ls.length → k ≤ i + 1 → (trem F ls k M)[i]? = M[i]? := by
  intro k
  induction k with
  | zero => intro i M _ _; rfl
  | succ k ih =>
    intro i M hk hi
    obtain ⟨x, hx⟩ : ∃ x, ls[k]? = some x := ⟨_, List.getElem?_eq_getElem (by omega)⟩
    rw [trem_succ hx, ih (by omega) (by omega)]
    unfold tst
    cases bAt M k with
    | true => exact setT_out (usP_b h hg (by omega)) (by omega)
    | false => rfl
theorem used_fold {n : Int} : ∀ {us : List Int} {M : List Bool}, us.foldl (fun M u => bif decide (n ≤ u) then M.set (wr (u - n)).toNat true else M) M = setT M ((us.filter fun u => decide (n ≤ u)).map fun u => wr (u - n)) := by
  intro us
  induction us with
  | nil => intro M; rfl
  | cons u us ih =>
    intro M
    rw [List.foldl_cons, ih, List.filter_cons]
    cases decide (n ≤ u) <;> rfl
theorem put_wr {M : List Bool} {k : Int} (h0 : 0 ≤ k) (h1 : k < M.length) : ∃ b, ix M k = some b ∧ put M k true = some (M.set k.toNat true) := by
  obtain ⟨b, hb, _⟩ := ix_of (xs := M) h0 h1
  refine ⟨b, hb, ?_⟩
  have := put_ok (xs := M) (i := k.toNat) (x := true) (by omega)
  rwa [show ((k.toNat : Nat) : Int) = k by omega] at this
/-- what a needed clause rests on is marked -/
theorem used_step {F : Cnf} {ls : List (List Int)} (h : LOk F ls) (hg : learnB F ls = true) {i : Nat} (hi : i < ls.length) {u : Int} (hu : u ∈ usedL F ls i) {M : List Bool} (hM : M.length = ls.length) {X : Type} :
    (bif (decide ((len F.clauses) ≤ u)) then bd (ix M (wr (u - (len F.clauses)))) (fun x => bd (put M (wr (u - (len F.clauses))) true) (fun xs => some (Lp.nx xs))) else some (Lp.nx M)) = (some (.nx (bif decide (len F.clauses ≤ u) then M.set (wr (u - len F.clauses)).toNat true else M)) : Option (Lp (List Bool) X)) := by
  cases hd : decide (len F.clauses ≤ u) with
  | false => rfl
  | true =>
    have hk := usP_b h hg hi (wr (u - len F.clauses)) (List.mem_map.2 ⟨u, List.mem_filter.2 ⟨hu, hd⟩, rfl⟩)
    obtain ⟨b, h1, h2⟩ := put_wr (M := M) hk.1 (by omega)
    simp only [cond_true, h1, h2, bd_some]
theorem set_if_len {M : List Bool} {c : Bool} {k : Nat} {n : Nat} (h : M.length = n) : (bif c then M.set k true else M).length = n := by cases c <;> simp [h]
def selF {α : Type} (M : List Bool) : List α → Nat → List α
  | [], _ => []
  | x :: xs, k => bif bAt M k then x :: selF M xs (k + 1) else selF M xs (k + 1)
theorem selF_len {α : Type} {M : List Bool} : ∀ {xs : List α} {k : Nat}, (selF M xs k).length ≤ xs.length := by
  intro xs
  induction xs with
  | nil => intro k; simp [selF]
  | cons x xs ih =>
    intro k
    unfold selF
    have := ih (k := k + 1)
    cases bAt M k <;> simp <;> omega
theorem selF_mem {α : Type} {M : List Bool} : ∀ {xs : List α} {k : Nat} {x : α}, x ∈ selF M xs k → x ∈ xs := by
  intro xs
  induction xs with
  | nil => intro k x h; cases h
  | cons y xs ih =>
    intro k x h
    unfold selF at h
    cases hb : bAt M k with
    | false => rw [hb] at h; exact List.mem_cons_of_mem _ (ih h)
    | true =>
      rw [hb] at h
      rcases List.mem_cons.1 h with rfl | h
      · simp
      · exact List.mem_cons_of_mem _ (ih h)
theorem selF_drop {α : Type} {M : List Bool} {xs : List α} {k : Nat} {x : α} (hx : xs[k]? = some x) : selF M (xs.drop k) k = bif bAt M k then x :: selF M (xs.drop (k + 1)) (k + 1) else selF M (xs.drop (k + 1)) (k + 1) := by
  obtain ⟨hk, rfl⟩ := List.getElem?_eq_some_iff.1 hx
  rw [List.drop_eq_getElem_cons hk]; rfl
def trimO (F : Cnf) (ls : List (List Int)) : List (List Int) := selF (tmask F ls) ls 0
def trimR (F : Cnf) (ls : List (List Int)) : List (List Int) × Bool := bif !learnB F ls || (len ls == 0) then ([], false) else (trimO F ls, true)
theorem mask_bit {M : List Bool} {i : Nat} (hi : i < M.length) : ix M (i : Int) = some (bAt M i) := by rw [ix_get]; unfold bAt; rw [List.getElem?_eq_getElem hi]; rfl
theorem tmask_len {F : Cnf} {ls : List (List Int)} : (tmask F ls).length = ls.length := by
  unfold tmask
  have : ∀ {k : Nat} {M : List Bool}, k ≤ ls.length → (trem F ls k M).length = M.length := by
    intro k
    induction k with
    | zero => intro M _; rfl
    | succ k ih =>
      intro M hk
      obtain ⟨x, hx⟩ : ∃ x, ls[k]? = some x := ⟨_, List.getElem?_eq_getElem (by omega)⟩
      rw [trem_succ hx, ih (by omega), tst_len]
  rw [this (Nat.le_refl _)]; simp
theorem chk_le100 {A : Type} {xs : List A} (h : xs.length ≤ 100) : chk (len xs) = some xs.length := by
  unfold chk; rw [if_pos (by rw [len_eq]; omega), len_eq]; simp
theorem spec_TrimLearned_eq {F : Cnf} {ls : List (List Int)} (hF : okCnf F) (hl : okL (okL okI) ls) : spec_TrimLearned F ls = some (trimR F ls) := by
  unfold spec_TrimLearned trimR
  rw [spec_l11Good_eq hF hl, bd_some]
  cases hg : learnB F ls with
  | false => rfl
  | true =>
    cases h0 : (len ls == 0) with
    | true => rfl
    | false =>
      have h : LOk F ls := goodL_ok (by unfold learnB at hg; rw [Bool.and_eq_true] at hg; exact hg.1)
      have hfl := h.fl; have hll := h.ll
      have hpos : 0 < ls.length := by
        rcases Nat.eq_zero_or_pos ls.length with e | e
        · rw [len_eq, e] at h0; cases h0
        · exact e
      simp only [Bool.not_true, cond_false, Bool.or_false]
      rw [show len ls = ((ls.length : Nat) : Int) from rfl, mk2_ok (by unfold lim; omega), bd_some]
      rw [show wr (((ls.length : Nat) : Int) - 1) = len ls - 1 from wr_len (by omega)]
      have hle : len ls - 1 = ((ls.length - 1 : Nat) : Int) := by rw [len_eq]; omega
      rw [hle, mask_bit (by simp; omega), bd_some, put_ok (by simp; omega), bd_some, ← hle]
      refine bdR_down (X := Empty) (xs := ls) (fun M p => tst F ls M p.2) (fun k M => M.length = ls.length ∧ trem F ls k M = tmask F ls) ⟨by simp, rfl⟩ ?hh ?he ?hk
      case he => intro M; rfl
      case hk =>
        rintro M ⟨hM, hr⟩
        have hr2 : M = tmask F ls := hr
        subst hr2
        obtain ⟨s, h1, h2⟩ := forL_inv (X := Empty) (l := ls) (s := []) (body := fun i273589 y273588 s273589 => bd (ix (tmask F ls) ((i273589 : Nat) : Int)) (fun x273674 => (bif x273674 then bd (app [] y273588) (fun xs273690 => bd (app s273589 [xs273690]) (fun xs273711 => some (Lp.nx xs273711))) else some (Lp.nx s273589))))
          (fun i s => s ++ selF (tmask F ls) (ls.drop i) i = trimO F ls ∧ s.length ≤ i) ⟨by simp [trimO], by simp⟩ (fun i x s hx hs => by
            have hi := (List.getElem?_eq_some_iff.1 hx).1
            have hxl := (h.l _ (List.mem_of_getElem? hx)).len
            rw [mask_bit (by rw [tmask_len]; exact hi), bd_some]
            have hd := selF_drop (M := tmask F ls) hx
            rw [hd] at hs
            cases hb : bAt (tmask F ls) i with
            | false => rw [hb] at hs; exact ⟨_, rfl, hs.1, by omega⟩
            | true =>
              rw [hb] at hs
              refine ⟨s ++ [x], ?_, ?_, ?_⟩
              · simp only [cond_true]
                rw [app_ok (by simp; unfold lim; omega), bd_some, app_ok (by simp; unfold lim; omega), bd_some]; rfl
              · rw [← hs.1]; simp
              · simp; exact hs.2)
        have h3 := h2.1
        rw [List.drop_length] at h3
        have e : s = trimO F ls := by simpa [selF] using h3
        rw [h1, bdR_go, e]
      case hh =>
        intro i x M hx hMr
        obtain ⟨hM, hr⟩ := hMr
        have hi := (List.getElem?_eq_some_iff.1 hx).1
        have hd : decide ((0 : Int) ≤ (i : Int)) = true := by simp
        have hr2 := hr
        rw [trem_succ hx] at hr2
        refine ⟨?_, by rw [tst_len, hM], hr2⟩
        simp only [hd, cond_true]
        rw [mask_bit (by omega), bd_some]
        unfold tst
        cases hb : bAt M i with
        | false => simp only [Bool.not_false, cond_true, cond_false]; rw [wr_down hi (by omega)]
        | true =>
          obtain ⟨s1, s2⟩ := spec_l11Analyse_eq h hg hi
          have ht := (an_ok h hg hi).t.len
          have hul := s2.l
          simp only [Bool.not_true, cond_false, cond_true]
          rw [s1, bd_some]
          simp only
          rw [spec_l11Used_eq (show (anF F ls i).1.length ≤ 1000 by omega), bd_some, show setI ((anF F ls i).1.map (·.reason) ++ [cfl F ls i]) = usedL F ls i from rfl]
          rw [(forL_foldI (X := Empty) (fun M u => bif decide (len F.clauses ≤ u) then M.set (wr (u - len F.clauses)).toNat true else M) (fun _ N => N.length = ls.length) (l := usedL F ls i) (s := M) hM (fun j u N hu hN => ⟨used_step h hg hi (List.mem_of_getElem? hu) hN, set_if_len hN⟩)).1, bdR_go, used_fold, wr_down hi (by omega)]
          rfl
theorem impl_TrimLearned_eq {F : Cnf} {ls : List (List Int)} (hF : okCnf F) (hl : okL (okL okI) ls) : impl_TrimLearned F ls = some (trimR F ls) := by
  unfold impl_TrimLearned trimR
  rw [impl_learned_eq hF hl, bd_some]
  cases hg : learnB F ls with
  | false => rfl
  | true =>
    cases h0 : (len ls == 0) with
    | true => rfl
    | false =>
      have h : LOk F ls := goodL_ok (by unfold learnB at hg; rw [Bool.and_eq_true] at hg; exact hg.1)
      have hfl := h.fl; have hll := h.ll
      have hpos : 0 < ls.length := by
        rcases Nat.eq_zero_or_pos ls.length with e | e
        · rw [len_eq, e] at h0; cases h0
        · exact e
      simp only [Bool.not_true, cond_false, Bool.or_false]
      rw [show len ls = ((ls.length : Nat) : Int) from rfl, mk2_ok (by unfold lim; omega), bd_some]
      rw [show wr (((ls.length : Nat) : Int) - 1) = len ls - 1 from wr_len (by omega)]
      have hle : len ls - 1 = ((ls.length - 1 : Nat) : Int) := by rw [len_eq]; omega
      rw [hle, mask_bit (by simp; omega), bd_some, put_ok (by simp; omega), bd_some]
      refine bdR_forB (X := Empty) (xs := ls) (fun s p => bif bAt s.2 p.2 then (s.1 ++ [p.1], setT s.2 (usP F ls p.2)) else s) (s0 := ([], (List.replicate ls.length false).set (ls.length - 1) true))
        (fun k s => s.2.length = ls.length ∧ trem F ls k s.2 = tmask F ls ∧ s.1 = (selF (tmask F ls) (ls.drop k) k).reverse) ⟨by simp, rfl, by simp [selF]⟩ ?hh ?hk
      case hk =>
        rintro ⟨out, M⟩ ⟨_, _, rfl⟩
        show bd (slices_Reverse_LLint_Lint _) _ = _
        unfold slices_Reverse_LLint_Lint
        rw [bd_some, List.reverse_reverse]; rfl
      case hh =>
        rintro i x ⟨out, M⟩ hx ⟨hM, hr, rfl⟩
        have hi := (List.getElem?_eq_some_iff.1 hx).1
        have hxl := (h.l _ (List.mem_of_getElem? hx)).len
        dsimp only at hM hr ⊢
        have hn : bAt (tmask F ls) i = bAt M i := by rw [← hr]; unfold bAt; rw [trem_out h hg (by omega) (by omega)]
        have hd := selF_drop (M := tmask F ls) hx
        have hr2 := hr
        rw [trem_succ hx] at hr2
        unfold tst at hr2
        rw [mask_bit (by omega), bd_some]
        cases hb : bAt M i with
        | false =>
          rw [hn, hb] at hd
          rw [hb] at hr2
          simp only [Bool.not_false, cond_true, cond_false] at hd hr2 ⊢
          exact ⟨trivial, hM, hr2, by rw [hd]⟩
        | true =>
          rw [hn, hb] at hd
          rw [hb] at hr2
          simp only [Bool.not_true, cond_true, cond_false] at hd hr2 ⊢
          have hsl := selF_len (M := tmask F ls) (xs := ls.drop (i + 1)) (k := i + 1)
          rw [List.length_drop] at hsl
          have hul := usedL_len h hg hi
          rw [slices_Clone_int_int_eq (by unfold lim; omega), bd_some, app_ok (by simp; unfold lim; omega), bd_some, impl_analysis_eq h hg hi, bd_some]
          simp only
          rw [chk_le100 hul, bd_some]
          rw [forR_fold (X := Empty) (xs := usedL F ls i) (F := fun M u => bif decide (len F.clauses ≤ u) then M.set (wr (u - len F.clauses)).toNat true else M) (fun _ N => N.length = ls.length) hM (fun j u N hu hN => by
            refine ⟨?_, set_if_len hN⟩
            rw [ix_get, hu, bd_some]
            exact used_step h hg hi (List.mem_of_getElem? hu) hN), bdR_go, used_fold]
          refine ⟨rfl, setT_len.trans hM, hr2, ?_⟩
          rw [hd, List.reverse_cons]
theorem trimR_small {F : Cnf} {ls : List (List Int)} : tot wIntS (trimR F ls).1 ≤ 720 := by
  unfold trimR
  cases hg : learnB F ls with
  | false => simp [tot]
  | true =>
    cases h0 : (len ls == 0) with
    | true => simp [tot]
    | false =>
      have h : LOk F ls := goodL_ok (by unfold learnB at hg; rw [Bool.and_eq_true] at hg; exact hg.1)
      have hll := h.ll
      simp only [Bool.not_true, Bool.or_false, cond_false]
      have key : ∀ {l : List (List Int)}, (∀ x ∈ l, x.length ≤ 12) → tot wIntS l ≤ 12 * l.length := by
        intro l
        induction l with
        | nil => intro _; simp [tot]
        | cons x l ih =>
          intro h
          have h1 := h x (by simp); have h2 := ih fun y hy => h y (by simp [hy])
          simp only [tot, List.length_cons, Nat.mul_add, Nat.mul_one]; unfold wIntS at h2 ⊢; omega
      have h1 := key (l := trimO F ls) fun x hx => (h.l x (selF_mem hx)).len
      have h2 := selF_len (M := tmask F ls) (xs := ls) (k := 0)
      unfold trimO at h1 ⊢
      omega
theorem plain_TrimLearned (a0 : Cnf) (a1 : List (List Int)) (o0 : okCnf a0) (o1 : okL (okL okI) a1) : laws_FnExactTrimLearned a0 a1 = some true := by
  unfold laws_FnExactTrimLearned
  obtain ⟨r0, q0, z0⟩ := sz_Cnf o0 (s := 1048576) (by omega) (by omega)
  rw [q0, bd_some]
  by_cases n0 : r0 < 0
  · simp [n0]
  obtain ⟨r1, q1, z1⟩ := sz_IntSS o1 (s := r0) (by omega) (by omega)
  simp only [n0, decide_false, cond_false]
  rw [q1, bd_some]
  by_cases n1 : r1 < 0
  · simp [n1]
  simp only [n1, decide_false, cond_false]
  have t0 := to_Cnf (a := a0) (by unfold lim; omega)
  have t1 := to_IntSS (a := a1) (by unfold lim; omega)
  have hs := spec_TrimLearned_eq o0 o1
  have hi := impl_TrimLearned_eq o0 o1
  have hm := trimR_small (F := a0) (ls := a1)
  generalize trimR a0 a1 = g at hs hi hm
  have w0 : tot wIntS a0.clauses ≤ 1048576 := by unfold wCnf wIntSS at z0; omega
  have w1 : tot wIntS a1 ≤ 1048576 := by unfold wIntSS at z1; omega
  have m0 := mark_Cnf (a := a0) (k := 1) (by omega) (by unfold big; omega)
  have m1 := mark_IntSS (a := a1) (k := (laws_markCnf a0 1).2) (by omega) (by unfold big; omega)
  have mg := mark_IntSS (a := g.1) (k := 1) (by omega) (by unfold big; omega)
  have hg := held_IntSS (a := g.1) (k := 1) (by omega) (by unfold big; omega)
  have d1 : decide ((laws_markIntSS a1 (laws_markCnf a0 1).2).2 < 0) = false := by rw [decide_eq_false_iff_not]; omega
  have d2 : decide ((laws_markIntSS g.1 1).2 < 0) = false := by rw [decide_eq_false_iff_not]; omega
  simp only [t0, t1, hs, hi, hg, d1, d2, bd_some, eq_IntSS, eq_Cnf, BEq.rfl, Bool.not_true, cond_false, bif_tt, Bool.or_false]
end Go.PF
