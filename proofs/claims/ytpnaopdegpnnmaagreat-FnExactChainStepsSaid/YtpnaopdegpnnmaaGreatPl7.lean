/- Two derivations chained: the reference and the program answer alike; the law. -/
import Derived.Test.YtpnaopdegpnnmaaGreatPl6
namespace Go.PF
open Go.Pu

/-- a step moved by n places -/
def sh (n : Int) (y : ResStep) : ResStep := bif decide (0 ≤ y.left) then (bif decide (0 ≤ y.right) then ⟨y.clause, n + y.left, n + y.right, y.pivot⟩ else ⟨y.clause, n + y.left, y.right, y.pivot⟩) else y
theorem sh_zero (y : ResStep) : sh 0 y = y := by
  unfold sh
  cases decide (0 ≤ y.left) <;> cases decide (0 ≤ y.right) <;> simp
def places (n m : Nat) : List Int := (List.range m).map fun k => ((n + k : Nat) : Int)
theorem places_get {n m : Nat} {k : Int} (h0 : 0 ≤ k) (h1 : k < m) : ix (places n m) k = some (n + k) := by
  unfold ix places
  rw [if_pos h0, List.getElem?_map, List.getElem?_range (by omega)]
  simp; omega
theorem places_succ (n m : Nat) : places n (m + 1) = places n m ++ [((n + m : Nat) : Int)] := by
  unfold places; rw [List.range_succ, List.map_append]; rfl
theorem places_len (n m : Nat) : (places n m).length = m := by unfold places; simp

theorem IsD.before {F : Cnf} {S : List ResStep} (h : IsD F S) {i : Nat} {x : ResStep} (hx : S[i]? = some x) (hl : 0 ≤ x.left) : x.left < i ∧ (0 ≤ x.right → x.right < i) := by
  rcases h.nums hx with h | h | h <;> omega
theorem spec_l7Moved_eq {F : Cnf} {S : List ResStep} (h : IsD F S) {i n : Nat} {x : ResStep} (hx : S[i]? = some x) : spec_l7Moved x (places n (i + 1)) = some (sh n x) := by
  have hc := (h.clause (List.mem_of_getElem? hx)).len
  unfold spec_l7Moved sh
  rw [spec_l1Own_eq (by unfold lim; omega), bd_some]
  cases hl : decide (0 ≤ x.left) with
  | false => rfl
  | true =>
    have h0 := of_decide_eq_true hl
    obtain ⟨h1, h2⟩ := h.before hx h0
    simp only [cond_true]
    rw [places_get h0 (by omega), bd_some]
    cases hr : decide (0 ≤ x.right) with
    | false => rfl
    | true =>
      have h3 := of_decide_eq_true hr
      simp only [cond_true]
      rw [places_get h3 (by have := h2 h3; omega), bd_some]
theorem behind_loop {F : Cnf} {S : List ResStep} (h : IsD F S) {n : Nat} {out : List ResStep} (ho : out.length ≤ 200) {f : Nat → ResStep → List Int × List ResStep → Option (Lp (List Int × List ResStep) Empty)} {w : Nat → Int}
    (hf : ∀ i y s, f i y s = bd (app s.1 [w i]) fun xs => bd (spec_l7Moved y xs) fun r => bd (app s.2 [r]) fun ys => some (.nx (xs, ys))) (hw : ∀ i, i < S.length → w i = ((n + i : Nat) : Int)) :
    forL S f ([], out) = some (.go (places n S.length, out ++ S.map (sh n))) := by
  have hS := h.le
  obtain ⟨s', h1, h2⟩ := forL_inv (X := Empty) (body := f) (fun i t => t = (places n i, out ++ (S.take i).map (sh n)) ∧ i ≤ S.length) (l := S) (s := ([], out)) ⟨by simp [places], by omega⟩ (fun i x t hx ht => by
    obtain ⟨rfl, hi'⟩ := ht
    have hi := (List.getElem?_eq_some_iff.1 hx).1
    refine ⟨(places n (i + 1), out ++ (S.take (i + 1)).map (sh n)), ?_, rfl, by omega⟩
    rw [hf]
    simp only
    rw [hw i hi, app_ok (by rw [places_len]; unfold lim; simp; omega), bd_some, ← places_succ, spec_l7Moved_eq h hx, bd_some, app_ok (by unfold lim; simp; omega), bd_some]
    rw [List.take_add_one, hx]; simp)
  rw [h1, h2.1, List.take_length]
theorem spec_l7Behind_eq {F G : Cnf} {a b : List ResStep} (ha : IsD F a) (hb : IsD G b) : spec_l7Behind a b = some (a ++ b.map (sh a.length)) := by
  have hal := ha.le; have hbl := hb.le
  unfold spec_l7Behind
  rw [behind_loop ha (n := 0) (by simp) (w := fun i => (i : Int)) (fun _ _ _ => by rfl) (fun i _ => by simp), bdR_go]
  simp only
  rw [behind_loop hb (n := a.length) (w := fun i => wr (len a + (i : Int))) (by simp; omega) (fun _ _ _ => by rfl) (fun i hi => by rw [wr_of _ (by rw [len_eq]; omega) (by rw [len_eq]; omega), len_eq]; simp), bdR_go]
  simp only [List.nil_append]
  congr 2
  rw [List.map_congr_left (g := id) (fun x _ => by rw [show (((0 : Nat) : Int)) = 0 from rfl, sh_zero]; rfl), List.map_id]

theorem impl_moved_eq {F : Cnf} {S : List ResStep} (h : IsD F S) {n i : Nat} {x : ResStep} (hx : S[i]? = some x) (hn : n ≤ 200) : impl_ResStep_moved x (fun x0 => some (PF.impl_ChainSteps_1 x0 (n : Int))) = some (sh n x) := by
  have hc := (h.clause (List.mem_of_getElem? hx)).len
  have hS := h.le
  have hi := (List.getElem?_eq_some_iff.1 hx).1
  have hb := h.before hx
  unfold impl_ResStep_moved sh impl_ResStep_isResolvent impl_ResStep_isAxiom impl_ChainSteps_1
  rw [slices_Clone_int_int_eq (by unfold lim; omega), bd_some]
  by_cases hl : 0 ≤ x.left
  · obtain ⟨h1, h2⟩ := hb hl
    have hl' : ¬ x.left < 0 := by omega
    have e1 : wr (x.left + (n : Int)) = n + x.left := by rw [wr_of _ (by omega) (by omega)]; omega
    by_cases hr : 0 ≤ x.right
    · have h3 := h2 hr
      have e2 : wr (x.right + (n : Int)) = n + x.right := by rw [wr_of _ (by omega) (by omega)]; omega
      simp only [hl, hr, hl', decide_true, decide_false, cond_true, Bool.not_false, bd_some, bdR_go, e1, e2]
    · simp only [hl, hr, hl', decide_true, decide_false, cond_true, cond_false, Bool.not_false, bd_some, bdR_go, e1]
  · have hl' : x.left < 0 := by omega
    simp only [hl, hl', decide_true, decide_false, cond_false, Bool.not_true, bdR_go]
theorem impl_cloneSteps_eq {F : Cnf} {S : List ResStep} (h : IsD F S) : impl_cloneSteps S = some S := by
  have hS := h.le
  unfold impl_cloneSteps
  have := forL_push (X := Empty) (f := fun _ (y : ResStep) => bd (slices_Clone_int_int y.clause) fun r => some (ResStep.mk r y.left y.right y.pivot)) (g := id) (l := S) (s := []) (fun i x hx => by
    have hc := (h.clause (List.mem_of_getElem? hx)).len
    rw [slices_Clone_int_int_eq (by unfold lim; omega), bd_some]; rfl) (by unfold lim; simp; omega)
  rw [List.map_id, List.nil_append] at this
  simp only [bd_assoc, bd_some] at this
  rw [this, bdR_go]
theorem last_at {A : Type} {l : List A} (h0 : l.length ≠ 0) (hl : l.length ≤ 9223372036854775807) : ∃ x, ix l (wr (len l - 1)) = some x ∧ x ∈ l := by
  obtain ⟨x, h1, h2⟩ := ix_of (xs := l) (i := len l - 1) (by rw [len_eq]; omega) (by rw [len_eq]; omega)
  exact ⟨x, by rw [wr_len hl]; exact h1, List.mem_of_getElem? h2⟩

/-- what both come to -/
def chainV (F : Cnf) (a b : List ResStep) (v : Int) : List ResStep × Bool :=
  match a.getLast?, b.getLast? with
  | some x, some y => bif derB F a && (derB F b && (decide (len a + len b < 200) && (inB v 1 F.vars && (res x.clause y.clause v).2))) then (a ++ b.map (sh a.length) ++ [⟨(res x.clause y.clause v).1, len a - 1, len a + len b - 1, v⟩], true) else ([], false)
  | _, _ => ([], false)
theorem last_get {A : Type} {l : List A} {x : A} (hl : l.length ≤ 9223372036854775807) (h : l.getLast? = some x) : ix l (wr (len l - 1)) = some x := by
  cases l with
  | nil => simp at h
  | cons y l =>
    rw [wr_len hl, len_eq]
    rw [List.getLast?_eq_getElem?] at h
    rw [show ((((y :: l).length : Nat) : Int) - 1) = (((y :: l).length - 1 : Nat) : Int) by simp, ix_get]; exact h
theorem spec_ChainSteps_eq {F : Cnf} {a b : List ResStep} {v : Int} (hF : okCnf F) (ha : okL okResStep a) (hb : okL okResStep b) : spec_ChainSteps F a b v = some (chainV F a b v) := by
  unfold spec_ChainSteps chainV
  rw [spec_l7Good_eq hF ha, bd_some, spec_l7Good_eq hF hb]
  cases h1 : derB F a with
  | false => cases a.getLast? <;> cases b.getLast? <;> rfl
  | true =>
    cases h2 : derB F b with
    | false => cases a.getLast? <;> cases b.getLast? <;> rfl
    | true =>
      have da := derB_iff.1 h1; have db := derB_iff.1 h2
      have la := da.le; have lb := db.le
      simp only [Bool.not_true, cond_false, bd_some, bif_tt, Bool.false_or, Bool.true_and]
      cases hga : a.getLast? with
      | none => rw [List.getLast?_eq_none_iff.1 hga]; rfl
      | some x =>
        cases hgb : b.getLast? with
        | none => rw [List.getLast?_eq_none_iff.1 hgb]; simp [len_eq]
        | some y =>
          have hxa : x ∈ a := List.mem_of_getLast? hga
          have hyb : y ∈ b := List.mem_of_getLast? hgb
          have na : (len a == 0) = false := by rw [len_eq]; cases a with | nil => simp at hga | cons _ _ => simp; omega
          have nb : (len b == 0) = false := by rw [len_eq]; cases b with | nil => simp at hgb | cons _ _ => simp; omega
          have e1 : wr (len a + len b) = len a + len b := wr_of _ (by rw [len_eq, len_eq]; omega) (by rw [len_eq, len_eq]; omega)
          have e2 : wr (len a + len b - 1) = len a + len b - 1 := wr_of _ (by rw [len_eq, len_eq]; omega) (by rw [len_eq, len_eq]; omega)
          have e3 : decide (200 ≤ len a + len b) = !decide (len a + len b < 200) := by
            rw [Bool.eq_iff_iff]; simp
          simp only [na, nb, e1, e2, e3, Bool.false_or, spec_l1In_eq]
          cases hlen : decide (len a + len b < 200) with
          | false => rfl
          | true =>
            have hlen' := of_decide_eq_true hlen
            rw [len_eq, len_eq] at hlen'
            cases hv : inB v 1 F.vars with
            | false => rfl
            | true =>
              simp only [Bool.not_true, Bool.or_false, cond_false, Bool.true_and]
              unfold spec_l7Last
              have cx := (da.clause hxa).len; have cy := (db.clause hyb).len
              rw [last_get ha.1 hga, bd_some, bd_some, last_get hb.1 hgb, bd_some, bd_some, spec_l2Resolve_eq (by unfold lim; omega), bd_some]
              cases (res x.clause y.clause v).2 with
              | false => rfl
              | true =>
                simp only [Bool.not_true, cond_false, cond_true]
                rw [spec_l7Behind_eq da db, bd_some, app_ok (by unfold lim; simp; omega), bd_some, wr_len ha.1]
theorem impl_ChainSteps_eq {F : Cnf} {a b : List ResStep} {v : Int} (hF : okCnf F) (ha : okL okResStep a) (hb : okL okResStep b) : impl_ChainSteps F a b v = some (chainV F a b v) := by
  unfold impl_ChainSteps chainV
  rw [impl_IsDerivation_eq hF ha, bd_some, impl_IsDerivation_eq hF hb]
  cases h1 : derB F a with
  | false => cases a.getLast? <;> cases b.getLast? <;> rfl
  | true =>
    cases h2 : derB F b with
    | false => cases a.getLast? <;> cases b.getLast? <;> rfl
    | true =>
      have da := derB_iff.1 h1; have db := derB_iff.1 h2
      have la := da.le; have lb := db.le
      simp only [Bool.not_true, cond_false, bd_some, bif_tt, Bool.false_or, Bool.true_and]
      cases hga : a.getLast? with
      | none => rw [List.getLast?_eq_none_iff.1 hga]; rfl
      | some x =>
        cases hgb : b.getLast? with
        | none => rw [List.getLast?_eq_none_iff.1 hgb]; simp [len_eq]
        | some y =>
          have hxa : x ∈ a := List.mem_of_getLast? hga
          have hyb : y ∈ b := List.mem_of_getLast? hgb
          have na : (len a == 0) = false := by rw [len_eq]; cases a with | nil => simp at hga | cons _ _ => simp; omega
          have nb : (len b == 0) = false := by rw [len_eq]; cases b with | nil => simp at hgb | cons _ _ => simp; omega
          have e1 : wr (len a + len b) = len a + len b := wr_of _ (by rw [len_eq, len_eq]; omega) (by rw [len_eq, len_eq]; omega)
          have e2 : wr (len a + len b + 1) = len a + len b + 1 := wr_of _ (by rw [len_eq, len_eq]; omega) (by rw [len_eq, len_eq]; omega)
          have e3 : decide (200 < len a + len b + 1) = !decide (len a + len b < 200) := by
            by_cases h : len a + len b < 200
            · simp [h]; omega
            · simp [h]; omega
          simp only [na, nb, e1, e2, e3, Bool.false_or, impl_isVar_eq]
          cases hlen : decide (len a + len b < 200) with
          | false => cases inB v 1 F.vars <;> rfl
          | true =>
            have hlen' := of_decide_eq_true hlen
            rw [len_eq, len_eq] at hlen'
            cases hv : inB v 1 F.vars with
            | false => rfl
            | true =>
              simp only [Bool.not_true, Bool.or_false, cond_false, Bool.true_and]
              unfold impl_last_impl_ResStep
              rw [last_get ha.1 hga, bd_some, bd_some, last_get hb.1 hgb, bd_some, bd_some, impl_resolve_eq (da.clause hxa) (db.clause hyb), bd_some]
              cases (res x.clause y.clause v).2 with
              | false => rfl
              | true =>
                simp only [Bool.not_true, cond_false, cond_true]
                rw [impl_cloneSteps_eq da, bd_some]
                have hp := forL_push (X := Empty) (f := fun _ (y : ResStep) => impl_ResStep_moved y (fun x0 => some (PF.impl_ChainSteps_1 x0 (len a)))) (g := sh a.length) (l := b) (s := a) (fun i z hz => impl_moved_eq db hz la) (by unfold lim; omega)
                rw [hp, bdR_go, app_ok (by unfold lim; simp; omega), bd_some, wr_len ha.1]
                have hlb : wr (len (a ++ b.map (sh a.length)) - 1) = len a + len b - 1 := by
                  rw [wr_of _ (by rw [len_eq]; simp; omega) (by rw [len_eq]; simp; omega), len_eq, len_eq, len_eq]; simp
                rw [hlb]
/-- how much the result holds -/
theorem joinL_len : ∀ {b s t : List Int}, joinL s b = some t → t.length ≤ s.length + b.length := by
  intro b
  induction b with
  | nil => intro s t h; simp only [joinL, Option.some.injEq] at h; subst h; simp
  | cons y b ih =>
    intro s t h
    simp only [joinL] at h
    cases hc : s.contains (wr (-y)) with
    | true => rw [hc] at h; cases h
    | false =>
      rw [hc, cond_false] at h
      have := ih h
      cases hy : s.contains y with
      | true => rw [hy] at this; simp only [Bool.not_true, cond_false] at this; simp only [List.length_cons]; omega
      | false => rw [hy] at this; simp only [Bool.not_false, cond_true, putL_length] at this; simp only [List.length_cons]; omega
theorem res_len (a b : List Int) (v : Int) : (res a b v).1.length ≤ a.length + b.length := by
  have h1 := without_len a v; have h2 := without_len b v
  unfold res joined
  cases !a.contains v || !b.contains (wr (-v)) with
  | true => simp
  | false =>
    simp only [cond_false]
    cases h : joinL (without a v) (without b v) with
    | none => simp
    | some t => have := joinL_len h; simp only; omega
theorem tot_le {A : Type} {wt : A → Nat} {n : Nat} : ∀ {l : List A}, (∀ x ∈ l, wt x ≤ n) → tot wt l ≤ n * l.length := by
  intro l
  induction l with
  | nil => intro _; simp [tot]
  | cons x l ih =>
    intro h
    have h1 := h x (by simp); have h2 := ih fun y hy => h y (by simp [hy])
    simp only [tot, List.length_cons, Nat.mul_add, Nat.mul_one]; omega
theorem sh_clause (n : Int) (y : ResStep) : (sh n y).clause = y.clause := by
  unfold sh
  cases decide (0 ≤ y.left) <;> cases decide (0 ≤ y.right) <;> rfl
theorem chainV_small {F : Cnf} {a b : List ResStep} {v : Int} : tot mResStep (chainV F a b v).1 ≤ 10000 := by
  unfold chainV
  split
  · rename_i x y hx hy
    cases h : derB F a && (derB F b && (decide (len a + len b < 200) && (inB v 1 F.vars && (res x.clause y.clause v).2))) with
    | false => simp [tot]
    | true =>
      simp only [cond_true]
      simp only [Bool.and_eq_true] at h
      have da := derB_iff.1 h.1; have db := derB_iff.1 h.2.1
      have cx := (da.clause (List.mem_of_getLast? hx)).len; have cy := (db.clause (List.mem_of_getLast? hy)).len
      have hr := res_len x.clause y.clause v
      have la := da.le; have lb := db.le
      have hall : ∀ z ∈ a ++ b.map (sh a.length) ++ [⟨(res x.clause y.clause v).1, len a - 1, len a + len b - 1, v⟩], mResStep z ≤ 24 + 3 := by
        intro z hz
        unfold mResStep
        rcases List.mem_append.1 hz with hz | hz
        · rcases List.mem_append.1 hz with hz | hz
          · have := (da.clause hz).len; omega
          · obtain ⟨u, hu, rfl⟩ := List.mem_map.1 hz
            rw [sh_clause]
            have := (db.clause hu).len; omega
        · simp only [List.mem_singleton] at hz
          subst hz; simp only; omega
      have hd : len a + len b < 200 := of_decide_eq_true h.2.2.1
      rw [len_eq, len_eq] at hd
      have := tot_le hall
      simp only [List.length_append, List.length_map, List.length_singleton] at this
      omega
  · simp [tot]
  
theorem plain_ChainSteps (a0 : Cnf) (a1 a2 : List ResStep) (a3 : Int) (o0 : okCnf a0) (o1 : okL okResStep a1) (o2 : okL okResStep a2) (_o3 : okI a3) : laws_FnExactChainSteps a0 a1 a2 a3 = some true := by
  unfold laws_FnExactChainSteps
  obtain ⟨r0, q0, z0⟩ := sz_Cnf o0 (s := 1048576) (by omega) (by omega)
  rw [q0, bd_some]
  by_cases n0 : r0 < 0
  · simp [n0]
  obtain ⟨r1, q1, z1⟩ := sz_ResStepS o1 (s := r0) (by omega) (by omega)
  simp only [n0, decide_false, cond_false]
  rw [q1, bd_some]
  by_cases n1 : r1 < 0
  · simp [n1]
  obtain ⟨r2, q2, z2⟩ := sz_ResStepS o2 (s := r1) (by omega) (by omega)
  simp only [n1, decide_false, cond_false]
  rw [q2, bd_some]
  by_cases n2 : r2 < 0
  · simp [n2]
  simp only [n2, decide_false, cond_false]
  have t0 := to_Cnf (a := a0) (by unfold lim; omega)
  have t1 := to_ResStepS (a := a1) (by unfold lim; omega)
  have t2 := to_ResStepS (a := a2) (by unfold lim; omega)
  have hs := spec_ChainSteps_eq o0 o1 o2 (v := a3)
  have hi := impl_ChainSteps_eq o0 o1 o2 (v := a3)
  have hm := chainV_small (F := a0) (a := a1) (b := a2) (v := a3)
  generalize chainV a0 a1 a2 a3 = g at hs hi hm
  -- how far the marks go
  have w0 : tot wIntS a0.clauses ≤ 1048576 := by unfold wCnf wIntSS at z0; omega
  have wr1 : ∀ {a : List ResStep}, (wResStepS a : Int) ≤ 1048576 → tot mResStep a ≤ 4194304 := by
    intro a h
    have key : ∀ l : List ResStep, tot mResStep l = tot wResStep l + 3 * l.length := by
      intro l
      induction l with
      | nil => rfl
      | cons x l ih => simp only [tot, ih, List.length_cons, mResStep, wResStep, wIntS]; omega
    have := key a
    unfold wResStepS at h; omega
  have w1 := wr1 (a := a1) (by omega)
  have w2 := wr1 (a := a2) (by omega)
  have m0 := mark_Cnf (a := a0) (k := 1) (by omega) (by unfold big; omega)
  have m1 := mark_ResStepS (a := a1) (k := (laws_markCnf a0 1).2) (by omega) (by unfold big; omega)
  have m2 := mark_ResStepS (a := a2) (k := (laws_markResStepS a1 (laws_markCnf a0 1).2).2) (by omega) (by unfold big; omega)
  have mg := mark_ResStepS (a := g.1) (k := 1) (by omega) (by unfold big; omega)
  have hg := held_ResStepS (a := g.1) (k := 1) (by omega) (by unfold big; omega)
  have d1 : decide ((laws_markResStepS a2 (laws_markResStepS a1 (laws_markCnf a0 1).2).2).2 < 0) = false := by rw [decide_eq_false_iff_not]; omega
  have d2 : decide ((laws_markResStepS g.1 1).2 < 0) = false := by rw [decide_eq_false_iff_not]; omega
  simp only [t0, t1, t2, hs, hi, hg, d1, d2, bd_some, eq_ResStepS, eq_Cnf, BEq.rfl, Bool.not_true, cond_false, bif_tt, Bool.or_false]
end Go.PF
