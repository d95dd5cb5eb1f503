/- The translation of a derivation: the program. -/
import Derived.Test.YtcdphhfmkkdpfaaGreatRpPlTs
set_option linter.unusedVariables false
namespace Go.PF
open Go.Pu
open Go.La (vadd co)
def pvB (p v : Int) : Bool := (p == 2 || p == 3 || p == 5) && inB v 0 6
theorem pvB_iff {p v : Int} : pvB p v = true ↔ PV p v := by
  unfold pvB
  rw [Bool.and_eq_true, Bool.or_eq_true, Bool.or_eq_true, beq_iff_eq, beq_iff_eq, beq_iff_eq, inB_iff]
  constructor
  · rintro ⟨h1, h2, h3⟩; exact ⟨by rcases h1 with (h | h) | h <;> omega, h2, h3⟩
  · rintro ⟨h1, h2, h3⟩; exact ⟨by rcases h1 with h | h | h <;> simp [h], h2, h3⟩
theorem bif_or (a b : Bool) : (bif a then true else b) = (a || b) := by cases a <;> rfl
theorem bif_and (a b : Bool) : (bif a then b else false) = (a && b) := by cases a <;> rfl
theorem spec_l18Prime_eq (p v : Int) : spec_l18Prime p v = pvB p v := by
  unfold spec_l18Prime pvB
  rw [spec_l1In_eq, bif_or, bif_or, bif_and]
theorem impl_ringOf_eq (p v : Int) : impl_ringOf p v = (⟨p, v⟩, pvB p v) := by
  unfold impl_ringOf pvB
  rw [impl_within_eq, bif_or, bif_or, bif_and]
def alg (p : Int) (F : Cnf) : algebra := ⟨⟨p, F.vars⟩, ⟨F.vars, F.clauses⟩, F.clauses.map fun c => clD p (nN F.vars) c⟩
def algB (p : Int) (F : Cnf) : Bool := pvB p F.vars && cnfB F
theorem cnf_bds {F : Cnf} (h : cnfB F = true) : F.clauses.length ≤ 60 ∧ ∀ c ∈ F.clauses, IsC F.vars c := by
  unfold cnfB at h
  rw [Bool.and_eq_true, Bool.and_eq_true, decide_eq_true_eq, List.all_eq_true, len_eq] at h
  exact ⟨by omega, fun c hc => clauseB_iff.1 (h.2 c hc)⟩
theorem impl_algebraOf_eq {p : Int} {F : Cnf} (hF : okCnf F) : impl_algebraOf p F = some (bif algB p F then (some (alg p F), true) else (none, false)) := by
  unfold impl_algebraOf algB
  rw [impl_ringOf_eq]
  cases h1 : pvB p F.vars with
  | false => rfl
  | true =>
    simp only [Bool.not_true, cond_false]
    rw [impl_IsCnf_eq hF, bd_some]
    cases h2 : cnfB F with
    | false => rfl
    | true =>
      have h := pvB_iff.1 h1
      obtain ⟨b1, b2⟩ := cnf_bds h2
      simp only [Bool.not_true, cond_false, bd_some, Bool.and_self, cond_true]
      refine bdR_sim (X := Empty) (F := fun (t : List (List Int)) c => t ++ [clD p (nN F.vars) c]) (t0 := []) (fun i t s => s = (t, p, F.vars, F.vars, F.clauses) ∧ t.length ≤ i ∧ t = (F.clauses.take i).map fun c => clD p (nN F.vars) c) ⟨rfl, Nat.le_refl _, rfl⟩ (fun i c t s hc hs => ?_) (fun s' hs' => ?_)
      · obtain ⟨rfl, hl, ht⟩ := hs
        have hi := (List.getElem?_eq_some_iff.1 hc).1
        refine ⟨(t ++ [clD p (nN F.vars) c], p, F.vars, F.vars, F.clauses), ?_, rfl, by simp; omega, ?_⟩
        · rw [impl_ring_clause_eq (r := ⟨p, F.vars⟩) h (b2 c (List.mem_of_getElem? hc)), bd_some]
          simp only
          rw [app_ok (by simp; unfold lim; omega), bd_some]
        · rw [List.take_add_one, hc, List.map_append, ← ht]; rfl
      · obtain ⟨rfl, _, ht⟩ := hs'
        rw [ht, List.take_length]; rfl
theorem spec_l20Asked_eq {p : Int} {F : Cnf} (hF : okCnf F) : spec_l20Asked p F = some (algB p F) := by
  unfold spec_l20Asked algB
  rw [spec_l18Prime_eq, spec_l2Good_eq hF, bd_some]
  cases pvB p F.vars <;> rfl
theorem impl_further_eq {a b : List Int} (hl : a.length ≤ lim) : impl_further a b = some (more a b) := by
  unfold impl_further more
  rw [slices_Clone_int_int_eq hl, bd_some, slices_DeleteFunc_int_int_eq (g := fun l => b.contains l) (fun y _ => by unfold impl_further_1; rw [slices_Contains_int_int_eq, bd_some]) hl, bd_some]
theorem impl_sum_eq {A : algebra} (h : PV A.ring.p A.ring.vars) {st : List PcStep} {ps : List (List Int)} {ats : List Int} (hP : Ps A.ring.p (nN A.ring.vars) ps st) (hl : st.length ≤ 50000) {a b x y : Int} (ha : 0 ≤ a ∧ a < st.length) (hb : 0 ≤ b ∧ b < st.length) (hx : 0 ≤ x ∧ x ≤ 5) (hy : 0 ≤ y ∧ y ≤ 5) :
    impl_translator_sum ⟨A, st, ps, ats⟩ a b x y = some (len st, ⟨A, st ++ [⟨2, sp (sumD A.ring.p (nN A.ring.vars) (gp ps a) x (gp ps b) y), a, b, x, y⟩], ps ++ [sumD A.ring.p (nN A.ring.vars) (gp ps a) x (gp ps b) y], ats⟩) := by
  have hp := h.pos; have hN := nN_le h.v6
  obtain ⟨i1, d1, _⟩ := hP.at ha.1 ha.2
  obtain ⟨i2, d2, _⟩ := hP.at hb.1 hb.2
  have d3 := vadd_Dn (p := A.ring.p) (k := x) hp.1 (zs_Dn hp.1 (N := nN A.ring.vars)).len d1.len
  have d4 := vadd_Dn (p := A.ring.p) (k := y) hp.1 d3.len d2.len
  unfold impl_translator_sum
  simp only
  rw [impl_zero_eq h, bd_some, i1, bd_some, impl_plus_eq h hx (zs_Dn hp.1) d1, bd_some, i2, bd_some, impl_plus_eq h hy d3 d2, bd_some, impl_terms_eq (by rw [d4.len]; unfold lim; omega), bd_some,
    app_ok (by simp; unfold lim; omega), bd_some, app_ok (by simp [hP.len]; unfold lim; omega), bd_some, bd_some, pc_ln (by omega)]
  rfl
theorem impl_widen_eq {A : algebra} (h : PV A.ring.p A.ring.vars) {ats : List Int} {ls : List Int} (hls : ∀ l ∈ ls, -A.ring.vars ≤ l ∧ l ≤ A.ring.vars ∧ l ≠ 0) (hn : ls.length ≤ 12) {L : Nat} (hL : L ≤ 40000) {s0 : WS} (hw : Wo A.ring.p (nN A.ring.vars) L 0 s0) :
    impl_translator_widen ⟨A, s0.2.1, s0.1, ats⟩ s0.2.2 ls = some ((ls.foldl (wid A.ring.p (nN A.ring.vars)) s0).2.2, ⟨A, (ls.foldl (wid A.ring.p (nN A.ring.vars)) s0).2.1, (ls.foldl (wid A.ring.p (nN A.ring.vars)) s0).1, ats⟩) := by
  have hp := h.pos; have h6 := h.v6; have hN := nN_le h.v6
  unfold impl_translator_widen
  refine bdR_sim (X := Empty) (F := wid A.ring.p (nN A.ring.vars)) (t0 := s0) (fun i t s => s = (t.2.1, t.1, t.2.2) ∧ Wo A.ring.p (nN A.ring.vars) L i t) ⟨rfl, hw⟩ (fun i l t s hl hs => ?_) (fun s' hs' => ?_)
  · obtain ⟨rfl, ht⟩ := hs
    have hi := (List.getElem?_eq_some_iff.1 hl).1
    refine ⟨((wid A.ring.p (nN A.ring.vars) t l).2.1, (wid A.ring.p (nN A.ring.vars) t l).1, (wid A.ring.p (nN A.ring.vars) t l).2.2), ?_, rfl, wid_Wo h ht l⟩
    have hlt := hls l (List.mem_of_getElem? hl)
    have hab : impl_abs l = vr l := impl_abs_eq ⟨by omega, by omega⟩
    have hv := vr_nat (l := l) (by omega) (by omega)
    have hv1 : 1 ≤ vr l ∧ vr l ≤ A.ring.vars := by
      rw [hv]
      cases hd : decide (l < 0) with
      | true => have := of_decide_eq_true hd; simp only [cond_true]; omega
      | false => have := of_decide_eq_false hd; simp only [cond_false]; omega
    obtain ⟨i1, ha, _⟩ := ht.ps.at ht.now0 ht.now1
    have h4 := ht.hi
    have hD := mulT_Dn (p := A.ring.p) (N := nN A.ring.vars) hp.1 (sp (gp t.1 t.2.2)) (sp (litD A.ring.p (nN A.ring.vars) (vr l)))
    have p1 := ht.ps.add (s := ⟨3, sp (mulT A.ring.p (nN A.ring.vars) (sp (gp t.1 t.2.2)) (sp (litD A.ring.p (nN A.ring.vars) (vr l)))), t.2.2, 0, vr l, 0⟩) hD rfl
    simp only [hab]
    rw [i1, bd_some, impl_literal_eq h (by omega) (by omega) hv1.2, bd_some, impl_times_eq h ha (litD_Dn hp.1 _), bd_some, impl_terms_eq (by rw [hD.len]; unfold lim; omega), bd_some,
      app_ok (by simp; unfold lim; omega), bd_some, app_ok (by simp [ht.ps.len]; unfold lim; omega), bd_some, bd_some, pc_ln (show t.2.1.length ≤ 100000 by omega)]
    simp only
    unfold wid
    have hn0 := ht.now0; have hn1 := ht.now1
    cases decide (0 < l) with
    | true =>
      simp only [cond_true]
      have e1 := gp_app ht.ps hn0 hn1 (mulT A.ring.p (nN A.ring.vars) (sp (gp t.1 t.2.2)) (sp (litD A.ring.p (nN A.ring.vars) (vr l))))
      have e2 := gp_last ht.ps.len (mulT A.ring.p (nN A.ring.vars) (sp (gp t.1 t.2.2)) (sp (litD A.ring.p (nN A.ring.vars) (vr l))))
      rw [wr_sm (show -1000000 ≤ A.ring.p - 1 by omega) (by omega), impl_sum_eq h p1 (by simp; omega) ⟨hn0, by simp; omega⟩ ⟨by rw [len_eq]; omega, by rw [len_eq]; simp <;> omega⟩ ⟨by omega, by omega⟩ ⟨by omega, by omega⟩, bd_some, e1, e2]
      congr 3
      congr 1
      rw [len_eq, len_eq]; simp
    | false => rfl
  · rw [hs'.1]
theorem alg_q {p : Int} {F : Cnf} {k : Int} (h0 : 0 ≤ k) (h1 : k < F.clauses.length) : ∃ c, F.clauses[k.toNat]? = some c ∧ ix (alg p F).q k = some (clD p (nN F.vars) c) := by
  obtain ⟨c, hc⟩ : ∃ c, F.clauses[k.toNat]? = some c := ⟨_, List.getElem?_eq_getElem (by omega)⟩
  refine ⟨c, hc, ?_⟩
  unfold ix alg
  rw [if_pos h0]
  simp [hc]
theorem ax_clause {F : Cnf} {S : List ResStep} (hD : IsD F S) {i : Nat} {x : ResStep} (hx : S[i]? = some x) (hl : x.left < 0) : 0 ≤ x.right ∧ x.right < F.clauses.length ∧ F.clauses[x.right.toNat]? = some x.clause := by
  have := hD.step i x hx
  unfold stepB at this
  rw [Bool.and_eq_true] at this
  have hn := hD.nums hx
  have hl1 : (x.left == -1) = true := by rw [beq_iff_eq]; omega
  rw [hl1] at this
  simp only [cond_true, Bool.and_eq_true] at this
  have ha := this.2.2
  unfold axB at ha
  rw [Bool.and_eq_true, inB_iff, len_eq] at ha
  refine ⟨ha.1.1, by omega, ?_⟩
  cases hc : F.clauses[x.right.toNat]? with
  | none => rw [hc] at ha; cases ha.2
  | some c => rw [hc] at ha; rw [eq_of_beq ha.2]
theorem impl_step_eq {p : Int} {F : Cnf} {S : List ResStep} (h : PV p F.vars) (hD : IsD F S) {i : Nat} {x : ResStep} (hx : S[i]? = some x) {w : TS} (hw : To p F.vars i w) :
    ∃ k, (trS p F.vars S w x).1 = w.1 ++ [k] ∧ impl_translator_step ⟨alg p F, w.2.2, w.2.1, w.1⟩ S x = some (k, ⟨alg p F, (trS p F.vars S w x).2.2, (trS p F.vars S w x).2.1, w.1⟩) := by
  have hS := hD.le; have hp := h.pos; have h6 := h.v6; have hN := nN_le h6
  have hi := (List.getElem?_eq_some_iff.1 hx).1
  have hc := hD.clause (List.mem_of_getElem? hx)
  have hcl := hc.len
  have l2 := hw.le
  have hA : PV (alg p F).ring.p (alg p F).ring.vars := h
  unfold trS impl_translator_step impl_ResStep_isAxiom impl_ResStep_isWeakening
  cases h1 : decide (x.left < 0) with
  | true =>
    obtain ⟨a1, a2, a3⟩ := ax_clause hD hx (of_decide_eq_true h1)
    obtain ⟨c, e1, e2⟩ := alg_q (p := p) (F := F) a1 a2
    rw [a3] at e1; cases e1
    refine ⟨len w.2.2, rfl, ?_⟩
    simp only [cond_true]
    rw [e2, bd_some, impl_terms_eq (by rw [(clD_Dn hp.1 x.clause).len]; unfold lim; omega), bd_some, app_ok (by simp; unfold lim; omega), bd_some, app_ok (by simp [hw.ps.len]; unfold lim; omega), bd_some, bd_some, pc_ln (by omega)]
  | false =>
    have hl0 : 0 ≤ x.left := by have := of_decide_eq_false h1; omega
    have hl : decide (0 ≤ x.left) = true := decide_eq_true hl0
    have hb := hD.before hx hl0
    have t1 := hw.to hl0 hb.1
    obtain ⟨y1, g1, g2, c1⟩ := clAt_isC hD hl0 (by have := hb.1; omega)
    have n1 := c1.len
    have wo := hw.wo t1.2.1 t1.2.2
    simp only [hl, cond_true, cond_false]
    cases h2 : decide (x.right < 0) with
    | true =>
      simp only [cond_true]
      rw [g1, bd_some, g2, impl_further_eq (by unfold lim; omega), bd_some, t1.1]
      simp only [bd_some]
      cases hm : len (more x.clause (clAt S x.left)) == 0 with
      | true =>
        refine ⟨len w.2.2, rfl, ?_⟩
        simp only [cond_true]
        rw [impl_sum_eq (A := alg p F) hA hw.ps (by omega) t1.2 t1.2 ⟨by omega, by omega⟩ ⟨by omega, by omega⟩, bd_some]
        rfl
      | false =>
        refine ⟨_, rfl, ?_⟩
        have hm2 := more_le x.clause (clAt S x.left)
        simp only [cond_false]
        have := impl_widen_eq (A := alg p F) hA (ats := w.1) (ls := more x.clause (clAt S x.left)) (fun l hl => hc.lits l (List.mem_filter.1 hl).1) (by omega) (by omega) wo
        simp only at this
        rw [this, bd_some]
        rfl
    | false =>
      have hr0 : 0 ≤ x.right := by have := of_decide_eq_false h2; omega
      have t2 := hw.to hr0 (hb.2 hr0)
      obtain ⟨y2, k1, k2, c2⟩ := clAt_isC hD hr0 (by have := hb.2 hr0; omega)
      have n2 := c2.len
      have m1 := without_le (more (clAt S x.right) (clAt S x.left)) x.pivot; have m2 := more_le (clAt S x.right) (clAt S x.left)
      have m3 := without_le (more (clAt S x.left) (clAt S x.right)) x.pivot; have m4 := more_le (clAt S x.left) (clAt S x.right)
      simp only [cond_false]
      refine ⟨_, rfl, ?_⟩
      rw [g1, bd_some, k1, bd_some, t1.1, bd_some, g2, k2, impl_further_eq (by unfold lim; omega), bd_some,
        impl_withoutVar_eq (fun y hy => by have := c2.lits y (List.mem_filter.1 hy).1; exact ⟨by omega, by omega⟩) (by unfold lim; omega), bd_some]
      have e1 := impl_widen_eq (A := alg p F) hA (ats := w.1) (ls := without (more (clAt S x.right) (clAt S x.left)) x.pivot) (fun l hl => c2.lits l (List.mem_filter.1 (List.mem_filter.1 hl).1).1) (by omega) (show w.2.2.length ≤ 40000 by omega) wo
      simp only at e1
      rw [e1, bd_some, t2.1, bd_some, impl_further_eq (by unfold lim; omega), bd_some,
        impl_withoutVar_eq (fun y hy => by have := c1.lits y (List.mem_filter.1 hy).1; exact ⟨by omega, by omega⟩) (by unfold lim; omega), bd_some]
      have r1 := wids h (ls := without (more (clAt S x.right) (clAt S x.left)) x.pivot) wo
      have wo2 := r1.re t2.2.1 t2.2.2
      have r2 := wids h (ls := without (more (clAt S x.left) (clAt S x.right)) x.pivot) wo2
      change impl_translator_widen _ _ _ = _ at e1
      simp only [show (alg p F).ring.p = p from rfl, show (alg p F).ring.vars = F.vars from rfl]
      generalize (without (more (clAt S x.right) (clAt S x.left)) x.pivot).foldl (wid p (nN F.vars)) (w.2.1, w.2.2, toA w.1 x.left) = q1 at r1 wo2 r2 ⊢
      have l3 := r1.lo; have l4 := r1.hi
      have e2 := impl_widen_eq (A := alg p F) hA (ats := w.1) (ls := without (more (clAt S x.left) (clAt S x.right)) x.pivot) (fun l hl => c1.lits l (List.mem_filter.1 (List.mem_filter.1 hl).1).1) (by omega) (show q1.2.1.length ≤ 40000 by omega) wo2
      simp only [show (alg p F).ring.p = p from rfl, show (alg p F).ring.vars = F.vars from rfl] at e2
      rw [e2, bd_some]
      generalize (without (more (clAt S x.left) (clAt S x.right)) x.pivot).foldl (wid p (nN F.vars)) (q1.1, q1.2.1, toA w.1 x.right) = q2 at r2 ⊢
      have l5 := r2.lo; have l6 := r2.hi
      rw [impl_sum_eq (A := alg p F) hA r2.ps (by omega) ⟨r1.now0, by have := r1.now1; omega⟩ ⟨r2.now0, r2.now1⟩ ⟨by omega, by omega⟩ ⟨by omega, by omega⟩, bd_some]
      rfl
def askB (p : Int) (F : Cnf) (S : List ResStep) : Bool := algB p F && derB F S
theorem spec_l21Asked_eq {p : Int} {F : Cnf} {S : List ResStep} (hF : okCnf F) (hS : okL okResStep S) : spec_l21Asked p F S = some (askB p F S) := by
  unfold spec_l21Asked askB
  rw [spec_l20Asked_eq hF, bd_some, spec_l7Good_eq hF hS, bd_some]
  cases algB p F <;> rfl
theorem askB_iff {p : Int} {F : Cnf} {S : List ResStep} (h : askB p F S = true) : PV p F.vars ∧ IsD F S := by
  unfold askB algB at h
  rw [Bool.and_eq_true, Bool.and_eq_true] at h
  exact ⟨pvB_iff.1 h.1.1, derB_iff.1 h.2⟩
theorem impl_translate_eq {p : Int} {F : Cnf} {S : List ResStep} (hF : okCnf F) (hS : okL okResStep S) :
    impl_translate p F S = some (bif askB p F S then (some ⟨alg p F, (trL p F.vars S).2.2, (trL p F.vars S).2.1, (trL p F.vars S).1⟩, true) else (none, false)) := by
  unfold impl_translate
  rw [impl_algebraOf_eq hF, bd_some]
  cases h1 : algB p F with
  | false => unfold askB; rw [h1]; rfl
  | true =>
    simp only [cond_true, Bool.not_true, cond_false]
    rw [impl_IsDerivation_eq hF hS, bd_some]
    cases h2 : derB F S with
    | false => unfold askB; rw [h1, h2]; rfl
    | true =>
      have ha : askB p F S = true := by unfold askB; rw [h1, h2]; rfl
      obtain ⟨h, hD⟩ := askB_iff ha
      have hle := hD.le
      rw [ha]
      simp only [Bool.not_true, cond_false, bd_some, cond_true]
      refine bdR_sim (X := Empty) (F := trS p F.vars S) (t0 := ([], [], [])) (fun i t s => s = t ∧ To p F.vars i t) ⟨rfl, To.nil⟩ (fun i x t s hx hs => ?_) (fun s' hs' => ?_)
      · obtain ⟨rfl, hw⟩ := hs
        have hi := (List.getElem?_eq_some_iff.1 hx).1
        obtain ⟨k, e1, e2⟩ := impl_step_eq h hD hx hw
        refine ⟨trS p F.vars S s x, ?_, rfl, trS_ok h hD hx hw⟩
        have l1 := hw.len
        rw [e2, bd_some]
        simp only
        rw [app_ok (by simp; unfold lim; omega), bd_some, ← e1]
      · rw [hs'.1]; rfl
end Go.PF
