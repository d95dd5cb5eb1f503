/- The span of a Cnf for a degree, as the program finds it. Lists of terms that are polynomials. Lists of terms that are the same. What is left of a polynomial by a span. DegreesOver: the law. -/
import Derived.Test.YtjpjbfbloplacaaGreatDoPlE1
import Derived.Test.YtjpjbfbloplacaaGreatDoPlTi
set_option linter.unusedVariables false
namespace Go.PF
open Go.Pu
open Go.La (V Red)
theorem impl_degreeOk_eq (d : Int) : impl_degreeOk d = inB d 0 6 := by unfold impl_degreeOk; rw [impl_within_eq]
theorem impl_spanOf_eq {p : Int} {F : Cnf} (hF : okCnf F) (d : Int) : impl_spanOf p F d = some (if h : pvB p F.vars = true then (bif cnfB F && inB d 0 6 then (some (alg p F), some (echelon.mk ⟨p, F.vars⟩ (basS (pvB_iff.1 h) d F.clauses) (List.replicate (basS (pvB_iff.1 h) d F.clauses).length []) (((basS (pvB_iff.1 h) d F.clauses).length : Nat) : Int)), true) else (none, none, false)) else (none, none, false)) := by
  unfold impl_spanOf
  rw [impl_algebraOf_eq hF, bd_some, impl_degreeOk_eq]
  cases ha : algB p F with
  | true =>
    obtain ⟨h, hc⟩ := algB_iff.1 ha
    rw [dif_pos (pvB_iff.2 h), hc]
    cases hd : inB d 0 6 with
    | true =>
      simp only [Bool.not_true, cond_false, Bool.and_self, cond_true, bd_some]
      rw [impl_algebra_span_eq h hc d, bd_some, bd_some]
    | false => rfl
  | false =>
    simp only [cond_false, Bool.not_false, cond_true]
    by_cases h : pvB p F.vars = true
    · rw [dif_pos h]
      have : cnfB F = false := by
        cases hc : cnfB F with
        | true => rw [algB_iff.2 ⟨pvB_iff.1 h, hc⟩] at ha; cases ha
        | false => rfl
      rw [this]; rfl
    · rw [dif_neg h]
end Go.PF
namespace Go.PF
open Go.Pu
def termB (p v : Int) (t : Term) : Bool := inB t.mono 0 (wr ((nN v : Nat) - 1)) && inB t.coeff 1 (wr (p - 1))
def polyB (p v : Int) (A : List Term) : Bool := A.all (termB p v) && adj (fun a b => decide (a.mono < b.mono)) A
theorem sp_of {p : Int} : ∀ (n i : Nat) (A : List Term), (∀ t ∈ A, (i : Int) ≤ t.mono ∧ t.mono < i + n ∧ 1 ≤ t.coeff ∧ t.coeff < p) → A.Pairwise (fun a b => a.mono < b.mono) → 0 < p →
    ∃ a : List Int, a.length = n ∧ (∀ x ∈ a, 0 ≤ x ∧ x < p) ∧ spF i a = A
  | 0, i, [], _, _, _ => ⟨[], rfl, nofun, rfl⟩
  | 0, i, t :: A, h, _, _ => by have := h t (by simp); omega
  | n + 1, i, [], h, hp, h0 => by
    obtain ⟨a, h1, h2, h3⟩ := sp_of n (i + 1) [] nofun .nil h0
    refine ⟨0 :: a, by simp [h1], fun x hx => ?_, by simp [spF, h3]⟩
    rcases List.mem_cons.1 hx with rfl | hx
    · omega
    · exact h2 x hx
  | n + 1, i, t :: A, h, hp, h0 => by
    obtain ⟨p1, p2⟩ := List.pairwise_cons.1 hp
    have ht := h t (by simp)
    by_cases hm : t.mono = i
    · obtain ⟨a, h1, h2, h3⟩ := sp_of n (i + 1) A (fun u hu => by have := h u (by simp [hu]); have := p1 u hu; omega) p2 h0
      refine ⟨t.coeff :: a, by simp [h1], fun x hx => ?_, ?_⟩
      · rcases List.mem_cons.1 hx with rfl | hx
        · omega
        · exact h2 x hx
      · have : (t.coeff == 0) = false := by rw [beq_eq_false_iff_ne]; omega
        simp only [spF, this, cond_false, h3, ← hm]
    · obtain ⟨a, h1, h2, h3⟩ := sp_of n (i + 1) (t :: A) (fun u hu => by
        have := h u hu
        rcases List.mem_cons.1 hu with rfl | hu
        · omega
        · have := p1 u hu; omega) hp h0
      refine ⟨0 :: a, by simp [h1], fun x hx => ?_, by simp [spF, h3]⟩
      rcases List.mem_cons.1 hx with rfl | hx
      · omega
      · exact h2 x hx
theorem polyB_sp {p v : Int} (h : PV p v) {A : List Term} (hA : polyB p v A = true) : ∃ a, Dn p (nN v) a ∧ sp a = A := by
  have hN := nN_le h.v6
  have hp := h.pos
  unfold polyB at hA
  rw [Bool.and_eq_true, List.all_eq_true] at hA
  obtain ⟨a, h1, h2, h3⟩ := sp_of (p := p) (nN v) 0 A (fun t ht => by
    have := hA.1 t ht
    unfold termB at this
    rw [Bool.and_eq_true, inB_iff, inB_iff, wr_of _ (by omega) (by omega), wr_of _ (by omega) (by omega)] at this
    omega) (adj_pairwise (fun a b c h1 h2 => by omega) (fun a b _ _ h => of_decide_eq_true h) hA.2) (by omega)
  exact ⟨a, ⟨h1, h2⟩, h3⟩
theorem bif_congr3 {β : Type} {c d : Bool} {x y u w : β} (h : c = d) (h1 : x = y) (h2 : u = w) : (bif c then x else u) = bif d then y else w := by rw [h, h1, h2]
theorem bif_congr4 {β : Type} {c : Bool} {x y u w : β} (h1 : c = true → x = y) (h2 : u = w) : (bif c then x else u) = bif c then y else w := by
  cases c with
  | true => exact h1 rfl
  | false => exact h2
theorem shl_sub {v : Int} (h0 : 0 ≤ v) (h6 : v ≤ 6) : wr (shlK true 64 1 v - 1) = wr ((nN v : Nat) - 1) := by rw [shl_pow h0 h6]
theorem poly_loop {p v : Int} {A : List Term} (hl : A.length ≤ 9223372036854775807) {body : Nat → Term → Unit → Option (Lp Unit Bool)}
    (hb : ∀ (i : Nat) y u, A[i]? = some y → body i y u = bd (bif !termB p v y then some true else bd (bif decide (0 < ((i : Nat) : Int)) then bd (ix A (wr (((i : Nat) : Int) - 1))) (fun x => some (decide (y.mono ≤ x.mono))) else some false) fun t => some t) fun t => bif t then some (.rt false) else some (.nx ())) :
    bdR (forL A body ()) (fun _ => some true) (fun x => some x) = some (polyB p v A) := by
  have hstep : ∀ (i : Nat) y, A[i]? = some y → body i y () = bif (!termB p v y || (decide (0 < i) && match A[i - 1]? with | some x => decide (y.mono ≤ x.mono) | none => false)) then some (.rt false) else some (.nx ()) := fun i y hy => by
    have hi := (List.getElem?_eq_some_iff.1 hy).1
    rw [hb i y () hy]
    cases termB p v y with
    | false => rfl
    | true =>
      cases i with
      | zero => rfl
      | succ i =>
        rw [show decide (0 < ((i + 1 : Nat) : Int)) = true by rw [decide_eq_true_eq]; omega, wr_of _ (by omega) (by omega), show (((i + 1 : Nat) : Int) - 1) = ((i : Nat) : Int) by omega, ix_get]
        obtain ⟨x, hx⟩ : ∃ x, A[i]? = some x := ⟨_, List.getElem?_eq_getElem (by omega)⟩
        rw [hx, Nat.add_sub_cancel, hx]
        simp
  rw [forL_any (p := fun i y => !termB p v y || (decide (0 < i) && match A[i - 1]? with | some x => decide (y.mono ≤ x.mono) | none => false)) (v := false) hstep,
    anyI_adj (q := fun y => !termB p v y) (r := fun a b => decide (a.mono < b.mono)) (fun y hy => by simp) (fun i x y hx hy => by
      simp only [Nat.add_sub_cancel, hx, Nat.zero_lt_succ, decide_true, Bool.true_and]
      congr 1
      rw [Bool.eq_iff_iff, decide_eq_true_eq, Bool.not_eq_true', decide_eq_false_iff_not]; omega)]
  unfold polyB
  simp only [Bool.not_not]
  cases A.all (termB p v) && adj (fun a b => decide (a.mono < b.mono)) A <;> rfl
theorem impl_ring_is_eq {p v : Int} (h : PV p v) {A : List Term} (hl : A.length ≤ 9223372036854775807) : impl_ring_is ⟨p, v⟩ A = some (polyB p v A) := by
  unfold impl_ring_is impl_bitsOk
  refine poly_loop hl fun i y u _ => ?_
  rw [nn_ok h.v0, bd_some, bd_some, shl_sub h.v0 h.v6, impl_within_eq, impl_within_eq]
  unfold termB
  cases inB y.mono 0 (wr ((nN v : Nat) - 1)) <;> cases inB y.coeff 1 (wr (p - 1)) <;> rfl
theorem dense_loop {p : Int} (hp : 1 < p ∧ p ≤ 5) {body : Nat → Term → List Int → Option (Lp (List Int) Empty)}
    (hb : ∀ i y s, body i y s = bd (ix s y.mono) fun x => bd (nz p) fun _ => bd (ix s y.mono) fun _ => bd (put s y.mono ((wr (x + y.coeff)).tmod p)) fun xs => some (Lp.nx xs)) :
    ∀ (a pre : List Int) (i : Nat), (∀ x ∈ a, 0 ≤ x ∧ x < p) → forLFrom body (spF pre.length a) i (pre ++ List.replicate a.length 0) = some (.go (pre ++ a)) := by
  intro a
  induction a with
  | nil => intro pre i _; simp [spF, forLFrom]
  | cons x a ih =>
    intro pre i ha
    have hx := ha x (by simp)
    by_cases h0 : x = 0
    · subst h0
      have := ih (pre ++ [0]) i (fun z hz => ha z (by simp [hz]))
      simp only [spF, BEq.rfl, cond_true]
      rw [List.length_append, List.length_singleton] at this
      rw [List.length_cons, List.replicate_succ]
      simpa using this
    · have hne : (x == 0) = false := by rw [beq_eq_false_iff_ne]; exact h0
      have hget : (pre ++ List.replicate (a.length + 1) 0)[pre.length]? = some (0 : Int) := by
        rw [List.getElem?_append_right (Nat.le_refl _), Nat.sub_self, List.replicate_succ]; rfl
      have e : body i ⟨((pre.length : Nat) : Int), x⟩ (pre ++ List.replicate (a.length + 1) 0) = some (.nx (pre ++ [x] ++ List.replicate a.length 0)) := by
        rw [hb, ix_get, hget, bd_some, nz_ok (by omega), bd_some, bd_some, put_ok (by simp), bd_some]
        show some (Lp.nx (List.set _ _ ((wr (0 + x)).tmod p))) = _
        rw [Int.zero_add, wr_of x (by omega) (by omega), tmod_small hx, List.set_append_right _ _ (Nat.le_refl _), Nat.sub_self, List.replicate_succ, List.set_cons_zero]
        simp
      simp only [spF, hne, cond_false, List.length_cons, forLFrom, e]
      have := ih (pre ++ [x]) (i + 1) (fun z hz => ha z (by simp [hz]))
      rw [List.length_append, List.length_singleton] at this
      rw [this]
      simp
theorem impl_ring_dense_eq {p v : Int} (h : PV p v) {a : List Int} (ha : Dn p (nN v) a) : impl_ring_dense ⟨p, v⟩ (sp a) = some a := by
  unfold impl_ring_dense
  rw [impl_zero_eq (r := ⟨p, v⟩) h, bd_some]
  have := dense_loop (p := p) h.pos (fun _ _ _ => rfl) a [] 0 ha.bd
  rw [List.nil_append, List.nil_append, ha.len, List.length_nil] at this
  unfold forL sp zs
  rw [this]; rfl
theorem sp_inj {p v : Int} (h : PV p v) {a b : List Int} (ha : Dn p (nN v) a) (hb : Dn p (nN v) b) (e : sp a = sp b) : a = b := by
  have h1 := spec_l18Dense_eq h.v0 h.v6 ha.len
  have h2 := spec_l18Dense_eq h.v0 h.v6 hb.len
  rw [e, h2] at h1
  exact (Option.some.inj h1).symm
open Classical in
/-- the coefficients of a polynomial -/
noncomputable def dnT (p v : Int) (A : List Term) : List Int := if h : ∃ a, Dn p (nN v) a ∧ sp a = A then h.choose else []
theorem dnT_ok {p v : Int} (h : PV p v) {A : List Term} (hA : polyB p v A = true) : Dn p (nN v) (dnT p v A) ∧ sp (dnT p v A) = A := by
  have hx := polyB_sp h hA
  unfold dnT
  rw [dif_pos hx]
  exact hx.choose_spec
end Go.PF
namespace Go.PF
open Go.Pu
theorem term_ext {a b : Term} (h1 : a.mono = b.mono) (h2 : a.coeff = b.coeff) : a = b := by
  cases a; cases b; simp only at h1 h2; subst h1; subst h2; rfl
open Classical in
theorem spec_l20Same_eq (a b : List Term) : spec_l20Same a b = some (decide (a = b)) := by
  unfold spec_l20Same
  by_cases hl : a.length = b.length
  · rw [show (len a == len b) = true by rw [beq_iff_eq, len_eq, len_eq, hl], Bool.not_true, cond_false,
      forL_any (p := fun i y => match b[i]? with | some x => !((y.mono == x.mono) && (y.coeff == x.coeff)) | none => false) (v := false) (fun i y hy => by
        have hi := (List.getElem?_eq_some_iff.1 hy).1
        obtain ⟨x, hx⟩ : ∃ x, b[i]? = some x := ⟨_, List.getElem?_eq_getElem (by omega)⟩
        rw [ix_get, hx, bd_some])]
    by_cases he : a = b
    · subst he
      rw [show anyI (fun i y => match a[i]? with | some x => !((y.mono == x.mono) && (y.coeff == x.coeff)) | none => false) a 0 = false from anyI_false.2 fun i y hy => by rw [Nat.zero_add, hy]; simp]
      simp
    · rw [show anyI (fun i y => match b[i]? with | some x => !((y.mono == x.mono) && (y.coeff == x.coeff)) | none => false) a 0 = true by
        rw [← Bool.not_eq_false]
        intro hf
        refine he (List.ext_getElem? fun i => ?_)
        by_cases hi : i < a.length
        · have := anyI_false.1 hf i a[i] (List.getElem?_eq_getElem hi)
          rw [Nat.zero_add, List.getElem?_eq_getElem (show i < b.length by omega)] at this
          simp only [Bool.not_eq_false', Bool.and_eq_true, beq_iff_eq] at this
          rw [List.getElem?_eq_getElem hi, List.getElem?_eq_getElem (show i < b.length by omega), term_ext this.1 this.2]
        · rw [List.getElem?_eq_none (by omega), List.getElem?_eq_none (by omega)]]
      simp [he]
  · rw [show (len a == len b) = false by rw [beq_eq_false_iff_ne, len_eq, len_eq]; omega, Bool.not_false, cond_true]
    have : a ≠ b := fun e => hl (by rw [e])
    simp [this]
/-! steps -/
end Go.PF
namespace Go.PF
open Go.Pu
open Go.La (vadd co V Ctx Red redL red1 isz)
theorem red_loop {p v : Int} (h : PV p v) {R : List (List Int)} (hR : Red (cx h) R) {M : List (List Int)} (hM : Mk p R.length M) {a : List Int} (ha : V p (nN v) a) {f : Nat → List Int → List Int × List Int → Option (Lp (List Int × List Int) Empty)}
    (hf : ∀ (i684927 : Nat) y684926 (s684927 : List Int × List Int), f i684927 y684926 s684927 = bd (PF.impl_leading y684926) (fun r1027310 => bd (ix s684927.2 r1027310) (fun x1027321 => (bif (!(x1027321 == 0)) then bd (PF.impl_ring_plus ⟨p, v⟩ s684927.2 y684926 (wr (p - x1027321))) (fun r1069324 => bd (ix M ((i684927 : Nat) : Int)) (fun x1078348 => bdR (forL (S := (List Int)) (X := Empty) x1078348 (fun i1078353 y1078352 s1078353 => bd (ix s1078353 ((i1078353 : Nat) : Int)) (fun x1213465 => bd (nz p) (fun u1246460 => bd (ix s1078353 ((i1078353 : Nat) : Int)) (fun x1249465 => bd (put s1078353 ((i1078353 : Nat) : Int) ((wr (x1213465 + (wr (x1027321 * y1078352)))).tmod p)) (fun xs1252462 => some (Lp.nx xs1252462)))))) s684927.1) (fun s1078353 => some (Lp.nx (s1078353, r1069324))) (fun x1078353 => nomatch x1078353))) else some (Lp.nx (s684927.1, s684927.2)))))) :
    ∃ md, forL R f (List.replicate R.length 0, a) = some (.go (md, redL (cx h) R a)) := by
  have hp := h.pos; have hN := nN_le h.v6
  have hlen : R.length ≤ 64 := Nat.le_trans hR.len hN.2
  obtain ⟨s', e1, hv, hd, e2⟩ := forL_sim (l := R) (X := Empty) (F := red1 (cx h)) (body := f)
    (fun _ b s => V p (nN v) b ∧ Dn p R.length s.1 ∧ s.2 = b) (t0 := a) (s := (List.replicate R.length 0, a)) ⟨ha, rep_Dn hp.1, rfl⟩ (fun i r b s hr hP => by
      obtain ⟨s1, s2⟩ := s
      obtain ⟨hb, hs, hsb⟩ := hP
      have hsb' : s2 = b := hsb
      subst hsb'
      have hm := List.mem_of_getElem? hr
      have hrv : V p (nN v) r := hR.vec r hm
      obtain ⟨l1, l2⟩ := ldI_pos (Red.nz hR hm)
      have hc := hb.bd (ldP r)
      obtain ⟨w1, w2, w3⟩ := wr_pc hp hc
      have hxc : ix s2 ((ldP r : Nat) : Int) = some (co s2 (ldP r)) := ix_nat (Go.La.co_eq (by rw [hb.len, ← hrv.len]; exact l2))
      rw [hf]
      simp only
      rw [impl_leading_eq (v64 h hrv), bd_some, l1, hxc, bd_some]
      have hv1 : V p (nN v) (red1 (cx h) s2 r) := Go.La.red1_V (C := cx h) hb hrv
      unfold red1 at hv1 ⊢
      simp only [cx_ld] at hv1 ⊢
      cases hz : co s2 (ldP r) == 0 with
      | true => exact ⟨_, rfl, hb, hs, rfl⟩
      | false =>
        rw [hz] at hv1
        simp only [Bool.not_false, cond_true, w1]
        rw [impl_plus_eq (r := ⟨p, v⟩) h ⟨w2, w3⟩ (dn_of_v hb) (dn_of_v hrv), bd_some]
        have hi := (List.getElem?_eq_some_iff.1 hr).1
        have hMi : ix M ((i : Nat) : Int) = some (M[i]'(by rw [hM.1]; exact hi)) := ix_nat (List.getElem?_eq_getElem (by rw [hM.1]; exact hi))
        rw [hMi, bd_some]
        obtain ⟨s', g1, g2⟩ := made_loop hp (c := co s2 (ldP r)) (hM.2 _ (List.getElem_mem (by rw [hM.1]; exact hi))) hs ⟨hc.1, by omega⟩ (f := fun i393463 y393462 s393463 => bd (ix s393463 ((i393463 : Nat) : Int)) (fun x528575 => bd (nz p) (fun u561570 => bd (ix s393463 ((i393463 : Nat) : Int)) (fun x564575 => bd (put s393463 ((i393463 : Nat) : Int) ((wr (x528575 + (wr (co s2 (ldP r) * y393462)))).tmod p)) (fun xs567572 => some (Lp.nx xs567572)))))) (fun _ _ _ => rfl)
        rw [g1, bdR_go]
        exact ⟨_, rfl, hv1, g2, rfl⟩)
  obtain ⟨m, b⟩ := s'
  have e3 : b = redL (cx h) R a := e2
  subst e3
  exact ⟨m, e1⟩
noncomputable def remV (p : Int) (F : Cnf) (d : Int) (A : List Term) : List Term × Bool :=
  if h : pvB p F.vars = true then (bif (cnfB F && inB d 0 6) && polyB p F.vars A then (sp (redL (cx (pvB_iff.1 h)) (basS (pvB_iff.1 h) d F.clauses) (dnT p F.vars A)), true) else ([], false)) else ([], false)
theorem impl_RemainderOf_eq {p : Int} {F : Cnf} (hF : okCnf F) (d : Int) {A : List Term} (hA : A.length ≤ 9223372036854775807) : impl_RemainderOf p F d A = some (remV p F d A) := by
  unfold impl_RemainderOf remV
  rw [impl_spanOf_eq hF, bd_some]
  by_cases hpv : pvB p F.vars = true
  · rw [dif_pos hpv, dif_pos hpv]
    have h := pvB_iff.1 hpv
    have hp := h.pos
    cases hc : cnfB F && inB d 0 6 with
    | false => rfl
    | true =>
      obtain ⟨hR, _⟩ := basS_ok (pvB_iff.1 hpv) d F.clauses
      have hl : (basS (pvB_iff.1 hpv) d F.clauses).length ≤ 64 := Nat.le_trans hR.len (nN_le h.v6).2
      generalize basS (pvB_iff.1 hpv) d F.clauses = R at *
      simp only [cond_true, Bool.not_true, cond_false, bd_some]
      rw [show (alg p F).ring = (⟨p, F.vars⟩ : ring) from rfl, impl_ring_is_eq h hA]
      cases hP : polyB p F.vars A with
      | false => rfl
      | true =>
        obtain ⟨d1, d2⟩ := dnT_ok h hP
        simp only [bd_some, Bool.not_true, cond_false, Bool.and_self, cond_true]
        have e := impl_ring_dense_eq h d1
        rw [d2] at e
        rw [e, bd_some, mk2_ok (by unfold lim; omega), bd_some]
        obtain ⟨md, e1⟩ := red_loop h hR (rep_Mk R.length) (d1.v hp.1) (fun _ _ _ => rfl)
        refine (congrArg (fun z => bd (bdR z _ _) _) e1).trans ?_
        rw [bdR_go, bd_some]
        have hv : V p (nN F.vars) (redL (cx h) R (dnT p F.vars A)) := (Go.La.redL_spec hR (d1.v hp.1)).1
        have h64 := v64 h hv
        rw [impl_terms_eq (by show (redL (cx h) R (dnT p F.vars A)).length ≤ lim; unfold lim; omega), bd_some]
  · rw [dif_neg hpv, dif_neg hpv]; rfl
end Go.PF
namespace Go.PF
open Go.Pu
open Go.La (V co Ctx Red redL isz In)
/-! 1 in a span -/
theorem ld_one {p v : Int} (h : PV p v) : ldP (eD (nN v) 0) = 0 := by
  have hN := nN_le h.v6
  have h1 : co (eD (nN v) 0) 0 = 1 := by
    unfold co eD
    rw [List.getD_eq_getElem?_getD, List.getElem?_set]
    rw [if_pos rfl, if_pos (by simp [zs]; omega)]; rfl
  have hn : ∀ n, co (eD (nN v) 0) n ≠ 0 → n = 0 := fun n hn => by
    refine Classical.byContradiction fun hne => hn ?_
    unfold co eD zs
    rw [List.getD_eq_getElem?_getD, List.getElem?_set_ne (by omega), List.getElem?_replicate]
    split <;> rfl
  have := bst_some (bst_ld (a := eD (nN v) 0) (m := 0) (by rw [h1]; decide))
  exact hn _ this.2.1
theorem co_one {p v : Int} (h : PV p v) (n : Nat) : co (eD (nN v) 0) n = if n = 0 then 1 else 0 := by
  have hN := nN_le h.v6
  by_cases hn : n = 0
  · subst hn
    unfold co eD
    rw [List.getD_eq_getElem?_getD, List.getElem?_set, if_pos rfl, if_pos (by simp [zs]; omega)]; rfl
  · rw [if_neg hn]
    unfold co eD zs
    rw [List.getD_eq_getElem?_getD, List.getElem?_set_ne (by omega), List.getElem?_replicate]
    split <;> rfl
theorem ky_zero {n : Nat} (h : ky n ≤ ky 0) : n = 0 := by
  refine ky_inj (Nat.le_antisymm h ?_)
  have : ky 0 = 0 := by decide
  omega
theorem one_in {p v : Int} (h : PV p v) {R : List (List Int)} (hR : Red (cx h) R) (hs : Go.La.Srt (cx h) R) : isz (redL (cx h) R (eD (nN v) 0)) = decide (R[0]? = some (eD (nN v) 0)) := by
  have hp := h.pos
  have hv : V p (nN v) (eD (nN v) 0) := (eD_Dn hp.1).v hp.1
  have key : isz (redL (cx h) R (eD (nN v) 0)) = true ↔ R[0]? = some (eD (nN v) 0) := by
    rw [Go.La.isz_iff, Go.La.redL_zero hR hv]
    constructor
    · intro hi
      obtain ⟨r, hr, e⟩ := Go.La.In.lead hR hv hi (m := 0) (by rw [co_one h]; decide)
      have e0 : ldP r = 0 := by rw [← ld_one h]; exact e
      have hrv : V p (nN v) r := hR.vec r hr
      have hro : r = eD (nN v) 0 := by
        refine hrv.ext hv fun n => ?_
        rw [co_one h]
        by_cases hn : n = 0
        · subst hn
          have := hR.one r hr
          rw [cx_ld, e0] at this
          rw [this]; exact ⟨0, by simp⟩
        · rw [if_neg hn]
          have : co r n = 0 := Classical.byContradiction fun hne => hn (ky_zero (by
            have := (cx h).mx r n hne
            rw [cx_ld, e0] at this
            exact this))
          rw [this]; exact ⟨0, by simp⟩
      subst hro
      cases R with
      | nil => cases hr
      | cons s R =>
        rcases List.mem_cons.1 hr with e1 | hr'
        · rw [e1]; rfl
        · have hlt : Go.La.lk (cx h) s < Go.La.lk (cx h) (eD (nN v) 0) := (List.pairwise_cons.1 hs).1 _ hr'
          have : ky (ldP s) < ky (ldP (eD (nN v) 0)) := hlt
          rw [e0] at this
          have z : ky 0 = 0 := by decide
          omega
    · intro hh
      exact hR.row (List.mem_of_getElem? hh)
  cases hz : isz (redL (cx h) R (eD (nN v) 0)) with
  | true => exact (decide_eq_true (key.1 hz)).symm
  | false => exact (decide_eq_false fun e => by rw [key.2 e] at hz; cases hz).symm
/-- whether 1 is in the span -/
def hasD (p : Int) (F : Cnf) (d : Int) : Bool :=
  if h : pvB p F.vars = true then (bif cnfB F then decide ((basS (pvB_iff.1 h) d F.clauses)[0]? = some (eD (nN F.vars) 0)) else false) else false
theorem spec_l20Has_eq {p : Int} {F : Cnf} (h : PV p F.vars) (hc : cnfB F = true) (d : Int) : spec_l20Has ((basS h d F.clauses).map sp) = some (hasD p F d) := by
  have hp := h.pos; have hN := nN_le h.v6
  unfold spec_l20Has hasD
  rw [dif_pos (pvB_iff.2 h), hc]
  simp only [cond_true]
  have hR := (basS_ok h d F.clauses).1
  generalize basS h d F.clauses = R at *
  cases R with
  | nil => simp [len]
  | cons r R =>
    have hd : decide (0 < len (List.map sp (r :: R))) = true := by rw [decide_eq_true_iff, len_eq]; simp
    rw [hd]
    have hx : ix (List.map sp (r :: R)) 0 = some (sp r) := rfl
    simp only [cond_true, hx, bd_some]
    rw [spec_l20Same_eq]
    simp only [bd_some]
    have h1 : spec_l20One = sp (eD (nN F.vars) 0) := by rw [sp_eD (by omega)]; rfl
    congr 1
    rw [decide_eq_decide, h1]
    constructor
    · intro e
      rw [sp_inj h (dn_of_v (hR.vec r (by simp))) (eD_Dn hp.1) e]; rfl
    · intro e
      have : r = eD (nN F.vars) 0 := by simpa using e
      rw [this]
theorem impl_Has_eq {p : Int} {F : Cnf} (hF : okCnf F) {d : Int} (hd : inB d 0 6 = true) : impl_HasPcRefutation p F d = some (hasD p F d, algB p F) := by
  unfold impl_HasPcRefutation impl_IsInPcSpan
  rw [impl_RemainderOf_eq hF d (by simp), bd_some, bd_some]
  simp only
  unfold remV hasD
  by_cases hpv : pvB p F.vars = true
  · have h := pvB_iff.1 hpv
    have hp := h.pos; have hN := nN_le h.v6
    rw [dif_pos hpv, dif_pos hpv, hd]
    unfold algB
    rw [hpv]
    cases hc : cnfB F with
    | false => rfl
    | true =>
      have h1 : sp (eD (nN F.vars) 0) = [⟨0, 1⟩] := by rw [sp_eD (by omega)]; rfl
      have hP : polyB p F.vars [⟨0, 1⟩] = true := by
        unfold polyB termB
        have a1 : wr (((nN F.vars : Nat) : Int) - 1) = ((nN F.vars : Nat) : Int) - 1 := wr_sm (by omega) (by omega)
        have a2 : wr (p - 1) = p - 1 := wr_sm (by omega) (by omega)
        simp only [List.all_cons, List.all_nil, a1, a2, inB, adj]
        simp; omega
      obtain ⟨d1, d2⟩ := dnT_ok h hP
      have e1 : dnT p F.vars [⟨0, 1⟩] = eD (nN F.vars) 0 := sp_inj h d1 (eD_Dn hp.1) (by rw [d2, h1])
      rw [hP, e1]
      obtain ⟨hR, hs⟩ := basS_ok h d F.clauses
      simp only [Bool.and_self, cond_true]
      rw [isz_len, one_in h hR hs]
  · rw [dif_neg hpv, dif_neg hpv]
    unfold algB
    rw [show pvB p F.vars = false by simpa using hpv]
    rfl
/-! the least degree -/
def findN (q : Int → Bool) : Nat → Nat → Option Nat
  | 0, _ => none
  | n + 1, i => bif q ((i : Nat) : Int) then some i else findN q n (i + 1)
theorem iter_findN {X : Type} {body : Int → Option (Lp Int X)} {q : Int → Bool} {v : Int → X} : ∀ (n i : Nat), (∀ j : Nat, i ≤ j → j < i + n → body ((j : Nat) : Int) = bif q ((j : Nat) : Int) then some (.rt (v ((j : Nat) : Int))) else some (.nx (((j : Nat) : Int) + 1))) →
    body ((i + n : Nat) : Int) = some (.bk ((i + n : Nat) : Int)) → iter body ((i : Nat) : Int) = some (match findN q n i with | some j => .rt (v ((j : Nat) : Int)) | none => .go ((i + n : Nat) : Int)) := by
  intro n
  induction n with
  | zero => intro i _ he; exact iter_bk he
  | succ n ih =>
    intro i h he
    have hb := h i (Nat.le_refl _) (by omega)
    unfold findN
    cases hq : q ((i : Nat) : Int) with
    | true =>
      rw [hq] at hb
      exact iter_rt hb
    | false =>
      rw [hq] at hb
      rw [iter_nx hb]
      have := ih (i + 1) (fun j h1 h2 => h j (by omega) (by omega)) (by rw [show i + 1 + n = i + (n + 1) by omega]; exact he)
      rw [show (((i + 1 : Nat)) : Int) = ((i : Nat) : Int) + 1 by omega] at this
      rw [this, show i + 1 + n = i + (n + 1) by omega]
      rfl
theorem findN_lt {q : Int → Bool} : ∀ {n i j : Nat}, findN q n i = some j → i ≤ j ∧ j < i + n := by
  intro n
  induction n with
  | zero => intro i j h; cases h
  | succ n ih =>
    intro i j h
    unfold findN at h
    cases hq : q ((i : Nat) : Int) with
    | true => rw [hq] at h; cases h; omega
    | false => rw [hq] at h; have := ih h; omega
def lpd (p : Int) (F : Cnf) : Option Nat := bif algB p F then findN (hasD p F) 7 0 else none
theorem spec_l20Least_eq {p : Int} {F : Cnf} (ha : algB p F = true) : spec_l20Least p F = some (match lpd p F with | some j => ((j : Nat) : Int) | none => -1) := by
  obtain ⟨h, hc⟩ := algB_iff.1 ha
  unfold spec_l20Least lpd
  rw [ha, cond_true]
  have := iter_findN (q := hasD p F) (v := fun d => d) (body := (fun s29 => (bif (decide (s29 ≤ 6)) then bd (PF.spec_l20Basis p F s29) (fun r62 => bd (PF.spec_l20Has r62) (fun r70 => (bif r70 then some (Lp.rt s29) else some (Lp.nx (wr (s29 + 1)))))) else some (Lp.bk s29)))) 7 0 (fun j _ hj => by
    rw [show decide (((j : Nat) : Int) ≤ 6) = true by rw [decide_eq_true_iff]; omega, cond_true, spec_l20Basis_eq h hc, bd_some, spec_l20Has_eq h hc, bd_some, wr_sm (by omega) (by omega)]) rfl
  rw [show (((0 : Nat)) : Int) = 0 from rfl] at this
  rw [this]
  cases findN (hasD p F) 7 0 <;> rfl
theorem hasD_alg {p : Int} {F : Cnf} (ha : algB p F = false) (d : Int) : hasD p F d = false := by
  unfold hasD
  by_cases h : pvB p F.vars = true
  · rw [dif_pos h]
    have : cnfB F = false := by
      cases hc : cnfB F with
      | true => rw [algB_iff.2 ⟨pvB_iff.1 h, hc⟩] at ha; cases ha
      | false => rfl
    rw [this]; rfl
  · rw [dif_neg h]
theorem impl_Least_eq {p : Int} {F : Cnf} (hF : okCnf F) : impl_LeastPcDegree p F = some (match lpd p F with | some j => (((j : Nat) : Int), true) | none => (0, false)) := by
  unfold impl_LeastPcDegree lpd
  have := iter_findN (q := fun d => bif algB p F then hasD p F d else false) (v := fun d => (d, true)) (body := (fun s29 => (bif (decide (s29 ≤ 6)) then bd (PF.impl_HasPcRefutation p F s29) (fun r65 => (bif (bif r65.2 then r65.1 else false) then some (Lp.rt (s29, true)) else some (Lp.nx (wr (s29 + 1))))) else some (Lp.bk s29)))) 7 0 (fun j _ hj => by
    rw [show decide (((j : Nat) : Int) ≤ 6) = true by rw [decide_eq_true_iff]; omega, cond_true, impl_Has_eq hF (by unfold inB; simp; omega), bd_some, wr_sm (by omega) (by omega)]) rfl
  rw [show (((0 : Nat)) : Int) = 0 from rfl] at this
  rw [this]
  cases ha : algB p F with
  | true =>
    simp only [cond_true]
    cases findN (hasD p F) 7 0 <;> rfl
  | false => rfl
def degV (F : Cnf) : List Int × Bool := match lpd 2 F, lpd 3 F, lpd 5 F with
  | some a, some b, some c => ([((a : Nat) : Int), ((b : Nat) : Int), ((c : Nat) : Int)], true)
  | _, _, _ => ([], false)
theorem spec_round {F : Cnf} (hF : okCnf F) {p : Int} (hp : p = 2 ∨ p = 3 ∨ p = 5) {s : List Int} (hs : s.length ≤ 10) :
    bd (PF.spec_l20Asked p F) (fun r97 => (bif (!r97) then some (Lp.rt ([], false)) else bd (PF.spec_l20Least p F) (fun r108 => (bif (decide (r108 < 0)) then some (Lp.rt ([], false)) else bd (app s [r108]) (fun xs124 => some (Lp.nx (xs124, (wr (p + 1))))))))) = (some (match lpd p F with | some j => Lp.nx (s ++ [((j : Nat) : Int)], p + 1) | none => Lp.rt ([], false)) : Option (Lp (List Int × Int) (List Int × Bool))) := by
  rw [spec_l20Asked_eq hF, bd_some]
  cases ha : algB p F with
  | false =>
    unfold lpd
    rw [ha]; rfl
  | true =>
    simp only [Bool.not_true, cond_false]
    rw [spec_l20Least_eq ha, bd_some]
    cases lpd p F with
    | none => rfl
    | some j =>
      have : decide (((j : Nat) : Int) < 0) = false := by rw [decide_eq_false_iff_not]; omega
      simp only [this, cond_false]
      rw [app_ok (by simp; unfold lim; omega), bd_some, wr_sm (by omega) (by omega)]
theorem spec_DegreesOver_eq {F : Cnf} (hF : okCnf F) : spec_DegreesOver F = some (degV F) := by
  unfold spec_DegreesOver degV
  generalize hb : (fun (s34 : List Int × Int) => (bif (decide (s34.2 ≤ 5)) then (bif (s34.2 == 4) then some (Lp.nx (s34.1, (wr (s34.2 + 1)))) else bd (PF.spec_l20Asked s34.2 F) (fun r97 => (bif (!r97) then some (Lp.rt ([], false)) else bd (PF.spec_l20Least s34.2 F) (fun r108 => (bif (decide (r108 < 0)) then some (Lp.rt ([], false)) else bd (app s34.1 [r108]) (fun xs124 => some (Lp.nx (xs124, (wr (s34.2 + 1)))))))))) else (some (Lp.bk (s34.1, s34.2)) : Option (Lp (List Int × Int) (List Int × Bool))))) = body
  have b2 : body ([], 2) = some (match lpd 2 F with | some j => Lp.nx ([((j : Nat) : Int)], 3) | none => Lp.rt ([], false)) := by
    rw [← hb]; exact spec_round hF (.inl rfl) (s := []) (by simp)
  have b3 : ∀ s : List Int, s.length ≤ 10 → body (s, 3) = some (match lpd 3 F with | some j => Lp.nx (s ++ [((j : Nat) : Int)], 4) | none => Lp.rt ([], false)) := fun s hs => by
    rw [← hb]; exact spec_round hF (.inr (.inl rfl)) hs
  have b4 : ∀ s : List Int, body (s, 4) = some (Lp.nx (s, 5)) := fun s => by rw [← hb]; rfl
  have b5 : ∀ s : List Int, s.length ≤ 10 → body (s, 5) = some (match lpd 5 F with | some j => Lp.nx (s ++ [((j : Nat) : Int)], 6) | none => Lp.rt ([], false)) := fun s hs => by
    rw [← hb]; exact spec_round hF (.inr (.inr rfl)) hs
  have b6 : ∀ s : List Int, body (s, 6) = some (Lp.bk (s, 6)) := fun s => by rw [← hb]; rfl
  cases h2 : lpd 2 F with
  | none => rw [h2] at b2; rw [iter_rt b2]; rfl
  | some a =>
    rw [h2] at b2
    rw [iter_nx b2]
    have c3 := b3 [((a : Nat) : Int)] (by simp)
    cases h3 : lpd 3 F with
    | none => rw [h3] at c3; rw [iter_rt c3]; rfl
    | some b =>
      rw [h3] at c3
      rw [iter_nx c3, iter_nx (b4 _)]
      have c5 := b5 ([((a : Nat) : Int)] ++ [((b : Nat) : Int)]) (by simp)
      cases h5 : lpd 5 F with
      | none => rw [h5] at c5; rw [iter_rt c5]; rfl
      | some c =>
        rw [h5] at c5
        rw [iter_nx c5, iter_bk (b6 _)]; rfl
theorem impl_DegreesOver_eq {F : Cnf} (hF : okCnf F) : impl_DegreesOver F = some (degV F) := by
  unfold impl_DegreesOver degV
  rw [show chk (len [(2 : Nat), 3, 5]) = some 3 from rfl, bd_some]
  unfold forR
  rw [show 3 - 0 = 3 from rfl]
  have hx0 : ix [(2 : Int), 3, 5] ((0 : Nat) : Int) = some 2 := rfl
  have hx1 : ix [(2 : Int), 3, 5] ((0 + 1 : Nat) : Int) = some 3 := rfl
  have hx2 : ix [(2 : Int), 3, 5] ((0 + 1 + 1 : Nat) : Int) = some 5 := rfl
  simp only [forFrom, hx0, hx1, hx2, bd_some, impl_Least_eq hF]
  cases lpd 2 F with
  | none => rfl
  | some a =>
    simp only [Bool.not_true, cond_false]
    rw [app_ok (by simp [lim])]
    simp only [bd_some]
    cases lpd 3 F with
    | none => rfl
    | some b =>
      simp only [Bool.not_true, cond_false]
      rw [app_ok (by simp [lim])]
      simp only [bd_some]
      cases lpd 5 F with
      | none => rfl
      | some c =>
        simp only [Bool.not_true, cond_false]
        rw [app_ok (by simp [lim])]
        rfl
theorem degV_small (F : Cnf) : (degV F).1.length ≤ 3 := by
  unfold degV
  split <;> simp
theorem plain_DegreesOver (a0 : Cnf) (o0 : okCnf a0) : laws_FnExactDegreesOver a0 = some true := by
  unfold laws_FnExactDegreesOver
  obtain ⟨r0, q0, z0⟩ := sz_Cnf o0 (s := 1048576) (by omega) (by omega)
  rw [q0, bd_some]
  by_cases n0 : r0 < 0
  · simp [n0]
  simp only [n0, decide_false, cond_false]
  have t0 := to_Cnf (a := a0) (by unfold lim; omega)
  have hs := spec_DegreesOver_eq o0
  have hi := impl_DegreesOver_eq o0
  have hm := degV_small a0
  generalize degV a0 = g at hs hi hm
  have w0 : tot wIntS a0.clauses ≤ 1048576 := by unfold wCnf wIntSS at z0; omega
  have m0 := mark_Cnf (a := a0) (k := 1) (by omega) (by unfold big; omega)
  have mg := mark_IntS (a := g.1) (k := 1) (by omega) (by unfold big; omega)
  have hg := held_IntS (a := g.1) (k := 1) (by omega) (by unfold big; omega)
  have d1 : decide ((laws_markCnf a0 1).2 < 0) = false := by rw [decide_eq_false_iff_not]; omega
  have d2 : decide ((laws_markIntS g.1 1).2 < 0) = false := by rw [decide_eq_false_iff_not]; omega
  simp only [t0, hs, hi, hg, d1, d2, bd_some, eq_IntS, eq_Cnf, BEq.rfl, Bool.not_true, cond_false, bif_tt, Bool.or_false]
end Go.PF
