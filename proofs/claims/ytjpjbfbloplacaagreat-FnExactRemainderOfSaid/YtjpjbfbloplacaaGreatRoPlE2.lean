/- Lists of terms: copies, comparisons and marks. The span of a Cnf for a degree, as the program finds it. Lists of terms that are polynomials. What is left of a polynomial by a span. What is left of a polynomial by a span, for the reference. RemainderOf: the law. -/
import Derived.Test.YtjpjbfbloplacaaGreatRoPlTi
import Derived.Test.YtjpjbfbloplacaaGreatRoPlE1
set_option linter.unusedVariables false
namespace Go.PF
open Go.Pu
theorem eq_Term (a : Term) : laws_eqTerm a a = true := by unfold laws_eqTerm; simp
theorem eq_TermS (a : List Term) : laws_eqTermS a a = some true :=
  eq_list (eq := fun x y => some (laws_eqTerm x y)) (fun _ _ _ => rfl) (fun y _ => by rw [eq_Term])
theorem tot_two {A : Type} (l : List A) : tot (fun _ => 2) l = 2 * l.length := by induction l with
  | nil => rfl
  | cons _ l ih => simp [tot, ih]; omega
theorem wr2 {k : Int} (h0 : 0 ≤ k) (h1 : k + 2 ≤ 9223372036854775807) : wr (k + 1) = k + 1 ∧ wr (k + 1 + 1) = k + 2 := by
  exact ⟨wr_of _ (by omega) (by omega), by rw [wr_of _ (by omega) (by omega)]; omega⟩
def wTs (a : List Term) : Nat := 2 * a.length
theorem mark_TermS {a : List Term} {k : Int} (h0 : 0 ≤ k) (h1 : k + wTs a ≤ 9223372036854775807) : (laws_markTermS a k).2 = k + wTs a := by
  unfold wTs at *
  have := mark_end (F := fun (_ : Term) m => (Term.mk m (wr (m + 1)), wr (wr (m + 1) + 1))) (wt := fun _ => 2) (l := a) (k := k) (fun y _ k h0 h1 => by
    obtain ⟨a1, a2⟩ := wr2 h0 h1
    simp only [a1, a2]; rfl) h0 (by rw [tot_two]; omega)
  rw [tot_two] at this
  unfold laws_markTermS
  rw [this]
theorem held_TermS {a : List Term} {k : Int} (h0 : 0 ≤ k) (h1 : k + wTs a ≤ 9223372036854775807) : laws_heldTermS (laws_markTermS a k).1 k = some (laws_markTermS a k).2 := by
  unfold wTs at *
  unfold laws_heldTermS forL laws_markTermS
  rw [held_list (wt := fun _ => 2) (fun y _ k h0 h1 => ?_) h0 (by rw [tot_two]; omega)]
  · rfl
  · obtain ⟨a1, a2⟩ := wr2 h0 h1
    refine ⟨by simp only [a1, a2]; rfl, fun i => ?_⟩
    simp only [a1, a2, BEq.rfl, Bool.not_true, cond_false]
end Go.PF
namespace Go.PF
open Go.Pu
open Go.La (V Red)
theorem impl_degreeOk_eq (d : Int) : impl_degreeOk d = inB d 0 6 := by unfold impl_degreeOk; rw [impl_within_eq]
theorem impl_spanOf_eq {p : Int} {F : Cnf} (hF : okCnf F) (d : Int) : impl_spanOf p F d = some (if h : pvB p F.vars = true then (bif cnfB F && inB d 0 6 then (some (alg p F), some (echelon.mk ⟨p, F.vars⟩ (basS (pvB_iff.1 h) d F.clauses) (List.replicate (basS (pvB_iff.1 h) d F.clauses).length []) (((basS (pvB_iff.1 h) d F.clauses).length : Nat) : Int)), true) else (none, none, false)) else (none, none, false)) := by
  unfold impl_spanOf
  rw [impl_algebraOf_eq hF, bd_some, impl_degreeOk_eq]
  cases ha : algB p F with
  | true =>
    obtain ⟨h, hc⟩ := algB_iff.1 ha
    rw [dif_pos (pvB_iff.2 h), hc]
    cases hd : inB d 0 6 with
    | true =>
      simp only [Bool.not_true, cond_false, Bool.and_self, cond_true, bd_some]
      rw [impl_algebra_span_eq h hc d, bd_some, bd_some]
    | false => rfl
  | false =>
    simp only [cond_false, Bool.not_false, cond_true]
    by_cases h : pvB p F.vars = true
    · rw [dif_pos h]
      have : cnfB F = false := by
        cases hc : cnfB F with
        | true => rw [algB_iff.2 ⟨pvB_iff.1 h, hc⟩] at ha; cases ha
        | false => rfl
      rw [this]; rfl
    · rw [dif_neg h]
end Go.PF
namespace Go.PF
open Go.Pu
def termB (p v : Int) (t : Term) : Bool := inB t.mono 0 (wr ((nN v : Nat) - 1)) && inB t.coeff 1 (wr (p - 1))
def polyB (p v : Int) (A : List Term) : Bool := A.all (termB p v) && adj (fun a b => decide (a.mono < b.mono)) A
theorem sp_of {p : Int} : ∀ (n i : Nat) (A : List Term), (∀ t ∈ A, (i : Int) ≤ t.mono ∧ t.mono < i + n ∧ 1 ≤ t.coeff ∧ t.coeff < p) → A.Pairwise (fun a b => a.mono < b.mono) → 0 < p →
    ∃ a : List Int, a.length = n ∧ (∀ x ∈ a, 0 ≤ x ∧ x < p) ∧ spF i a = A
  | 0, i, [], _, _, _ => ⟨[], rfl, nofun, rfl⟩
  | 0, i, t :: A, h, _, _ => by have := h t (by simp); omega
  | n + 1, i, [], h, hp, h0 => by
    obtain ⟨a, h1, h2, h3⟩ := sp_of n (i + 1) [] nofun .nil h0
    refine ⟨0 :: a, by simp [h1], fun x hx => ?_, by simp [spF, h3]⟩
    rcases List.mem_cons.1 hx with rfl | hx
    · omega
    · exact h2 x hx
  | n + 1, i, t :: A, h, hp, h0 => by
    obtain ⟨p1, p2⟩ := List.pairwise_cons.1 hp
    have ht := h t (by simp)
    by_cases hm : t.mono = i
    · obtain ⟨a, h1, h2, h3⟩ := sp_of n (i + 1) A (fun u hu => by have := h u (by simp [hu]); have := p1 u hu; omega) p2 h0
      refine ⟨t.coeff :: a, by simp [h1], fun x hx => ?_, ?_⟩
      · rcases List.mem_cons.1 hx with rfl | hx
        · omega
        · exact h2 x hx
      · have : (t.coeff == 0) = false := by rw [beq_eq_false_iff_ne]; omega
        simp only [spF, this, cond_false, h3, ← hm]
    · obtain ⟨a, h1, h2, h3⟩ := sp_of n (i + 1) (t :: A) (fun u hu => by
        have := h u hu
        rcases List.mem_cons.1 hu with rfl | hu
        · omega
        · have := p1 u hu; omega) hp h0
      refine ⟨0 :: a, by simp [h1], fun x hx => ?_, by simp [spF, h3]⟩
      rcases List.mem_cons.1 hx with rfl | hx
      · omega
      · exact h2 x hx
theorem polyB_sp {p v : Int} (h : PV p v) {A : List Term} (hA : polyB p v A = true) : ∃ a, Dn p (nN v) a ∧ sp a = A := by
  have hN := nN_le h.v6
  have hp := h.pos
  unfold polyB at hA
  rw [Bool.and_eq_true, List.all_eq_true] at hA
  obtain ⟨a, h1, h2, h3⟩ := sp_of (p := p) (nN v) 0 A (fun t ht => by
    have := hA.1 t ht
    unfold termB at this
    rw [Bool.and_eq_true, inB_iff, inB_iff, wr_of _ (by omega) (by omega), wr_of _ (by omega) (by omega)] at this
    omega) (adj_pairwise (fun a b c h1 h2 => by omega) (fun a b _ _ h => of_decide_eq_true h) hA.2) (by omega)
  exact ⟨a, ⟨h1, h2⟩, h3⟩
theorem bif_congr3 {β : Type} {c d : Bool} {x y u w : β} (h : c = d) (h1 : x = y) (h2 : u = w) : (bif c then x else u) = bif d then y else w := by rw [h, h1, h2]
theorem bif_congr4 {β : Type} {c : Bool} {x y u w : β} (h1 : c = true → x = y) (h2 : u = w) : (bif c then x else u) = bif c then y else w := by
  cases c with
  | true => exact h1 rfl
  | false => exact h2
theorem shl_sub {v : Int} (h0 : 0 ≤ v) (h6 : v ≤ 6) : wr (shlK true 64 1 v - 1) = wr ((nN v : Nat) - 1) := by rw [shl_pow h0 h6]
theorem poly_loop {p v : Int} {A : List Term} (hl : A.length ≤ 9223372036854775807) {body : Nat → Term → Unit → Option (Lp Unit Bool)}
    (hb : ∀ (i : Nat) y u, A[i]? = some y → body i y u = bd (bif !termB p v y then some true else bd (bif decide (0 < ((i : Nat) : Int)) then bd (ix A (wr (((i : Nat) : Int) - 1))) (fun x => some (decide (y.mono ≤ x.mono))) else some false) fun t => some t) fun t => bif t then some (.rt false) else some (.nx ())) :
    bdR (forL A body ()) (fun _ => some true) (fun x => some x) = some (polyB p v A) := by
  have hstep : ∀ (i : Nat) y, A[i]? = some y → body i y () = bif (!termB p v y || (decide (0 < i) && match A[i - 1]? with | some x => decide (y.mono ≤ x.mono) | none => false)) then some (.rt false) else some (.nx ()) := fun i y hy => by
    have hi := (List.getElem?_eq_some_iff.1 hy).1
    rw [hb i y () hy]
    cases termB p v y with
    | false => rfl
    | true =>
      cases i with
      | zero => rfl
      | succ i =>
        rw [show decide (0 < ((i + 1 : Nat) : Int)) = true by rw [decide_eq_true_eq]; omega, wr_of _ (by omega) (by omega), show (((i + 1 : Nat) : Int) - 1) = ((i : Nat) : Int) by omega, ix_get]
        obtain ⟨x, hx⟩ : ∃ x, A[i]? = some x := ⟨_, List.getElem?_eq_getElem (by omega)⟩
        rw [hx, Nat.add_sub_cancel, hx]
        simp
  rw [forL_any (p := fun i y => !termB p v y || (decide (0 < i) && match A[i - 1]? with | some x => decide (y.mono ≤ x.mono) | none => false)) (v := false) hstep,
    anyI_adj (q := fun y => !termB p v y) (r := fun a b => decide (a.mono < b.mono)) (fun y hy => by simp) (fun i x y hx hy => by
      simp only [Nat.add_sub_cancel, hx, Nat.zero_lt_succ, decide_true, Bool.true_and]
      congr 1
      rw [Bool.eq_iff_iff, decide_eq_true_eq, Bool.not_eq_true', decide_eq_false_iff_not]; omega)]
  unfold polyB
  simp only [Bool.not_not]
  cases A.all (termB p v) && adj (fun a b => decide (a.mono < b.mono)) A <;> rfl
theorem spec_l18Good_eq {p v : Int} (h : PV p v) {A : List Term} (hl : A.length ≤ 9223372036854775807) : spec_l18Good p v A = some (polyB p v A) := by
  unfold spec_l18Good
  rw [spec_l18Prime_eq, pvB_iff.2 h, Bool.not_true, cond_false]
  refine poly_loop hl fun i y u _ => ?_
  rw [nn_ok h.v0, bd_some, shl_sub h.v0 h.v6, spec_l1In_eq, spec_l1In_eq]
  unfold termB
  cases inB y.mono 0 (wr ((nN v : Nat) - 1)) <;> cases inB y.coeff 1 (wr (p - 1)) <;> rfl
theorem impl_ring_is_eq {p v : Int} (h : PV p v) {A : List Term} (hl : A.length ≤ 9223372036854775807) : impl_ring_is ⟨p, v⟩ A = some (polyB p v A) := by
  unfold impl_ring_is impl_bitsOk
  refine poly_loop hl fun i y u _ => ?_
  rw [nn_ok h.v0, bd_some, bd_some, shl_sub h.v0 h.v6, impl_within_eq, impl_within_eq]
  unfold termB
  cases inB y.mono 0 (wr ((nN v : Nat) - 1)) <;> cases inB y.coeff 1 (wr (p - 1)) <;> rfl
theorem dense_loop {p : Int} (hp : 1 < p ∧ p ≤ 5) {body : Nat → Term → List Int → Option (Lp (List Int) Empty)}
    (hb : ∀ i y s, body i y s = bd (ix s y.mono) fun x => bd (nz p) fun _ => bd (ix s y.mono) fun _ => bd (put s y.mono ((wr (x + y.coeff)).tmod p)) fun xs => some (Lp.nx xs)) :
    ∀ (a pre : List Int) (i : Nat), (∀ x ∈ a, 0 ≤ x ∧ x < p) → forLFrom body (spF pre.length a) i (pre ++ List.replicate a.length 0) = some (.go (pre ++ a)) := by
  intro a
  induction a with
  | nil => intro pre i _; simp [spF, forLFrom]
  | cons x a ih =>
    intro pre i ha
    have hx := ha x (by simp)
    by_cases h0 : x = 0
    · subst h0
      have := ih (pre ++ [0]) i (fun z hz => ha z (by simp [hz]))
      simp only [spF, BEq.rfl, cond_true]
      rw [List.length_append, List.length_singleton] at this
      rw [List.length_cons, List.replicate_succ]
      simpa using this
    · have hne : (x == 0) = false := by rw [beq_eq_false_iff_ne]; exact h0
      have hget : (pre ++ List.replicate (a.length + 1) 0)[pre.length]? = some (0 : Int) := by
        rw [List.getElem?_append_right (Nat.le_refl _), Nat.sub_self, List.replicate_succ]; rfl
      have e : body i ⟨((pre.length : Nat) : Int), x⟩ (pre ++ List.replicate (a.length + 1) 0) = some (.nx (pre ++ [x] ++ List.replicate a.length 0)) := by
        rw [hb, ix_get, hget, bd_some, nz_ok (by omega), bd_some, bd_some, put_ok (by simp), bd_some]
        show some (Lp.nx (List.set _ _ ((wr (0 + x)).tmod p))) = _
        rw [Int.zero_add, wr_of x (by omega) (by omega), tmod_small hx, List.set_append_right _ _ (Nat.le_refl _), Nat.sub_self, List.replicate_succ, List.set_cons_zero]
        simp
      simp only [spF, hne, cond_false, List.length_cons, forLFrom, e]
      have := ih (pre ++ [x]) (i + 1) (fun z hz => ha z (by simp [hz]))
      rw [List.length_append, List.length_singleton] at this
      rw [this]
      simp
theorem impl_ring_dense_eq {p v : Int} (h : PV p v) {a : List Int} (ha : Dn p (nN v) a) : impl_ring_dense ⟨p, v⟩ (sp a) = some a := by
  unfold impl_ring_dense
  rw [impl_zero_eq (r := ⟨p, v⟩) h, bd_some]
  have := dense_loop (p := p) h.pos (fun _ _ _ => rfl) a [] 0 ha.bd
  rw [List.nil_append, List.nil_append, ha.len, List.length_nil] at this
  unfold forL sp zs
  rw [this]; rfl
theorem sp_inj {p v : Int} (h : PV p v) {a b : List Int} (ha : Dn p (nN v) a) (hb : Dn p (nN v) b) (e : sp a = sp b) : a = b := by
  have h1 := spec_l18Dense_eq h.v0 h.v6 ha.len
  have h2 := spec_l18Dense_eq h.v0 h.v6 hb.len
  rw [e, h2] at h1
  exact (Option.some.inj h1).symm
open Classical in
/-- the coefficients of a polynomial -/
noncomputable def dnT (p v : Int) (A : List Term) : List Int := if h : ∃ a, Dn p (nN v) a ∧ sp a = A then h.choose else []
theorem dnT_ok {p v : Int} (h : PV p v) {A : List Term} (hA : polyB p v A = true) : Dn p (nN v) (dnT p v A) ∧ sp (dnT p v A) = A := by
  have hx := polyB_sp h hA
  unfold dnT
  rw [dif_pos hx]
  exact hx.choose_spec
end Go.PF
namespace Go.PF
open Go.Pu
open Go.La (vadd co V Ctx Red redL red1 isz)
theorem red_loop {p v : Int} (h : PV p v) {R : List (List Int)} (hR : Red (cx h) R) {M : List (List Int)} (hM : Mk p R.length M) {a : List Int} (ha : V p (nN v) a) {f : Nat → List Int → List Int × List Int → Option (Lp (List Int × List Int) Empty)}
    (hf : ∀ (i684927 : Nat) y684926 (s684927 : List Int × List Int), f i684927 y684926 s684927 = bd (PF.impl_leading y684926) (fun r1027310 => bd (ix s684927.2 r1027310) (fun x1027321 => (bif (!(x1027321 == 0)) then bd (PF.impl_ring_plus ⟨p, v⟩ s684927.2 y684926 (wr (p - x1027321))) (fun r1069324 => bd (ix M ((i684927 : Nat) : Int)) (fun x1078348 => bdR (forL (S := (List Int)) (X := Empty) x1078348 (fun i1078353 y1078352 s1078353 => bd (ix s1078353 ((i1078353 : Nat) : Int)) (fun x1213465 => bd (nz p) (fun u1246460 => bd (ix s1078353 ((i1078353 : Nat) : Int)) (fun x1249465 => bd (put s1078353 ((i1078353 : Nat) : Int) ((wr (x1213465 + (wr (x1027321 * y1078352)))).tmod p)) (fun xs1252462 => some (Lp.nx xs1252462)))))) s684927.1) (fun s1078353 => some (Lp.nx (s1078353, r1069324))) (fun x1078353 => nomatch x1078353))) else some (Lp.nx (s684927.1, s684927.2)))))) :
    ∃ md, forL R f (List.replicate R.length 0, a) = some (.go (md, redL (cx h) R a)) := by
  have hp := h.pos; have hN := nN_le h.v6
  have hlen : R.length ≤ 64 := Nat.le_trans hR.len hN.2
  obtain ⟨s', e1, hv, hd, e2⟩ := forL_sim (l := R) (X := Empty) (F := red1 (cx h)) (body := f)
    (fun _ b s => V p (nN v) b ∧ Dn p R.length s.1 ∧ s.2 = b) (t0 := a) (s := (List.replicate R.length 0, a)) ⟨ha, rep_Dn hp.1, rfl⟩ (fun i r b s hr hP => by
      obtain ⟨s1, s2⟩ := s
      obtain ⟨hb, hs, hsb⟩ := hP
      have hsb' : s2 = b := hsb
      subst hsb'
      have hm := List.mem_of_getElem? hr
      have hrv : V p (nN v) r := hR.vec r hm
      obtain ⟨l1, l2⟩ := ldI_pos (Red.nz hR hm)
      have hc := hb.bd (ldP r)
      obtain ⟨w1, w2, w3⟩ := wr_pc hp hc
      have hxc : ix s2 ((ldP r : Nat) : Int) = some (co s2 (ldP r)) := ix_nat (Go.La.co_eq (by rw [hb.len, ← hrv.len]; exact l2))
      rw [hf]
      simp only
      rw [impl_leading_eq (v64 h hrv), bd_some, l1, hxc, bd_some]
      have hv1 : V p (nN v) (red1 (cx h) s2 r) := Go.La.red1_V (C := cx h) hb hrv
      unfold red1 at hv1 ⊢
      simp only [cx_ld] at hv1 ⊢
      cases hz : co s2 (ldP r) == 0 with
      | true => exact ⟨_, rfl, hb, hs, rfl⟩
      | false =>
        rw [hz] at hv1
        simp only [Bool.not_false, cond_true, w1]
        rw [impl_plus_eq (r := ⟨p, v⟩) h ⟨w2, w3⟩ (dn_of_v hb) (dn_of_v hrv), bd_some]
        have hi := (List.getElem?_eq_some_iff.1 hr).1
        have hMi : ix M ((i : Nat) : Int) = some (M[i]'(by rw [hM.1]; exact hi)) := ix_nat (List.getElem?_eq_getElem (by rw [hM.1]; exact hi))
        rw [hMi, bd_some]
        obtain ⟨s', g1, g2⟩ := made_loop hp (c := co s2 (ldP r)) (hM.2 _ (List.getElem_mem (by rw [hM.1]; exact hi))) hs ⟨hc.1, by omega⟩ (f := fun i393463 y393462 s393463 => bd (ix s393463 ((i393463 : Nat) : Int)) (fun x528575 => bd (nz p) (fun u561570 => bd (ix s393463 ((i393463 : Nat) : Int)) (fun x564575 => bd (put s393463 ((i393463 : Nat) : Int) ((wr (x528575 + (wr (co s2 (ldP r) * y393462)))).tmod p)) (fun xs567572 => some (Lp.nx xs567572)))))) (fun _ _ _ => rfl)
        rw [g1, bdR_go]
        exact ⟨_, rfl, hv1, g2, rfl⟩)
  obtain ⟨m, b⟩ := s'
  have e3 : b = redL (cx h) R a := e2
  subst e3
  exact ⟨m, e1⟩
noncomputable def remV (p : Int) (F : Cnf) (d : Int) (A : List Term) : List Term × Bool :=
  if h : pvB p F.vars = true then (bif (cnfB F && inB d 0 6) && polyB p F.vars A then (sp (redL (cx (pvB_iff.1 h)) (basS (pvB_iff.1 h) d F.clauses) (dnT p F.vars A)), true) else ([], false)) else ([], false)
theorem impl_RemainderOf_eq {p : Int} {F : Cnf} (hF : okCnf F) (d : Int) {A : List Term} (hA : A.length ≤ 9223372036854775807) : impl_RemainderOf p F d A = some (remV p F d A) := by
  unfold impl_RemainderOf remV
  rw [impl_spanOf_eq hF, bd_some]
  by_cases hpv : pvB p F.vars = true
  · rw [dif_pos hpv, dif_pos hpv]
    have h := pvB_iff.1 hpv
    have hp := h.pos
    cases hc : cnfB F && inB d 0 6 with
    | false => rfl
    | true =>
      obtain ⟨hR, _⟩ := basS_ok (pvB_iff.1 hpv) d F.clauses
      have hl : (basS (pvB_iff.1 hpv) d F.clauses).length ≤ 64 := Nat.le_trans hR.len (nN_le h.v6).2
      generalize basS (pvB_iff.1 hpv) d F.clauses = R at *
      simp only [cond_true, Bool.not_true, cond_false, bd_some]
      rw [show (alg p F).ring = (⟨p, F.vars⟩ : ring) from rfl, impl_ring_is_eq h hA]
      cases hP : polyB p F.vars A with
      | false => rfl
      | true =>
        obtain ⟨d1, d2⟩ := dnT_ok h hP
        simp only [bd_some, Bool.not_true, cond_false, Bool.and_self, cond_true]
        have e := impl_ring_dense_eq h d1
        rw [d2] at e
        rw [e, bd_some, mk2_ok (by unfold lim; omega), bd_some]
        obtain ⟨md, e1⟩ := red_loop h hR (rep_Mk R.length) (d1.v hp.1) (fun _ _ _ => rfl)
        refine (congrArg (fun z => bd (bdR z _ _) _) e1).trans ?_
        rw [bdR_go, bd_some]
        have hv : V p (nN F.vars) (redL (cx h) R (dnT p F.vars A)) := (Go.La.redL_spec hR (d1.v hp.1)).1
        have h64 := v64 h hv
        rw [impl_terms_eq (by show (redL (cx h) R (dnT p F.vars A)).length ≤ lim; unfold lim; omega), bd_some]
  · rw [dif_neg hpv, dif_neg hpv]; rfl
end Go.PF
namespace Go.PF
open Go.Pu
open Go.La (V Red redL)
theorem spec_RemainderOf_eq {p : Int} {F : Cnf} (hF : okCnf F) (d : Int) {A : List Term} (hA : A.length ≤ 9223372036854775807) : spec_RemainderOf p F d A = some (remV p F d A) := by
  unfold spec_RemainderOf remV
  rw [spec_l20Asked_eq hF, bd_some, spec_l20Degree_eq]
  cases ha : algB p F with
  | true =>
    obtain ⟨h, hc⟩ := algB_iff.1 ha
    rw [dif_pos (pvB_iff.2 h), hc]
    cases hd : inB d 0 6 with
    | true =>
      simp only [Bool.not_true, cond_false, Bool.and_self]
      rw [spec_l18Good_eq h hA]
      cases hP : polyB p F.vars A with
      | false => rfl
      | true =>
        simp only [bd_some, Bool.not_true, cond_false, Bool.and_self, cond_true]
        obtain ⟨d1, d2⟩ := dnT_ok h hP
        have hR := (basS_ok h d F.clauses).1
        have hv : V p (nN F.vars) (redL (cx h) (basS h d F.clauses) (dnT p F.vars A)) := (Go.La.redL_spec hR (d1.v h.pos.1)).1
        have h64 := v64 h hv
        have hl := sp_len (a := redL (cx h) (basS h d F.clauses) (dnT p F.vars A))
        have e := spec_l20Rest_eq h hR (d1.v h.pos.1)
        rw [d2] at e
        rw [spec_l20Basis_eq h hc, bd_some, e, bd_some]
        unfold spec_l20Terms
        rw [app_ok (by simp; unfold lim; omega), bd_some, bd_some, List.nil_append]
    | false => rfl
  | false =>
    simp only [Bool.not_false, cond_true, bd_some]
    by_cases h : pvB p F.vars = true
    · rw [dif_pos h]
      have : cnfB F = false := by
        cases hc : cnfB F with
        | true => rw [algB_iff.2 ⟨pvB_iff.1 h, hc⟩] at ha; cases ha
        | false => rfl
      rw [this]; rfl
    · rw [dif_neg h]
theorem to_Term (a : Term) : laws_toTerm a = a := rfl
end Go.PF
namespace Go.PF
open Go.Pu
open Go.La (V Red redL)
theorem sz_TermS {a : List Term} (hl : a.length ≤ 9223372036854775807) {s : Int} (h0 : 0 ≤ s) (h1 : s ≤ 1048576) : laws_szTermS a s < 0 ∨ (a.length : Int) ≤ s := by
  unfold laws_szTermS
  rw [len_eq, wr_of _ (by omega) (by omega)]
  by_cases h : s - (a.length : Int) < 0
  · left; simp [h]
  · exact .inr (by omega)
theorem to_TermS {a : List Term} (hl : a.length ≤ lim) : laws_toTermS a = some a := by
  have := to_list (g := fun y => some (laws_toTerm y)) (h := id) (z := Term.mk 0 0) (l := a) (f := (fun i32 y31 s32 => bd (ix s32 ((i32 : Nat) : Int)) (fun x126 => bd (put s32 ((i32 : Nat) : Int) (PF.laws_toTerm y31)) (fun xs131 => some (Lp.nx xs131))))) (fun _ _ _ => rfl) (fun _ _ => rfl) hl
  rw [List.map_id] at this; exact this
theorem remV_small {p : Int} {F : Cnf} {d : Int} {A : List Term} : wTs (remV p F d A).1 ≤ 128 := by
  unfold remV wTs
  by_cases h : pvB p F.vars = true
  · rw [dif_pos h]
    cases hc : (cnfB F && inB d 0 6) && polyB p F.vars A with
    | false => exact Nat.zero_le _
    | true =>
      simp only [cond_true]
      rw [Bool.and_eq_true] at hc
      have h' := pvB_iff.1 h
      have hR := (basS_ok h' d F.clauses).1
      have d1 := (dnT_ok h' hc.2).1
      have hv : V p (nN F.vars) (redL (cx h') (basS h' d F.clauses) (dnT p F.vars A)) := (Go.La.redL_spec hR (d1.v h'.pos.1)).1
      have h64 := v64 h' hv
      have hl := sp_len (a := redL (cx h') (basS h' d F.clauses) (dnT p F.vars A))
      omega
  · rw [dif_neg h]; exact Nat.zero_le _
theorem plain_RemainderOf (a0 : Int) (a1 : Cnf) (a2 : Int) (a3 : List Term) (o : okI a0) (o0 : okCnf a1) (o1 : okI a2) (o2 : okL okTerm a3) : laws_FnExactRemainderOf a0 a1 a2 a3 = some true := by
  unfold laws_FnExactRemainderOf
  obtain ⟨r0, q0, z0⟩ := sz_Cnf o0 (s := 1048576) (by omega) (by omega)
  rw [q0, bd_some]
  by_cases n0 : r0 < 0
  · simp [n0]
  simp only [n0, decide_false, cond_false]
  by_cases n1 : laws_szTermS a3 r0 < 0
  · simp [n1]
  simp only [n1, decide_false, cond_false]
  have z1 : (a3.length : Int) ≤ r0 := (sz_TermS o2.1 (s := r0) (by omega) (by omega)).resolve_left n1
  have t0 := to_Cnf (a := a1) (by unfold lim; omega)
  have t1 := to_TermS (a := a3) (by unfold lim; omega)
  have hs := spec_RemainderOf_eq (p := a0) o0 a2 o2.1
  have hi := impl_RemainderOf_eq (p := a0) o0 a2 o2.1
  have hm := remV_small (p := a0) (F := a1) (d := a2) (A := a3)
  generalize remV a0 a1 a2 a3 = g at hs hi hm
  have w0 : tot wIntS a1.clauses ≤ 1048576 := by unfold wCnf wIntSS at z0; omega
  have m0 := mark_Cnf (a := a1) (k := 1) (by omega) (by unfold big; omega)
  have m1 := mark_TermS (a := a3) (k := (laws_markCnf a1 1).2) (by omega) (by unfold wTs; omega)
  have mg := mark_TermS (a := g.1) (k := 1) (by omega) (by omega)
  have hg := held_TermS (a := g.1) (k := 1) (by omega) (by omega)
  have d1 : decide ((laws_markTermS a3 (laws_markCnf a1 1).2).2 < 0) = false := by rw [decide_eq_false_iff_not]; omega
  have d2 : decide ((laws_markTermS g.1 1).2 < 0) = false := by rw [decide_eq_false_iff_not]; omega
  simp only [t0, t1, hs, hi, hg, d1, d2, bd_some, eq_TermS, eq_Cnf, BEq.rfl, Bool.not_true, cond_false, bif_tt, Bool.or_false]
end Go.PF
