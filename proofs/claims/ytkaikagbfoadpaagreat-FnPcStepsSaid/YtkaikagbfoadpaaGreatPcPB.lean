/- Helpers of the walks and plain laws. -/
import Derived.Test.YtkaikagbfoadpaaGreatPcPA
import Derived.Test.YtkaikagbfoadpaaGreatPcLB
set_option linter.unusedVariables false
namespace Go.PF
open Go.Pu
theorem term_ext {a b : Term} (h1 : a.mono = b.mono) (h2 : a.coeff = b.coeff) : a = b := by
 cases a; cases b; simp only at h1 h2; subst h1; subst h2; rfl
open Classical in
theorem spec_l20Same_eq (a b : List Term) : spec_l20Same a b = some (decide (a = b)) := by
 unfold spec_l20Same
 by_cases hl : a.length = b.length
 · rw [show (len a == len b) = true by rw [beq_iff_eq, len_eq, len_eq, hl], Bool.not_true, cond_false,
    forL_any (p := fun i y => match b[i]? with | some x => !((y.mono == x.mono) && (y.coeff == x.coeff)) | none => false) (v := false) (fun i y hy => by
     have hi := (List.getElem?_eq_some_iff.1 hy).1
     obtain ⟨x, hx⟩ : ∃ x, b[i]? = some x := ⟨_, List.getElem?_eq_getElem (by omega)⟩
     rw [ix_get, hx, bd_some])]
   by_cases he : a = b
   · subst he
     rw [show anyI (fun i y => match a[i]? with | some x => !((y.mono == x.mono) && (y.coeff == x.coeff)) | none => false) a 0 = false from anyI_false.2 fun i y hy => by rw [Nat.zero_add, hy]; simp]
     simp
   · rw [show anyI (fun i y => match b[i]? with | some x => !((y.mono == x.mono) && (y.coeff == x.coeff)) | none => false) a 0 = true by
      rw [← Bool.not_eq_false]
      intro hf
      refine he (List.ext_getElem? fun i => ?_)
      by_cases hi : i < a.length
      · have := anyI_false.1 hf i a[i] (List.getElem?_eq_getElem hi)
        rw [Nat.zero_add, List.getElem?_eq_getElem (show i < b.length by omega)] at this
        simp only [Bool.not_eq_false', Bool.and_eq_true, beq_iff_eq] at this
        rw [List.getElem?_eq_getElem hi, List.getElem?_eq_getElem (show i < b.length by omega), term_ext this.1 this.2]
      · rw [List.getElem?_eq_none (by omega), List.getElem?_eq_none (by omega)]]
     simp [he]
 · rw [show (len a == len b) = false by rw [beq_eq_false_iff_ne, len_eq, len_eq]; omega, Bool.not_false, cond_true]
   have : a ≠ b := fun e => hl (by rw [e])
   simp [this]
end Go.PF
namespace Go.PF
open Go.Pu
def okPs (S : List PcStep) : Prop := S.length ≤ 9223372036854775807 ∧ ∀ s ∈ S, s.poly.length ≤ 9223372036854775807
def pAt (S : List PcStep) (k : Int) : List Term := match S[k.toNat]? with | some y => y.poly | none => []
def preB (p v : Int) (S : List PcStep) (i : Nat) (k : Int) : Bool := inB k 0 ((i : Int) - 1) && polyB p v (pAt S k)
theorem pre_at {S : List PcStep} {i : Nat} {k : Int} (hi : i < S.length) (h : inB k 0 ((i : Int) - 1) = true) : ∃ y, ix S k = some y ∧ pAt S k = y.poly ∧ y ∈ S := by
 have := inB_iff.1 h
 obtain ⟨y, h1, h2⟩ := ix_of (xs := S) (i := k) (by omega) (by omega)
 exact ⟨y, h1, by unfold pAt; rw [h2], List.mem_of_getElem? h2⟩
theorem spec_l20Earlier_eq {p : Int} {F : Cnf} (h : PV p F.vars) {S : List PcStep} (hS : okPs S) {i : Nat} (hi : i < S.length) (k : Int) : spec_l20Earlier p F S (i : Int) k = some (preB p F.vars S i k) := by
 have := hS.1
 unfold spec_l20Earlier preB
 rw [spec_l1In_eq, wr_of _ (by omega) (by omega)]
 cases hk : inB k 0 ((i : Int) - 1) with
 | false => rfl
 | true =>
  obtain ⟨y, h1, h2, h3⟩ := pre_at hi hk
  simp only [cond_true, h1, bd_some, h2, spec_l18Good_eq h (hS.2 y h3), Bool.true_and]
theorem impl_polyBefore_eq {p : Int} {F : Cnf} (h : PV p F.vars) {S : List PcStep} (hS : okPs S) {i : Nat} (hi : i < S.length) (k : Int) :
 impl_algebra_polyBefore (alg p F) S (i : Int) k = some (bif preB p F.vars S i k then (dnT p F.vars (pAt S k), true) else ([], false)) := by
 have := hS.1
 unfold impl_algebra_polyBefore preB
 rw [impl_within_eq, wr_of _ (by omega) (by omega)]
 cases hk : inB k 0 ((i : Int) - 1) with
 | false => rfl
 | true =>
  obtain ⟨y, h1, h2, h3⟩ := pre_at hi hk
  have hr : (alg p F).ring = ⟨p, F.vars⟩ := rfl
  simp only [Bool.not_true, cond_false, h1, bd_some, hr, impl_ring_is_eq h (hS.2 y h3), h2, Bool.true_and]
  cases hp : polyB p F.vars y.poly with
  | false => rfl
  | true =>
   obtain ⟨d1, d2⟩ := dnT_ok h hp
   have hd := impl_ring_dense_eq h d1
   rw [d2] at hd
   simp only [Bool.not_true, cond_false, hd, bd_some, cond_true]
open Classical in
noncomputable def pcB (p : Int) (F : Cnf) (S : List PcStep) (i : Nat) (s : PcStep) : Bool :=
 polyB p F.vars s.poly && (
  bif s.kind == 1 then (inB s.a 0 ((F.clauses.length : Int) - 1) && (s.b == 0 && (s.x == 0 && s.y == 0))) && decide (s.poly = sp (clD p (nN F.vars) ((F.clauses[s.a.toNat]?).getD [])))
  else bif s.kind == 2 then (preB p F.vars S i s.a && (preB p F.vars S i s.b && (inB s.x 0 (p - 1) && inB s.y 0 (p - 1)))) && decide (s.poly = sp (sumD p (nN F.vars) (dnT p F.vars (pAt S s.a)) s.x (dnT p F.vars (pAt S s.b)) s.y))
  else bif s.kind == 3 then (preB p F.vars S i s.a && (s.b == 0 && (inB s.x 1 F.vars && s.y == 0))) && decide (s.poly = sp (mulT p (nN F.vars) (sp (dnT p F.vars (pAt S s.a))) (sp (litD p (nN F.vars) s.x))))
  else false)
theorem preB_ok {p v : Int} (h : PV p v) {S : List PcStep} {i : Nat} (hi : i < S.length) {k : Int} (hk : preB p v S i k = true) : ∃ y, ix S k = some y ∧ Dn p (nN v) (dnT p v (pAt S k)) ∧ y.poly = sp (dnT p v (pAt S k)) := by
 unfold preB at hk
 rw [Bool.and_eq_true] at hk
 obtain ⟨y, h1, h2, h3⟩ := pre_at hi hk.1
 obtain ⟨d1, d2⟩ := dnT_ok h hk.2
 exact ⟨y, h1, d1, by rw [d2, h2]⟩
theorem cnf_at {F : Cnf} (hF : cnfB F = true) {k : Int} (hk : inB k 0 ((F.clauses.length : Int) - 1) = true) : ∃ c, ix F.clauses k = some c ∧ F.clauses[k.toNat]? = some c ∧ IsC F.vars c := by
 have := inB_iff.1 hk
 obtain ⟨c, h1, h2⟩ := ix_of (xs := F.clauses) (i := k) (by omega) (by omega)
 exact ⟨c, h1, h2, (cnf_bds hF).2 c (List.mem_of_getElem? h2)⟩
theorem spec_l20Correct_eq {p : Int} {F : Cnf} (h : PV p F.vars) (hF : cnfB F = true) {S : List PcStep} (hS : okPs S) {i : Nat} {s : PcStep} (hx : S[i]? = some s) : spec_l20Correct p F S (i : Int) = some (pcB p F S i s) := by
  have hi := (List.getElem?_eq_some_iff.1 hx).1
  have hp := h.pos
  have hl := (cnf_bds hF).1
  unfold spec_l20Correct pcB
  rw [ix_get, hx, bd_some, spec_l18Good_eq h (hS.2 s (List.mem_of_getElem? hx)), bd_some]
  cases hg : polyB p F.vars s.poly with
  | false => rfl
  | true =>
    simp only [Bool.not_true, cond_false, Bool.true_and, spec_l1In_eq, len_eq F.clauses]
    rw [wr_of ((F.clauses.length : Int) - 1) (by omega) (by omega), wr_of (p - 1) (by omega) (by omega)]
    cases h1 : s.kind == 1 with
    | true =>
      simp only [cond_true, bif_ff]
      have e : ((((s.b == 0) && (s.x == 0)) && (s.y == 0)) && inB s.a 0 ((F.clauses.length : Int) - 1)) = (inB s.a 0 ((F.clauses.length : Int) - 1) && (s.b == 0 && (s.x == 0 && s.y == 0))) := by
        cases s.b == 0 <;> cases s.x == 0 <;> cases s.y == 0 <;> cases inB s.a 0 ((F.clauses.length : Int) - 1) <;> rfl
      rw [e]
      cases hc : inB s.a 0 ((F.clauses.length : Int) - 1) && (s.b == 0 && (s.x == 0 && s.y == 0)) with
      | false => rfl
      | true =>
        obtain ⟨c, c1, c2, c3⟩ := cnf_at hF ((Bool.and_eq_true _ _).mp hc).1
        rw [c2]
        simp only [cond_true, c1, bd_some, spec_l18Clause_eq h c3, spec_l20Same_eq, Bool.true_and]
        rfl
    | false =>
      simp only [cond_false]
      cases h2 : s.kind == 2 with
      | true =>
        have h3 : (s.kind == 3) = false := by have : s.kind = 2 := by simpa using h2
                                              rw [this]; rfl
        simp only [Bool.not_true, cond_false, cond_true, spec_l20Earlier_eq h hS hi, bd_some, h3]
        cases ha : preB p F.vars S i s.a with
        | false => rfl
        | true =>
          simp only [Bool.not_true, cond_false, Bool.true_and]
          cases hb : preB p F.vars S i s.b with
          | false => rfl
          | true =>
            cases hx0 : inB s.x 0 (p - 1) with
            | false => rfl
            | true =>
              cases hy0 : inB s.y 0 (p - 1) with
              | false => rfl
              | true =>
                have b1 := inB_iff.1 hx0; have b2 := inB_iff.1 hy0
                obtain ⟨y, y1, y2, y3⟩ := preB_ok h hi ha
                obtain ⟨z, z1, z2, z3⟩ := preB_ok h hi hb
                simp only [Bool.not_true, cond_false, y1, z1, bd_some, y3, z3, spec_l20Sum_eq h (⟨by omega, by omega⟩ : 0 ≤ s.x ∧ s.x ≤ 5) (⟨by omega, by omega⟩ : 0 ≤ s.y ∧ s.y ≤ 5) y2 z2, spec_l20Same_eq, Bool.true_and]
      | false =>
        simp only [Bool.not_false, cond_true, cond_false]
        cases h3 : s.kind == 3 with
        | false => rfl
        | true =>
          simp only [Bool.not_true, cond_false, cond_true, spec_l20Earlier_eq h hS hi, bd_some, bif_ff]
          cases ha : preB p F.vars S i s.a with
          | false => rfl
          | true =>
            simp only [Bool.not_true, cond_false, Bool.true_and]
            have e : (((s.b == 0) && (s.y == 0)) && inB s.x 1 F.vars) = (s.b == 0 && (inB s.x 1 F.vars && s.y == 0)) := by
              cases s.b == 0 <;> cases s.y == 0 <;> cases inB s.x 1 F.vars <;> rfl
            rw [e]
            cases hc : s.b == 0 && (inB s.x 1 F.vars && s.y == 0) with
            | false => rfl
            | true =>
              have hc1 := (Bool.and_eq_true _ _).mp ((Bool.and_eq_true _ _).mp hc).2
              have b1 := inB_iff.1 hc1.1
              obtain ⟨y, y1, y2, y3⟩ := preB_ok h hi ha
              simp only [cond_true, y1, bd_some, y3, spec_l20Times_eq h y2 b1.1 b1.2, spec_l20Same_eq, Bool.true_and]
theorem dense_Equal_eq (a b : List Int) : slices_Equal_impl_dense_int a b = some (a == b) := same_eq a b
open Classical in
theorem eq_dense {p v : Int} (h : PV p v) {a : List Int} {A : List Term} (ha : Dn p (nN v) a) (hA : polyB p v A = true) : (a == dnT p v A) = decide (A = sp a) := by
 obtain ⟨d1, d2⟩ := dnT_ok h hA
 rw [Bool.eq_iff_iff, beq_iff_eq, decide_eq_true_eq]
 exact ⟨fun e => by rw [e, d2], fun e => sp_inj h ha d1 (by rw [d2, e])⟩
theorem alg_q2 {p : Int} {F : Cnf} {k : Int} {c : List Int} (h1 : ix F.clauses k = some c) : ix (alg p F).q k = some (clD p (nN F.vars) c) := by
 obtain ⟨h0, h2, h3⟩ := ix_some h1
 unfold ix; rw [if_pos h0]
 show (F.clauses.map fun c => clD p (nN F.vars) c)[k.toNat]? = _
 rw [List.getElem?_map, h3]; rfl
theorem impl_pcCorrect_eq {p : Int} {F : Cnf} (h : PV p F.vars) (hF : cnfB F = true) {S : List PcStep} (hS : okPs S) {i : Nat} {s : PcStep} (hx : S[i]? = some s) : impl_algebra_pcCorrect (alg p F) S (i : Int) = some (pcB p F S i s) := by
  have hi := (List.getElem?_eq_some_iff.1 hx).1
  have hp := h.pos
  have hl := (cnf_bds hF).1
  have hr : (alg p F).ring = ⟨p, F.vars⟩ := rfl
  have hql : len (alg p F).q = (F.clauses.length : Int) := by rw [len_eq]; show ((F.clauses.map _).length : Int) = _; rw [List.length_map]
  -- what a due polynomial comes to
  have key : ∀ (d : List Int) (b : Bool), impl_algebra_pcDue (alg p F) S (i : Int) = some (bif b then (d, true) else ([], false)) → (b = true → Dn p (nN F.vars) d) → ∀ (f : List Term → Bool), (b = true → ∀ A, polyB p F.vars A = true → (d == dnT p F.vars A) = f A) →
      impl_algebra_pcCorrect (alg p F) S (i : Int) = some (polyB p F.vars s.poly && (b && f s.poly)) := fun d b hd hdn f hf => by
    unfold impl_algebra_pcCorrect
    rw [hd, bd_some]
    cases b with
    | false => simp
    | true =>
      simp only [cond_true, ix_get, hx, bd_some, hr, impl_ring_is_eq h (hS.2 s (List.mem_of_getElem? hx)), Bool.true_and]
      cases hg : polyB p F.vars s.poly with
      | false => rfl
      | true =>
        obtain ⟨d1, d2⟩ := dnT_ok h hg
        have hd := impl_ring_dense_eq h d1
        rw [d2] at hd
        simp only [cond_true, hd, bd_some, dense_Equal_eq, hf rfl s.poly hg, Bool.true_and]
  have due : impl_algebra_pcDue (alg p F) S (i : Int) = bd (some s) fun x => (bif (bif (bif (bif (bif (x.kind == 1) then inB x.a 0 ((F.clauses.length : Int) - 1) else false) then (x.b == 0) else false) then (x.x == 0) else false) then (x.y == 0) else false) then bd (ix (alg p F).q x.a) (fun q => some (q, true)) else
      (bif (bif (bif (bif (bif (x.kind == 2) then preB p F.vars S i x.a else false) then preB p F.vars S i x.b else false) then inB x.x 0 (p - 1) else false) then inB x.y 0 (p - 1) else false) then some (sumD p (nN F.vars) (dnT p F.vars (pAt S x.a)) x.x (dnT p F.vars (pAt S x.b)) x.y, true) else
      (bif (bif (bif (bif (bif (x.kind == 3) then preB p F.vars S i x.a else false) then (x.b == 0) else false) then inB x.x 1 F.vars else false) then (x.y == 0) else false) then some (mulT p (nN F.vars) (sp (dnT p F.vars (pAt S x.a))) (sp (litD p (nN F.vars) x.x)), true) else some ([], false)))) := by
    unfold impl_algebra_pcDue
    rw [ix_get, hx, bd_some, impl_polyBefore_eq h hS hi, bd_some, impl_polyBefore_eq h hS hi, bd_some, bd_some]
    have hrp : (alg p F).ring.p = p := rfl
    have hrv : (alg p F).ring.vars = F.vars := rfl
    simp only [impl_within_eq, impl_isVar_eq, hql, hrp, hrv, bif_ff]
    rw [wr_of ((F.clauses.length : Int) - 1) (by omega) (by omega), wr_of (p - 1) (by omega) (by omega)]
    have e2 : ∀ (c : Bool) (d : List Int), (bif c then (d, true) else ([], false)).2 = c := fun c d => by cases c <;> rfl
    simp only [e2]
    refine bif_congr3 rfl rfl ?_
    cases ha : preB p F.vars S i s.a with
    | false => simp
    | true =>
      obtain ⟨y, y1, y2, y3⟩ := preB_ok h hi ha
      refine bif_congr4 (fun hc => ?_) (bif_congr4 (fun hc => ?_) rfl)
      · simp only [Bool.and_eq_true] at hc
        obtain ⟨⟨⟨⟨_, _⟩, hb⟩, hx0⟩, hy0⟩ := hc
        have b1 := inB_iff.1 hx0; have b2 := inB_iff.1 hy0
        obtain ⟨z, z1, z2, z3⟩ := preB_ok h hi hb
        rw [hb]
        simp only [cond_true, hr]
        rw [impl_zero_eq (r := ⟨p, F.vars⟩) h, bd_some, impl_plus_eq (r := ⟨p, F.vars⟩) h ⟨by omega, by omega⟩ (zs_Dn hp.1) y2, bd_some,
          impl_plus_eq (r := ⟨p, F.vars⟩) h ⟨by omega, by omega⟩ (vadd_Dn hp.1 (zs_Dn hp.1).len y2.len) z2, bd_some]
        rfl
      · simp only [Bool.and_eq_true] at hc
        obtain ⟨⟨⟨⟨_, _⟩, hb⟩, hx0⟩, hy0⟩ := hc
        have b1 := inB_iff.1 hx0
        simp only [cond_true, hr]
        rw [impl_literal_eq (r := ⟨p, F.vars⟩) h (l := s.x) (by omega) (by show -F.vars ≤ _; omega) b1.2, bd_some, impl_times_eq (r := ⟨p, F.vars⟩) h y2 (litD_Dn hp.1 _), bd_some]
  rw [bd_some] at due
  unfold pcB
  cases h1 : s.kind == 1 with
  | true =>
    have h2 : (s.kind == 2) = false := by have : s.kind = 1 := by simpa using h1
                                          rw [this]; rfl
    have h3 : (s.kind == 3) = false := by have : s.kind = 1 := by simpa using h1
                                          rw [this]; rfl
    rw [h1, h2, h3] at due
    simp only [bif_ff, Bool.true_and, cond_false] at due
    simp only [cond_true]
    have e : (((inB s.a 0 ((F.clauses.length : Int) - 1) && (s.b == 0)) && (s.x == 0)) && (s.y == 0)) = (inB s.a 0 ((F.clauses.length : Int) - 1) && (s.b == 0 && (s.x == 0 && s.y == 0))) := by
      cases s.b == 0 <;> cases s.x == 0 <;> cases s.y == 0 <;> cases inB s.a 0 ((F.clauses.length : Int) - 1) <;> rfl
    rw [e] at due
    refine key (clD p (nN F.vars) ((F.clauses[s.a.toNat]?).getD [])) _ ?_ (fun _ => clD_Dn hp.1 _) _ (fun _ A hA => eq_dense h (clD_Dn hp.1 _) hA)
    rw [due]
    cases hc : inB s.a 0 ((F.clauses.length : Int) - 1) && (s.b == 0 && (s.x == 0 && s.y == 0)) with
    | false => rfl
    | true =>
      obtain ⟨c, c1, c2, c3⟩ := cnf_at hF ((Bool.and_eq_true _ _).mp hc).1
      simp only [cond_true, alg_q2 c1, bd_some, c2, Option.getD_some]
  | false =>
    rw [h1] at due
    simp only [bif_ff, cond_false] at due
    simp only [cond_false]
    cases h2 : s.kind == 2 with
    | true =>
      have h3 : (s.kind == 3) = false := by have : s.kind = 2 := by simpa using h2
                                            rw [this]; rfl
      rw [h2, h3] at due
      simp only [Bool.true_and, Bool.false_and, cond_false] at due
      simp only [cond_true]
      rw [Bool.and_assoc, Bool.and_assoc] at due
      rw [show (preB p F.vars S i s.a && (preB p F.vars S i s.b && (inB s.x 0 (p - 1) && inB s.y 0 (p - 1)))) = (preB p F.vars S i s.a && (preB p F.vars S i s.b && (inB s.x 0 (p - 1) && inB s.y 0 (p - 1)))) from rfl]
      have hdn : (preB p F.vars S i s.a && (preB p F.vars S i s.b && (inB s.x 0 (p - 1) && inB s.y 0 (p - 1)))) = true → Dn p (nN F.vars) (sumD p (nN F.vars) (dnT p F.vars (pAt S s.a)) s.x (dnT p F.vars (pAt S s.b)) s.y) := fun hc => by
        simp only [Bool.and_eq_true] at hc
        obtain ⟨y, y1, y2, y3⟩ := preB_ok h hi hc.1
        obtain ⟨z, z1, z2, z3⟩ := preB_ok h hi hc.2.1
        exact sumD_Dn hp.1 y2 z2
      refine key _ _ ?_ hdn _ (fun hc A hA => eq_dense h (hdn hc) hA)
      rw [due]
      cases preB p F.vars S i s.a <;> cases preB p F.vars S i s.b <;> cases inB s.x 0 (p - 1) <;> cases inB s.y 0 (p - 1) <;> rfl
    | false =>
      rw [h2] at due
      simp only [Bool.false_and, cond_false] at due
      simp only [cond_false]
      cases h3 : s.kind == 3 with
      | true =>
        rw [h3] at due
        simp only [Bool.true_and] at due
        simp only [cond_true]
        have hdn : (preB p F.vars S i s.a && (s.b == 0 && (inB s.x 1 F.vars && s.y == 0))) = true → Dn p (nN F.vars) (mulT p (nN F.vars) (sp (dnT p F.vars (pAt S s.a))) (sp (litD p (nN F.vars) s.x))) := fun _ => mulT_Dn hp.1 _ _
        refine key _ _ ?_ hdn _ (fun hc A hA => eq_dense h (hdn hc) hA)
        rw [due]
        cases preB p F.vars S i s.a <;> cases s.b == 0 <;> cases inB s.x 1 F.vars <;> cases s.y == 0 <;> rfl
      | false =>
        rw [h3] at due
        simp only [Bool.false_and, cond_false] at due
        have := key [] false due nofun (fun _ => false) nofun
        rw [this]; rfl
end Go.PF
namespace Go.PF
open Go.Pu
noncomputable def pcdB (p : Int) (F : Cnf) (S : List PcStep) : Bool := decide (len S ≤ 300) && !anyI (fun i s => !pcB p F S i s) S 0
theorem spec_l20Wrong_eq {p : Int} {F : Cnf} (h : PV p F.vars) (hF : cnfB F = true) {S : List PcStep} (hS : okPs S) : ∃ r, spec_l20Wrong p F S = some r ∧ decide (r < 0) = !anyI (fun i s => !pcB p F S i s) S 0 := by
 unfold spec_l20Wrong
 rw [forL_find (p := fun i s => !pcB p F S i s) (v := fun i _ => (i : Int)) (fun i y hy => by rw [spec_l20Correct_eq h hF hS hy, bd_some])]
 cases hf : findI (fun i s => !pcB p F S i s) S 0 with
 | none => exact ⟨-1, rfl, by rw [findI_none.1 hf]; rfl⟩
 | some z =>
  obtain ⟨_, _, _, h4⟩ := findI_some hf
  exact ⟨_, rfl, by rw [h4]; simp⟩
theorem spec_l20Good_eq {p : Int} {F : Cnf} {S : List PcStep} (hF : okCnf F) (hS : okPs S) : spec_l20Good p F S = some (algB p F && pcdB p F S) := by
 unfold spec_l20Good pcdB
 rw [spec_l20Asked_eq hF, bd_some]
 cases ha : algB p F with
 | false => rfl
 | true =>
  unfold algB at ha
  have ha1 := (Bool.and_eq_true _ _).mp ha
  have h := pvB_iff.1 ha1.1
  obtain ⟨r, r1, r2⟩ := spec_l20Wrong_eq h ha1.2 hS
  simp only [cond_true, Bool.true_and]
  cases decide (len S ≤ 300) with
  | false => rfl
  | true => simp only [cond_true, r1, bd_some, r2, Bool.true_and]
theorem impl_firstWrongPc_eq {p : Int} {F : Cnf} (h : PV p F.vars) (hF : cnfB F = true) {S : List PcStep} (hS : okPs S) : ∃ r, impl_algebra_firstWrongPc (alg p F) S = some r ∧ decide (r < 0) = !anyI (fun i s => !pcB p F S i s) S 0 := by
 unfold impl_algebra_firstWrongPc
 rw [forL_find (p := fun i s => !pcB p F S i s) (v := fun i _ => (i : Int)) (fun i y hy => by rw [impl_pcCorrect_eq h hF hS hy, bd_some])]
 cases hf : findI (fun i s => !pcB p F S i s) S 0 with
 | none => exact ⟨-1, rfl, by rw [findI_none.1 hf]; rfl⟩
 | some z =>
  obtain ⟨_, _, _, h4⟩ := findI_some hf
  exact ⟨_, rfl, by rw [h4]; simp⟩
theorem impl_pcDerivation_eq {p : Int} {F : Cnf} (ha : algB p F = true) {S : List PcStep} (hS : okPs S) : impl_algebra_pcDerivation (alg p F) S = some (pcdB p F S) := by
 unfold algB at ha
 have ha1 := (Bool.and_eq_true _ _).mp ha
 have h := pvB_iff.1 ha1.1
 obtain ⟨r, r1, r2⟩ := impl_firstWrongPc_eq h ha1.2 hS
 unfold impl_algebra_pcDerivation pcdB
 cases decide (len S ≤ 300) with
 | false => rfl
 | true => simp only [cond_true, r1, bd_some, r2, Bool.true_and]
end Go.PF
namespace Go.PF
open Go.Pu
structure okC (n : Nat) (c : l1Cur) : Prop where
 code : okL okU8 c.code
 lo : 0 ≤ c.at_
 hi : c.at_ + n ≤ 4611686018427387904
theorem okC.le {n m : Nat} {c : l1Cur} (h : okC n c) (hm : m ≤ n := by omega) : okC m c := ⟨h.code, h.lo, by have := h.hi; omega⟩
def Dr {A : Type} (n : Nat) (x : Option (A × l1Cur)) (Q : A → Prop) : Prop := ∃ a c, x = some (a, c) ∧ okC n c ∧ Q a
theorem wrk_nn {n : Int} (h0 : 0 ≤ n) (h1 : n < 9223372036854775808) : wrk true 64 n = n := by
 unfold wrk
 have h2 : (n % (2 ^ 64 : Int)) = n := Int.emod_eq_of_lt h0 (by omega)
 rw [h2]
 simp only [Bool.true_and]
 rw [if_neg]
 simp
 omega
theorem andK_small (x : Int) : 0 ≤ andK false 64 x 255 ∧ andK false 64 x 255 ≤ 255 := by
 unfold andK
 have h : ((BitVec.ofInt 64 x &&& BitVec.ofInt 64 255).toNat : Int) ≤ 255 := by
  rw [BitVec.toNat_and]
  have : (BitVec.ofInt 64 x).toNat &&& (BitVec.ofInt 64 255).toNat ≤ (BitVec.ofInt 64 255).toNat := Nat.and_le_right
  have e : (BitVec.ofInt 64 255).toNat = 255 := by decide
  omega
 generalize hk : ((BitVec.ofInt 64 x &&& BitVec.ofInt 64 255).toNat : Int) = k at *
 have h0 : 0 ≤ k := by rw [← hk]; exact Int.natCast_nonneg _
 unfold wrk
 simp only [Bool.false_and, Bool.false_eq_true, if_false]
 rw [Int.emod_eq_of_lt h0 (by omega)]
 exact ⟨h0, h⟩
theorem dr_next {n : Nat} {c : l1Cur} (h : okC (n + 1) c) : Dr n (spec_l1Cur_next c) fun b => 0 ≤ b ∧ b ≤ 255 := by
 have hl := h.lo; have hh := h.hi
 have hw : wr (c.at_ + 1) = c.at_ + 1 := wr_of _ (by omega) (by omega)
 have tail : ∀ s : Int, 0 ≤ s → s ≤ 255 → Dr n (bif (decide ((wr (c.at_ + 1)) ≤ (len c.code))) then some (s, (l1Cur.mk c.code (wr (c.at_ + 1)) (wrk false 64 ((wrk false 64 ((wrk false 64 (c.seed * 6364136223846793005)) + (wrk false 64 s))) + 337411)))) else some ((wrk true 64 (andK false 64 (shrK 64 (wrk false 64 ((wrk false 64 ((wrk false 64 (c.seed * 6364136223846793005)) + (wrk false 64 s))) + 337411)) 40) 255)), (l1Cur.mk c.code (wr (c.at_ + 1)) (wrk false 64 ((wrk false 64 ((wrk false 64 (c.seed * 6364136223846793005)) + (wrk false 64 s))) + 337411))))) (fun b => 0 ≤ b ∧ b ≤ 255) := by
  intro s h0 h1
  rw [hw]
  cases decide (c.at_ + 1 ≤ len c.code)
  · have := andK_small (shrK 64 (wrk false 64 ((wrk false 64 ((wrk false 64 (c.seed * 6364136223846793005)) + (wrk false 64 s))) + 337411)) 40)
    refine ⟨_, _, rfl, ⟨h.code, by show 0 ≤ c.at_ + 1; omega, by show c.at_ + 1 + _ ≤ _; omega⟩, ?_⟩
    show 0 ≤ wrk true 64 _ ∧ wrk true 64 _ ≤ 255
    rw [wrk_nn this.1 (by omega)]; exact this
  · exact ⟨_, _, rfl, ⟨h.code, by show 0 ≤ c.at_ + 1; omega, by show c.at_ + 1 + _ ≤ _; omega⟩, h0, h1⟩
 unfold spec_l1Cur_next
 cases hd : decide (c.at_ < len c.code) with
 | false => exact tail 0 (by omega) (by omega)
 | true =>
  have h2 : c.at_ < c.code.length := of_decide_eq_true hd
  obtain ⟨x, hx, hg⟩ := ix_of h.lo h2
  have hm := h.code.2 x (List.mem_of_getElem? hg)
  simp only [cond_true]
  rw [hx, bd_some, bdR_go, wrk_nn hm.1 (by have := hm.2; omega)]
  exact tail x hm.1 hm.2
theorem Dr.bind {A B : Type} {n m : Nat} {x : Option (A × l1Cur)} {Q : A → Prop} {k : A × l1Cur → Option (B × l1Cur)} {R : B → Prop} (h : Dr n x Q) (hk : ∀ a c, okC n c → Q a → Dr m (k (a, c)) R) : Dr m (bd x k) R := by
 obtain ⟨a, c, rfl, hc, hq⟩ := h
 exact hk a c hc hq
theorem dr_pick {n : Nat} {c : l1Cur} (h : okC (n + 2) c) (k : Int) : Dr n (spec_l1Cur_pick c k) fun x => 0 ≤ x ∧ x ≤ 65535 ∧ (x = 0 ∨ x < k) := by
 unfold spec_l1Cur_pick
 cases hd : decide (k ≤ 1) with
 | true => exact ⟨_, _, rfl, h.le, by omega, by omega, .inl rfl⟩
 | false =>
  have hk : 1 < k := by have := of_decide_eq_false hd; omega
  have hz : nz k = some () := by unfold nz; rw [if_neg (by omega)]
  simp only [cond_false]
  have small : ∀ x : Int, 0 ≤ x → x ≤ 65535 → 0 ≤ x.tmod k ∧ x.tmod k ≤ 65535 ∧ (x.tmod k = 0 ∨ x.tmod k < k) := fun x h0 h1 => by
   rw [Int.tmod_eq_emod_of_nonneg h0]
   have g1 := Int.emod_nonneg x (show k ≠ 0 by omega)
   have g2 := Int.emod_lt_of_pos x (show 0 < k by omega)
   have g3 : x % k ≤ x := by
    have e := Int.mul_ediv_add_emod x k
    have := Int.mul_nonneg (show 0 ≤ k by omega) (Int.ediv_nonneg h0 (show 0 ≤ k by omega))
    omega
   exact ⟨g1, by omega, .inr g2⟩
  refine (dr_next (n := n + 1) h).bind fun b c1 hc1 hb => ?_
  cases decide (200 < k) with
  | true =>
   simp only [cond_true]
   refine (dr_next (n := n) hc1).bind fun b2 c2 hc2 hb2 => ?_
   rw [hz, bd_some]
   have e1 : wr (b * 256) = b * 256 := wr_of _ (by omega) (by omega)
   have e2 : wr (b * 256 + b2) = b * 256 + b2 := wr_of _ (by omega) (by omega)
   exact ⟨_, _, rfl, hc2, by show 0 ≤ (wr (wr (b * 256) + b2)).tmod k ∧ _; rw [e1, e2]; exact small _ (by omega) (by omega)⟩
  | false =>
   simp only [cond_false]
   rw [hz, bd_some]
   exact ⟨_, _, rfl, hc1.le, small b hb.1 (by omega)⟩
theorem dr_one {n : Nat} {c : l1Cur} (h : okC (n + 2) c) (k : Int) : Dr n (spec_l1Cur_one c k) fun _ => True := by
 unfold spec_l1Cur_one
 exact (dr_pick h k).bind fun a c1 h1 _ => ⟨_, _, rfl, h1, trivial⟩
theorem dr_ix {A : Type} {l : List A} (h : l ≠ []) {x : Int} (h0 : 0 ≤ x) (h1 : x = 0 ∨ x < len l) : ∃ y, ix l x = some y ∧ y ∈ l := by
 have hl : 0 < l.length := List.length_pos_iff.2 h
 rw [len_eq] at h1
 obtain ⟨y, hy, hg⟩ := ix_of (xs := l) h0 (by omega)
 exact ⟨y, hy, List.mem_of_getElem? hg⟩
theorem dr_among {n : Nat} {c : l1Cur} (h : okC (n + 2) c) {l : List Int} (hl : l ≠ []) : Dr n (spec_l1Cur_among c l) fun x => x ∈ l := by
 unfold spec_l1Cur_among
 refine (dr_pick h (len l)).bind fun a c1 h1 hq => ?_
 obtain ⟨y, hy, hm⟩ := dr_ix hl hq.1 hq.2.2
 show Dr n (bd (ix l a) _) _
 rw [hy]
 exact ⟨_, _, rfl, h1, hm⟩
theorem dr_of {n : Nat} {c : l1Cur} (h : okC (n + 2) c) {l : List ByteArray} (hl : l ≠ []) : Dr n (spec_l1Cur_of c l) fun x => x ∈ l := by
 unfold spec_l1Cur_of
 refine (dr_pick h (len l)).bind fun a c1 h1 hq => ?_
 obtain ⟨y, hy, hm⟩ := dr_ix hl hq.1 hq.2.2
 show Dr n (bd (ix l a) _) _
 rw [hy]
 exact ⟨_, _, rfl, h1, hm⟩
theorem iter_near {T X : Type} {body : T → Option (Lp T X)} (m : T → Nat) (I : T → Prop) (P : Rs T X → Prop)
 (h : ∀ s, I s → (∃ s', body s = some (.nx s') ∧ I s' ∧ m s' < m s) ∨ (∃ s', body s = some (.bk s') ∧ P (.go s')) ∨ ∃ x, body s = some (.rt x) ∧ P (.rt x)) : ∀ s, I s → ∃ q, iter body s = some q ∧ P q := by
 have key : ∀ k s, m s < k → I s → ∃ q, iter body s = some q ∧ P q := by
  intro k
  induction k with
  | zero => intro s hk; omega
  | succ k ih =>
   intro s hk hi
   rcases h s hi with ⟨s', hb, hi', hm⟩ | ⟨s', hb, hp⟩ | ⟨x, hb, hp⟩
   · obtain ⟨q, hq, hp⟩ := ih s' (by omega) hi'
     exact ⟨q, (iter_nx hb).trans hq, hp⟩
   · exact ⟨_, iter_bk hb, hp⟩
   · exact ⟨_, iter_rt hb, hp⟩
 intro s hi
 exact key _ s (Nat.lt_succ_self _) hi
theorem dr_loop {T B : Type} {body : T → Option (Lp T Empty)} {s0 : T} {k : T → Option (B × l1Cur)} {lx : Empty → Option (B × l1Cur)} {n : Nat} {R : B → Prop} (m : T → Nat) (I : T → Prop) (J : T → Prop)
 (h0 : I s0) (h : ∀ s, I s → (∃ s', body s = some (.nx s') ∧ I s' ∧ m s' < m s) ∨ (∃ s', body s = some (.bk s') ∧ J s')) (hk : ∀ s, J s → Dr n (k s) R) : Dr n (bdR (iter body s0) k lx) R := by
 obtain ⟨q, hq, hp⟩ := iter_near (body := body) m I (fun q => match q with | .go s => J s | .rt x => x.elim) (fun s hs => by
  rcases h s hs with g | g
  · exact .inl g
  · exact .inr (.inl g)) s0 h0
 rw [hq]
 cases q with
 | go s => exact hk s hp
 | rt x => exact x.elim
theorem loop_ex {T B : Type} {body : T → Option (Lp T Empty)} {s0 : T} {k : T → Option B} {lx : Empty → Option B} {R : B → Prop} (m : T → Nat) (I : T → Prop) (J : T → Prop)
 (h0 : I s0) (h : ∀ s, I s → (∃ s', body s = some (.nx s') ∧ I s' ∧ m s' < m s) ∨ (∃ s', body s = some (.bk s') ∧ J s')) (hk : ∀ s, J s → ∃ r, k s = some r ∧ R r) : ∃ r, bdR (iter body s0) k lx = some r ∧ R r := by
 obtain ⟨q, hq, hp⟩ := iter_near (body := body) m I (fun q => match q with | .go s => J s | .rt x => x.elim) (fun s hs => by
  rcases h s hs with g | g
  · exact .inl g
  · exact .inr (.inl g)) s0 h0
 rw [hq]
 cases q with
 | go s => exact hk s hp
 | rt x => exact x.elim
theorem nx_of {T X : Type} {x : Option (Lp T X)} {P : T → Prop} (h : ∃ r, x = some r ∧ ∃ s', r = .nx s' ∧ P s') : ∃ s', x = some (.nx s') ∧ P s' := by
 obtain ⟨r, e, s', rfl, hp⟩ := h; exact ⟨s', e, hp⟩
def okIs (c : List Int) : Prop := ∀ x ∈ c, okI x
theorem okI_wr (n : Int) : okI (wr n) := wr_bd n
theorem without_sub {c : List Int} {v x : Int} (h : x ∈ without c v) : x ∈ c := (List.mem_filter.1 h).1
theorem dr_clause {n : Nat} {c : l1Cur} (h : okC (n + 30) c) (v : Int) : Dr n (spec_l1Cur_clause c v) fun x => x.length ≤ 4 ∧ okIs x := by
 unfold spec_l1Cur_clause
 refine (dr_among (n := n + 28) h (by simp)).bind fun k c1 h1 hk => ?_
 have hk4 : 0 ≤ k ∧ k ≤ 4 := by simp only [List.mem_cons, List.not_mem_nil, or_false] at hk; omega
 refine dr_loop (fun s => s.2.2.2.2.toNat) (fun s => okC (n + 4 * s.2.2.2.2.toNat) (l1Cur.mk s.1 s.2.1 s.2.2.1) ∧ 0 ≤ s.2.2.2.2 ∧ s.2.2.2.1.length + s.2.2.2.2 ≤ 4 ∧ okIs s.2.2.2.1) (fun s => okC n (l1Cur.mk s.1 s.2.1 s.2.2.1) ∧ s.2.2.2.1.length ≤ 4 ∧ okIs s.2.2.2.1)
  ⟨h1.le (by show n + 4 * k.toNat ≤ _; omega), hk4.1, by show (([] : List Int).length : Int) + k ≤ 4; simp; omega, fun x hx => by cases hx⟩ ?_ (fun s hs => ⟨_, _, rfl, hs⟩)
 rintro ⟨cd, at_, sd, out, j⟩ ⟨g1, g2, g3, g4⟩
 simp only at g1 g2 g3 g4 ⊢
 cases hd : (bif decide (0 < j) then decide (0 < v) else false) with
 | false =>
  simp only [cond_false]
  exact .inr ⟨_, rfl, g1.le, by show out.length ≤ 4; omega, g4⟩
 | true =>
  have hj : 0 < j := by
   cases hx : decide (0 < j) with
   | true => exact of_decide_eq_true hx
   | false => rw [hx] at hd; cases hd
  have hlim : lim = 4294967296 := rfl
  have hw : wr (j - 1) = j - 1 := wr_of _ (by omega) (by omega)
  left
  simp only [cond_true]
  have e0 : n + 4 * j.toNat = (n + 4 * (j - 1).toNat + 2) + 2 := by omega
  rw [e0] at g1
  obtain ⟨r, c2, e1, k1, k2⟩ := dr_pick g1 v
  rw [e1, bd_some]
  have hwl := List.length_filter_le (fun y => !(vr y == wr (1 + r))) out
  rw [spec_l2Without_eq (by omega), bd_some]
  obtain ⟨b, c3, e2, k3, _⟩ := dr_one k1 2
  simp only
  rw [e2, bd_some]
  have hlen : (without out (wr (1 + r))).length ≤ out.length := hwl
  have fin : ∀ y, okI y → (putL (without out (wr (1 + r))) y).length + (j - 1) ≤ 4 ∧ okIs (putL (without out (wr (1 + r))) y) := fun y hy => by
   rw [putL_length]
   refine ⟨by omega, fun x hx => ?_⟩
   rcases putL_mem.1 hx with rfl | hx
   · exact hy
   · exact g4 x (without_sub hx)
  cases b with
  | true =>
   simp only [cond_true]
   rw [spec_l2Put_eq (by omega), bd_some]
   have f := fin (wr (-(wr (1 + r)))) (okI_wr _)
   exact ⟨_, rfl, ⟨by rw [hw]; exact k3, by dsimp only; rw [hw]; omega, by rw [hw]; exact f.1, f.2⟩, by dsimp only; rw [hw]; omega⟩
  | false =>
   simp only [cond_false]
   rw [spec_l2Put_eq (by omega), bd_some]
   have f := fin (wr (1 + r)) (okI_wr _)
   exact ⟨_, rfl, ⟨by rw [hw]; exact k3, by dsimp only; rw [hw]; omega, by rw [hw]; exact f.1, f.2⟩, by dsimp only; rw [hw]; omega⟩
end Go.PF
namespace Go.PF
open Go.Pu
structure Le {A : Type} (x y : Option A) : Prop where
 le : ∀ r, x = some r → y = some r
theorem Le.rfl' {A : Type} (x : Option A) : Le x x := ⟨fun _ h => h⟩
def iterC {S X : Type} : Nat → (S → Option (Lp S X)) → S → Option (Rs S X)
 | 0, _, _ => none
 | n + 1, b, s => match b s with
  | none => none
  | some (.nx s') => iterC n b s'
  | some (.bk s') => some (.go s')
  | some (.rt x) => some (.rt x)
theorem iterC_le {S X : Type} {f g : S → Option (Lp S X)} (h : ∀ s, Le (f s) (g s)) (n : Nat) (s : S) : Le (iterC n f s) (iter g s) := by
 constructor
 induction n generalizing s with
 | zero => intro r e; cases e
 | succ n ih =>
  intro r e
  unfold iterC at e
  split at e
  · cases e
  · rename_i s' hb; rw [iter_nx ((h s).le _ hb)]; exact ih _ _ e
  · rename_i s' hb; cases e; exact iter_bk ((h s).le _ hb)
  · rename_i x hb; cases e; exact iter_rt ((h s).le _ hb)
theorem bd_le {A B : Type} {x y : Option A} {k l : A → Option B} (h : Le x y) (hk : ∀ a, Le (k a) (l a)) : Le (bd x k) (bd y l) := by
 constructor
 intro r e
 obtain ⟨a, h1, h2⟩ := bnd e
 rw [h.le _ h1, bd_some]; exact (hk a).le _ h2
theorem bdR_le {S X B : Type} {x y : Option (Rs S X)} {k k' : S → Option B} {l l' : X → Option B} (h : Le x y) (hk : ∀ a, Le (k a) (k' a)) (hl : ∀ a, Le (l a) (l' a)) : Le (bdR x k l) (bdR y k' l') := by
 unfold bdR
 refine bd_le h fun a => ?_
 cases a with
 | go s => exact hk s
 | rt x => exact hl x
theorem bif_le {A : Type} {c : Bool} {x x' y y' : Option A} (h : Le x x') (h' : Le y y') : Le (bif c then x else y) (bif c then x' else y') := by
 cases c
 · exact h'
 · exact h
theorem forFrom_le {S X : Type} {f g : Nat → S → Option (Lp S X)} (h : ∀ i s, Le (f i s) (g i s)) : ∀ (n i : Nat) (s : S), Le (forFrom f n i s) (forFrom g n i s) := by
 intro n
 induction n with
 | zero => intro i s; exact Le.rfl' _
 | succ n ih =>
  intro i s
  constructor
  intro r e
  unfold forFrom at e ⊢
  split at e
  · cases e
  · rename_i s' hb; rw [(h i s).le _ hb]; exact (ih _ _).le _ e
  · rename_i s' hb; rw [(h i s).le _ hb]; exact e
  · rename_i x hb; rw [(h i s).le _ hb]; exact e
theorem forR_le {S X : Type} {f g : Nat → S → Option (Lp S X)} (h : ∀ i s, Le (f i s) (g i s)) (a n : Nat) (s : S) : Le (forR a n f s) (forR a n g s) := forFrom_le h _ _ _
end Go.PF
namespace Go.PF
open Go.Pu
def c_spec_l2Parse (a0 : Int) (a1 : ByteArray) : Option ((List Int) × Bool) :=
 (bif (a1.toList == (ByteArray.mk #[110, 111, 110, 101]).toList) then some ([], (PF.spec_l2Vars a0)) else bd (PF.spec_l1Split a1 32) (fun r30 => bdR (iterC 70 (S := ((List Int) × Int)) (X := ((List Int) × Bool)) (fun s40 => (bif (bif (decide (s40.2 < (len r30))) then (decide (s40.2 ≤ 12)) else false) then bd (ix r30 s40.2) (fun x134 => bd (PF.spec_l1Read x134) (fun r136 => (bif (!r136.2) then some (Lp.rt ([], false)) else bd (app s40.1 [r136.1]) (fun xs152 => some (Lp.nx (xs152, (wr (s40.2 + 1)))))))) else some (Lp.bk (s40.1, s40.2)))) ([], 0)) (fun s40 => bd (bif (decide (12 < (len r30))) then some true else bd (PF.spec_l2Clause a0 s40.1) (fun r195 => some (!r195))) (fun t183 => bd (bif t183 then some true else bd (PF.spec_l2Text s40.1) (fun r225 => some (!(r225.toList == a1.toList)))) (fun t213 => (bif t213 then some ([], false) else some (s40.1, true))))) (fun x40 => some x40)))
theorem c_spec_l2Parse_le : ∀ (a0 : Int) (a1 : ByteArray), Le (c_spec_l2Parse a0 a1) (spec_l2Parse a0 a1) := by
 intro a0 a1
 unfold c_spec_l2Parse spec_l2Parse
 repeat' first | with_reducible exact Le.rfl' _  | with_reducible apply iterC_le | with_reducible apply bdR_le | with_reducible apply bd_le | with_reducible apply forR_le | with_reducible apply bif_le | exact Empty.elim (by assumption) | intro _
def c_spec_l2TextOf (a0 : Cnf) : Option ByteArray :=
 bd (PF.spec_l1Num a0.vars) (fun r29 => bdR (iterC 70 (S := (ByteArray × Int)) (X := Empty) (fun s34 => (bif (decide (s34.2 < (len a0.clauses))) then bd (catS s34.1 (ByteArray.mk #[59, 32])) (fun z72 => bd (ix a0.clauses s34.2) (fun x80 => bd (PF.spec_l2Text x80) (fun r84 => bd (catS z72 r84) (fun z89 => some (Lp.nx (z89, (wr (s34.2 + 1)))))))) else some (Lp.bk (s34.1, s34.2)))) (r29, 0)) (fun s34 => some s34.1) (fun x34 => nomatch x34))
theorem c_spec_l2TextOf_le : ∀ (a0 : Cnf), Le (c_spec_l2TextOf a0) (spec_l2TextOf a0) := by
 intro a0
 unfold c_spec_l2TextOf spec_l2TextOf
 repeat' first | with_reducible exact Le.rfl' _  | with_reducible apply iterC_le | with_reducible apply bdR_le | with_reducible apply bd_le | with_reducible apply forR_le | with_reducible apply bif_le | exact Empty.elim (by assumption) | intro _
def c_spec_ParseCnf (a0 : ByteArray) : Option (Cnf × Bool) :=
 bd (PF.spec_l1Split a0 59) (fun r25 => bd (ix r25 0) (fun x41 => bd (PF.spec_l1Read x41) (fun r43 => (bif (bif (bif (!r43.2) then true else (!(PF.spec_l2Vars r43.1))) then true else (decide (61 < (len r25)))) then some ((Cnf.mk 0 []), false) else bdR (iterC 70 (S := ((List (List Int)) × Int × Int)) (X := (Cnf × Bool)) (fun s94 => (bif (decide (s94.2.2 < (len r25))) then bd (ix r25 s94.2.2) (fun x334 => bd (bif (decide ((x334.size : Int) < 2)) then some true else bd (ix r25 s94.2.2) (fun x359 => bd (ixS x359 0) (fun z361 => some (!(z361 == 32))))) (fun t346 => (bif t346 then some (Lp.rt ((Cnf.mk 0 []), false)) else bd (ix r25 s94.2.2) (fun x380 => bd (cutS x380 1 (x380.size : Int)) (fun z382 => bd (PF.c_spec_l2Parse r43.1 z382) (fun r384 => (bif (!r384.2) then some (Lp.rt ((Cnf.mk 0 []), false)) else bd (app s94.1 [r384.1]) (fun xs409 => some (Lp.nx (xs409, s94.2.1, (wr (s94.2.2 + 1)))))))))))) else some (Lp.bk (s94.1, s94.2.1, s94.2.2)))) ([], r43.1, 1)) (fun s94 => bd (PF.c_spec_l2TextOf (Cnf.mk s94.2.1 s94.1)) (fun r439 => (bif (!(r439.toList == a0.toList)) then some ((Cnf.mk 0 []), false) else some ((Cnf.mk s94.2.1 s94.1), true)))) (fun x94 => some x94)))))
theorem c_spec_ParseCnf_le : ∀ (a0 : ByteArray), Le (c_spec_ParseCnf a0) (spec_ParseCnf a0) := by
 intro a0
 have h_spec_l2Parse := c_spec_l2Parse_le
 have h_spec_l2TextOf := c_spec_l2TextOf_le
 unfold c_spec_ParseCnf spec_ParseCnf
 repeat' first | with_reducible exact Le.rfl' _ | with_reducible exact h_spec_l2Parse _ _ | with_reducible exact h_spec_l2TextOf _ | with_reducible apply iterC_le | with_reducible apply bdR_le | with_reducible apply bd_le | with_reducible apply forR_le | with_reducible apply bif_le | exact Empty.elim (by assumption) | intro _
def c_spec_l2Known (a0 : ByteArray) : Option Cnf :=
 bd (PF.c_spec_ParseCnf a0) (fun r25 => some r25.1)
theorem c_spec_l2Known_le : ∀ (a0 : ByteArray), Le (c_spec_l2Known a0) (spec_l2Known a0) := by
 intro a0
 have h_spec_ParseCnf := c_spec_ParseCnf_le
 unfold c_spec_l2Known spec_l2Known
 repeat' first | with_reducible exact Le.rfl' _ | with_reducible exact h_spec_ParseCnf _ | with_reducible apply iterC_le | with_reducible apply bdR_le | with_reducible apply bd_le | with_reducible apply forR_le | with_reducible apply bif_le | exact Empty.elim (by assumption) | intro _
def knownB (t : ByteArray) : Bool := match c_spec_l2Known t with
 | some f => cnfB f && decide (f.vars ≤ 4)
 | none => false
theorem knownB_all : (spec_l2Hard.all knownB) = true := by decide +kernel
theorem known_ok {t : ByteArray} (h : t ∈ spec_l2Hard) : ∃ f, spec_l2Known t = some f ∧ cnfB f = true ∧ f.vars ≤ 4 := by
 have h1 := List.all_eq_true.1 knownB_all t h
 unfold knownB at h1
 cases hc : c_spec_l2Known t with
 | none => rw [hc] at h1; cases h1
 | some f =>
  rw [hc] at h1
  simp only [Bool.and_eq_true, decide_eq_true_eq] at h1
  exact ⟨f, (c_spec_l2Known_le t).le _ hc, h1.1, h1.2⟩
end Go.PF
namespace Go.PF
open Go.Pu
structure SmC (N M : Nat) (f : Cnf) : Prop where
 vars : okI f.vars
 len : f.clauses.length ≤ N
 cl : ∀ c ∈ f.clauses, c.length ≤ M ∧ okIs c
theorem SmC.ok {N M : Nat} {f : Cnf} (h : SmC N M f) (hN : N ≤ 1000000 := by decide) (hM : M ≤ 1000000 := by decide) : okCnf f := by
 refine ⟨h.vars, ?_, fun c hc => ⟨?_, (h.cl c hc).2⟩⟩
 · have := h.len; omega
 · have := (h.cl c hc).1; omega
theorem dr_lit {n : Nat} {c : l1Cur} (h : okC (n + 8) c) (v : Int) : Dr n (spec_l1Cur_lit c v) okI := by
 unfold spec_l1Cur_lit
 have tail : ∀ (t : Bool) (c1 : l1Cur), okC (n + 4) c1 → Dr n (bif t then bd (spec_l1Cur_among c1 [0, (wr (v + 1)), (wr ((wr (-v)) - 1))]) (fun r => some (r.1, r.2)) else bd (spec_l1Cur_pick c1 v) (fun r => bd (spec_l1Cur_one r.2 2) (fun s => (bif s.1 then some ((wr (-(wr (1 + r.1)))), s.2) else some ((wr (1 + r.1)), s.2))))) okI := by
  intro t c1 h1
  cases t with
  | true =>
   refine (dr_among (n := n) h1.le (by simp)).bind fun x c2 h2 hx => ⟨_, _, rfl, h2, ?_⟩
   simp only [List.mem_cons, List.not_mem_nil, or_false] at hx
   show okI x
   rcases hx with rfl | rfl | rfl
   · unfold okI; omega
   · exact okI_wr _
   · exact okI_wr _
  | false =>
   refine (dr_pick (n := n + 2) h1.le v).bind fun x c2 h2 hx => ?_
   refine (dr_one (n := n) h2 2).bind fun b c3 h3 _ => ?_
   cases b
   · exact ⟨_, _, rfl, h3, okI_wr _⟩
   · exact ⟨_, _, rfl, h3, okI_wr _⟩
 cases decide (v < 1) with
 | true =>
  simp only [cond_true, bd_some]
  exact tail true c h.le
 | false =>
  simp only [cond_false]
  obtain ⟨b, c1, e, h1, _⟩ := dr_one (n := n + 4) (c := c) h.le 40
  rw [e, bd_some, bd_some]
  exact tail b c1 h1
theorem ix0 {A : Type} {l : List A} (h : 0 < l.length) : ∃ x, ix l 0 = some x ∧ x ∈ l := by
 obtain ⟨x, hx, hg⟩ := ix_of (xs := l) (i := 0) (by omega) (by omega)
 exact ⟨x, hx, List.mem_of_getElem? hg⟩
theorem put_mem {l ys : List Int} {i x : Int} (h : put l i x = some ys) (hl : okIs l) (hx : okI x) : ys.length = l.length ∧ okIs ys := by
 obtain ⟨_, _, rfl⟩ := put_some h
 exact ⟨List.length_set, fun y hy => by
  rcases List.mem_or_eq_of_mem_set hy with g | rfl
  · exact hl y g
  · exact hx⟩
theorem put_is {A : Type} {l : List A} {i : Int} (x : A) (h0 : 0 ≤ i) (h1 : i < l.length) : ∃ ys, put l i x = some ys := ⟨_, by unfold put; rw [if_pos ⟨h0, h1⟩]⟩
theorem dr_anyClause {n : Nat} {c : l1Cur} (h : okC (n + 50) c) (v : Int) : Dr n (spec_l1Cur_anyClause c v) fun x => x.length ≤ 5 ∧ okIs x := by
 unfold spec_l1Cur_anyClause
 refine (dr_clause (n := n + 20) h.le v).bind fun l c1 h1 hl => ?_
 refine (dr_pick (n := n + 18) h1 32).bind fun k c2 h2 _ => ?_
 have hlim : lim = 4294967296 := rfl
 show Dr n (bif (k == 0) then _ else _) _
 cases k == 0 with
 | true =>
  refine (dr_lit (n := n) (c := c2) h2.le v).bind fun x c3 h3 hx => ?_
  rw [app_ok (by simp; omega)]
  exact ⟨_, _, rfl, h3, by simp; omega, fun y hy => by
   rcases List.mem_append.1 hy with g | g
   · exact hl.2 y g
   · rw [List.mem_singleton] at g; subst g; exact hx⟩
 | false =>
 show Dr n (bif (k == 1) then _ else _) _
 cases k == 1 with
 | true =>
  simp only [cond_true]
  cases hd : decide (0 < len l) with
  | false => exact ⟨_, _, rfl, h2.le, by show l.length ≤ 5; omega, hl.2⟩
  | true =>
   simp only [cond_true]
   have hl0 : 0 < l.length := by have := of_decide_eq_true hd; rw [len_eq] at this; omega
   refine (dr_among (n := n) (c := c2) h2.le (by simp)).bind fun x c3 h3 hx => ?_
   obtain ⟨y, hy, _⟩ := ix0 hl0
   obtain ⟨ys, hys⟩ := put_is (l := l) (i := 0) x (by omega) (by omega)
   rw [hy, bd_some]
   show Dr n (bd (put l 0 x) _) _
   rw [hys]
   have hx' : okI x := by
    simp only [List.mem_cons, List.not_mem_nil, or_false] at hx
    rcases hx with rfl | rfl | rfl | rfl
    · unfold okI; omega
    · exact okI_wr _
    · exact okI_wr _
    · unfold okI; omega
   have := put_mem hys hl.2 hx'
   exact ⟨_, _, rfl, h3, by show ys.length ≤ 5; omega, this.2⟩
 | false =>
 show Dr n (bif (k == 2) then _ else _) _
 cases k == 2 with
 | false => exact ⟨_, _, rfl, h2.le, by show l.length ≤ 5; omega, hl.2⟩
 | true =>
  simp only [cond_true]
  cases hd : decide (1 < len l) with
  | false => exact ⟨_, _, rfl, h2.le, by show l.length ≤ 5; omega, hl.2⟩
  | true =>
   simp only [cond_true]
   have hl0 : 1 < l.length := by have := of_decide_eq_true hd; rw [len_eq] at this; omega
   obtain ⟨x, hx, hxm⟩ := ix0 (l := l) (by omega)
   obtain ⟨y, hy, hg⟩ := ix_of (xs := l) (i := 1) (by omega) (by omega)
   obtain ⟨ys, hys⟩ := put_is (l := l) (i := 0) y (by omega) (by omega)
   have p1 := put_mem hys hl.2 (hl.2 y (List.mem_of_getElem? hg))
   obtain ⟨z, hz, _⟩ := ix_of (xs := ys) (i := 1) (by omega) (by omega)
   obtain ⟨zs, hzs⟩ := put_is (l := ys) (i := 1) x (by omega) (by omega)
   have p2 := put_mem hzs p1.2 (hl.2 x hxm)
   rw [hx, bd_some, hy, bd_some, bd_some, hys, bd_some, hz, bd_some, hzs]
   exact ⟨_, _, rfl, h2.le, by show zs.length ≤ 5; omega, p2.2⟩
theorem rename_ok {f : Cnf} {N : Nat} (hf : cnfB f = true) (hN : f.clauses.length ≤ N) (hN2 : N ≤ 60) {to : List Int} (ht : okIs to) (hl : to.length ≤ 1000) : ∃ r, spec_RenameCnf f to = some r ∧ SmC N 12 r.1 := by
 have hlim : lim = 4294967296 := rfl
 have hv : 0 ≤ f.vars ∧ f.vars ≤ 12 := by
  unfold cnfB at hf
  simp only [Bool.and_eq_true] at hf
  exact varsB_iff.1 hf.1.1
 have hc : ∀ c ∈ f.clauses, IsC f.vars c := fun c hc => by
  unfold cnfB at hf
  simp only [Bool.and_eq_true] at hf
  exact clauseB_iff.1 (List.all_eq_true.1 hf.2 c hc)
 have hok : okCnf f := ⟨by unfold okI; omega, ⟨by omega, fun c h => (hc c h).ok⟩⟩
 have bad : SmC N 12 (Cnf.mk 0 []) := ⟨by unfold okI; decide, by simp, fun c h => by cases h⟩
 unfold spec_RenameCnf
 rw [spec_l2Good_eq hok, bd_some, hf]
 simp only [Bool.not_true, cond_false]
 cases hlen : (len to == f.vars) with
 | false => exact ⟨_, rfl, bad⟩
 | true =>
 have hlen' : (to.length : Int) = f.vars := by rw [← len_eq]; exact eq_of_beq hlen
 simp only [Bool.not_true, cond_false]
 -- the test of the new names: whatever it comes to
 have test : ∀ {body : Nat → Int → Unit → Option (Lp Unit (Cnf × Bool))}, (∀ i y u, i < to.length → ∃ q, body i y u = some q ∧ (q = .nx () ∨ q = .rt (Cnf.mk 0 [], false))) → ∃ q, forL to body () = some q ∧ (q = .go () ∨ q = .rt (Cnf.mk 0 [], false)) := by
  intro body hb
  have key : ∀ (l : List Int) (i : Nat), i + l.length ≤ to.length → ∃ q, forLFrom body l i () = some q ∧ (q = .go () ∨ q = .rt (Cnf.mk 0 [], false)) := by
   intro l
   induction l with
   | nil => intro i _; exact ⟨_, rfl, .inl rfl⟩
   | cons y l ih =>
    intro i hi
    simp only [List.length_cons] at hi
    obtain ⟨q, hq, h⟩ := hb i y () (by omega)
    unfold forLFrom
    rw [hq]
    rcases h with rfl | rfl
    · exact ih (i + 1) (by omega)
    · exact ⟨_, rfl, .inr rfl⟩
  exact key to 0 (by omega)
 obtain ⟨q, hq, hq2⟩ := test (body := fun i54 y53 s54 => bd (bif (!(PF.spec_l2Lit f.vars y53)) then some true else bd (cut to 0 ((i54 : Nat) : Int)) (fun xs190 => bd (PF.spec_l2Has xs190 y53) (fun r201 => some r201))) (fun t183 => bd (bif t183 then some true else bd (cut to 0 ((i54 : Nat) : Int)) (fun xs228 => bd (PF.spec_l2Has xs228 (wr (-y53))) (fun r239 => some r239))) (fun t221 => (bif t221 then some (Lp.rt ((Cnf.mk 0 []), false)) else some (Lp.nx ()))))) (by
  intro i y u hi
  rw [show (0 : Int) = ((0 : Nat) : Int) from rfl, cut_ok (Nat.zero_le _) (by omega), bd_some, spec_l2Has_eq, bd_some, bd_some, spec_l2Has_eq, bd_some]
  cases PF.spec_l2Lit f.vars y with
  | false => exact ⟨_, rfl, .inr rfl⟩
  | true =>
   simp only [Bool.not_true, cond_false, bd_some]
   cases ((to.take i).drop 0).contains y with
   | true => exact ⟨_, rfl, .inr rfl⟩
   | false =>
    simp only [cond_false, bd_some]
    cases ((to.take i).drop 0).contains (wr (-y)) with
    | true => exact ⟨_, rfl, .inr rfl⟩
    | false => exact ⟨_, rfl, .inl rfl⟩)
 rw [hq]
 rcases hq2 with rfl | rfl
 rotate_left
 · exact ⟨_, rfl, bad⟩
 simp only [bdR_go]
 -- the clauses
 refine loop_ex
  (fun s => f.clauses.length - s.2.2.toNat) (fun s => 0 ≤ s.2.2 ∧ s.2.2 ≤ f.clauses.length ∧ s.1.length = s.2.2.toNat ∧ s.2.1 = f.vars ∧ ∀ c ∈ s.1, c.length ≤ 12 ∧ okIs c)
  (fun s => s.2.1 = f.vars ∧ s.1.length ≤ N ∧ ∀ c ∈ s.1, c.length ≤ 12 ∧ okIs c) ⟨by show (0 : Int) ≤ 0; omega, by show (0 : Int) ≤ _; omega, rfl, rfl, fun c h => by cases h⟩ (by
   rintro ⟨out, v, k⟩ ⟨g1, g2, g3, g4, g5⟩
   simp only at g1 g2 g3 g4 g5 ⊢
   subst g4
   cases hd : decide (k < len f.clauses) with
   | false => exact .inr ⟨_, rfl, rfl, by show out.length ≤ N; omega, g5⟩
   | true =>
    have hk : k < f.clauses.length := by have := of_decide_eq_true hd; rwa [len_eq] at this
    obtain ⟨c, hcx, hcg⟩ := ix_of (xs := f.clauses) g1 hk
    have hC := hc c (List.mem_of_getElem? hcg)
    have hcl := hC.len
    have hw : wr (k + 1) = k + 1 := wr_of _ (by omega) (by omega)
    simp only [cond_true, hcx, bd_some]
    left
    refine nx_of (loop_ex
     (fun s => c.length - s.2.toNat) (fun s => 0 ≤ s.2 ∧ s.2 ≤ c.length ∧ s.1.length = s.2.toNat ∧ okIs s.1) (fun s => s.1.length ≤ 12 ∧ okIs s.1) ⟨by show (0 : Int) ≤ 0; omega, by show (0 : Int) ≤ _; omega, rfl, fun x h => by cases h⟩ (by
      rintro ⟨cs, j⟩ ⟨k1, k2, k3, k4⟩
      simp only at k1 k2 k3 k4 ⊢
      cases hd2 : decide (j < len c) with
      | false => exact .inr ⟨_, rfl, by show cs.length ≤ 12; omega, k4⟩
      | true =>
       have hj : j < c.length := by have := of_decide_eq_true hd2; rwa [len_eq] at this
       obtain ⟨x, hx, hxg⟩ := ix_of (xs := c) k1 hj
       have hX := hC.lit x (List.mem_of_getElem? hxg)
       have hw2 : wr (j + 1) = j + 1 := wr_of _ (by omega) (by omega)
       have hvr : spec_l2Var x = x.natAbs := by rw [spec_l2Var_eq]; exact vr_abs (by omega) (by omega)
       have hw3 : wr (spec_l2Var x - 1) = x.natAbs - 1 := by rw [hvr]; exact wr_of _ (by omega) (by omega)
       obtain ⟨y, hy, hyg⟩ := ix_of (xs := to) (i := (x.natAbs : Int) - 1) (by omega) (by omega)
       have hY := ht y (List.mem_of_getElem? hyg)
       left
       simp only [cond_true, hx, bd_some, hw3, hy]
       have fin : ∀ z, okI z → okIs (putL cs z) := fun z hz w hw => by
        rcases putL_mem.1 hw with rfl | hw
        · exact hz
        · exact k4 w hw
       cases decide (x < 0) with
       | true =>
        simp only [cond_true]
        rw [spec_l2Put_eq (by omega), bd_some]
        exact ⟨_, rfl, ⟨by dsimp only; rw [hw2]; omega, by dsimp only; rw [hw2]; omega, by dsimp only; rw [putL_length, hw2]; omega, fin _ (okI_wr _)⟩, by dsimp only; rw [hw2]; omega⟩
       | false =>
        simp only [cond_false]
        rw [spec_l2Put_eq (by omega), bd_some]
        exact ⟨_, rfl, ⟨by dsimp only; rw [hw2]; omega, by dsimp only; rw [hw2]; omega, by dsimp only; rw [putL_length, hw2]; omega, fin _ hY⟩, by dsimp only; rw [hw2]; omega⟩) (fun s e2 => ?_))
    · have e3 : s.1.length ≤ 12 ∧ okIs s.1 := e2
      rw [app_ok (by simp; omega), bd_some]
      refine ⟨_, rfl, _, rfl, ⟨by dsimp only; rw [hw]; omega, by dsimp only; rw [hw]; omega, by dsimp only; rw [hw, List.length_append, List.length_singleton]; omega, rfl, fun x hx => ?_⟩, by dsimp only; rw [hw]; omega⟩
      rcases List.mem_append.1 hx with g | g
      · exact g5 x g
      · rw [List.mem_singleton] at g; subst g; exact e3) (fun s h4 => ?_)
 have h4 : s.2.1 = f.vars ∧ s.1.length ≤ N ∧ ∀ c ∈ s.1, c.length ≤ 12 ∧ okIs c := h4
 exact ⟨_, rfl, by show okI s.2.1; rw [h4.1]; unfold okI; omega, h4.2.1, h4.2.2⟩
end Go.PF
namespace Go.PF
open Go.Pu
theorem cnfB_rng {f : Cnf} (h : cnfB f = true) : 0 ≤ f.vars ∧ f.vars ≤ 12 := by
 unfold cnfB at h
 simp only [Bool.and_eq_true] at h
 exact varsB_iff.1 h.1.1
theorem cnfB_isC {f : Cnf} (h : cnfB f = true) : ∀ c ∈ f.clauses, IsC f.vars c := fun c hc => by
 unfold cnfB at h
 simp only [Bool.and_eq_true] at h
 exact clauseB_iff.1 (List.all_eq_true.1 h.2 c hc)
theorem cnfB_len {f : Cnf} (h : cnfB f = true) : f.clauses.length ≤ 60 := by
 unfold cnfB at h
 simp only [Bool.and_eq_true] at h
 have := of_decide_eq_true h.1.2
 rw [len_eq] at this
 omega
theorem dr_hard {n : Nat} {c : l1Cur} (h : okC (n + 200) c) : Dr n (spec_l1Cur_hard c) (SmC 62 12) := by
 have hlim : lim = 4294967296 := rfl
 unfold spec_l1Cur_hard
 refine (dr_of (n := n + 190) h.le (l := spec_l2Hard) (by unfold spec_l2Hard; simp)).bind fun t c1 h1 ht => ?_
 obtain ⟨f, hf, hg, hv4⟩ := known_ok ht
 have hv := cnfB_rng hg; have hN := cnfB_len hg
 show Dr n (bd (spec_l2Known t) _) _
 rw [hf, bd_some]
 refine dr_loop (fun s => (f.vars + 1 - s.2.2.2.2).toNat) (fun s => okC (n + 100 + 2 * (f.vars + 1 - s.2.2.2.2).toNat) (l1Cur.mk s.2.1 s.2.2.1 s.2.2.2.1) ∧ 1 ≤ s.2.2.2.2 ∧ s.2.2.2.2 ≤ f.vars + 1 ∧ s.1.length ≤ s.2.2.2.2.toNat ∧ okIs s.1)
  (fun s => okC (n + 100) (l1Cur.mk s.2.1 s.2.2.1 s.2.2.2.1) ∧ s.1.length ≤ 10 ∧ okIs s.1)
  ⟨h1.le (by dsimp only; omega), by dsimp only; omega, by dsimp only; omega, by simp, fun x h => by cases h⟩ ?_ ?_
 · rintro ⟨to, cd, at_, sd, v⟩ ⟨g1, g2, g3, g4, g5⟩
   simp only at g1 g2 g3 g4 g5 ⊢
   cases hd : decide (v ≤ f.vars) with
   | false => exact .inr ⟨_, rfl, g1.le, by dsimp only; omega, g5⟩
   | true =>
    have hv2 : v ≤ f.vars := of_decide_eq_true hd
    have hw : wr (v + 1) = v + 1 := wr_of _ (by omega) (by omega)
    left
    simp only [cond_true]
    have e0 : n + 100 + 2 * (f.vars + 1 - v).toNat = (n + 100 + 2 * (f.vars + 1 - (v + 1)).toNat) + 2 := by omega
    rw [e0] at g1
    obtain ⟨b, c3, e2, k3, _⟩ := dr_one g1 4
    rw [e2, bd_some]
    have fin : ∀ y, okI y → okIs (to ++ [y]) := fun y hy x hx => by
     rcases List.mem_append.1 hx with g | g
     · exact g5 x g
     · rw [List.mem_singleton] at g; subst g; exact hy
    cases b with
    | true =>
     simp only [cond_true]
     rw [app_ok (by simp; omega), bd_some]
     exact ⟨_, rfl, ⟨by dsimp only; rw [hw]; exact k3, by dsimp only; rw [hw]; omega, by dsimp only; rw [hw]; omega, by dsimp only; rw [hw, List.length_append, List.length_singleton]; omega, fin _ (okI_wr _)⟩, by dsimp only; rw [hw]; omega⟩
    | false =>
     simp only [cond_false]
     rw [app_ok (by simp; omega), bd_some]
     exact ⟨_, rfl, ⟨by dsimp only; rw [hw]; exact k3, by dsimp only; rw [hw]; omega, by dsimp only; rw [hw]; omega, by dsimp only; rw [hw, List.length_append, List.length_singleton]; omega, fin _ (by unfold okI; omega)⟩, by dsimp only; rw [hw]; omega⟩
 · rintro ⟨to, cd, at_, sd, v⟩ ⟨g1, g2, g3⟩
   simp only at g1 g2 g3 ⊢
   obtain ⟨r, hr, hs⟩ := rename_ok hg hN (by omega) g3 (by omega)
   rw [hr, bd_some]
   refine (dr_pick (n := n + 98) g1 3).bind fun k c2 h2 hk => ?_
   have hk3 : k ≤ 2 := by omega
   refine dr_loop (fun s => s.2.2.2.2.2.toNat) (fun s => okC (n + 30 * s.2.2.2.2.2.toNat) (l1Cur.mk s.2.1 s.2.2.1 s.2.2.2.1) ∧ 0 ≤ s.2.2.2.2.2 ∧ s.1.length + s.2.2.2.2.2 ≤ 62 ∧ okI s.2.2.2.2.1 ∧ ∀ c ∈ s.1, c.length ≤ 12 ∧ okIs c)
    (fun s => okC n (l1Cur.mk s.2.1 s.2.2.1 s.2.2.2.1) ∧ s.1.length ≤ 62 ∧ okI s.2.2.2.2.1 ∧ ∀ c ∈ s.1, c.length ≤ 12 ∧ okIs c)
    ⟨h2.le (by dsimp only; omega), by dsimp only; omega, by dsimp only; have := hs.len; omega, hs.vars, hs.cl⟩ ?_ (fun s hs => ⟨_, _, rfl, hs.1, hs.2.2.1, hs.2.1, hs.2.2.2⟩)
   rintro ⟨out, cd, at_, sd, v, j⟩ ⟨g1, g2, g3, g4, g5⟩
   simp only at g1 g2 g3 g4 g5 ⊢
   cases hd : (bif decide (0 < j) then decide (0 < v) else false) with
   | false => exact .inr ⟨_, rfl, g1.le, by dsimp only; omega, g4, g5⟩
   | true =>
    have hj : 0 < j := by
     cases hx : decide (0 < j) with
     | true => exact of_decide_eq_true hx
     | false => rw [hx] at hd; cases hd
    have hw : wr (j - 1) = j - 1 := wr_of _ (by omega) (by omega)
    left
    simp only [cond_true]
    have e0 : n + 30 * j.toNat = (n + 30 * (j - 1).toNat) + 30 := by omega
    rw [e0] at g1
    obtain ⟨l, c3, e2, k3, hl⟩ := dr_clause g1 v
    rw [e2, bd_some, app_ok (by simp; omega), bd_some]
    refine ⟨_, rfl, ⟨by dsimp only; rw [hw]; exact k3, by dsimp only; rw [hw]; omega, by dsimp only; rw [hw, List.length_append, List.length_singleton]; omega, g4, fun x hx => ?_⟩, by dsimp only; rw [hw]; omega⟩
    rcases List.mem_append.1 hx with g | g
    · exact g5 x g
    · rw [List.mem_singleton] at g; subst g; exact ⟨by omega, hl.2⟩
theorem SmC.le {N M N2 M2 : Nat} {f : Cnf} (h : SmC N M f) (h1 : N ≤ N2) (h2 : M ≤ M2) : SmC N2 M2 f := ⟨h.vars, by have := h.len; omega, fun c hc => ⟨by have := (h.cl c hc).1; omega, (h.cl c hc).2⟩⟩
theorem dr_cnf {n : Nat} {c : l1Cur} (h : okC (n + 1000) c) : Dr n (spec_l1Cur_cnf c) (SmC 100 12) := by
 have hlim : lim = 4294967296 := rfl
 unfold spec_l1Cur_cnf
 refine (dr_one (n := n + 990) h.le 4).bind fun b c1 h1 _ => ?_
 show Dr n (bif b then _ else _) _
 cases b with
 | true => exact (dr_hard (n := n) h1.le).bind fun f c2 h2 hf => ⟨_, _, rfl, h2, hf.le (by omega) (by omega)⟩
 | false =>
 simp only [cond_false]
 refine (dr_among (n := n + 988) h1 (by simp)).bind fun v c2 h2 hv => ?_
 have hv' : okI v := by simp only [List.mem_cons, List.not_mem_nil, or_false] at hv; unfold okI; omega
 refine (dr_pick (n := n + 986) h2 10).bind fun k c3 h3 hk => ?_
 have hk9 : k ≤ 9 := by omega
 refine dr_loop (fun s => s.2.2.2.2.2.toNat) (fun s => okC (n + 600 + 30 * s.2.2.2.2.2.toNat) (l1Cur.mk s.2.1 s.2.2.1 s.2.2.2.1) ∧ 0 ≤ s.2.2.2.2.2 ∧ s.1.length + s.2.2.2.2.2 ≤ 9 ∧ okI s.2.2.2.2.1 ∧ ∀ c ∈ s.1, c.length ≤ 12 ∧ okIs c)
  (fun s => okC (n + 600) (l1Cur.mk s.2.1 s.2.2.1 s.2.2.2.1) ∧ s.1.length ≤ 9 ∧ okI s.2.2.2.2.1 ∧ ∀ c ∈ s.1, c.length ≤ 12 ∧ okIs c)
  ⟨h3.le (by dsimp only; omega), hk.1, by dsimp only; simp; omega, hv', fun c hc => by cases hc⟩ ?_ ?_
 · rintro ⟨out, cd, at_, sd, v, j⟩ ⟨g1, g2, g3, g4, g5⟩
   simp only at g1 g2 g3 g4 g5 ⊢
   cases hd : decide (0 < j) with
   | false => exact .inr ⟨_, rfl, g1.le, by dsimp only; omega, g4, g5⟩
   | true =>
    have hj : 0 < j := of_decide_eq_true hd
    have hw : wr (j - 1) = j - 1 := wr_of _ (by omega) (by omega)
    left
    simp only [cond_true]
    have e0 : n + 600 + 30 * j.toNat = (n + 600 + 30 * (j - 1).toNat) + 30 := by omega
    rw [e0] at g1
    obtain ⟨l, c3, e2, k3, hl⟩ := dr_clause g1 v
    rw [e2, bd_some, app_ok (by simp; omega), bd_some]
    refine ⟨_, rfl, ⟨by dsimp only; rw [hw]; exact k3, by dsimp only; rw [hw]; omega, by dsimp only; rw [hw, List.length_append, List.length_singleton]; omega, g4, fun x hx => ?_⟩, by dsimp only; rw [hw]; omega⟩
    rcases List.mem_append.1 hx with g | g
    · exact g5 x g
    · rw [List.mem_singleton] at g; subst g; exact ⟨by omega, hl.2⟩
 · rintro ⟨out, cd, at_, sd, v, j⟩ ⟨g1, g3, g4, g5⟩
   simp only at g1 g3 g4 g5 ⊢
   have cat : ∀ ys : List (List Int), (∀ c ∈ ys, c.length ≤ 12 ∧ okIs c) → ∀ c ∈ out ++ ys, c.length ≤ 12 ∧ okIs c := fun ys hy c hc => by
    rcases List.mem_append.1 hc with g | g
    · exact g5 c g
    · exact hy c g
   refine (dr_pick (n := n + 598) g1 40).bind fun k c2 h2 _ => ?_
   show Dr n (bif (k == 0) then _ else _) _
   cases k == 0 with
   | true =>
    refine (dr_among (n := n) h2.le (by simp)).bind fun x c3 h3 hx => ⟨_, _, rfl, h3, ?_, by dsimp only; omega, g5⟩
    simp only [List.mem_cons, List.not_mem_nil, or_false] at hx; dsimp only; unfold okI; omega
   | false =>
   show Dr n (bif (k == 1) then _ else _) _
   cases k == 1 with
   | true =>
    refine (dr_anyClause (n := n) h2.le v).bind fun l c3 h3 hl => ?_
    rw [app_ok (by simp; omega)]
    exact ⟨_, _, rfl, h3, g4, by dsimp only; rw [List.length_append, List.length_singleton]; omega, cat [l] fun c hc => by rw [List.mem_singleton] at hc; subst hc; exact ⟨by omega, hl.2⟩⟩
   | false =>
   show Dr n (bif (k == 2) then _ else _) _
   cases k == 2 with
   | true =>
    simp only [cond_true]
    refine dr_loop (fun s => 61 - s.1.length) (fun s => okC (n + 2 + 2 * (61 - s.1.length)) (l1Cur.mk s.2.1 s.2.2.1 s.2.2.2.1) ∧ s.1.length ≤ 61 ∧ okI s.2.2.2.2 ∧ ∀ c ∈ s.1, c.length ≤ 12 ∧ okIs c)
     (fun s => okC n (l1Cur.mk s.2.1 s.2.2.1 s.2.2.2.1) ∧ s.1.length ≤ 61 ∧ okI s.2.2.2.2 ∧ ∀ c ∈ s.1, c.length ≤ 12 ∧ okIs c)
     ⟨h2.le (by dsimp only; omega), by dsimp only; omega, g4, g5⟩ ?_ (fun s hs => ⟨_, _, rfl, hs.1, hs.2.2.1, by have := hs.2.1; dsimp only; omega, hs.2.2.2⟩)
    rintro ⟨os, cd, at_, sd, v⟩ ⟨k1, k2, k3, k4⟩
    simp only at k1 k2 k3 k4 ⊢
    have e0 : n + 2 + 2 * (61 - os.length) = (n + 2 * (61 - os.length)) + 2 := by omega
    rw [e0] at k1
    obtain ⟨b, c4, e2, m3, hb⟩ := dr_pick k1 2
    rw [e2, bd_some]
    have hb1 : b ≤ 1 := by omega
    have hw : wr (60 + b) = 60 + b := wr_of _ (by omega) (by omega)
    simp only
    rw [hw]
    cases hd : decide (len os < 60 + b) with
    | false => exact .inr ⟨_, rfl, m3.le, k2, k3, k4⟩
    | true =>
     have hlt : (os.length : Int) < 60 + b := by have := of_decide_eq_true hd; rwa [len_eq] at this
     left
     simp only [cond_true]
     rw [app_ok (by simp; omega), bd_some]
     refine ⟨_, rfl, ⟨m3.le (by dsimp only; rw [List.length_append, List.length_singleton]; omega), by dsimp only; rw [List.length_append, List.length_singleton]; omega, k3, fun x hx => ?_⟩, by dsimp only; rw [List.length_append, List.length_singleton]; omega⟩
     rcases List.mem_append.1 hx with g | g
     · exact k4 x g
     · rw [List.mem_singleton] at g; subst g
       exact ⟨by simp, fun y hy => by rw [List.mem_singleton] at hy; subst hy; unfold okI; omega⟩
   | false =>
   show Dr n (bif (k == 3) then _ else _) _
   cases k == 3 with
   | true =>
    refine (dr_clause (n := n) h2.le v).bind fun l c3 h3 hl => ?_
    rw [app_ok (by simp; omega)]
    refine ⟨_, _, rfl, h3, g4, by dsimp only; rw [List.length_append]; simp; omega, cat [l, []] fun c hc => ?_⟩
    simp only [List.mem_cons, List.not_mem_nil, or_false] at hc
    rcases hc with rfl | rfl
    · exact ⟨by omega, hl.2⟩
    · exact ⟨by simp, fun x h => by cases h⟩
   | false => exact ⟨_, _, rfl, h2.le, g4, by dsimp only; omega, g5⟩
theorem okC_begin {cs : List Int} (h : okL okU8 cs) (s : Int) : okC 1000000000 (l1Cur.mk cs 0 s) := ⟨h, by dsimp only; omega, by dsimp only; omega⟩
end Go.PF
namespace Go.PF
open Go.Pu
def tl (b : Nat → Bool) (l : Int) : Bool := b l.natAbs == decide (0 < l)
def tc (b : Nat → Bool) (c : List Int) : Bool := c.any (tl b)
theorem tl_neg {b : Nat → Bool} {l : Int} (h : l ≠ 0) : tl b (-l) = !tl b l := by
 unfold tl
 rw [Int.natAbs_neg]
 by_cases h1 : 0 < l
 · rw [decide_eq_true h1, decide_eq_false (by omega)]; cases b l.natAbs <;> rfl
 · rw [decide_eq_false h1, decide_eq_true (by omega)]; cases b l.natAbs <;> rfl
end Go.PF
namespace Go.PF
open Go.Pu
def lexC : List Int → List Int → Int
 | [], [] => 0
 | [], _ :: _ => -1
 | _ :: _, [] => 1
 | x :: a, y :: b => bif !(cmpL x y == 0) then cmpL x y else lexC a b
def cmpC (a b : List Int) : Int := if a.length < b.length then -1 else if b.length < a.length then 1 else lexC a b
def sm (c : List Int) : Prop := ∀ x ∈ c, -12 ≤ x ∧ x ≤ 12 ∧ x ≠ 0
abbrev SrtC (xs : List (List Int)) : Prop := xs.Pairwise fun a b => cmpC a b < 0
end Go.PF
namespace Go.PF
open Go.Pu
structure Cfg (V : Int) (n : Nat) (xs : List (List Int)) : Prop where
 srt : SrtC xs
 len : xs.length ≤ n
 cl : ∀ c ∈ xs, IsC V c
theorem slices_IndexFunc_LL_ge {c : List (List Int)} {f : List Int → Option Bool} {g : List Int → Bool} (h : ∀ y ∈ c, f y = some (g y)) : ∃ r, slices_IndexFunc_LLint_Lint c f = some r ∧ decide (0 ≤ r) = c.any g := by
 unfold slices_IndexFunc_LLint_Lint
 rw [forL_find (p := fun _ y => g y) (v := fun i _ => (i : Int)) (fun i y hy => by rw [h y (List.mem_of_getElem? hy), bd_some])]
 cases hf : findI (fun _ y => g y) c 0 with
 | none =>
  refine ⟨-1, rfl, ?_⟩
  have := findI_none.1 hf
  rw [anyI_any] at this; rw [this]; rfl
 | some z =>
  obtain ⟨_, _, _, h4⟩ := findI_some hf
  rw [anyI_any] at h4
  exact ⟨_, rfl, by rw [h4]; simp⟩
end Go.PF
namespace Go.Pu
theorem wrk_nat {n : Nat} (h : n < 9223372036854775808) : wrk true 64 (n : Int) = (n : Int) := by
 unfold wrk
 have h1 : ((n : Int) % (2 ^ 64 : Int)) = (n : Int) := Int.emod_eq_of_lt (by omega) (by omega)
 rw [h1]
 simp only [Bool.true_and]
 rw [if_neg]
 simp
 omega
theorem ofInt_nat {w n : Nat} : BitVec.ofInt w (n : Int) = BitVec.ofNat w n := by
 apply BitVec.eq_of_toNat_eq
 simp
theorem andK_nat {a b : Nat} (ha : a < 9223372036854775808) (hb : b < 9223372036854775808) : andK true 64 (a : Int) (b : Int) = ((a &&& b : Nat) : Int) := by
 unfold andK
 rw [ofInt_nat, ofInt_nat, BitVec.toNat_and, BitVec.toNat_ofNat, BitVec.toNat_ofNat, Nat.mod_eq_of_lt (by omega), Nat.mod_eq_of_lt (by omega)]
 exact wrk_nat (Nat.lt_of_le_of_lt Nat.and_le_left ha)
theorem shlK_nat {k : Nat} (hk : k ≤ 62) : shlK true 64 1 (k : Int) = ((2 ^ k : Nat) : Int) := by
 unfold shlK
 have h1 : min ((k : Int)).toNat 64 = k := by simp; omega
 rw [h1]
 have hp : 2 ^ k ≤ 2 ^ 62 := Nat.pow_le_pow_right (by omega) hk
 have := wrk_nat (n := 2 ^ k) (by omega)
 simpa using this
theorem shrK_nat {n k : Nat} (hk : k ≤ 63) : shrK 64 (n : Int) (k : Int) = ((n >>> k : Nat) : Int) := by
 unfold shrK
 have h1 : min ((k : Int)).toNat 64 = k := by simp; omega
 rw [h1, Nat.shiftRight_eq_div_pow]
 rw [Int.fdiv_eq_ediv_of_nonneg _ (Int.le_of_lt (Int.pow_pos (by omega)))]
 simp
theorem bit_nat {n k : Nat} (hn : n < 9223372036854775808) (hk : k ≤ 63) : (andK true 64 (shrK 64 (n : Int) (k : Int)) 1 == 1) = n.testBit k := by
 rw [shrK_nat hk]
 have h1 : n >>> k < 9223372036854775808 := Nat.lt_of_le_of_lt (Nat.shiftRight_le n k) hn
 have := andK_nat h1 (show 1 < 9223372036854775808 by omega)
 rw [show (1 : Int) = ((1 : Nat) : Int) from rfl, this]
 unfold Nat.testBit
 rw [Nat.and_comm]
 have hb : 1 &&& n >>> k = 0 ∨ 1 &&& n >>> k = 1 := by
  have : 1 &&& n >>> k ≤ 1 := Nat.and_le_left
  omega
 rcases hb with h | h <;> rw [h] <;> rfl
end Go.Pu
namespace Go.PF
open Go.Pu
def bt' (n : Nat) : Nat → Bool := fun u => n.testBit (u - 1)
def modB (K : List (List Int)) (n : Nat) : Bool := K.all fun c => tc (bt' n) c
theorem impl_holds_eq {V : Int} {c : List Int} (hc : IsC V c) {n : Nat} (hn : n < 9223372036854775808) : impl_holds c (n : Int) = some (tc (bt' n) c) := by
 unfold impl_holds
 rw [slices_ContainsFunc_int_int_eq (g := tl (bt' n)) fun l hl => ?_]
 · rfl
 · have h1 := hc.lit l hl; have h2 := hc.hi
   have ha : impl_abs l = (l.natAbs : Int) := by rw [impl_abs_eq (by unfold okI; omega), vr_abs (by omega) (by omega)]
   have hw : wr (impl_abs l - 1) = ((l.natAbs - 1 : Nat) : Int) := by rw [ha, wr_of _ (by omega) (by omega)]; omega
   show bd (nn (wr (impl_abs l - 1))) _ = _
   rw [hw]
   have hnn : nn ((l.natAbs - 1 : Nat) : Int) = some () := by unfold nn; rw [if_neg (by omega)]
   rw [hnn, bd_some, bit_nat hn (by omega)]
   rfl
theorem contains_LL {c : List (List Int)} {f : List Int → Option Bool} {g : List Int → Bool} (h : ∀ y ∈ c, f y = some (g y)) : slices_ContainsFunc_LLint_Lint c f = some (c.any g) := by
 obtain ⟨r, h1, h2⟩ := slices_IndexFunc_LL_ge h
 unfold slices_ContainsFunc_LLint_Lint
 rw [h1, bd_some, h2]
theorem impl_isModel_eq {V : Int} {K : List (List Int)} (hK : ∀ c ∈ K, IsC V c) {n : Nat} (hn : n < 9223372036854775808) : impl_isModel K (n : Int) = some (modB K n) := by
 unfold impl_isModel
 rw [contains_LL (g := fun c => !tc (bt' n) c) fun c hc => ?_]
 · rw [bd_some]
   unfold modB
   congr 1
   induction K with
   | nil => rfl
   | cons c K ih =>
    have := ih fun d hd => hK d (List.mem_cons_of_mem _ hd)
    simp only [List.any_cons, List.all_cons, Bool.not_or, Bool.not_not, this]
 · unfold impl_isModel_1
   rw [impl_holds_eq (hK c hc) hn, bd_some]
theorem modB_iff {K : List (List Int)} {n : Nat} : modB K n = true ↔ ∀ c ∈ K, tc (bt' n) c = true := by unfold modB; exact List.all_eq_true
end Go.PF
