/- ResToPc: the law. -/
import Derived.Test.YtcdphhfmkkdpfaaGreatRpPlTi
set_option linter.unusedVariables false
namespace Go.PF
open Go.Pu
theorem trL_To {p : Int} {F : Cnf} {S : List ResStep} (h : PV p F.vars) (hD : IsD F S) : To p F.vars S.length (trL p F.vars S) := by
  have key : ∀ n, n ≤ S.length → To p F.vars n ((S.take n).foldl (trS p F.vars S) ([], [], [])) := by
    intro n
    induction n with
    | zero => intro _; exact To.nil
    | succ n ih =>
      intro hn
      have hx : S[n]? = some S[n] := List.getElem?_eq_getElem (by omega)
      rw [List.take_add_one, hx, List.foldl_append]
      exact trS_ok h hD hx (ih (by omega))
  have := key S.length (Nat.le_refl _)
  rwa [List.take_length] at this
theorem eq_Term (a : Term) : laws_eqTerm a a = true := by unfold laws_eqTerm; simp
theorem eq_TermS (a : List Term) : laws_eqTermS a a = some true :=
  eq_list (eq := fun x y => some (laws_eqTerm x y)) (fun _ _ _ => rfl) (fun y _ => by rw [eq_Term])
theorem eq_PcStep (a : PcStep) : laws_eqPcStep a a = some true := by unfold laws_eqPcStep; rw [eq_TermS]; simp
theorem eq_PcStepS (a : List PcStep) : laws_eqPcStepS a a = some true := eq_list (eq := laws_eqPcStep) (fun _ _ _ => rfl) (fun y _ => eq_PcStep y)
theorem tot_two {A : Type} (l : List A) : tot (fun _ => 2) l = 2 * l.length := by induction l with
  | nil => rfl
  | cons _ l ih => simp [tot, ih]; omega
theorem wr2 {k : Int} (h0 : 0 ≤ k) (h1 : k + 2 ≤ 9223372036854775807) : wr (k + 1) = k + 1 ∧ wr (k + 1 + 1) = k + 2 := by
  exact ⟨wr_of _ (by omega) (by omega), by rw [wr_of _ (by omega) (by omega)]; omega⟩
theorem mark_TermS {a : List Term} {k : Int} (h0 : 0 ≤ k) (h1 : k + 2 * a.length ≤ 9223372036854775807) : (laws_markTermS a k).2 = k + 2 * a.length := by
  have := mark_end (F := fun (_ : Term) m => (Term.mk m (wr (m + 1)), wr (wr (m + 1) + 1))) (wt := fun _ => 2) (l := a) (k := k) (fun y _ k h0 h1 => by
    obtain ⟨a1, a2⟩ := wr2 h0 h1
    simp only [a1, a2]; rfl) h0 (by rw [tot_two]; omega)
  rw [tot_two] at this
  unfold laws_markTermS
  rw [this]; omega
theorem held_TermS {a : List Term} {k : Int} (h0 : 0 ≤ k) (h1 : k + 2 * a.length ≤ 9223372036854775807) : laws_heldTermS (laws_markTermS a k).1 k = some (laws_markTermS a k).2 := by
  unfold laws_heldTermS forL laws_markTermS
  rw [held_list (wt := fun _ => 2) (fun y _ k h0 h1 => ?_) h0 (by rw [tot_two]; omega)]
  · rfl
  · obtain ⟨a1, a2⟩ := wr2 h0 h1
    refine ⟨by simp only [a1, a2]; rfl, fun i => ?_⟩
    simp only [a1, a2, BEq.rfl, Bool.not_true, cond_false]
def mPc (a : PcStep) : Nat := 2 * a.poly.length + 5
theorem wr4 {k : Int} (h0 : 0 ≤ k) (h1 : k + 4 ≤ 9223372036854775807) : wr (k + 1) = k + 1 ∧ wr (k + 1 + 1) = k + 2 ∧ wr (k + 2 + 1) = k + 3 ∧ wr (k + 3 + 1) = k + 4 :=
  ⟨wr_of _ (by omega) (by omega), by rw [wr_of _ (by omega) (by omega)]; omega, by rw [wr_of _ (by omega) (by omega)]; omega, by rw [wr_of _ (by omega) (by omega)]; omega⟩
theorem mark_PcStepS {a : List PcStep} {k : Int} (h0 : 0 ≤ k) (h1 : k + tot mPc a ≤ 9223372036854775807) : (laws_markPcStepS a k).2 = k + tot mPc a := by
  refine mark_end (wt := mPc) (fun y _ k h0 h1 => ?_) h0 h1
  unfold mPc at h1 ⊢
  have a0 : wr (k + 1) = k + 1 := wr_of _ (by omega) (by omega)
  have e := mark_TermS (a := y.poly) (k := k + 1) (by omega) (by omega)
  obtain ⟨a1, a2, a3, a4⟩ := wr4 (k := k + 1 + 2 * y.poly.length) (by omega) (by omega)
  simp only [a0, e, a1, a2, a3, a4]; clear a0 a1 a2 a3 a4 e; omega
theorem held_PcStepS {a : List PcStep} {k : Int} (h0 : 0 ≤ k) (h1 : k + tot mPc a ≤ 9223372036854775807) : laws_heldPcStepS (laws_markPcStepS a k).1 k = some (laws_markPcStepS a k).2 := by
  unfold laws_heldPcStepS forL laws_markPcStepS
  rw [held_list (wt := mPc) (fun y _ k h0 h1 => ?_) h0 h1]
  · rfl
  · unfold mPc at h1 ⊢
    have a0 : wr (k + 1) = k + 1 := wr_of _ (by omega) (by omega)
    have e := mark_TermS (a := y.poly) (k := k + 1) (by omega) (by omega)
    have hh := held_TermS (a := y.poly) (k := k + 1) (by omega) (by omega)
    obtain ⟨a1, a2, a3, a4⟩ := wr4 (k := k + 1 + 2 * y.poly.length) (by omega) (by omega)
    have hd : decide (k + 1 + 2 * (y.poly.length : Int) < 0) = false := by rw [decide_eq_false_iff_not]; omega
    simp only [e] at hh
    refine ⟨by simp only [a0, e, a1, a2, a3, a4]; clear a0 a1 a2 a3 a4 e hh; omega, fun i => ?_⟩
    simp only [a0, e, a1, a2, a3, a4, hh, hd, bd_some, BEq.rfl, Bool.not_true, cond_false]
theorem sp_len (a : List Int) : (sp a).length ≤ a.length := by
  unfold sp; rw [spF_filter]
  refine Nat.le_trans (List.length_filter_le _ _) (Nat.le_of_eq ?_)
  have : ∀ (a : List Int) (i : Nat), (fuF i a).length = a.length := by
    intro a; induction a with
    | nil => intro i; rfl
    | cons z a ih => intro i; simp [fuF, ih]
  exact this _ _
def pcV (p : Int) (F : Cnf) (S : List ResStep) : List PcStep × Bool :=
  bif askB p F S then (bif decide (300 < len (trL p F.vars S).2.2) then ([], false) else ((trL p F.vars S).2.2, true)) else ([], false)
theorem pcV_small {p : Int} {F : Cnf} {S : List ResStep} : tot mPc (pcV p F S).1 ≤ 100000 := by
  unfold pcV
  cases h : askB p F S with
  | false => exact Nat.zero_le _
  | true =>
    obtain ⟨h1, h2⟩ := askB_iff h
    simp only [cond_true]
    cases hd : decide (300 < len (trL p F.vars S).2.2) with
    | true => exact Nat.zero_le _
    | false =>
      have hl := of_decide_eq_false hd
      rw [len_eq] at hl
      simp only [cond_false]
      have ps := (trL_To h1 h2).ps
      have hN := nN_le h1.v6
      have := tot_leD (wt := mPc) (n := 133) (l := (trL p F.vars S).2.2) (fun x hx => by
        obtain ⟨j, hj, rfl⟩ := List.getElem_of_mem hx
        have hj2 : j < (trL p F.vars S).2.1.length := by rw [ps.len]; exact hj
        have hs := ps.sp j _ _ (List.getElem?_eq_getElem hj) (List.getElem?_eq_getElem hj2)
        have hq := (ps.dn _ (List.getElem_mem hj2)).len
        have := sp_len (trL p F.vars S).2.1[j]
        unfold mPc
        rw [hs]
        omega)
      omega
theorem spec_ResToPc_eq {p : Int} {F : Cnf} {S : List ResStep} (hF : okCnf F) (hS : okL okResStep S) : spec_ResToPc p F S = some (pcV p F S) := by
  unfold spec_ResToPc spec_l21Pc pcV
  rw [spec_l21Asked_eq hF hS, bd_some]
  cases h : askB p F S with
  | false => rfl
  | true =>
    obtain ⟨h1, h2⟩ := askB_iff h
    simp only [Bool.not_true, cond_false, cond_true]
    rw [spec_l21Translate_eq h1 h2, bd_some]
    simp only
    cases decide (300 < len (trL p F.vars S).2.2) <;> rfl
theorem impl_ResToPc_eq {p : Int} {F : Cnf} {S : List ResStep} (hF : okCnf F) (hS : okL okResStep S) : impl_ResToPc p F S = some (pcV p F S) := by
  unfold impl_ResToPc pcV
  rw [impl_translate_eq hF hS, bd_some]
  cases askB p F S with
  | false => rfl
  | true =>
    simp only [Bool.not_true, cond_false, cond_true, bd_some]
    cases decide (300 < len (trL p F.vars S).2.2) <;> rfl
theorem plain_ResToPc (a0 : Int) (a1 : Cnf) (a2 : List ResStep) (o : okI a0) (o0 : okCnf a1) (o1 : okL okResStep a2) : laws_FnExactResToPc a0 a1 a2 = some true := by
  unfold laws_FnExactResToPc
  obtain ⟨r0, q0, z0⟩ := sz_Cnf o0 (s := 1048576) (by omega) (by omega)
  rw [q0, bd_some]
  by_cases n0 : r0 < 0
  · simp [n0]
  obtain ⟨r1, q1, z1⟩ := sz_ResStepS o1 (s := r0) (by omega) (by omega)
  simp only [n0, decide_false, cond_false]
  rw [q1, bd_some]
  by_cases n1 : r1 < 0
  · simp [n1]
  simp only [n1, decide_false, cond_false]
  have t0 := to_Cnf (a := a1) (by unfold lim; omega)
  have t1 := to_ResStepS (a := a2) (by unfold lim; omega)
  have hs := spec_ResToPc_eq (p := a0) o0 o1
  have hi := impl_ResToPc_eq (p := a0) o0 o1
  have hm := pcV_small (p := a0) (F := a1) (S := a2)
  generalize pcV a0 a1 a2 = g at hs hi hm
  have w0 : tot wIntS a1.clauses ≤ 1048576 := by unfold wCnf wIntSS at z0; omega
  have w1 := mResStep_le (a := a2) (by omega)
  have m0 := mark_Cnf (a := a1) (k := 1) (by omega) (by unfold big; omega)
  have m1 := mark_ResStepS (a := a2) (k := (laws_markCnf a1 1).2) (by omega) (by unfold big; omega)
  have mg := mark_PcStepS (a := g.1) (k := 1) (by omega) (by omega)
  have hg := held_PcStepS (a := g.1) (k := 1) (by omega) (by omega)
  have d1 : decide ((laws_markResStepS a2 (laws_markCnf a1 1).2).2 < 0) = false := by rw [decide_eq_false_iff_not]; omega
  have d2 : decide ((laws_markPcStepS g.1 1).2 < 0) = false := by rw [decide_eq_false_iff_not]; omega
  simp only [t0, t1, hs, hi, hg, d1, d2, bd_some, eq_ResStepS, eq_PcStepS, eq_Cnf, BEq.rfl, Bool.not_true, cond_false, bif_tt, Bool.or_false]
end Go.PF
