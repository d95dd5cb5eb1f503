/- Lists of terms: copies, comparisons and marks. The span of a Cnf for a degree, as the program finds it. PcBasis: the law. -/
import Derived.Test.YtjpjbfbloplacaaGreatPbPlTi
import Derived.Test.YtjpjbfbloplacaaGreatPbPlE1
set_option linter.unusedVariables false
namespace Go.PF
open Go.Pu
theorem eq_Term (a : Term) : laws_eqTerm a a = true := by unfold laws_eqTerm; simp
theorem eq_TermS (a : List Term) : laws_eqTermS a a = some true :=
  eq_list (eq := fun x y => some (laws_eqTerm x y)) (fun _ _ _ => rfl) (fun y _ => by rw [eq_Term])
theorem eq_TermSS (a : List (List Term)) : laws_eqTermSS a a = some true := eq_list (eq := laws_eqTermS) (fun _ _ _ => rfl) (fun y _ => eq_TermS y)
theorem tot_two {A : Type} (l : List A) : tot (fun _ => 2) l = 2 * l.length := by induction l with
  | nil => rfl
  | cons _ l ih => simp [tot, ih]; omega
theorem wr2 {k : Int} (h0 : 0 ≤ k) (h1 : k + 2 ≤ 9223372036854775807) : wr (k + 1) = k + 1 ∧ wr (k + 1 + 1) = k + 2 := by
  exact ⟨wr_of _ (by omega) (by omega), by rw [wr_of _ (by omega) (by omega)]; omega⟩
def wTs (a : List Term) : Nat := 2 * a.length
theorem mark_TermS {a : List Term} {k : Int} (h0 : 0 ≤ k) (h1 : k + wTs a ≤ 9223372036854775807) : (laws_markTermS a k).2 = k + wTs a := by
  unfold wTs at *
  have := mark_end (F := fun (_ : Term) m => (Term.mk m (wr (m + 1)), wr (wr (m + 1) + 1))) (wt := fun _ => 2) (l := a) (k := k) (fun y _ k h0 h1 => by
    obtain ⟨a1, a2⟩ := wr2 h0 h1
    simp only [a1, a2]; rfl) h0 (by rw [tot_two]; omega)
  rw [tot_two] at this
  unfold laws_markTermS
  rw [this]
theorem held_TermS {a : List Term} {k : Int} (h0 : 0 ≤ k) (h1 : k + wTs a ≤ 9223372036854775807) : laws_heldTermS (laws_markTermS a k).1 k = some (laws_markTermS a k).2 := by
  unfold wTs at *
  unfold laws_heldTermS forL laws_markTermS
  rw [held_list (wt := fun _ => 2) (fun y _ k h0 h1 => ?_) h0 (by rw [tot_two]; omega)]
  · rfl
  · obtain ⟨a1, a2⟩ := wr2 h0 h1
    refine ⟨by simp only [a1, a2]; rfl, fun i => ?_⟩
    simp only [a1, a2, BEq.rfl, Bool.not_true, cond_false]
theorem mark_TermSS {a : List (List Term)} {k : Int} (h0 : 0 ≤ k) (h1 : k + tot wTs a ≤ 9223372036854775807) : (laws_markTermSS a k).2 = k + tot wTs a :=
  mark_end (wt := wTs) (fun _ _ _ h0 h1 => mark_TermS h0 h1) h0 h1
theorem held_TermSS {a : List (List Term)} {k : Int} (h0 : 0 ≤ k) (h1 : k + tot wTs a ≤ 9223372036854775807) : laws_heldTermSS (laws_markTermSS a k).1 k = some (laws_markTermSS a k).2 := by
  unfold laws_heldTermSS forL laws_markTermSS
  rw [held_list (wt := wTs) (fun y _ k h0 h1 => ?_) h0 h1]
  · rfl
  · have e := mark_TermS (a := y) h0 h1
    have hh := held_TermS (a := y) h0 h1
    refine ⟨e, fun i => ?_⟩
    rw [hh, bd_some]
    have hd : decide ((laws_markTermS y k).2 < 0) = false := by rw [decide_eq_false_iff_not, e]; omega
    rw [hd]; rfl
end Go.PF
namespace Go.PF
open Go.Pu
open Go.La (V Red)
theorem impl_degreeOk_eq (d : Int) : impl_degreeOk d = inB d 0 6 := by unfold impl_degreeOk; rw [impl_within_eq]
theorem impl_spanOf_eq {p : Int} {F : Cnf} (hF : okCnf F) (d : Int) : impl_spanOf p F d = some (if h : pvB p F.vars = true then (bif cnfB F && inB d 0 6 then (some (alg p F), some (echelon.mk ⟨p, F.vars⟩ (basS (pvB_iff.1 h) d F.clauses) (List.replicate (basS (pvB_iff.1 h) d F.clauses).length []) (((basS (pvB_iff.1 h) d F.clauses).length : Nat) : Int)), true) else (none, none, false)) else (none, none, false)) := by
  unfold impl_spanOf
  rw [impl_algebraOf_eq hF, bd_some, impl_degreeOk_eq]
  cases ha : algB p F with
  | true =>
    obtain ⟨h, hc⟩ := algB_iff.1 ha
    rw [dif_pos (pvB_iff.2 h), hc]
    cases hd : inB d 0 6 with
    | true =>
      simp only [Bool.not_true, cond_false, Bool.and_self, cond_true, bd_some]
      rw [impl_algebra_span_eq h hc d, bd_some, bd_some]
    | false => rfl
  | false =>
    simp only [cond_false, Bool.not_false, cond_true]
    by_cases h : pvB p F.vars = true
    · rw [dif_pos h]
      have : cnfB F = false := by
        cases hc : cnfB F with
        | true => rw [algB_iff.2 ⟨pvB_iff.1 h, hc⟩] at ha; cases ha
        | false => rfl
      rw [this]; rfl
    · rw [dif_neg h]
end Go.PF
namespace Go.PF
open Go.Pu
open Go.La (V Red)
theorem rows_fold {l : List (List Int)} : ∀ {s : List (List Term)}, l.foldl (fun s y => s ++ [sp y]) s = s ++ l.map sp := by
  induction l with
  | nil => intro s; simp
  | cons y l ih => intro s; rw [List.foldl_cons, ih]; simp
theorem impl_PcBasis_eq {p : Int} {F : Cnf} (hF : okCnf F) (d : Int) : impl_PcBasis p F d = some (basV p F d) := by
  unfold impl_PcBasis basV
  rw [impl_spanOf_eq hF, bd_some]
  by_cases h : pvB p F.vars = true
  · rw [dif_pos h, dif_pos h]
    cases hc : cnfB F && inB d 0 6 with
    | false => rfl
    | true =>
      simp only [cond_true, Bool.not_true, cond_false, bd_some]
      have hR := (basS_ok (pvB_iff.1 h) d F.clauses).1
      have hN := nN_le (pvB_iff.1 h).v6
      have hl := Nat.le_trans hR.len hN.2
      rw [(forL_foldI (fun s y => s ++ [sp y]) (fun i (s : List (List Term)) => s.length = i) rfl (fun i y s hy hs => by
        have := (List.getElem?_eq_some_iff.1 hy).1
        have h64 := v64 (pvB_iff.1 h) (hR.vec y (List.mem_of_getElem? hy))
        rw [impl_terms_eq (by unfold lim; omega), bd_some, app_ok (by simp; unfold lim; omega), bd_some]
        exact ⟨rfl, by simp [hs]⟩)).1, bdR_go, rows_fold]
      rfl
  · rw [dif_neg h, dif_neg h]; rfl
theorem basV_small {p : Int} {F : Cnf} {d : Int} : tot wTs (basV p F d).1 ≤ 100000 := by
  unfold basV
  by_cases h : pvB p F.vars = true
  · rw [dif_pos h]
    cases hc : cnfB F && inB d 0 6 with
    | false => exact Nat.zero_le _
    | true =>
      simp only [cond_true]
      have hR := (basS_ok (pvB_iff.1 h) d F.clauses).1
      have hN := nN_le (pvB_iff.1 h).v6
      have hl := Nat.le_trans hR.len hN.2
      have := tot_leD (wt := wTs) (n := 128) (l := (basS (pvB_iff.1 h) d F.clauses).map sp) (fun x hx => by
        obtain ⟨q, hq, rfl⟩ := List.mem_map.1 hx
        have h1 := v64 (pvB_iff.1 h) (hR.vec q hq)
        have := sp_len (a := q)
        unfold wTs; omega)
      rw [List.length_map] at this
      omega
  · rw [dif_neg h]; exact Nat.zero_le _
theorem plain_PcBasis (a0 : Int) (a1 : Cnf) (a2 : Int) (o : okI a0) (o0 : okCnf a1) (o1 : okI a2) : laws_FnExactPcBasis a0 a1 a2 = some true := by
  unfold laws_FnExactPcBasis
  obtain ⟨r0, q0, z0⟩ := sz_Cnf o0 (s := 1048576) (by omega) (by omega)
  rw [q0, bd_some]
  by_cases n0 : r0 < 0
  · simp [n0]
  simp only [n0, decide_false, cond_false]
  have t0 := to_Cnf (a := a1) (by unfold lim; omega)
  have hs := spec_PcBasis_eq (p := a0) o0 a2
  have hi := impl_PcBasis_eq (p := a0) o0 a2
  have hm := basV_small (p := a0) (F := a1) (d := a2)
  generalize basV a0 a1 a2 = g at hs hi hm
  have w0 : tot wIntS a1.clauses ≤ 1048576 := by unfold wCnf wIntSS at z0; omega
  have m0 := mark_Cnf (a := a1) (k := 1) (by omega) (by unfold big; omega)
  have mg := mark_TermSS (a := g.1) (k := 1) (by omega) (by omega)
  have hg := held_TermSS (a := g.1) (k := 1) (by omega) (by omega)
  have d1 : decide ((laws_markCnf a1 1).2 < 0) = false := by rw [decide_eq_false_iff_not]; omega
  have d2 : decide ((laws_markTermSS g.1 1).2 < 0) = false := by rw [decide_eq_false_iff_not]; omega
  simp only [t0, hs, hi, hg, d1, d2, bd_some, eq_TermSS, eq_Cnf, BEq.rfl, Bool.not_true, cond_false, bif_tt, Bool.or_false]
end Go.PF
