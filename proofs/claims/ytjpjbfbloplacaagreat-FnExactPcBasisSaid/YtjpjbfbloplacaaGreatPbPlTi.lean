/- The translation of a derivation: the program. -/
import Derived.Test.YtjpjbfbloplacaaGreatPbPlTs
set_option linter.unusedVariables false
namespace Go.PF
open Go.Pu
open Go.La (vadd co)
def pvB (p v : Int) : Bool := (p == 2 || p == 3 || p == 5) && inB v 0 6
theorem pvB_iff {p v : Int} : pvB p v = true ↔ PV p v := by
  unfold pvB
  rw [Bool.and_eq_true, Bool.or_eq_true, Bool.or_eq_true, beq_iff_eq, beq_iff_eq, beq_iff_eq, inB_iff]
  constructor
  · rintro ⟨h1, h2, h3⟩; exact ⟨by rcases h1 with (h | h) | h <;> omega, h2, h3⟩
  · rintro ⟨h1, h2, h3⟩; exact ⟨by rcases h1 with h | h | h <;> simp [h], h2, h3⟩
theorem bif_or (a b : Bool) : (bif a then true else b) = (a || b) := by cases a <;> rfl
theorem bif_and (a b : Bool) : (bif a then b else false) = (a && b) := by cases a <;> rfl
theorem spec_l18Prime_eq (p v : Int) : spec_l18Prime p v = pvB p v := by
  unfold spec_l18Prime pvB
  rw [spec_l1In_eq, bif_or, bif_or, bif_and]
theorem impl_ringOf_eq (p v : Int) : impl_ringOf p v = (⟨p, v⟩, pvB p v) := by
  unfold impl_ringOf pvB
  rw [impl_within_eq, bif_or, bif_or, bif_and]
def alg (p : Int) (F : Cnf) : algebra := ⟨⟨p, F.vars⟩, ⟨F.vars, F.clauses⟩, F.clauses.map fun c => clD p (nN F.vars) c⟩
def algB (p : Int) (F : Cnf) : Bool := pvB p F.vars && cnfB F
theorem cnf_bds {F : Cnf} (h : cnfB F = true) : F.clauses.length ≤ 60 ∧ ∀ c ∈ F.clauses, IsC F.vars c := by
  unfold cnfB at h
  rw [Bool.and_eq_true, Bool.and_eq_true, decide_eq_true_eq, List.all_eq_true, len_eq] at h
  exact ⟨by omega, fun c hc => clauseB_iff.1 (h.2 c hc)⟩
theorem impl_algebraOf_eq {p : Int} {F : Cnf} (hF : okCnf F) : impl_algebraOf p F = some (bif algB p F then (some (alg p F), true) else (none, false)) := by
  unfold impl_algebraOf algB
  rw [impl_ringOf_eq]
  cases h1 : pvB p F.vars with
  | false => rfl
  | true =>
    simp only [Bool.not_true, cond_false]
    rw [impl_IsCnf_eq hF, bd_some]
    cases h2 : cnfB F with
    | false => rfl
    | true =>
      have h := pvB_iff.1 h1
      obtain ⟨b1, b2⟩ := cnf_bds h2
      simp only [Bool.not_true, cond_false, bd_some, Bool.and_self, cond_true]
      refine bdR_sim (X := Empty) (F := fun (t : List (List Int)) c => t ++ [clD p (nN F.vars) c]) (t0 := []) (fun i t s => s = (t, p, F.vars, F.vars, F.clauses) ∧ t.length ≤ i ∧ t = (F.clauses.take i).map fun c => clD p (nN F.vars) c) ⟨rfl, Nat.le_refl _, rfl⟩ (fun i c t s hc hs => ?_) (fun s' hs' => ?_)
      · obtain ⟨rfl, hl, ht⟩ := hs
        have hi := (List.getElem?_eq_some_iff.1 hc).1
        refine ⟨(t ++ [clD p (nN F.vars) c], p, F.vars, F.vars, F.clauses), ?_, rfl, by simp; omega, ?_⟩
        · rw [impl_ring_clause_eq (r := ⟨p, F.vars⟩) h (b2 c (List.mem_of_getElem? hc)), bd_some]
          simp only
          rw [app_ok (by simp; unfold lim; omega), bd_some]
        · rw [List.take_add_one, hc, List.map_append, ← ht]; rfl
      · obtain ⟨rfl, _, ht⟩ := hs'
        rw [ht, List.take_length]; rfl
theorem spec_l20Asked_eq {p : Int} {F : Cnf} (hF : okCnf F) : spec_l20Asked p F = some (algB p F) := by
  unfold spec_l20Asked algB
  rw [spec_l18Prime_eq, spec_l2Good_eq hF, bd_some]
  cases pvB p F.vars <;> rfl
theorem alg_q {p : Int} {F : Cnf} {k : Int} (h0 : 0 ≤ k) (h1 : k < F.clauses.length) : ∃ c, F.clauses[k.toNat]? = some c ∧ ix (alg p F).q k = some (clD p (nN F.vars) c) := by
  obtain ⟨c, hc⟩ : ∃ c, F.clauses[k.toNat]? = some c := ⟨_, List.getElem?_eq_getElem (by omega)⟩
  refine ⟨c, hc, ?_⟩
  unfold ix alg
  rw [if_pos h0]
  simp [hc]
theorem ax_clause {F : Cnf} {S : List ResStep} (hD : IsD F S) {i : Nat} {x : ResStep} (hx : S[i]? = some x) (hl : x.left < 0) : 0 ≤ x.right ∧ x.right < F.clauses.length ∧ F.clauses[x.right.toNat]? = some x.clause := by
  have := hD.step i x hx
  unfold stepB at this
  rw [Bool.and_eq_true] at this
  have hn := hD.nums hx
  have hl1 : (x.left == -1) = true := by rw [beq_iff_eq]; omega
  rw [hl1] at this
  simp only [cond_true, Bool.and_eq_true] at this
  have ha := this.2.2
  unfold axB at ha
  rw [Bool.and_eq_true, inB_iff, len_eq] at ha
  refine ⟨ha.1.1, by omega, ?_⟩
  cases hc : F.clauses[x.right.toNat]? with
  | none => rw [hc] at ha; cases ha.2
  | some c => rw [hc] at ha; rw [eq_of_beq ha.2]
def askB (p : Int) (F : Cnf) (S : List ResStep) : Bool := algB p F && derB F S
theorem askB_iff {p : Int} {F : Cnf} {S : List ResStep} (h : askB p F S = true) : PV p F.vars ∧ IsD F S := by
  unfold askB algB at h
  rw [Bool.and_eq_true, Bool.and_eq_true] at h
  exact ⟨pvB_iff.1 h.1.1, derB_iff.1 h.2⟩
def lenV (p : Int) (F : Cnf) (S : List ResStep) : Int × Bool := bif askB p F S then (len (trL p F.vars S).2.2, true) else (0, false)
end Go.PF
