/- Derivations: both packages accept the same ones. -/
import Derived.Test.YtmpfnnkmplkfoaaGreatCrPl5
namespace Go.PF
open Go.Pu

def clAt (S : List ResStep) (k : Int) : List Int := match S[k.toNat]? with | some y => y.clause | none => []
def earlierB (F : Cnf) (S : List ResStep) (i : Nat) (k : Int) : Bool := inB k 0 ((i : Int) - 1) && clauseB F.vars (clAt S k)
def axB (F : Cnf) (x : ResStep) : Bool := inB x.right 0 (len F.clauses - 1) && match F.clauses[x.right.toNat]? with | some c => c == x.clause | none => false
/-- one step is right -/
def stepB (F : Cnf) (S : List ResStep) (i : Nat) (x : ResStep) : Bool :=
  clauseB F.vars x.clause &&
  bif x.left == -1 then x.pivot == 0 && axB F x
  else earlierB F S i x.left &&
    bif x.right == -1 then x.pivot == 0 && partB (clAt S x.left) x.clause
    else earlierB F S i x.right && (inB x.pivot 1 F.vars && ((res (clAt S x.left) (clAt S x.right) x.pivot).2 && (res (clAt S x.left) (clAt S x.right) x.pivot).1 == x.clause))

theorem earlier_at {S : List ResStep} {i : Nat} {k : Int} (hi : i < S.length) (h : inB k 0 ((i : Int) - 1) = true) : ∃ y, ix S k = some y ∧ clAt S k = y.clause ∧ y ∈ S := by
  rw [inB_iff] at h
  obtain ⟨y, h1, h2⟩ := ix_of (xs := S) (i := k) h.1 (by omega)
  exact ⟨y, h1, by unfold clAt; rw [h2], List.mem_of_getElem? h2⟩
theorem wr_lt {i n : Nat} (h : i < n) (hn : n ≤ 9223372036854775807) : wr ((i : Int) - 1) = (i : Int) - 1 := wr_of _ (by omega) (by omega)

theorem ax_at {F : Cnf} {x : ResStep} (h : inB x.right 0 (len F.clauses - 1) = true) : ∃ c, ix F.clauses x.right = some c ∧ axB F x = (c == x.clause) := by
  have h' := inB_iff.1 h
  obtain ⟨c, h1, h2⟩ := ix_of (xs := F.clauses) (i := x.right) h'.1 (by rw [len_eq] at h'; omega)
  exact ⟨c, h1, by unfold axB; rw [h, h2]; rfl⟩
theorem wr_len {A : Type} {l : List A} (h : l.length ≤ 9223372036854775807) : wr (len l - 1) = len l - 1 := wr_of _ (by rw [len_eq]; omega) (by rw [len_eq]; omega)

/-- a derivation -/
def derB (F : Cnf) (S : List ResStep) : Bool := cnfB F && (decide (len S ≤ 200) && !anyI (fun i x => !stepB F S i x) S 0)
/-- what a derivation is made of -/
structure IsD (F : Cnf) (S : List ResStep) : Prop where
  cnf : cnfB F = true
  le : S.length ≤ 200
  step : ∀ i x, S[i]? = some x → stepB F S i x = true
theorem derB_iff {F : Cnf} {S : List ResStep} : derB F S = true ↔ IsD F S := by
  unfold derB
  rw [Bool.and_eq_true, Bool.and_eq_true, Bool.not_eq_true', anyI_false, decide_eq_true_eq, len_eq]
  constructor
  · rintro ⟨h1, h2, h3⟩; exact ⟨h1, by omega, fun i x hx => by have := h3 i x hx; simpa using this⟩
  · rintro ⟨h1, h2, h3⟩; exact ⟨h1, by omega, fun i x hx => by simp [h3 i x hx]⟩
theorem IsD.clause {F : Cnf} {S : List ResStep} (h : IsD F S) {x : ResStep} (hx : x ∈ S) : IsC F.vars x.clause := by
  obtain ⟨i, hi⟩ := List.mem_iff_getElem?.1 hx
  have := h.step i x hi
  unfold stepB at this
  rw [Bool.and_eq_true] at this
  exact clauseB_iff.1 this.1
/-- the numbers of a step -/
theorem IsD.nums {F : Cnf} {S : List ResStep} (h : IsD F S) {i : Nat} {x : ResStep} (hx : S[i]? = some x) :
    (x.left = -1 ∧ x.pivot = 0 ∧ 0 ≤ x.right ∧ x.right < len F.clauses) ∨ (0 ≤ x.left ∧ x.left < i ∧ x.right = -1 ∧ x.pivot = 0) ∨ (0 ≤ x.left ∧ x.left < i ∧ 0 ≤ x.right ∧ x.right < i ∧ 1 ≤ x.pivot ∧ x.pivot ≤ F.vars) := by
  have := h.step i x hx
  unfold stepB at this
  rw [Bool.and_eq_true] at this
  obtain ⟨_, this⟩ := this
  cases hl : x.left == -1 with
  | true =>
    rw [hl] at this
    simp only [cond_true, Bool.and_eq_true, beq_iff_eq] at this
    unfold axB at this
    rw [Bool.and_eq_true, inB_iff] at this
    have := beq_iff_eq.1 hl
    left; omega
  | false =>
    rw [hl] at this
    simp only [cond_false, Bool.and_eq_true] at this
    obtain ⟨h1, this⟩ := this
    unfold earlierB at h1
    rw [Bool.and_eq_true, inB_iff] at h1
    cases hr : x.right == -1 with
    | true =>
      rw [hr] at this
      simp only [cond_true, Bool.and_eq_true, beq_iff_eq] at this
      have := beq_iff_eq.1 hr
      right; left; omega
    | false =>
      rw [hr] at this
      simp only [cond_false, Bool.and_eq_true] at this
      obtain ⟨h2, h3, _⟩ := this
      unfold earlierB at h2
      rw [Bool.and_eq_true, inB_iff] at h2
      rw [inB_iff] at h3
      right; right; omega
theorem IsD.before {F : Cnf} {S : List ResStep} (h : IsD F S) {i : Nat} {x : ResStep} (hx : S[i]? = some x) (hl : 0 ≤ x.left) : x.left < i ∧ (0 ≤ x.right → x.right < i) := by
  rcases h.nums hx with h | h | h <;> omega
end Go.PF
