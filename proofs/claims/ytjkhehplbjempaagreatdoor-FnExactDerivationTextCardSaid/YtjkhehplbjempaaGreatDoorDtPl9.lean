/- The pivots of the steps of a proof; the reference and the program answer alike; the law. -/
import Derived.Test.YtjkhehplbjempaaGreatDoorDtPl8
set_option linter.unusedVariables false
namespace Go.PF
open Go.Pu

theorem forR_fold {S X : Type} {α : Type} {xs : List α} {body : Nat → S → Option (Lp S X)} {F : S → α → S} (I : Nat → S → Prop) {s0 : S} (h0 : I 0 s0)
    (h : ∀ i x s, xs[i]? = some x → I i s → body i s = some (.nx (F s x)) ∧ I (i + 1) (F s x)) : forR 0 xs.length body s0 = some (.go (xs.foldl F s0)) := by
  have key : ∀ (m : List α) (k : Nat) (s : S), (∀ i y, m[i]? = some y → xs[k + i]? = some y) → I k s → forFrom body m.length k s = some (.go (m.foldl F s)) := by
    intro m
    induction m with
    | nil => intro k s _ _; rfl
    | cons y m ih =>
      intro k s hm hI
      obtain ⟨h1, h2⟩ := h k y s (by have := hm 0 y rfl; simpa using this) hI
      simp only [List.length_cons, forFrom, h1, List.foldl_cons]
      exact ih (k + 1) (F s y) (fun i z hz => by have := hm (i + 1) z (by simpa using hz); rwa [show k + (i + 1) = k + 1 + i by omega] at this) h2
  unfold forR
  exact key xs 0 s0 (by simp) h0
theorem chk_len {A : Type} {xs : List A} (h : xs.length ≤ 2) : chk (len xs) = some xs.length := by
  unfold chk; rw [if_pos (by rw [len_eq]; omega), len_eq]; simp

/-! what a proof is -/
def proofB (F : Cnf) (S : List ResStep) : Bool := derB F S && decide (0 < len S)
def isRes (x : ResStep) : Bool := decide (0 ≤ x.left) && decide (0 ≤ x.right)
def atL (out : List (List Int)) (k : Int) : List Int := (out[k.toNat]?).getD []
theorem atL_ix {out : List (List Int)} {k : Int} (h0 : 0 ≤ k) (h1 : k < out.length) : ix out k = some (atL out k) := by
  obtain ⟨y, h2, h3⟩ := ix_of (xs := out) h0 h1
  rw [h2]; unfold atL; rw [h3]; rfl
def srcs (out : List (List Int)) (x : ResStep) : List Int := (prem x).flatMap (atL out)
def pivX (out : List (List Int)) (x : ResStep) : List Int := setI (bif isRes x then srcs out x ++ [x.pivot] else srcs out x)
def pivL (S : List ResStep) : List (List Int) := S.foldl (fun out x => out ++ [pivX out x]) []
/-- what holds of them -/
structure IsPv (n : Nat) (out : List (List Int)) : Prop where
  len : out.length = n
  asc : ∀ y ∈ out, Asc y
  sm : ∀ y ∈ out, ∀ z ∈ y, 1 ≤ z ∧ z ≤ 12
theorem IsPv.at {n : Nat} {out : List (List Int)} (h : IsPv n out) (k : Int) : (atL out k).length ≤ 12 ∧ ∀ z ∈ atL out k, 1 ≤ z ∧ z ≤ 12 := by
  unfold atL
  cases hk : out[k.toNat]? with
  | none => simp
  | some y =>
    have hy := List.mem_of_getElem? hk
    simp only [Option.getD_some]
    have := asc_len (lo := 0) (hi := 12) (h.asc y hy) fun x hx => by have := h.sm y hy x hx; omega
    exact ⟨by omega, h.sm y hy⟩
theorem flatMap_le {α β : Type} {f : α → List β} {n : Nat} : ∀ {l : List α}, (∀ x ∈ l, (f x).length ≤ n) → (l.flatMap f).length ≤ n * l.length := by
  intro l
  induction l with
  | nil => intro _; simp
  | cons x l ih =>
    intro h
    have h1 := h x (by simp); have h2 := ih fun y hy => h y (by simp [hy])
    simp only [List.flatMap_cons, List.length_append, List.length_cons, Nat.mul_add, Nat.mul_one]; omega
theorem IsPv.srcs {n : Nat} {out : List (List Int)} (h : IsPv n out) (x : ResStep) : (PF.srcs out x).length ≤ 24 ∧ ∀ z ∈ PF.srcs out x, 1 ≤ z ∧ z ≤ 12 := by
  have hp := prem_len x
  refine ⟨?_, ?_⟩
  · have := flatMap_le (f := atL out) (n := 12) (l := prem x) fun k _ => (h.at k).1
    unfold PF.srcs; omega
  · intro z hz
    unfold PF.srcs at hz
    obtain ⟨k, _, hk⟩ := List.mem_flatMap.1 hz
    exact (h.at k).2 z hk
theorem IsD.vars_le {F : Cnf} {S : List ResStep} (h : IsD F S) : 0 ≤ F.vars ∧ F.vars ≤ 12 := by
  have := h.cnf
  unfold cnfB at this
  simp only [Bool.and_eq_true] at this
  exact varsB_iff.1 this.1.1
theorem IsD.pivot {F : Cnf} {S : List ResStep} (h : IsD F S) {i : Nat} {x : ResStep} (hx : S[i]? = some x) (hr : isRes x = true) : 1 ≤ x.pivot ∧ x.pivot ≤ 12 := by
  have hv := h.vars_le
  unfold isRes at hr
  simp only [Bool.and_eq_true, decide_eq_true_eq] at hr
  rcases h.nums hx with h | h | h <;> omega
theorem IsPv.next {F : Cnf} {S : List ResStep} (hD : IsD F S) {i : Nat} {x : ResStep} (hx : S[i]? = some x) {out : List (List Int)} (h : IsPv i out) : IsPv (i + 1) (out ++ [pivX out x]) := by
  have hs := (h.srcs x).2
  refine ⟨by simp [h.len], ?_, ?_⟩
  · intro y hy
    rcases List.mem_append.1 hy with hy | hy
    · exact h.asc y hy
    · rw [List.mem_singleton.1 hy]; exact setI_asc _
  · intro y hy z hz
    rcases List.mem_append.1 hy with hy | hy
    · exact h.sm y hy z hz
    · rw [List.mem_singleton.1 hy] at hz
      unfold pivX at hz
      rw [setI_mem] at hz
      cases hr : isRes x with
      | false => rw [hr, cond_false] at hz; exact hs z hz
      | true =>
        rw [hr, cond_true] at hz
        rcases List.mem_append.1 hz with hz | hz
        · exact hs z hz
        · rw [List.mem_singleton.1 hz]; exact hD.pivot hx hr

/-! the reference -/
theorem set_mid {A : Type} {out : List A} {z r : A} {m : Nat} : (out ++ List.replicate (m + 1) z).set out.length r = out ++ [r] ++ List.replicate m z := by
  rw [List.set_append_right _ _ (Nat.le_refl _), Nat.sub_self, List.replicate_succ, List.set_cons_zero]; simp
end Go.PF
