/- BenchText: the law. -/
import Derived.Test.YtjkhehplbjempaaGreatDoorBtPlBn
import Derived.Lib.ItoaLen
set_option linter.unusedVariables false
namespace Go.PF
open Go.Pu
theorem itoa_sz {n : Int} (h : okI n) : (itoaS n).size ≤ 100 := by
  have := Go.Lib.itoa_length_le n h.1 h.2
  show (Go.Lib.itoa n).toArray.size ≤ 100
  simp; omega
theorem catS_ok {a b : ByteArray} (h : a.size + b.size ≤ 1000000) : catS a b = some (a ++ b) := by
  unfold catS; rw [if_pos (by omega)]
theorem cat_sz (a b : ByteArray) : (a ++ b).size = a.size + b.size := ByteArray.size_append
theorem spec_num {n : Int} (h : -9223372036854775808 < n ∧ n ≤ 9223372036854775807) : spec_l1Num n = some (itoaS n) := by
  unfold spec_l1Num numT; rw [if_pos h]
theorem impl_num {n : Int} (h : okI n) : strconv_Itoa n = some (itoaS n) := by
  unfold strconv_Itoa numS; exact if_pos h
def txtB (a : Bench) (s : ByteArray) : ByteArray :=
  s ++ (ByteArray.mk #[59, 32, 99, 108, 97, 117, 115, 101, 115, 32]) ++ itoaS (len a.formula.clauses) ++ (ByteArray.mk #[59, 32, 115, 116, 101, 112, 115, 32]) ++ itoaS (len a.steps) ++ (ByteArray.mk #[59, 32, 119, 105, 100, 101, 32]) ++ itoaS a.wide ++ (ByteArray.mk #[59, 32, 99, 111, 117, 110, 116, 32]) ++ itoaS a.count
theorem benchB_nums {a : Bench} (h : benchB a = true) : 0 ≤ a.stage ∧ a.stage ≤ 2 ∧ 0 ≤ a.wide := by
  unfold benchB at h
  cases h1 : !inB a.stage 0 2 || !inB a.count 0 9999 with
  | true => rw [h1] at h; cases h
  | false =>
    rw [h1] at h
    rw [Bool.or_eq_false_iff, Bool.not_eq_false', Bool.not_eq_false'] at h1
    have hs := inB_iff.1 h1.1
    have hc := inB_iff.1 h1.2
    simp only [cond_false] at h
    cases h2 : a.stage == 0 with
    | true =>
      rw [h2] at h
      simp only [cond_true, Bool.and_eq_true, beq_iff_eq] at h
      omega
    | false =>
      rw [h2] at h
      simp only [cond_false, Bool.and_eq_true] at h
      have := inB_iff.1 h.1.1.1
      omega
theorem stage_at {i : Int} (h0 : 0 ≤ i) (h2 : i ≤ 2) : ∃ s, ix [(ByteArray.mk #[101, 109, 112, 116, 121]), (ByteArray.mk #[111, 112, 101, 110]), (ByteArray.mk #[100, 111, 110, 101])] i = some s ∧ s.size ≤ 5 := by
  have : i = 0 ∨ i = 1 ∨ i = 2 := by omega
  rcases this with rfl | rfl | rfl
  · exact ⟨_, rfl, by decide⟩
  · exact ⟨_, rfl, by decide⟩
  · exact ⟨_, rfl, by decide⟩
theorem texts {a : Bench} (ha : okBench a) (h : benchB a = true) : ∃ t, spec_l32Text a = some t ∧ impl_benchText a = some t := by
  obtain ⟨h0, h2, h3⟩ := benchB_nums h
  obtain ⟨s, e, hs⟩ := stage_at h0 h2
  have l1 := ha.2.1.2.1
  have l2 := ha.2.2.1.1
  have o1 : okI (len a.formula.clauses) := by unfold okI; rw [len_eq]; omega
  have o2 : okI (len a.steps) := by unfold okI; rw [len_eq]; omega
  have o3 : okI a.wide := ha.2.2.2.1
  have o4 : okI a.count := ha.2.2.2.2
  have n1 : -9223372036854775808 < len a.formula.clauses ∧ len a.formula.clauses ≤ 9223372036854775807 := ⟨by rw [len_eq]; omega, o1.2⟩
  have n2 : -9223372036854775808 < len a.steps ∧ len a.steps ≤ 9223372036854775807 := ⟨by rw [len_eq]; omega, o2.2⟩
  have n3 : -9223372036854775808 < a.wide ∧ a.wide ≤ 9223372036854775807 := ⟨by omega, o3.2⟩
  have hb := h
  unfold benchB at hb
  have hc : 0 ≤ a.count := by
    cases h1 : !inB a.stage 0 2 || !inB a.count 0 9999 with
    | true => rw [h1] at hb; cases hb
    | false =>
      rw [Bool.or_eq_false_iff, Bool.not_eq_false', Bool.not_eq_false'] at h1
      exact (inB_iff.1 h1.2).1
  have n4 : -9223372036854775808 < a.count ∧ a.count ≤ 9223372036854775807 := ⟨by omega, o4.2⟩
  have z1 := itoa_sz o1
  have z2 := itoa_sz o2
  have z3 := itoa_sz o3
  have z4 := itoa_sz o4
  have c1 : (ByteArray.mk #[59, 32, 99, 108, 97, 117, 115, 101, 115, 32]).size = 10 := rfl
  have c2 : (ByteArray.mk #[59, 32, 115, 116, 101, 112, 115, 32]).size = 8 := rfl
  have c3 : (ByteArray.mk #[59, 32, 119, 105, 100, 101, 32]).size = 7 := rfl
  have c4 : (ByteArray.mk #[59, 32, 99, 111, 117, 110, 116, 32]).size = 8 := rfl
  refine ⟨txtB a s, ?_, ?_⟩
  · unfold spec_l32Text txtB
    rw [e, bd_some, catS_ok (by omega), bd_some, spec_num n1, bd_some, catS_ok (by rw [cat_sz]; omega), bd_some, catS_ok (by rw [cat_sz, cat_sz]; omega), bd_some, spec_num n2, bd_some, catS_ok (by simp only [cat_sz]; omega), bd_some,
      catS_ok (by simp only [cat_sz]; omega), bd_some, spec_num n3, bd_some, catS_ok (by simp only [cat_sz]; omega), bd_some, catS_ok (by simp only [cat_sz]; omega), bd_some, spec_num n4, bd_some, catS_ok (by simp only [cat_sz]; omega), bd_some]
  · unfold impl_benchText txtB
    rw [e, bd_some, catS_ok (by omega), bd_some, impl_num o1, bd_some, catS_ok (by rw [cat_sz]; omega), bd_some, catS_ok (by rw [cat_sz, cat_sz]; omega), bd_some, impl_num o2, bd_some, catS_ok (by simp only [cat_sz]; omega), bd_some,
      catS_ok (by simp only [cat_sz]; omega), bd_some, impl_num o3, bd_some, catS_ok (by simp only [cat_sz]; omega), bd_some, catS_ok (by simp only [cat_sz]; omega), bd_some, impl_num o4, bd_some, catS_ok (by simp only [cat_sz]; omega), bd_some]
theorem both_BenchText {a : Bench} (ha : okBench a) : ∃ g, spec_BenchText a = some g ∧ impl_BenchText a = some g := by
  unfold spec_BenchText impl_BenchText
  rw [spec_l32Good_eq ha, impl_IsBench_eq ha, bd_some, bd_some]
  cases h : benchB a with
  | false => exact ⟨_, rfl, rfl⟩
  | true =>
    obtain ⟨t, e1, e2⟩ := texts ha h
    simp only [Bool.not_true, cond_false, e1, e2, bd_some]
    exact ⟨_, rfl, rfl⟩
theorem plain_BenchText (a0 : Bench) (o0 : okBench a0) : laws_FnExactBenchText a0 = some true := by
  unfold laws_FnExactBenchText
  obtain ⟨r0, q0, z0⟩ := sz_Bench o0 (s := 1048576) (by omega) (by omega)
  rw [q0, bd_some]
  by_cases n0 : r0 < 0
  · simp [n0]
  simp only [n0, decide_false, cond_false]
  have hlim : lim = 4294967296 := rfl
  have t0 := to_Bench (a := a0) (by omega)
  obtain ⟨g, hs, hi⟩ := both_BenchText o0
  simp only [t0, hs, hi, bd_some, eq_Bench, BEq.rfl, Bool.not_true, cond_false, bif_tt, Bool.or_false]
end Go.PF
