/- From a proof to planes: each step's inequality is that of its clause. -/
import Derived.Test.YtjpjbfbloplacaaGreatPpPlPl
set_option linter.unusedVariables false
namespace Go.PF
open Go.Pu
def mor (a b : List Int) : List Int := a.filter fun y => !b.contains y
def one (r c d : List Int) : List Int := r.filter fun y => !(c.contains y == d.contains y)
theorem impl_further_mor {a b : List Int} (hl : a.length ≤ lim) : impl_further a b = some (mor a b) := by
  unfold impl_further mor
  rw [slices_Clone_int_int_eq hl, bd_some, slices_DeleteFunc_int_int_eq (g := fun l => b.contains l) (fun y _ => by unfold impl_further_1; rw [slices_Contains_int_int_eq, bd_some]) hl, bd_some]
theorem impl_inOne_eq {r c d : List Int} (hl : r.length ≤ lim) : impl_inOne r c d = some (one r c d) := by
  unfold impl_inOne one
  rw [slices_Clone_int_int_eq hl, bd_some, slices_DeleteFunc_int_int_eq (g := fun l => c.contains l == d.contains l) (fun y _ => by unfold impl_inOne_1; rw [slices_Contains_int_int_eq, bd_some, slices_Contains_int_int_eq, bd_some]) hl, bd_some]
theorem spec_l17Extra_eq {a b : List Int} (hl : a.length ≤ lim) : spec_l17Extra a b = some (mor a b) := by
  unfold spec_l17Extra mor
  rw [forL_filter (p := fun y => !b.contains y) (fun i y s _ => by rw [spec_l2Has_eq, bd_some]) (by simpa using hl)]
  simp
theorem spec_l17Single_eq {r c d : List Int} (hl : r.length ≤ lim) : spec_l17Single r c d = some (one r c d) := by
  unfold spec_l17Single one
  rw [forL_filter (p := fun y => !(c.contains y == d.contains y)) (fun i y s _ => by rw [spec_l2Has_eq, bd_some, spec_l2Has_eq, bd_some]) (by simpa using hl)]
  simp
/-! sums of coefficients -/
def sA : List Int → Nat → Int
  | [], _ => 0
  | l :: ls, k => cfA [l] k + sA ls k
theorem cfA_one (l : Int) (k : Nat) : cfA [l] k = if (k : Int) + 1 = l then 1 else if -((k : Int) + 1) = l then -1 else 0 := by
  unfold cfA; simp only [List.mem_singleton]
theorem sA_cfA : ∀ {ls : List Int} (k : Nat), ls.Pairwise (fun a b => a.natAbs < b.natAbs) → sA ls k = cfA ls k
  | [], k, _ => by simp [sA, cfA]
  | l :: ls, k, h => by
    obtain ⟨h1, h2⟩ := List.pairwise_cons.1 h
    rw [sA, sA_cfA k h2, cfA_one]
    unfold cfA
    simp only [List.mem_cons]
    by_cases e1 : (k : Int) + 1 = l
    · have n1 : (k : Int) + 1 ∉ ls := fun hm => by have := h1 _ hm; omega
      have n2 : -((k : Int) + 1) ∉ ls := fun hm => by have := h1 _ hm; omega
      rw [if_pos e1, if_neg n1, if_neg n2, if_pos (.inl e1)]; rfl
    · by_cases e2 : -((k : Int) + 1) = l
      · have n1 : (k : Int) + 1 ∉ ls := fun hm => by have := h1 _ hm; omega
        have n2 : -((k : Int) + 1) ∉ ls := fun hm => by have := h1 _ hm; omega
        rw [if_neg e1, if_pos e2, if_neg n1, if_neg n2, if_neg (by rintro (h | h); exact e1 h; exact n1 h), if_pos (.inl e2)]; rfl
      · rw [if_neg e1, if_neg e2, Int.zero_add]
        simp only [e1, e2, false_or]
theorem cfA_bd (c : List Int) (k : Nat) : -1 ≤ cfA c k ∧ cfA c k ≤ 1 := by
  unfold cfA; split
  · omega
  · split <;> omega
theorem mor_srt {a b : List Int} (h : a.Pairwise fun a b => a.natAbs < b.natAbs) : (mor a b).Pairwise fun a b => a.natAbs < b.natAbs := h.sublist List.filter_sublist
theorem one_srt {a b c : List Int} (h : a.Pairwise fun a b => a.natAbs < b.natAbs) : (one a b c).Pairwise fun a b => a.natAbs < b.natAbs := h.sublist List.filter_sublist
theorem mem_mor {a b : List Int} {x : Int} : x ∈ mor a b ↔ x ∈ a ∧ x ∉ b := by unfold mor; simp
theorem mem_one {r c d : List Int} {x : Int} : x ∈ one r c d ↔ x ∈ r ∧ ¬ (x ∈ c ↔ x ∈ d) := by
  unfold one
  rw [List.mem_filter, Bool.not_eq_true', beq_eq_false_iff_ne]
  simp only [List.contains_eq_mem, ne_eq, decide_eq_decide]
theorem no_comp {c : List Int} (h : c.Pairwise fun a b => a.natAbs < b.natAbs) {x : Int} (hx : x ∈ c) : x ≠ 0 → -x ∉ c := fun h0 hm => by
  obtain ⟨i, hi⟩ := List.mem_iff_getElem?.1 hx
  obtain ⟨j, hj⟩ := List.mem_iff_getElem?.1 hm
  have hi2 := List.getElem?_eq_some_iff.1 hi
  have hj2 := List.getElem?_eq_some_iff.1 hj
  obtain ⟨a1, a2⟩ := hi2
  obtain ⟨b1, b2⟩ := hj2
  rw [List.pairwise_iff_getElem] at h
  rcases Nat.lt_trichotomy i j with hij | hij | hij
  · have := h i j a1 b1 hij; rw [a2, b2] at this; omega
  · subst hij; rw [a2] at b2; omega
  · have := h j i b1 a1 hij; rw [a2, b2] at this; omega
theorem weak_id {V : Int} {c d : List Int} (hd : IsC V d) (h : ∀ x ∈ c, x ∈ d) (k : Nat) : cfA c k + sA (mor d c) k = cfA d k := by
  rw [sA_cfA k (mor_srt hd.srt)]
  unfold cfA
  simp only [mem_mor]
  have n1 : (k : Int) + 1 ∈ d → -((k : Int) + 1) ∉ d := fun h => no_comp hd.srt h (by omega)
  have h1 := h ((k : Int) + 1); have h2 := h (-((k : Int) + 1))
  by_cases a1 : (k : Int) + 1 ∈ c
  · have a2 : -((k : Int) + 1) ∉ c := fun h => n1 (h1 a1) (h2 h)
    simp [a1, a2, h1 a1, n1 (h1 a1)]
  · by_cases a2 : -((k : Int) + 1) ∈ c
    · have a3 : (k : Int) + 1 ∉ d := fun h => n1 h (h2 a2)
      simp [a1, a2, h2 a2, a3]
    · simp [a1, a2]
theorem res_mem {V : Int} {a b r : List Int} {v : Int} (ha : IsC V a) (hb : IsC V b) (hv : 1 ≤ v ∧ v ≤ V) (h : res a b v = (r, true)) :
    v ∈ a ∧ -v ∈ b ∧ (∀ x, x ∈ r ↔ (x ∈ a ∧ x.natAbs ≠ v.natAbs) ∨ (x ∈ b ∧ x.natAbs ≠ v.natAbs)) ∧ (∀ x, x ∈ a → -x ∈ b → x.natAbs = v.natAbs) := by
  have h12 := ha.hi
  have wv : wr (-v) = -v := wr_of _ (by omega) (by omega)
  unfold res at h
  cases hc : !a.contains v || !b.contains (wr (-v)) with
  | true => rw [hc] at h; cases h
  | false =>
    rw [hc] at h
    rw [Bool.or_eq_false_iff, Bool.not_eq_false', Bool.not_eq_false', List.contains_iff_mem, List.contains_iff_mem, wv] at hc
    simp only [cond_false] at h
    unfold joined at h
    have sa : Srt (without a v) := ha.srt.sublist List.filter_sublist
    have sb : Srt (without b v) := hb.srt.sublist List.filter_sublist
    have ma : Sm (without a v) := fun x hx => ha.sm x (List.mem_filter.1 hx).1
    have mb : Sm (without b v) := fun x hx => hb.sm x (List.mem_filter.1 hx).1
    have mw : ∀ {c : List Int}, IsC V c → ∀ x, x ∈ without c v ↔ x ∈ c ∧ x.natAbs ≠ v.natAbs := fun {c} hcl x => by
      unfold without
      rw [List.mem_filter]
      refine ⟨fun h => ⟨h.1, fun e => ?_⟩, fun h => ⟨h.1, ?_⟩⟩
      · have hx := hcl.lit x h.1
        have h2 := h.2
        rw [vr_abs (by omega) (by omega)] at h2
        rw [Bool.not_eq_true', beq_eq_false_iff_ne] at h2
        omega
      · have hx := hcl.lit x h.1
        have h2 := h.2
        rw [vr_abs (by omega) (by omega), Bool.not_eq_true', beq_eq_false_iff_ne]
        omega
    have hj := joinL_spec sa ma sb mb
    split at hj
    · rw [hj] at h; cases h
    · rename_i hne
      obtain ⟨t, h1, h2, h3⟩ := hj
      rw [h1] at h
      cases h
      refine ⟨hc.1, hc.2, fun x => by rw [h3, mw ha, mw hb], fun x hx hy => ?_⟩
      by_cases e : x.natAbs = v.natAbs
      · exact e
      · exact absurd ⟨-x, (mw hb _).2 ⟨hy, by omega⟩, by rw [Int.neg_neg]; exact (mw ha _).2 ⟨hx, e⟩⟩ hne
theorem res_id {V : Int} {a b r : List Int} {v : Int} (ha : IsC V a) (hb : IsC V b) (hr : IsC V r) (hv : 1 ≤ v ∧ v ≤ V) (h : res a b v = (r, true)) (k : Nat) : cfA a k + cfA b k + sA (one r a b) k = 2 * cfA r k := by
  obtain ⟨h1, h2, h3, h4⟩ := res_mem ha hb hv h
  rw [sA_cfA k (one_srt hr.srt)]
  unfold cfA
  simp only [mem_one, h3]
  have na : (k : Int) + 1 ∈ a → -((k : Int) + 1) ∉ a := fun h => no_comp ha.srt h (by omega)
  have nb : (k : Int) + 1 ∈ b → -((k : Int) + 1) ∉ b := fun h => no_comp hb.srt h (by omega)
  by_cases hk : ((k : Int) + 1).natAbs = v.natAbs
  · have e : (k : Int) + 1 = v := by omega
    rw [e] at na nb ⊢
    have n3 : v ∉ b := fun h => nb h h2
    have hnv : (-v).natAbs = v.natAbs := by omega
    simp [h1, h2, n3, hnv]
  · have hk2 : (-((k : Int) + 1)).natAbs ≠ v.natAbs := by omega
    have c1 : (k : Int) + 1 ∈ a → -((k : Int) + 1) ∉ b := fun h h' => hk (h4 _ h h')
    have c2 : -((k : Int) + 1) ∈ a → (k : Int) + 1 ∉ b := fun h h' => hk2 (h4 _ h (by rw [Int.neg_neg]; exact h'))
    by_cases a1 : (k : Int) + 1 ∈ a
    · have a2 := na a1; have a3 := c1 a1
      by_cases b1 : (k : Int) + 1 ∈ b
      · simp [a1, a2, a3, b1, hk]
      · simp [a1, a3, b1, hk]
    · by_cases a2 : -((k : Int) + 1) ∈ a
      · have b1 := c2 a2
        by_cases b2 : -((k : Int) + 1) ∈ b
        · simp [a1, a2, b1, b2, hk]
        · simp [a1, a2, b1, b2, hk]
      · by_cases b1 : (k : Int) + 1 ∈ b
        · have b2 := nb b1
          simp [a1, a2, b1, hk]
        · by_cases b2 : -((k : Int) + 1) ∈ b
          · simp [a1, a2, b1, b2, hk]
          · simp [a1, a2, b1, b2, hk]
/-! what a right step says -/
theorem IsD.weak {F : Cnf} {S : List ResStep} (h : IsD F S) {i : Nat} {x : ResStep} (hx : S[i]? = some x) (hl : 0 ≤ x.left) (hr : x.right < 0) : IsC F.vars (clAt S x.left) ∧ ∀ y ∈ clAt S x.left, y ∈ x.clause := by
  have hn := h.nums hx
  have := h.step i x hx
  unfold stepB at this
  rw [Bool.and_eq_true, show (x.left == -1) = false by rw [beq_eq_false_iff_ne]; omega, show (x.right == -1) = true by rw [beq_iff_eq]; omega] at this
  simp only [cond_false, cond_true, Bool.and_eq_true] at this
  have he := this.2.1
  unfold earlierB at he
  rw [Bool.and_eq_true] at he
  refine ⟨clauseB_iff.1 he.2, fun y hy => ?_⟩
  have hp := this.2.2.2
  unfold partB at hp
  rw [List.all_eq_true] at hp
  exact List.contains_iff_mem.1 (hp y hy)
theorem IsD.resv {F : Cnf} {S : List ResStep} (h : IsD F S) {i : Nat} {x : ResStep} (hx : S[i]? = some x) (hl : 0 ≤ x.left) (hr : 0 ≤ x.right) :
    IsC F.vars (clAt S x.left) ∧ IsC F.vars (clAt S x.right) ∧ (1 ≤ x.pivot ∧ x.pivot ≤ F.vars) ∧ res (clAt S x.left) (clAt S x.right) x.pivot = (x.clause, true) := by
  have hn := h.nums hx
  have := h.step i x hx
  unfold stepB at this
  rw [Bool.and_eq_true, show (x.left == -1) = false by rw [beq_eq_false_iff_ne]; omega, show (x.right == -1) = false by rw [beq_eq_false_iff_ne]; omega] at this
  simp only [cond_false, Bool.and_eq_true] at this
  have he := this.2.1; have he2 := this.2.2.1
  unfold earlierB at he he2
  rw [Bool.and_eq_true] at he he2
  refine ⟨clauseB_iff.1 he.2, clauseB_iff.1 he2.2, inB_iff.1 this.2.2.2.1, Prod.ext (eq_of_beq this.2.2.2.2.2) this.2.2.2.2.1⟩
theorem IsD.axm {F : Cnf} {S : List ResStep} (h : IsD F S) {i : Nat} {x : ResStep} (hx : S[i]? = some x) (hl : x.left < 0) : ix F.clauses x.right = some x.clause := by
  have := h.step i x hx
  unfold stepB at this
  rw [Bool.and_eq_true] at this
  have hn := h.nums hx
  rw [show (x.left == -1) = true by rw [beq_iff_eq]; omega] at this
  simp only [cond_true, Bool.and_eq_true] at this
  have ha := this.2.2
  unfold axB at ha
  rw [Bool.and_eq_true, inB_iff, len_eq] at ha
  unfold ix
  rw [if_pos ha.1.1]
  cases hc : F.clauses[x.right.toNat]? with
  | none => rw [hc] at ha; cases ha.2
  | some c => rw [hc] at ha; rw [eq_of_beq ha.2]
end Go.PF
