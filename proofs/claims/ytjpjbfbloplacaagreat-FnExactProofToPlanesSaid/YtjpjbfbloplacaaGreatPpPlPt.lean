/- ProofToPlanes: the law. -/
import Derived.Test.YtjpjbfbloplacaaGreatPpPlPr
set_option linter.unusedVariables false
namespace Go.PF
open Go.Pu
def gA (at_ : List Int) (k : Int) : Int := (at_[k.toNat]?).getD 0
abbrev PW := List Int × List PlaneStep
def stp (V : Int) (S : List ResStep) (w : PW) (x : ResStep) : PW :=
  if x.left < 0 then (w.1 ++ [len w.2], w.2 ++ [⟨plI V.toNat (cfA x.clause) (bC x.clause), 1, x.right, 0, 0⟩])
  else if x.right < 0 then
    (w.1 ++ [((mor x.clause (clAt S x.left)).foldl (lstp V.toNat) (w.2, gA w.1 x.left)).2], ((mor x.clause (clAt S x.left)).foldl (lstp V.toNat) (w.2, gA w.1 x.left)).1)
  else
    (w.1 ++ [len ((one x.clause (clAt S x.left) (clAt S x.right)).foldl (lstp V.toNat) (w.2 ++ [⟨addQ (gI w.2 (gA w.1 x.left)) (gI w.2 (gA w.1 x.right)), 4, gA w.1 x.left, gA w.1 x.right, 0⟩], len w.2)).1],
     ((one x.clause (clAt S x.left) (clAt S x.right)).foldl (lstp V.toNat) (w.2 ++ [⟨addQ (gI w.2 (gA w.1 x.left)) (gI w.2 (gA w.1 x.right)), 4, gA w.1 x.left, gA w.1 x.right, 0⟩], len w.2)).1 ++
       [⟨halfQ (gI ((one x.clause (clAt S x.left) (clAt S x.right)).foldl (lstp V.toNat) (w.2 ++ [⟨addQ (gI w.2 (gA w.1 x.left)) (gI w.2 (gA w.1 x.right)), 4, gA w.1 x.left, gA w.1 x.right, 0⟩], len w.2)).1
          ((one x.clause (clAt S x.left) (clAt S x.right)).foldl (lstp V.toNat) (w.2 ++ [⟨addQ (gI w.2 (gA w.1 x.left)) (gI w.2 (gA w.1 x.right)), 4, gA w.1 x.left, gA w.1 x.right, 0⟩], len w.2)).2), 6,
          ((one x.clause (clAt S x.left) (clAt S x.right)).foldl (lstp V.toNat) (w.2 ++ [⟨addQ (gI w.2 (gA w.1 x.left)) (gI w.2 (gA w.1 x.right)), 4, gA w.1 x.left, gA w.1 x.right, 0⟩], len w.2)).2, 0, 2⟩])
structure Pv (V : Int) (S : List ResStep) (i : Nat) (w : PW) : Prop where
  len : w.1.length = i
  sz : w.2.length ≤ 26 * i
  at_ : ∀ (j : Nat) x, j < i → S[j]? = some x → AtP V.toNat (13 * i) w.2 (gA w.1 j) (cfA x.clause)
theorem Pv.nil {V : Int} {S : List ResStep} : Pv V S 0 ([], []) := ⟨rfl, Nat.le_refl _, fun j x h => absurd h (by omega)⟩
theorem mor_ok {F : Cnf} {c d : List Int} (hc : IsC F.vars c) : (∀ l ∈ mor c d, -F.vars ≤ l ∧ l ≤ F.vars ∧ l ≠ 0) ∧ (mor c d).length ≤ 12 :=
  ⟨fun l hl => hc.lit l (mem_mor.1 hl).1, Nat.le_trans (List.length_filter_le _ _) hc.len⟩
theorem one_ok {F : Cnf} {c d e : List Int} (hc : IsC F.vars c) : (∀ l ∈ one c d e, -F.vars ≤ l ∧ l ≤ F.vars ∧ l ≠ 0) ∧ (one c d e).length ≤ 12 :=
  ⟨fun l hl => hc.lit l (mem_one.1 hl).1, Nat.le_trans (List.length_filter_le _ _) hc.len⟩
theorem gA_old {at_ : List Int} {y : Int} {j : Nat} (h : j < at_.length) : gA (at_ ++ [y]) j = gA at_ j := by
  unfold gA; rw [Int.toNat_natCast, List.getElem?_append_left h]
theorem gA_new {at_ : List Int} {y : Int} : gA (at_ ++ [y]) at_.length = y := by
  unfold gA; rw [Int.toNat_natCast, List.getElem?_append_right (Nat.le_refl _), Nat.sub_self]; rfl
theorem Pv.add {F : Cnf} {S : List ResStep} {i : Nat} {x : ResStep} (hx : S[i]? = some x) {w : PW} (hw : Pv F.vars S i w) {t : List PlaneStep} {k : Int} (hs : (w.2 ++ t).length ≤ 26 * (i + 1)) (hA : AtP F.vars.toNat (13 * (i + 1 : Nat)) (w.2 ++ t) k (cfA x.clause)) : Pv F.vars S (i + 1) (w.1 ++ [k], w.2 ++ t) := by
  refine ⟨by simp [hw.len], hs, fun j y hj hy => ?_⟩
  by_cases hji : j = i
  · subst hji
    rw [hx] at hy; cases hy
    have e : gA (w.1 ++ [k]) (j : Int) = k := by
      have := gA_new (at_ := w.1) (y := k)
      rwa [hw.len] at this
    simp only
    rw [e]; exact hA
  · simp only
    rw [gA_old (by rw [hw.len]; omega)]
    exact ((hw.at_ j y (by omega) hy).app t).mono (by omega)
section
variable {F : Cnf} {S : List ResStep} (hD : IsD F S)
include hD
theorem clAt_of {i : Nat} {k : Int} (hi : i < S.length) (h0 : 0 ≤ k) (h1 : k < i) : ∃ y, ix S k = some y ∧ S[k.toNat]? = some y ∧ clAt S k = y.clause ∧ IsC F.vars y.clause := by
  obtain ⟨y, h2, h3⟩ := ix_of (xs := S) (i := k) h0 (by omega)
  exact ⟨y, h2, h3, by unfold clAt; rw [h3], hD.clause (List.mem_of_getElem? h3)⟩
theorem Pv.place {i : Nat} {w : PW} (hw : Pv F.vars S i w) (hi : i < S.length) {k : Int} (h0 : 0 ≤ k) (h1 : k < i) : ix w.1 k = some (gA w.1 k) ∧ AtP F.vars.toNat (13 * i) w.2 (gA w.1 k) (cfA (clAt S k)) := by
  obtain ⟨y, y1, y2, y3, y4⟩ := clAt_of hD hi h0 h1
  obtain ⟨a, a1, a2⟩ := ix_of (xs := w.1) (i := k) h0 (by rw [hw.len]; omega)
  refine ⟨by rw [a1]; unfold gA; rw [a2]; rfl, ?_⟩
  have := hw.at_ k.toNat y (by omega) y2
  rw [y3]
  rwa [show ((k.toNat : Nat) : Int) = k by omega] at this
theorem res_at {i : Nat} {x : ResStep} (hx : S[i]? = some x) {w : PW} (hw : Pv F.vars S i w) (hl : 0 ≤ x.left) (hr : 0 ≤ x.right) :
    AtP F.vars.toNat (26 * i) (w.2 ++ [⟨addQ (gI w.2 (gA w.1 x.left)) (gI w.2 (gA w.1 x.right)), 4, gA w.1 x.left, gA w.1 x.right, 0⟩]) (Pu.len w.2) (fun k => cfA (clAt S x.left) k + cfA (clAt S x.right) k) ∧
    AtP F.vars.toNat (26 * i + 12) ((one x.clause (clAt S x.left) (clAt S x.right)).foldl (lstp F.vars.toNat) (w.2 ++ [⟨addQ (gI w.2 (gA w.1 x.left)) (gI w.2 (gA w.1 x.right)), 4, gA w.1 x.left, gA w.1 x.right, 0⟩], Pu.len w.2)).1
      ((one x.clause (clAt S x.left) (clAt S x.right)).foldl (lstp F.vars.toNat) (w.2 ++ [⟨addQ (gI w.2 (gA w.1 x.left)) (gI w.2 (gA w.1 x.right)), 4, gA w.1 x.left, gA w.1 x.right, 0⟩], Pu.len w.2)).2 (fun k => 2 * cfA x.clause k) := by
  have hi := (List.getElem?_eq_some_iff.1 hx).1
  have hb := hD.before hx hl
  obtain ⟨c1, c2, c3, c4⟩ := hD.resv hx hl hr
  have hcl := hD.clause (List.mem_of_getElem? hx)
  obtain ⟨_, p2⟩ := hw.place hD hi hl hb.1
  obtain ⟨_, q2⟩ := hw.place hD hi hr (hb.2 hr)
  obtain ⟨b, b1, b2, b3⟩ := p2.ex
  obtain ⟨d, d1, d2, d3⟩ := q2.ex
  have h1 : AtP F.vars.toNat (26 * i) (w.2 ++ [⟨addQ (gI w.2 (gA w.1 x.left)) (gI w.2 (gA w.1 x.right)), 4, gA w.1 x.left, gA w.1 x.right, 0⟩]) (Pu.len w.2) (fun k => cfA (clAt S x.left) k + cfA (clAt S x.right) k) := by
    refine ⟨by rw [len_eq]; omega, by rw [len_eq]; simp; omega, b + d, ?_, by omega, by omega⟩
    rw [gI_last, b1, d1]; exact addQ_pl
  refine ⟨h1, ?_⟩
  have ho := one_ok (F := F) (c := x.clause) (d := clAt S x.left) (e := clAt S x.right) hcl
  obtain ⟨g1, _, _⟩ := lits_at (ls := one x.clause (clAt S x.left) (clAt S x.right)) (w := (w.2 ++ [⟨addQ (gI w.2 (gA w.1 x.left)) (gI w.2 (gA w.1 x.right)), 4, gA w.1 x.left, gA w.1 x.right, 0⟩], Pu.len w.2)) h1
  exact (g1.mono (by have := ho.2; omega)).congr fun k hk => res_id c1 c2 hcl c3 c4 k
theorem weak_at {i : Nat} {x : ResStep} (hx : S[i]? = some x) {w : PW} (hw : Pv F.vars S i w) (hl : 0 ≤ x.left) (hr : x.right < 0) :
    AtP F.vars.toNat (13 * i + 12) ((mor x.clause (clAt S x.left)).foldl (lstp F.vars.toNat) (w.2, gA w.1 x.left)).1 ((mor x.clause (clAt S x.left)).foldl (lstp F.vars.toNat) (w.2, gA w.1 x.left)).2 (cfA x.clause) ∧
    ((mor x.clause (clAt S x.left)).foldl (lstp F.vars.toNat) (w.2, gA w.1 x.left)).1.length ≤ w.2.length + 24 ∧ ∃ t, ((mor x.clause (clAt S x.left)).foldl (lstp F.vars.toNat) (w.2, gA w.1 x.left)).1 = w.2 ++ t := by
  have hi := (List.getElem?_eq_some_iff.1 hx).1
  have hb := hD.before hx hl
  have hcl := hD.clause (List.mem_of_getElem? hx)
  obtain ⟨c1, c2⟩ := hD.weak hx hl hr
  obtain ⟨_, p2⟩ := hw.place hD hi hl hb.1
  have ho := mor_ok (F := F) (c := x.clause) (d := clAt S x.left) hcl
  obtain ⟨g1, g2, g3⟩ := lits_at (ls := mor x.clause (clAt S x.left)) (w := (w.2, gA w.1 x.left)) p2
  exact ⟨(g1.mono (by have := ho.2; omega)).congr fun k hk => weak_id hcl c2 k, by rw [g2]; have := ho.2; simp only; omega, g3⟩
theorem stp_ok {i : Nat} {x : ResStep} (hx : S[i]? = some x) {w : PW} (hw : Pv F.vars S i w) : Pv F.vars S (i + 1) (stp F.vars S w x) := by
  have hi := (List.getElem?_eq_some_iff.1 hx).1
  have hcl := hD.clause (List.mem_of_getElem? hx)
  have hsz := hw.sz
  have hlen := hcl.len
  unfold stp
  by_cases hl : x.left < 0
  · rw [if_pos hl]
    refine hw.add hx (by simp; omega) ⟨by rw [len_eq]; omega, by rw [len_eq]; simp; omega, bC x.clause, gI_last _ _, ?_, ?_⟩
    · unfold bC; have := negs_bd x.clause; omega
    · unfold bC; have := negs_bd x.clause; omega
  · rw [if_neg hl]
    by_cases hr : x.right < 0
    · rw [if_pos hr]
      obtain ⟨h1, h2, t, h3⟩ := weak_at hD hx hw (by omega) hr
      rw [h3] at h1 h2 ⊢
      exact hw.add hx (by omega) (h1.mono (by omega))
    · rw [if_neg hr]
      obtain ⟨h0, h1⟩ := res_at hD hx hw (by omega) (by omega)
      have ho := one_ok (F := F) (c := x.clause) (d := clAt S x.left) (e := clAt S x.right) hcl
      obtain ⟨_, g2, u, g3⟩ := lits_at (ls := one x.clause (clAt S x.left) (clAt S x.right)) (w := (w.2 ++ [⟨addQ (gI w.2 (gA w.1 x.left)) (gI w.2 (gA w.1 x.right)), 4, gA w.1 x.left, gA w.1 x.right, 0⟩], Pu.len w.2)) h0
      generalize (one x.clause (clAt S x.left) (clAt S x.right)).foldl (lstp F.vars.toNat) (w.2 ++ [⟨addQ (gI w.2 (gA w.1 x.left)) (gI w.2 (gA w.1 x.right)), 4, gA w.1 x.left, gA w.1 x.right, 0⟩], Pu.len w.2) = r at h1 g2 g3 ⊢
      obtain ⟨b, b1, b2, b3⟩ := h1.ex
      simp only [List.length_append, List.length_singleton] at g2
      have e : r.1 ++ [(⟨halfQ (gI r.1 r.2), 6, r.2, 0, 2⟩ : PlaneStep)] = w.2 ++ ([⟨addQ (gI w.2 (gA w.1 x.left)) (gI w.2 (gA w.1 x.right)), 4, gA w.1 x.left, gA w.1 x.right, 0⟩] ++ u ++ [⟨halfQ (gI r.1 r.2), 6, r.2, 0, 2⟩]) := by
        rw [g3]; simp only [List.append_assoc]
      have hA : AtP F.vars.toNat (13 * (i + 1 : Nat)) (r.1 ++ [⟨halfQ (gI r.1 r.2), 6, r.2, 0, 2⟩]) (Pu.len r.1) (cfA x.clause) := by
        refine ⟨by rw [len_eq]; omega, by rw [len_eq]; simp; omega, upH b, ?_, ?_, ?_⟩
        · rw [gI_last, b1]; exact halfQ_pl
        · unfold upH; omega
        · unfold upH; omega
      have hs : (r.1 ++ [(⟨halfQ (gI r.1 r.2), 6, r.2, 0, 2⟩ : PlaneStep)]).length ≤ 26 * (i + 1) := by have := ho.2; simp; omega
      show Pv F.vars S (i + 1) (w.1 ++ [Pu.len r.1], r.1 ++ [⟨halfQ (gI r.1 r.2), 6, r.2, 0, 2⟩])
      rw [e] at hA hs ⊢
      exact hw.add hx hs hA
end
end Go.PF
