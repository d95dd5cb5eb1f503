/- From a proof to planes: the loops over literals. -/
import Derived.Test.YtjpjbfbloplacaaGreatPpPlPq
set_option linter.unusedVariables false
namespace Go.PF
open Go.Pu
def gI (st : List PlaneStep) (k : Int) : Inequality := ((st[k.toNat]?).map PlaneStep.ineq).getD ⟨[], 0⟩
def addQ (q r : Inequality) : Inequality := ⟨List.zipWith (· + ·) q.coeffs r.coeffs, q.bound + r.bound⟩
def halfQ (q : Inequality) : Inequality := ⟨q.coeffs.map (· / 2), upH q.bound⟩
theorem addQ_pl {V : Nat} {φ ψ : Nat → Int} {b d : Int} : addQ (plI V φ b) (plI V ψ d) = plI V (fun k => φ k + ψ k) (b + d) := by
  unfold addQ plI
  simp only [List.zipWith_map, List.zipWith_self]
theorem halfQ_pl {V : Nat} {φ : Nat → Int} {b : Int} : halfQ (plI V (fun k => 2 * φ k) b) = plI V φ (upH b) := by
  unfold halfQ plI
  simp only [List.map_map]
  congr 1
  refine List.map_congr_left fun k _ => ?_
  show 2 * φ k / 2 = φ k
  omega
theorem pl_congr {V : Nat} {φ ψ : Nat → Int} {b : Int} (h : ∀ k, k < V → φ k = ψ k) : plI V φ b = plI V ψ b := by
  unfold plI
  rw [List.map_congr_left fun k hk => h k (List.mem_range.1 hk)]
structure AtP (V : Nat) (B : Int) (st : List PlaneStep) (k : Int) (φ : Nat → Int) : Prop where
  k0 : 0 ≤ k
  k1 : k < st.length
  ex : ∃ b, gI st k = plI V φ b ∧ -B ≤ b ∧ b ≤ B
theorem AtP.ix {V : Nat} {B : Int} {st : List PlaneStep} {k : Int} {φ : Nat → Int} (h : AtP V B st k φ) : ∃ s, Pu.ix st k = some s ∧ s.ineq = gI st k := by
  obtain ⟨s, h1, h2⟩ := ix_of (xs := st) h.k0 h.k1
  exact ⟨s, h1, by unfold gI; rw [h2]; rfl⟩
theorem gI_app {st t : List PlaneStep} {k : Int} (h0 : 0 ≤ k) (h1 : k < st.length) : gI (st ++ t) k = gI st k := by
  unfold gI; rw [List.getElem?_append_left (by omega)]
theorem gI_last (st : List PlaneStep) (s : PlaneStep) : gI (st ++ [s]) (len st) = s.ineq := by
  unfold gI; rw [len_eq, Int.toNat_natCast, List.getElem?_append_right (Nat.le_refl _), Nat.sub_self]; rfl
theorem AtP.app {V : Nat} {B : Int} {st : List PlaneStep} {k : Int} {φ : Nat → Int} (h : AtP V B st k φ) (t : List PlaneStep) : AtP V B (st ++ t) k φ := by
  refine ⟨h.k0, by have := h.k1; simp; omega, ?_⟩
  rw [gI_app h.k0 h.k1]; exact h.ex
theorem AtP.mono {V : Nat} {B C : Int} {st : List PlaneStep} {k : Int} {φ : Nat → Int} (h : AtP V B st k φ) (hc : B ≤ C) : AtP V C st k φ := by
  obtain ⟨b, h1, h2, h3⟩ := h.ex
  exact ⟨h.k0, h.k1, b, h1, by omega, by omega⟩
theorem AtP.congr {V : Nat} {B : Int} {st : List PlaneStep} {k : Int} {φ ψ : Nat → Int} (h : AtP V B st k φ) (hc : ∀ j, j < V → φ j = ψ j) : AtP V B st k ψ := by
  obtain ⟨b, h1, h2, h3⟩ := h.ex
  exact ⟨h.k0, h.k1, b, by rw [h1, pl_congr hc], h2, h3⟩
def lstp (V : Nat) (w : List PlaneStep × Int) (l : Int) : List PlaneStep × Int :=
  (w.1 ++ [⟨plI V (cfA [l]) (bL l), if l < 0 then 3 else 2, vr l, 0, 0⟩] ++ [⟨addQ (gI w.1 w.2) (plI V (cfA [l]) (bL l)), 4, w.2, len w.1, 0⟩], len w.1 + 1)
theorem lstp_at {V : Nat} {B : Int} {w : List PlaneStep × Int} {φ : Nat → Int} (h : AtP V B w.1 w.2 φ) (l : Int) :
    AtP V (B + 1) (lstp V w l).1 (lstp V w l).2 (fun k => φ k + cfA [l] k) ∧ (lstp V w l).1.length = w.1.length + 2 ∧ ∃ t, (lstp V w l).1 = w.1 ++ t := by
  obtain ⟨b, h1, h2, h3⟩ := h.ex
  refine ⟨⟨by unfold lstp; rw [len_eq]; simp only; omega, by unfold lstp; simp [len_eq] <;> omega, b + bL l, ?_, ?_, ?_⟩, by unfold lstp; simp, _, by unfold lstp; simp only; rw [List.append_assoc]⟩
  · unfold lstp
    simp only
    have := gI_last (w.1 ++ [⟨plI V (cfA [l]) (bL l), if l < 0 then 3 else 2, vr l, 0, 0⟩]) ⟨addQ (gI w.1 w.2) (plI V (cfA [l]) (bL l)), 4, w.2, len w.1, 0⟩
    rw [show len w.1 + 1 = len (w.1 ++ [(⟨plI V (cfA [l]) (bL l), if l < 0 then 3 else 2, vr l, 0, 0⟩ : PlaneStep)]) by rw [len_eq, len_eq]; simp, this, h1]
    exact addQ_pl
  · unfold bL; split <;> omega
  · unfold bL; split <;> omega
theorem lits_at {V : Nat} : ∀ {ls : List Int} {B : Int} {w : List PlaneStep × Int} {φ : Nat → Int}, AtP V B w.1 w.2 φ →
    AtP V (B + ls.length) (ls.foldl (lstp V) w).1 (ls.foldl (lstp V) w).2 (fun k => φ k + sA ls k) ∧ (ls.foldl (lstp V) w).1.length = w.1.length + 2 * ls.length ∧ ∃ t, (ls.foldl (lstp V) w).1 = w.1 ++ t
  | [], B, w, φ, h => ⟨(h.mono (by simp)).congr fun k _ => by simp [sA], rfl, [], by simp⟩
  | l :: ls, B, w, φ, h => by
    obtain ⟨h1, h2, t, h3⟩ := lstp_at h l
    obtain ⟨g1, g2, u, g3⟩ := lits_at (ls := ls) h1
    rw [List.foldl_cons]
    refine ⟨(g1.mono (by rw [List.length_cons]; omega)).congr fun k _ => by simp only [sA]; omega, by rw [g2, h2, List.length_cons]; omega, t ++ u, by rw [g3, h3, List.append_assoc]⟩
section
variable {V : Int} (hV : 0 ≤ V ∧ V ≤ 12)
include hV
theorem spec_lround {β : Type} {st : List PlaneStep} {now l B : Int} {φ : Nat → Int} (h : AtP V.toNat B st now φ) (hB : B ≤ 100000) (hφ : ∀ k, k < V.toNat → -1000 ≤ φ k ∧ φ k ≤ 1000) (hl : -V ≤ l ∧ l ≤ V ∧ l ≠ 0) (hs : st.length ≤ 100000) {kind : Int} (hk : kind = if l < 0 then 3 else 2) {K : List PlaneStep → Int → Option β} :
    (bd (spec_l17Literal V l) fun q => bd (spec_l17Add st kind (spec_l2Var l) 0 0 q) fun r => bd (ix r now) fun y => bd (ix r (wr (len r - 1))) fun z => bd (spec_l16Add y.ineq z.ineq) fun a => bd (spec_l17Add r 4 now (wr (len r - 1)) 0 a) fun t => K t (wr (len t - 1))) = K (lstp V.toNat (st, now) l).1 (lstp V.toNat (st, now) l).2 := by
  have hlim : lim = 4294967296 := rfl
  obtain ⟨b, b1, b2, b3⟩ := h.ex
  have hbl : -1 ≤ bL l ∧ bL l ≤ 0 := by unfold bL; split <;> omega
  rw [spec_l17Literal_eq hV hl.1 hl.2.1 hl.2.2, bd_some]
  unfold spec_l17Add
  rw [app_ok (by simp; omega), bd_some, bd_some]
  obtain ⟨s, s1, s2⟩ := (h.app [⟨plI V.toNat (cfA [l]) (bL l), kind, spec_l2Var l, 0, 0⟩]).ix
  rw [s1, bd_some]
  have hw : wr (len (st ++ [(⟨plI V.toNat (cfA [l]) (bL l), kind, spec_l2Var l, 0, 0⟩ : PlaneStep)]) - 1) = ((st.length : Nat) : Int) := by
    rw [len_eq, List.length_append, List.length_singleton, wr_of _ (by omega) (by omega)]; omega
  rw [hw, ix_get, List.getElem?_append_right (Nat.le_refl _), Nat.sub_self, List.getElem?_cons_zero, bd_some, s2, gI_app h.k0 h.k1, b1]
  simp only
  rw [spec_l16Add_eq (by omega) (fun k hk => by have := hφ k hk; omega) (fun k hk => by have := cfA_bd [l] k; omega) (by omega) (by omega), bd_some, app_ok (by simp; omega), bd_some, bd_some]
  unfold lstp
  simp only
  rw [b1, addQ_pl, hk, len_eq st, spec_l2Var_eq]
  congr 1
  rw [len_eq]; simp only [List.length_append, List.length_singleton]
  rw [wr_of _ (by omega) (by omega)]; omega
theorem spec_lits {ls : List Int} (hls : ∀ l ∈ ls, -V ≤ l ∧ l ≤ V ∧ l ≠ 0) (hn : ls.length ≤ 12) {body : List PlaneStep × Int × Int → Option (Lp (List PlaneStep × Int × Int) Empty)}
    (hb : ∀ st now (i : Int), body (st, now, i) = bif decide (i < len ls) then bd (ix ls i) (fun x => bif decide (x < 0) then bd (ix ls i) (fun x1 => bd (ix ls i) fun x2 => bd (spec_l17Literal V x2) fun q => bd (spec_l17Add st 3 (spec_l2Var x1) 0 0 q) fun r => bd (ix r now) fun y => bd (ix r (wr (len r - 1))) fun z => bd (spec_l16Add y.ineq z.ineq) fun a => bd (spec_l17Add r 4 now (wr (len r - 1)) 0 a) fun t => some (.nx (t, wr (len t - 1), wr (i + 1))))
      else bd (ix ls i) (fun x1 => bd (ix ls i) fun x2 => bd (spec_l17Literal V x2) fun q => bd (spec_l17Add st 2 (spec_l2Var x1) 0 0 q) fun r => bd (ix r now) fun y => bd (ix r (wr (len r - 1))) fun z => bd (spec_l16Add y.ineq z.ineq) fun a => bd (spec_l17Add r 4 now (wr (len r - 1)) 0 a) fun t => some (.nx (t, wr (len t - 1), wr (i + 1))))) else some (.bk (st, now, i))) :
    ∀ (m : List Int) (k : Nat) (st : List PlaneStep) (now B : Int) (φ : Nat → Int), k + m.length = ls.length → (∀ i y, m[i]? = some y → ls[k + i]? = some y) → AtP V.toNat B st now φ → B + m.length ≤ 100000 → (∀ j, j < V.toNat → -(1000 - m.length) ≤ φ j ∧ φ j ≤ 1000 - m.length) → st.length + 2 * m.length ≤ 100000 →
      iter body (st, now, (k : Int)) = some (.go ((m.foldl (lstp V.toNat) (st, now)).1, (m.foldl (lstp V.toNat) (st, now)).2, (ls.length : Int))) := by
  intro m
  induction m with
  | nil =>
    intro k st now B φ hk _ _ _ _ _
    simp only [List.length_nil, Nat.add_zero] at hk
    subst hk
    refine iter_bk ?_
    rw [hb, show decide ((ls.length : Int) < len ls) = false by rw [decide_eq_false_iff_not, len_eq]; omega]; rfl
  | cons l m ih =>
    intro k st now B φ hk hm hA hB hφ hs
    simp only [List.length_cons] at hk hB hφ hs
    have hx : ls[k]? = some l := by have := hm 0 l rfl; simpa using this
    have hl := hls l (List.mem_of_getElem? hx)
    have w1 : wr ((k : Int) + 1) = ((k + 1 : Nat) : Int) := by rw [wr_of _ (by omega) (by omega)]; omega
    have e : body (st, now, (k : Int)) = some (.nx ((lstp V.toNat (st, now) l).1, (lstp V.toNat (st, now) l).2, ((k + 1 : Nat) : Int))) := by
      rw [hb, show decide ((k : Int) < len ls) = true by rw [decide_eq_true_eq, len_eq]; omega, cond_true, ix_get, hx, bd_some, bd_some, bd_some, w1]
      by_cases h0 : l < 0
      · rw [show decide (l < 0) = true from decide_eq_true h0, cond_true]
        rw [spec_lround hV hA (by omega) (fun j hj => by have := hφ j hj; omega) hl (by omega) (kind := 3) (by rw [if_pos h0]) (K := fun t n => some (Lp.nx (t, n, ((k + 1 : Nat) : Int))))]
      · rw [show decide (l < 0) = false from decide_eq_false h0, cond_false]
        rw [bd_some, bd_some, spec_lround hV hA (by omega) (fun j hj => by have := hφ j hj; omega) hl (by omega) (kind := 2) (by rw [if_neg h0]) (K := fun t n => some (Lp.nx (t, n, ((k + 1 : Nat) : Int))))]
    rw [iter_nx e, List.foldl_cons]
    obtain ⟨g1, g2, _⟩ := lstp_at (w := (st, now)) hA l
    exact ih (k + 1) _ _ (B + 1) (fun j => φ j + cfA [l] j) (by omega) (fun i y hy => by have := hm (i + 1) y (by simpa using hy); rwa [show k + (i + 1) = k + 1 + i by omega] at this) g1 (by omega)
      (fun j hj => by have := hφ j hj; have := cfA_bd [l] j; omega) (by rw [g2]; simp only; omega)
theorem impl_planer_add_eq {st : List PlaneStep} {a b B : Int} {φ ψ : Nat → Int} (ha : AtP V.toNat B st a φ) (hb : AtP V.toNat B st b ψ) (hB : B ≤ 100000) (hφ : ∀ k, k < V.toNat → -1000 ≤ φ k ∧ φ k ≤ 1000) (hψ : ∀ k, k < V.toNat → -1000 ≤ ψ k ∧ ψ k ≤ 1000) (hs : st.length ≤ 100000) (vars : Int) :
    impl_planer_add ⟨vars, st⟩ a b = some (len st, ⟨vars, st ++ [⟨addQ (gI st a) (gI st b), 4, a, b, 0⟩]⟩) := by
  have hlim : lim = 4294967296 := rfl
  obtain ⟨c, c1, c2, c3⟩ := ha.ex
  obtain ⟨d, d1, d2, d3⟩ := hb.ex
  obtain ⟨s, s1, s2⟩ := ha.ix
  obtain ⟨t, t1, t2⟩ := hb.ix
  unfold impl_planer_add
  simp only
  rw [s1, bd_some, t1, bd_some, s2, t2, c1, d1, impl_addPlanes_eq (by omega) (fun k hk => by have := hφ k hk; omega) (fun k hk => by have := hψ k hk; omega) (by omega) (by omega), bd_some, app_ok (by simp; omega), bd_some, bd_some, addQ_pl]
  simp only
  rw [len_eq, len_eq]; simp only [List.length_append, List.length_singleton]
  rw [wr_of _ (by omega) (by omega)]
  congr 2
  omega
theorem impl_lits {ls : List Int} (hls : ∀ l ∈ ls, -V ≤ l ∧ l ≤ V ∧ l ≠ 0) {body : Nat → Int → List PlaneStep × Int × Int → Option (Lp (List PlaneStep × Int × Int) Empty)}
    (hb : ∀ i y s, body i y s = bif decide (y < 0) then bd (impl_planeOfLiteral s.2.1 y) (fun r => bd (β := _) (bd (app s.1 [(PlaneStep.mk r 3 (impl_abs y) 0 0)]) (fun xs => some (xs, s.2.1, wr (len xs - 1))) : Option (List PlaneStep × Int × Int)) fun u => bd (impl_planer_add (planer.mk u.2.1 u.1) s.2.2 u.2.2) fun r => some (.nx (r.2.steps, r.2.vars, r.1)))
      else bd (impl_planeOfLiteral s.2.1 y) (fun r => bd (β := _) (bd (app s.1 [(PlaneStep.mk r 2 (impl_abs y) 0 0)]) (fun xs => some (xs, s.2.1, wr (len xs - 1))) : Option (List PlaneStep × Int × Int)) fun u => bd (impl_planer_add (planer.mk u.2.1 u.1) s.2.2 u.2.2) fun r => some (.nx (r.2.steps, r.2.vars, r.1)))) :
    ∀ (m : List Int) (i : Nat) (st : List PlaneStep) (now B : Int) (φ : Nat → Int), (∀ l ∈ m, l ∈ ls) → AtP V.toNat B st now φ → B + m.length ≤ 100000 → (∀ j, j < V.toNat → -(1000 - m.length) ≤ φ j ∧ φ j ≤ 1000 - m.length) → st.length + 2 * m.length ≤ 100000 →
      forLFrom body m i (st, V, now) = some (.go ((m.foldl (lstp V.toNat) (st, now)).1, V, (m.foldl (lstp V.toNat) (st, now)).2)) := by
  intro m
  have hlim : lim = 4294967296 := rfl
  induction m with
  | nil => intro i st now B φ _ _ _ _ _; rfl
  | cons l m ih =>
    intro i st now B φ hm hA hB hφ hs
    simp only [List.length_cons] at hB hφ hs
    have hl := hls l (hm l (by simp))
    obtain ⟨b, b1, b2, b3⟩ := hA.ex
    have ab : impl_abs l = vr l := impl_abs_eq (by unfold okI; omega)
    have hbl : -1 ≤ bL l ∧ bL l ≤ 0 := by unfold bL; split <;> omega
    have core : ∀ kind : Int, kind = (if l < 0 then 3 else 2) → (bd (impl_planeOfLiteral V l) fun r => bd (β := _) (bd (app st [(PlaneStep.mk r kind (impl_abs l) 0 0)]) (fun xs => some (xs, V, wr (len xs - 1))) : Option (List PlaneStep × Int × Int)) fun u => bd (impl_planer_add (planer.mk u.2.1 u.1) now u.2.2) fun r => some (Lp.nx (X := Empty) (r.2.steps, r.2.vars, r.1))) = some (.nx ((lstp V.toNat (st, now) l).1, V, (lstp V.toNat (st, now) l).2)) := fun kind hk => by
      rw [impl_planeOfLiteral_eq hV hl.1 hl.2.1 hl.2.2, bd_some, app_ok (by simp; omega), bd_some, bd_some]
      have hw : wr (len (st ++ [(⟨plI V.toNat (cfA [l]) (bL l), kind, impl_abs l, 0, 0⟩ : PlaneStep)]) - 1) = len st := by
        rw [len_eq, len_eq, List.length_append, List.length_singleton, wr_of _ (by omega) (by omega)]; omega
      simp only [hw]
      have hgl := gI_last st ⟨plI V.toNat (cfA [l]) (bL l), kind, impl_abs l, 0, 0⟩
      have hA2 := (hA.app [⟨plI V.toNat (cfA [l]) (bL l), kind, impl_abs l, 0, 0⟩]).mono (show B ≤ B + 1 by omega)
      have hB2 : AtP V.toNat (B + 1) (st ++ [⟨plI V.toNat (cfA [l]) (bL l), kind, impl_abs l, 0, 0⟩]) (len st) (cfA [l]) := ⟨by rw [len_eq]; omega, by rw [len_eq]; simp; omega, bL l, hgl, by omega, by omega⟩
      rw [impl_planer_add_eq hV hA2 hB2 (by omega) (fun j hj => by have := hφ j hj; omega) (fun j hj => by have := cfA_bd [l] j; omega) (by simp; omega), bd_some, gI_app hA.k0 hA.k1, hgl]
      unfold lstp
      simp only
      rw [hk, ab, len_eq, len_eq]
      simp
    have e : body i l (st, V, now) = some (.nx ((lstp V.toNat (st, now) l).1, V, (lstp V.toNat (st, now) l).2)) := by
      rw [hb]
      by_cases h0 : l < 0
      · rw [show decide (l < 0) = true from decide_eq_true h0, cond_true]
        exact core 3 (by rw [if_pos h0])
      · rw [show decide (l < 0) = false from decide_eq_false h0, cond_false]
        exact core 2 (by rw [if_neg h0])
    simp only [forLFrom, e, List.foldl_cons]
    obtain ⟨g1, g2, _⟩ := lstp_at (w := (st, now)) hA l
    exact ih (i + 1) _ _ (B + 1) (fun j => φ j + cfA [l] j) (fun x hx => hm x (by simp [hx])) g1 (by omega) (fun j hj => by have := hφ j hj; have := cfA_bd [l] j; omega) (by rw [g2]; simp only; omega)
theorem impl_planer_literals_eq {ls : List Int} (hls : ∀ l ∈ ls, -V ≤ l ∧ l ≤ V ∧ l ≠ 0) (hn : ls.length ≤ 12) {st : List PlaneStep} {now B : Int} {φ : Nat → Int} (hA : AtP V.toNat B st now φ) (hB : B ≤ 90000) (hφ : ∀ j, j < V.toNat → -900 ≤ φ j ∧ φ j ≤ 900) (hs : st.length ≤ 90000) :
    impl_planer_literals ⟨V, st⟩ now ls = some ((ls.foldl (lstp V.toNat) (st, now)).2, ⟨V, (ls.foldl (lstp V.toNat) (st, now)).1⟩) := by
  unfold impl_planer_literals forL
  simp only
  rw [impl_lits hV hls (fun _ _ _ => by rfl) ls 0 st now B φ (fun _ h => h) hA (by omega) (fun j hj => by have := hφ j hj; omega) (by omega), bdR_go]
theorem impl_planer_divide_eq {st : List PlaneStep} {a B : Int} {φ : Nat → Int} (ha : AtP V.toNat B st a (fun k => 2 * φ k)) (hB : B ≤ 100000) (hφ : ∀ k, k < V.toNat → -1000 ≤ φ k ∧ φ k ≤ 1000) (hs : st.length ≤ 100000) (vars : Int) :
    impl_planer_divide ⟨vars, st⟩ a 2 = some (len st, ⟨vars, st ++ [⟨halfQ (gI st a), 6, a, 0, 2⟩]⟩) := by
  have hlim : lim = 4294967296 := rfl
  obtain ⟨c, c1, c2, c3⟩ := ha.ex
  obtain ⟨s, s1, s2⟩ := ha.ix
  unfold impl_planer_divide
  simp only
  rw [s1, bd_some, s2, c1, impl_dividePlane_eq (by omega) (fun k hk => by have := hφ k hk; omega) (by omega), bd_some, app_ok (by simp; omega), bd_some, bd_some, halfQ_pl]
  simp only
  rw [len_eq, len_eq]; simp only [List.length_append, List.length_singleton]
  rw [wr_of _ (by omega) (by omega)]
  congr 2
  omega
end
end Go.PF
