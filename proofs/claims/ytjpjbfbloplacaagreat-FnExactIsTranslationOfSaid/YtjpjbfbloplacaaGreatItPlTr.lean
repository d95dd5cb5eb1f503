/- The translation of a derivation into polynomials: the reference and the program put the same steps there. -/
import Derived.Test.YtjpjbfbloplacaaGreatItPlPp
import Derived.Test.YtjpjbfbloplacaaGreatItPlDW
set_option linter.unusedVariables false
namespace Go.PF
open Go.Pu
open Go.La (vadd co)
def gp (ps : List (List Int)) (k : Int) : List Int := (ps[k.toNat]?).getD []
def sumD (p : Int) (N : Nat) (a : List Int) (x : Int) (b : List Int) (y : Int) : List Int := vadd p y (vadd p x (zs N) a) b
theorem sumD_Dn {p x y : Int} {N : Nat} {a b : List Int} (hp : 1 < p) (ha : Dn p N a) (hb : Dn p N b) : Dn p N (sumD p N a x b y) := vadd_Dn hp (vadd_Dn hp (zs_Dn hp).len ha.len).len hb.len
abbrev WS := List (List Int) × List PcStep × Int
structure Ps (p : Int) (N : Nat) (ps : List (List Int)) (st : List PcStep) : Prop where
  len : ps.length = st.length
  dn : ∀ q ∈ ps, Dn p N q
  sp : ∀ (j : Nat) s q, st[j]? = some s → ps[j]? = some q → s.poly = sp q
theorem Ps.at {p : Int} {N : Nat} {ps : List (List Int)} {st : List PcStep} (h : Ps p N ps st) {k : Int} (h0 : 0 ≤ k) (h1 : k < st.length) :
    ix ps k = some (gp ps k) ∧ Dn p N (gp ps k) ∧ ∃ s, ix st k = some s ∧ s.poly = PF.sp (gp ps k) := by
  obtain ⟨q, hq, hg⟩ := ix_of (xs := ps) h0 (by rw [h.len]; exact h1)
  obtain ⟨s, hs, hg2⟩ := ix_of (xs := st) h0 h1
  have e : gp ps k = q := by unfold gp; rw [hg]; rfl
  rw [e]
  exact ⟨hq, h.dn q (List.mem_of_getElem? hg), s, hs, h.sp _ s q hg2 hg⟩
structure Wo (p : Int) (N L n : Nat) (s : WS) : Prop where
  ps : Ps p N s.1 s.2.1
  now0 : 0 ≤ s.2.2
  now1 : s.2.2 < s.2.1.length
  lo : L ≤ s.2.1.length
  hi : s.2.1.length ≤ L + 2 * n
  ex : n = 0 ∨ (L : Int) ≤ s.2.2
theorem spec_l20Times_eq {p v : Int} (h : PV p v) {a : List Int} (ha : Dn p (nN v) a) {u : Int} (h1 : 1 ≤ u) (h2 : u ≤ v) : spec_l20Times p v (sp a) u = some (sp (mulT p (nN v) (sp a) (sp (litD p (nN v) u)))) := by
  have h6 := h.v6
  unfold spec_l20Times
  rw [nn_ok (by rw [wr_sm (by omega) (by omega)]; omega), bd_some, shl_bt h1 (by omega), ← sp_lit_pos (p := p) h1 h2, spec_l18Mul_eq h (sp_TOk ha) (sp_TOk (litD_Dn h.pos.1 _)), bd_some]
theorem spec_l20Sum_eq {p v x y : Int} (h : PV p v) (hx : 0 ≤ x ∧ x ≤ 5) (hy : 0 ≤ y ∧ y ≤ 5) {a b : List Int} (ha : Dn p (nN v) a) (hb : Dn p (nN v) b) : spec_l20Sum p v (sp a) x (sp b) y = some (sp (sumD p (nN v) a x b y)) := by
  have hp := h.pos
  unfold spec_l20Sum
  rw [spec_l18Add_dense h hx (spec_l18Dense_nil h.v0 h.v6) (spec_l18Dense_eq h.v0 h.v6 ha.len) (zs_Dn hp.1) ha, bd_some, spec_l18Add_eq h hy (vadd_Dn hp.1 (zs_Dn hp.1).len ha.len) hb, bd_some]
  rfl
abbrev TS := List Int × List (List Int) × List PcStep
structure To (p v : Int) (i : Nat) (w : TS) : Prop where
  len : w.1.length = i
  ps : Ps p (nN v) w.2.1 w.2.2
  le : w.2.2.length ≤ 60 * i
  inr : ∀ k ∈ w.1, 0 ≤ k ∧ k < w.2.2.length
theorem To.to {p v : Int} {i : Nat} {w : TS} (h : To p v i w) {k : Int} (h0 : 0 ≤ k) (h1 : k < i) : ix w.1 k = some (toA w.1 k) ∧ 0 ≤ toA w.1 k ∧ toA w.1 k < w.2.2.length := by
  obtain ⟨x, hx, hg⟩ := ix_of (xs := w.1) h0 (by rw [h.len]; exact h1)
  have e : toA w.1 k = x := by unfold toA; rw [hg]; rfl
  rw [e]
  exact ⟨hx, h.inr x (List.mem_of_getElem? hg)⟩
end Go.PF
