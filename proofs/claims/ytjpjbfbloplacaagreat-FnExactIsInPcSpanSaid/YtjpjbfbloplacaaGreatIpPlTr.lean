/- The translation of a derivation into polynomials: the reference and the program put the same steps there. -/
import Derived.Test.YtjpjbfbloplacaaGreatIpPlPp
import Derived.Test.YtjpjbfbloplacaaGreatIpPlDW
set_option linter.unusedVariables false
namespace Go.PF
open Go.Pu
open Go.La (vadd co)
def gp (ps : List (List Int)) (k : Int) : List Int := (ps[k.toNat]?).getD []
def sumD (p : Int) (N : Nat) (a : List Int) (x : Int) (b : List Int) (y : Int) : List Int := vadd p y (vadd p x (zs N) a) b
theorem sumD_Dn {p x y : Int} {N : Nat} {a b : List Int} (hp : 1 < p) (ha : Dn p N a) (hb : Dn p N b) : Dn p N (sumD p N a x b y) := vadd_Dn hp (vadd_Dn hp (zs_Dn hp).len ha.len).len hb.len
abbrev WS := List (List Int) × List PcStep × Int
/-- a literal more -/
def wid (p : Int) (N : Nat) (s : WS) (l : Int) : WS :=
  bif decide (0 < l) then
    (s.1 ++ [mulT p N (sp (gp s.1 s.2.2)) (sp (litD p N (vr l)))] ++ [sumD p N (gp s.1 s.2.2) 1 (mulT p N (sp (gp s.1 s.2.2)) (sp (litD p N (vr l)))) (p - 1)],
     s.2.1 ++ [⟨3, sp (mulT p N (sp (gp s.1 s.2.2)) (sp (litD p N (vr l)))), s.2.2, 0, vr l, 0⟩] ++ [⟨2, sp (sumD p N (gp s.1 s.2.2) 1 (mulT p N (sp (gp s.1 s.2.2)) (sp (litD p N (vr l)))) (p - 1)), s.2.2, len s.2.1, 1, p - 1⟩],
     len s.2.1 + 1)
  else
    (s.1 ++ [mulT p N (sp (gp s.1 s.2.2)) (sp (litD p N (vr l)))],
     s.2.1 ++ [⟨3, sp (mulT p N (sp (gp s.1 s.2.2)) (sp (litD p N (vr l)))), s.2.2, 0, vr l, 0⟩],
     len s.2.1)
/-- the polynomials are those of the steps -/
structure Ps (p : Int) (N : Nat) (ps : List (List Int)) (st : List PcStep) : Prop where
  len : ps.length = st.length
  dn : ∀ q ∈ ps, Dn p N q
  sp : ∀ (j : Nat) s q, st[j]? = some s → ps[j]? = some q → s.poly = sp q
theorem Ps.add {p : Int} {N : Nat} {ps : List (List Int)} {st : List PcStep} (h : Ps p N ps st) {q : List Int} {s : PcStep} (hq : Dn p N q) (hs : s.poly = PF.sp q) : Ps p N (ps ++ [q]) (st ++ [s]) := by
  refine ⟨by simp [h.len], fun z hz => ?_, fun j s' q' h1 h2 => ?_⟩
  · rcases List.mem_append.1 hz with hz | hz
    · exact h.dn z hz
    · rw [List.mem_singleton.1 hz]; exact hq
  · by_cases hj : j < st.length
    · rw [List.getElem?_append_left hj] at h1
      rw [List.getElem?_append_left (by rw [h.len]; exact hj)] at h2
      exact h.sp j s' q' h1 h2
    · rw [List.getElem?_append_right (by omega)] at h1
      rw [List.getElem?_append_right (by rw [h.len]; omega), h.len] at h2
      generalize j - st.length = i at h1 h2
      cases i with
      | zero => simp at h1 h2; rw [← h1, ← h2]; exact hs
      | succ i => simp at h1
theorem Ps.at {p : Int} {N : Nat} {ps : List (List Int)} {st : List PcStep} (h : Ps p N ps st) {k : Int} (h0 : 0 ≤ k) (h1 : k < st.length) :
    ix ps k = some (gp ps k) ∧ Dn p N (gp ps k) ∧ ∃ s, ix st k = some s ∧ s.poly = PF.sp (gp ps k) := by
  obtain ⟨q, hq, hg⟩ := ix_of (xs := ps) h0 (by rw [h.len]; exact h1)
  obtain ⟨s, hs, hg2⟩ := ix_of (xs := st) h0 h1
  have e : gp ps k = q := by unfold gp; rw [hg]; rfl
  rw [e]
  exact ⟨hq, h.dn q (List.mem_of_getElem? hg), s, hs, h.sp _ s q hg2 hg⟩
/-- while literals are added -/
structure Wo (p : Int) (N L n : Nat) (s : WS) : Prop where
  ps : Ps p N s.1 s.2.1
  now0 : 0 ≤ s.2.2
  now1 : s.2.2 < s.2.1.length
  lo : L ≤ s.2.1.length
  hi : s.2.1.length ≤ L + 2 * n
  ex : n = 0 ∨ (L : Int) ≤ s.2.2
theorem gp_app {p : Int} {N : Nat} {ps : List (List Int)} {st : List PcStep} (h : Ps p N ps st) {k : Int} (h0 : 0 ≤ k) (h1 : k < st.length) (q : List Int) : gp (ps ++ [q]) k = gp ps k := by
  unfold gp
  rw [List.getElem?_append_left (by rw [h.len]; omega)]
theorem gp_last {ps : List (List Int)} {st : List PcStep} (h : ps.length = st.length) (q : List Int) : gp (ps ++ [q]) (len st) = q := by
  unfold gp
  rw [len_eq, Int.toNat_natCast, List.getElem?_append_right (by omega), h]
  simp
theorem wid_Wo {p v : Int} (h : PV p v) {L n : Nat} {s : WS} (hw : Wo p (nN v) L n s) (l : Int) : Wo p (nN v) L (n + 1) (wid p (nN v) s l) := by
  have hp := h.pos
  have ha := (hw.ps.at hw.now0 hw.now1).2.1
  have ht := mulT_Dn (p := p) (N := nN v) hp.1 (sp (gp s.1 s.2.2)) (sp (litD p (nN v) (vr l)))
  have p1 := hw.ps.add (s := ⟨3, sp (mulT p (nN v) (sp (gp s.1 s.2.2)) (sp (litD p (nN v) (vr l)))), s.2.2, 0, vr l, 0⟩) ht rfl
  have h1 := hw.now0; have h2 := hw.now1; have h3 := hw.lo; have h4 := hw.hi
  unfold wid
  cases decide (0 < l) with
  | false => exact ⟨p1, by show (0 : Int) ≤ len s.2.1; rw [len_eq]; omega, by show len s.2.1 < ((s.2.1 ++ [_]).length : Int); rw [len_eq]; simp; omega, by simp; omega, by simp; omega, .inr (by rw [cond_false, len_eq]; simp; omega)⟩
  | true =>
    have p2 := p1.add (s := ⟨2, sp (sumD p (nN v) (gp s.1 s.2.2) 1 (mulT p (nN v) (sp (gp s.1 s.2.2)) (sp (litD p (nN v) (vr l)))) (p - 1)), s.2.2, len s.2.1, 1, p - 1⟩) (sumD_Dn hp.1 ha ht) rfl
    exact ⟨p2, by rw [cond_true, len_eq]; simp; omega, by rw [cond_true, len_eq]; simp, by simp; omega, by simp; omega, .inr (by rw [cond_true, len_eq]; simp; omega)⟩
theorem spec_l20Times_eq {p v : Int} (h : PV p v) {a : List Int} (ha : Dn p (nN v) a) {u : Int} (h1 : 1 ≤ u) (h2 : u ≤ v) : spec_l20Times p v (sp a) u = some (sp (mulT p (nN v) (sp a) (sp (litD p (nN v) u)))) := by
  have h6 := h.v6
  unfold spec_l20Times
  rw [nn_ok (by rw [wr_sm (by omega) (by omega)]; omega), bd_some, shl_bt h1 (by omega), ← sp_lit_pos (p := p) h1 h2, spec_l18Mul_eq h (sp_TOk ha) (sp_TOk (litD_Dn h.pos.1 _)), bd_some]
theorem foldl_cond {α β : Type} {q : α → Bool} {g : β → α → β} : ∀ {l : List α} {b : β}, l.foldl (fun b a => bif q a then b else g b a) b = (l.filter fun a => !q a).foldl g b
  | [], _ => rfl
  | a :: l, b => by
    rw [List.foldl_cons, List.filter_cons]
    cases q a with
    | true => exact foldl_cond
    | false => exact foldl_cond
/-- what a derivation has become so far -/
abbrev TS := List Int × List (List Int) × List PcStep
def more (a b : List Int) : List Int := a.filter fun y => !b.contains y
def trS (p v : Int) (S : List ResStep) (w : TS) (x : ResStep) : TS :=
  bif decide (x.left < 0) then (w.1 ++ [len w.2.2], w.2.1 ++ [clD p (nN v) x.clause], w.2.2 ++ [⟨1, sp (clD p (nN v) x.clause), x.right, 0, 0, 0⟩])
  else bif decide (x.right < 0) then
    (bif len (more x.clause (clAt S x.left)) == 0 then
      (w.1 ++ [len w.2.2], w.2.1 ++ [sumD p (nN v) (gp w.2.1 (toA w.1 x.left)) 1 (gp w.2.1 (toA w.1 x.left)) 0], w.2.2 ++ [⟨2, sp (sumD p (nN v) (gp w.2.1 (toA w.1 x.left)) 1 (gp w.2.1 (toA w.1 x.left)) 0), toA w.1 x.left, toA w.1 x.left, 1, 0⟩])
    else (let r := (more x.clause (clAt S x.left)).foldl (wid p (nN v)) (w.2.1, w.2.2, toA w.1 x.left); (w.1 ++ [r.2.2], r.1, r.2.1)))
  else
    (let r1 := (without (more (clAt S x.right) (clAt S x.left)) x.pivot).foldl (wid p (nN v)) (w.2.1, w.2.2, toA w.1 x.left)
     let r2 := (without (more (clAt S x.left) (clAt S x.right)) x.pivot).foldl (wid p (nN v)) (r1.1, r1.2.1, toA w.1 x.right)
     (w.1 ++ [len r2.2.1], r2.1 ++ [sumD p (nN v) (gp r2.1 r1.2.2) 1 (gp r2.1 r2.2.2) 1], r2.2.1 ++ [⟨2, sp (sumD p (nN v) (gp r2.1 r1.2.2) 1 (gp r2.1 r2.2.2) 1), r1.2.2, r2.2.2, 1, 1⟩]))
structure To (p v : Int) (i : Nat) (w : TS) : Prop where
  len : w.1.length = i
  ps : Ps p (nN v) w.2.1 w.2.2
  le : w.2.2.length ≤ 60 * i
  inr : ∀ k ∈ w.1, 0 ≤ k ∧ k < w.2.2.length
theorem To.to {p v : Int} {i : Nat} {w : TS} (h : To p v i w) {k : Int} (h0 : 0 ≤ k) (h1 : k < i) : ix w.1 k = some (toA w.1 k) ∧ 0 ≤ toA w.1 k ∧ toA w.1 k < w.2.2.length := by
  obtain ⟨x, hx, hg⟩ := ix_of (xs := w.1) h0 (by rw [h.len]; exact h1)
  have e : toA w.1 k = x := by unfold toA; rw [hg]; rfl
  rw [e]
  exact ⟨hx, h.inr x (List.mem_of_getElem? hg)⟩
theorem To.wo {p v : Int} {i : Nat} {w : TS} (h : To p v i w) {k : Int} (h0 : 0 ≤ k) (h1 : k < w.2.2.length) : Wo p (nN v) w.2.2.length 0 (w.2.1, w.2.2, k) := ⟨h.ps, h0, h1, Nat.le_refl _, Nat.le_refl _, .inl rfl⟩
theorem Wo.re {p : Int} {N L n : Nat} {s : WS} (h : Wo p N L n s) {k : Int} (h0 : 0 ≤ k) (h1 : k < L) : Wo p N s.2.1.length 0 (s.1, s.2.1, k) := ⟨h.ps, h0, by have := h.lo; simp only; omega, Nat.le_refl _, Nat.le_refl _, .inl rfl⟩
theorem wids {p v : Int} (h : PV p v) : ∀ {ls : List Int} {L n : Nat} {s : WS}, Wo p (nN v) L n s → Wo p (nN v) L (n + ls.length) (ls.foldl (wid p (nN v)) s)
  | [], _, _, _, hs => hs
  | l :: ls, L, n, s, hs => by
    have := wids h (ls := ls) (wid_Wo h hs l)
    simp only [List.foldl_cons, List.length_cons]
    rwa [show n + (ls.length + 1) = n + 1 + ls.length by omega]
theorem without_le (c : List Int) (v : Int) : (without c v).length ≤ c.length := List.length_filter_le _ _
theorem more_le (a b : List Int) : (more a b).length ≤ a.length := List.length_filter_le _ _
theorem clAt_isC {F : Cnf} {S : List ResStep} (h : IsD F S) {k : Int} (h0 : 0 ≤ k) (h1 : k < S.length) : ∃ y, ix S k = some y ∧ y.clause = clAt S k ∧ IsC F.vars (clAt S k) := by
  obtain ⟨y, hy, hg⟩ := ix_of (xs := S) h0 h1
  have e : clAt S k = y.clause := by unfold clAt; rw [hg]
  exact ⟨y, hy, e.symm, by rw [e]; exact h.clause (List.mem_of_getElem? hg)⟩
theorem trS_ok {p : Int} {F : Cnf} {S : List ResStep} (h : PV p F.vars) (hD : IsD F S) {i : Nat} {x : ResStep} (hx : S[i]? = some x) {w : TS} (hw : To p F.vars i w) : To p F.vars (i + 1) (trS p F.vars S w x) := by
  have hp := h.pos
  have hi := (List.getElem?_eq_some_iff.1 hx).1
  have hle := hw.le
  have mk : ∀ (ps : List (List Int)) (st : List PcStep) (k : Int), Ps p (nN F.vars) ps st → w.2.2.length ≤ st.length → st.length ≤ 60 * (i + 1) → 0 ≤ k → k < st.length → To p F.vars (i + 1) (w.1 ++ [k], ps, st) := fun ps st k h1 h2 h3 h4 h5 =>
    ⟨by simp [hw.len], h1, h3, fun z hz => by
      rcases List.mem_append.1 hz with hz | hz
      · have := hw.inr z hz; simp only; omega
      · rw [List.mem_singleton.1 hz]; exact ⟨h4, h5⟩⟩
  unfold trS
  cases h1 : decide (x.left < 0) with
  | true => exact mk _ _ _ (hw.ps.add (clD_Dn hp.1 _) rfl) (by simp) (by simp; omega) (by rw [len_eq]; omega) (by rw [len_eq]; simp; omega)
  | false =>
    have hl : 0 ≤ x.left := by have := of_decide_eq_false h1; omega
    have hb := hD.before hx hl
    have t1 := hw.to hl hb.1
    simp only [cond_false]
    cases h2 : decide (x.right < 0) with
    | true =>
      simp only [cond_true]
      have hxc := (hD.clause (List.mem_of_getElem? hx)).len
      have a1 := (hw.ps.at t1.2.1 t1.2.2).2.1
      cases h3 : len (more x.clause (clAt S x.left)) == 0 with
      | true => exact mk _ _ _ (hw.ps.add (sumD_Dn hp.1 a1 a1) rfl) (by simp) (by simp; omega) (by rw [len_eq]; omega) (by rw [len_eq]; simp; omega)
      | false =>
        have hr := wids h (ls := more x.clause (clAt S x.left)) (hw.wo t1.2.1 t1.2.2)
        have hm := more_le x.clause (clAt S x.left)
        have hlo := hr.lo; have hhi := hr.hi
        exact mk _ _ _ hr.ps hlo (by omega) hr.now0 hr.now1
    | false =>
      have hr0 : 0 ≤ x.right := by have := of_decide_eq_false h2; omega
      have t2 := hw.to hr0 (hb.2 hr0)
      obtain ⟨_, _, _, c1⟩ := clAt_isC hD hl (by have := hb.1; omega)
      obtain ⟨_, _, _, c2⟩ := clAt_isC hD hr0 (by have := hb.2 hr0; omega)
      have n1 := c1.len; have n2 := c2.len
      simp only [cond_false]
      have r1 := wids h (ls := without (more (clAt S x.right) (clAt S x.left)) x.pivot) (hw.wo t1.2.1 t1.2.2)
      have r2 := wids h (ls := without (more (clAt S x.left) (clAt S x.right)) x.pivot) (r1.re t2.2.1 t2.2.2)
      have m1 := without_le (more (clAt S x.right) (clAt S x.left)) x.pivot; have m2 := more_le (clAt S x.right) (clAt S x.left)
      have m3 := without_le (more (clAt S x.left) (clAt S x.right)) x.pivot; have m4 := more_le (clAt S x.left) (clAt S x.right)
      generalize (without (more (clAt S x.right) (clAt S x.left)) x.pivot).foldl (wid p (nN F.vars)) (w.2.1, w.2.2, toA w.1 x.left) = q1 at r1 r2 ⊢
      generalize (without (more (clAt S x.left) (clAt S x.right)) x.pivot).foldl (wid p (nN F.vars)) (q1.1, q1.2.1, toA w.1 x.right) = q2 at r2 ⊢
      have l1 := r1.lo; have l2 := r1.hi; have l3 := r2.lo; have l4 := r2.hi
      have a1 := (r2.ps.at r1.now0 (by have := r1.now1; omega)).2.1
      have a2 := (r2.ps.at r2.now0 r2.now1).2.1
      exact mk _ _ _ (r2.ps.add (sumD_Dn hp.1 a1 a2) rfl) (by simp; omega) (by simp; omega) (by rw [len_eq]; omega) (by rw [len_eq]; simp; omega)
end Go.PF
