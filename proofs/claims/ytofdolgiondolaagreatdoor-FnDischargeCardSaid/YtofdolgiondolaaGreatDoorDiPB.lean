/- Helpers of the walks and plain laws. -/
import Derived.Test.YtofdolgiondolaaGreatDoorDiPA
set_option linter.unusedVariables false
namespace Go.PF
open Go.Pu
def ftOf (s : ByteArray) : Ft := (fo? s).getD (.leaf 49)
theorem ftOf_eq {s : ByteArray} {t : Ft} (h : fo? s = some t) : ftOf s = t := by unfold ftOf; rw [h]; rfl
def idS (n : Nat) (g : Ft) : List FregeStep :=
  [⟨tx (cs2 g (im g g) g).txt, 2, 0, 0⟩, ⟨tx (cs1 g (im g g)).txt, 1, 0, 0⟩, ⟨tx (im (im g (im g g)) (im g g)).txt, -1, ((n + 1 : Nat) : Int), (n : Int)⟩, ⟨tx (cs1 g g).txt, 1, 0, 0⟩,
   ⟨tx (im g g).txt, -1, ((n + 3 : Nat) : Int), ((n + 2 : Nat) : Int)⟩]
def mpS (n : Nat) (g x y : Ft) (tb ta : Int) : List FregeStep :=
 [⟨tx (cs2 g x y).txt, 2, 0, 0⟩, ⟨tx (im (im g x) (im g y)).txt, -1, tb, (n : Int)⟩, ⟨tx (im g y).txt, -1, ta, ((n + 1 : Nat) : Int)⟩]
def dfS (n : Nat) (g y : Ft) (s : FregeStep) : List FregeStep :=
 [⟨tx y.txt, s.rule, s.a, s.b⟩, ⟨tx (cs1 y g).txt, 1, 0, 0⟩, ⟨tx (im g y).txt, -1, (n : Int), ((n + 1 : Nat) : Int)⟩]
def intAt (l : List Int) (i : Int) : Int := (ix l i).getD 0
def blk (steps : List FregeStep) (g : Ft) (i : Int) (n : Nat) (at_ : List Int) (s : FregeStep) : List FregeStep :=
 if s.rule = 0 ∧ s.a = i then idS n g
 else if s.rule = -1 then mpS n g (match ix steps s.a with | some x => ftOf x.formula | none => .leaf 49) (ftOf s.formula) (intAt at_ s.b) (intAt at_ s.a)
 else dfS n g (ftOf s.formula) s
def stp (steps : List FregeStep) (g : Ft) (i : Int) (st : List FregeStep × List Int) (s : FregeStep) : List FregeStep × List Int :=
 (st.1 ++ blk steps g i st.1.length st.2 s, st.2 ++ [(((st.1 ++ blk steps g i st.1.length st.2 s).length - 1 : Nat) : Int)])
def Fk (steps : List FregeStep) (g : Ft) (i : Int) (k : Nat) : List FregeStep × List Int := (steps.take k).foldl (stp steps g i) ([], [])
theorem Fk_succ {steps : List FregeStep} {g : Ft} {i : Int} {k : Nat} {s : FregeStep} (h : steps[k]? = some s) : Fk steps g i (k + 1) = stp steps g i (Fk steps g i k) s := by
 unfold Fk
 rw [List.take_add_one, h]
 simp
theorem blk_len {steps : List FregeStep} {g : Ft} {i : Int} {n : Nat} {at_ : List Int} {s : FregeStep} : (blk steps g i n at_ s).length ≤ 5 ∧ 3 ≤ (blk steps g i n at_ s).length := by
 unfold blk
 split
 · exact ⟨by show 5 ≤ 5; omega, by show 3 ≤ 5; omega⟩
 split
 · exact ⟨by show 3 ≤ 5; omega, by show 3 ≤ 3; omega⟩
 · exact ⟨by show 3 ≤ 5; omega, by show 3 ≤ 3; omega⟩
structure Cor (given : List ByteArray) (i : Int) (out : List FregeStep) : Prop where
 cor : ∀ j s, out[j]? = some s → s.formula.size ≤ 80 → corB given out j s = true
 no : ∀ s ∈ out, s.rule = 0 → s.a ≠ i
theorem cor_app {given : List ByteArray} {out e : List FregeStep} {j : Nat} {s : FregeStep} (h : corB given out j s = true) (hj : j ≤ out.length) : corB given (out ++ e) j s = true := by
 unfold corB at h ⊢
 split at h
 · cases h
 · rename_i t ht
   split at h
   · rename_i h1; rw [if_pos h1]; exact h
   · rename_i h1
     rw [if_neg h1]
     split at h
     · rename_i h2; rw [if_pos h2]; exact h
     · rename_i h2
       rw [if_neg h2]
       split at h
       · rename_i h3
         rw [if_pos h3]
         rw [Bool.and_eq_true, decide_eq_true_iff] at h
         rw [Bool.and_eq_true, decide_eq_true_iff]
         refine ⟨h.1, ?_⟩
         rw [List.getElem?_append_left (by omega), List.getElem?_append_left (by omega)]
         exact h.2
       · cases h
theorem Cor.nil {given : List ByteArray} {i : Int} : Cor given i [] := ⟨fun j s h => by simp at h, fun s h => by cases h⟩
theorem Cor.push {given : List ByteArray} {i : Int} {out : List FregeStep} (h : Cor given i out) {s : FregeStep} (hc : s.formula.size ≤ 80 → corB given out out.length s = true) (hn : s.rule = 0 → s.a ≠ i) : Cor given i (out ++ [s]) := by
 refine ⟨fun j z hz h80 => ?_, fun z hz => ?_⟩
 · by_cases hj : j < out.length
   · rw [List.getElem?_append_left hj] at hz
     exact cor_app (h.cor j z hz h80) (by omega)
   · have hl := lt_of_get hz
     rw [List.length_append, List.length_singleton] at hl
     have : j = out.length := by omega
     subst this
     simp at hz
     subst hz
     exact cor_app (hc h80) (by omega)
 · rcases List.mem_append.1 hz with hz | hz
   · exact h.no z hz
   · simp at hz; subst hz; exact hn
theorem cor_mp {given : List ByteArray} {out : List FregeStep} {k : Nat} {t : Ft} {p q : Nat} {x y : FregeStep} (ht : t.wf = true) (hp : p < k) (hq : q < k) (hx : out[p]? = some x) (hy : out[q]? = some y) (he : y.formula = imS x.formula (tx t.txt)) (h80 : (tx t.txt).size ≤ 80) :
 corB given out k ⟨tx t.txt, -1, (p : Int), (q : Int)⟩ = true := by
 unfold corB
 rw [tx_size] at h80
 rw [fo?_tx ht h80]
 dsimp only
 rw [if_neg (by omega), if_neg (by omega), if_pos rfl, Bool.and_eq_true, decide_eq_true_iff]
 refine ⟨by omega, ?_⟩
 rw [Int.toNat_natCast, Int.toNat_natCast, hx, hy]
 exact decide_eq_true he
theorem cor_sch {given : List ByteArray} {out : List FregeStep} {k : Nat} {t : Ft} {r : Int} (ht : t.wf = true) (h1 : 1 ≤ r) (h2 : r ≤ 10) (hb : isB r t = true) (h80 : (tx t.txt).size ≤ 80) : corB given out k ⟨tx t.txt, r, 0, 0⟩ = true := by
 unfold corB
 rw [tx_size] at h80
 rw [fo?_tx ht h80]
 dsimp only
 rw [if_pos ⟨h1, h2⟩, hb]
 rfl
theorem cs1_wf {a b : Ft} (ha : a.wf = true) (hb : b.wf = true) : (cs1 a b).wf = true := im_wf ha (im_wf hb ha)
theorem cs2_wf {a b c : Ft} (ha : a.wf = true) (hb : b.wf = true) (hc : c.wf = true) : (cs2 a b c).wf = true := im_wf (im_wf ha (im_wf hb hc)) (im_wf (im_wf ha hb) (im_wf ha hc))
theorem Cor.idS {given : List ByteArray} {i : Int} {out : List FregeStep} (h : Cor given i out) {g : Ft} (hg : g.wf = true) : Cor given i (out ++ idS out.length g) := by
 have gg := im_wf hg hg
 have e : out ++ PF.idS out.length g = ((((out ++ [⟨tx (cs2 g (im g g) g).txt, 2, 0, 0⟩]) ++ [⟨tx (cs1 g (im g g)).txt, 1, 0, 0⟩]) ++ [⟨tx (im (im g (im g g)) (im g g)).txt, -1, ((out.length + 1 : Nat) : Int), (out.length : Int)⟩]) ++ [⟨tx (cs1 g g).txt, 1, 0, 0⟩]) ++ [⟨tx (im g g).txt, -1, ((out.length + 3 : Nat) : Int), ((out.length + 2 : Nat) : Int)⟩] := by
  simp [PF.idS]
 rw [e]
 refine Cor.push (Cor.push (Cor.push (Cor.push (Cor.push h ?_ ?_) ?_ ?_) ?_ ?_) ?_ ?_) ?_ ?_
 · exact cor_sch (cs2_wf hg gg hg) (by omega) (by omega) (is_cs2 _ _ _)
 · intro hr; simp at hr
 · exact cor_sch (cs1_wf hg gg) (by omega) (by omega) (is_cs1 _ _)
 · intro hr; simp at hr
 · exact cor_mp (im_wf (im_wf hg gg) gg) (p := out.length + 1) (q := out.length) (by simp) (by simp) (x := ⟨tx (cs1 g (im g g)).txt, 1, 0, 0⟩) (y := ⟨tx (cs2 g (im g g) g).txt, 2, 0, 0⟩) (by simp) (by simp) (by dsimp only; rw [imS_tx]; rfl)
 · intro hr; simp at hr
 · exact cor_sch (cs1_wf hg hg) (by omega) (by omega) (is_cs1 _ _)
 · intro hr; simp at hr
 · exact cor_mp gg (p := out.length + 3) (q := out.length + 2) (by simp) (by simp) (x := ⟨tx (cs1 g g).txt, 1, 0, 0⟩) (y := ⟨tx (im (im g (im g g)) (im g g)).txt, -1, ((out.length + 1 : Nat) : Int), (out.length : Int)⟩) (by simp) (by simp) (by dsimp only; rw [imS_tx]; rfl)
 · intro hr; simp at hr
theorem Cor.mpS {given : List ByteArray} {i : Int} {out : List FregeStep} (h : Cor given i out) {g x y : Ft} (hg : g.wf = true) (hx : x.wf = true) (hy : y.wf = true) {p q : Nat} {u v : FregeStep} (hp : out[p]? = some u) (hq : out[q]? = some v)
 (eu : u.formula = tx (im g (im x y)).txt) (ev : v.formula = tx (im g x).txt) : Cor given i (out ++ mpS out.length g x y (p : Int) (q : Int)) := by
 have hpl := lt_of_get hp
 have hql := lt_of_get hq
 have e : out ++ PF.mpS out.length g x y (p : Int) (q : Int) = ((out ++ [⟨tx (cs2 g x y).txt, 2, 0, 0⟩]) ++ [⟨tx (im (im g x) (im g y)).txt, -1, (p : Int), (out.length : Int)⟩]) ++ [⟨tx (im g y).txt, -1, (q : Int), ((out.length + 1 : Nat) : Int)⟩] := by
  simp [PF.mpS]
 rw [e]
 refine Cor.push (Cor.push (Cor.push h ?_ ?_) ?_ ?_) ?_ ?_
 · exact cor_sch (cs2_wf hg hx hy) (by omega) (by omega) (is_cs2 _ _ _)
 · intro hr; simp at hr
 · exact cor_mp (im_wf (im_wf hg hx) (im_wf hg hy)) (p := p) (q := out.length) (by simp; omega) (by simp) (x := u) (y := ⟨tx (cs2 g x y).txt, 2, 0, 0⟩) (by rw [List.getElem?_append_left hpl]; exact hp) (by simp) (by dsimp only; rw [eu, imS_tx]; rfl)
 · intro hr; simp at hr
 · exact cor_mp (im_wf hg hy) (p := q) (q := out.length + 1) (by simp; omega) (by simp) (x := v) (y := ⟨tx (im (im g x) (im g y)).txt, -1, (p : Int), (out.length : Int)⟩)
    (by rw [List.getElem?_append_left (by simp; omega), List.getElem?_append_left hql]; exact hq) (by simp) (by dsimp only; rw [ev, imS_tx])
 · intro hr; simp at hr
theorem Cor.dfS {given : List ByteArray} {i : Int} {out : List FregeStep} (h : Cor given i out) {g y : Ft} (hg : g.wf = true) (hy : y.wf = true) {s : FregeStep} (hs : (tx y.txt).size ≤ 80 → corB given out out.length ⟨tx y.txt, s.rule, s.a, s.b⟩ = true) (hn : s.rule = 0 → s.a ≠ i) :
 Cor given i (out ++ dfS out.length g y s) := by
 have e : out ++ PF.dfS out.length g y s = ((out ++ [⟨tx y.txt, s.rule, s.a, s.b⟩]) ++ [⟨tx (cs1 y g).txt, 1, 0, 0⟩]) ++ [⟨tx (im g y).txt, -1, (out.length : Int), ((out.length + 1 : Nat) : Int)⟩] := by
  simp [PF.dfS]
 rw [e]
 refine Cor.push (Cor.push (Cor.push h ?_ ?_) ?_ ?_) ?_ ?_
 · exact hs
 · exact hn
 · exact cor_sch (cs1_wf hy hg) (by omega) (by omega) (is_cs1 _ _)
 · intro hr; simp at hr
 · exact cor_mp (im_wf hg hy) (p := out.length) (q := out.length + 1) (by simp) (by simp) (x := ⟨tx y.txt, s.rule, s.a, s.b⟩) (y := ⟨tx (cs1 y g).txt, 1, 0, 0⟩) (by simp) (by simp) (by dsimp only; rw [imS_tx]; rfl)
 · intro hr; simp at hr
structure Inv (given : List ByteArray) (steps : List FregeStep) (g : Ft) (i : Int) (k : Nat) (st : List FregeStep × List Int) : Prop where
 len : st.2.length = k
 le : st.1.length ≤ 5 * k
 at_ : ∀ j s, j < k → steps[j]? = some s → ∃ p : Nat, st.2[j]? = some (p : Int) ∧ ∃ z, st.1[p]? = some z ∧ z.formula = tx (im g (ftOf s.formula)).txt
 cor : Cor given i st.1
 fin : ∀ s, 0 < k → steps[k - 1]? = some s → ∃ z, st.1[st.1.length - 1]? = some z ∧ z.formula = tx (im g (ftOf s.formula)).txt
theorem gp_mp {given : List ByteArray} {steps : List FregeStep} (h : GP given steps) {k : Nat} {s : FregeStep} (hk : steps[k]? = some s) (hr : s.rule = -1) :
 ∃ (a b : Nat) (x y : FregeStep) (u t : Ft), s.a = (a : Int) ∧ s.b = (b : Int) ∧ a < k ∧ b < k ∧ steps[a]? = some x ∧ steps[b]? = some y ∧ fo? x.formula = some u ∧ fo? s.formula = some t ∧ fo? y.formula = some (im u t) := by
 have hc := h.cor k s hk
 unfold corB at hc
 split at hc
 · cases hc
 · rename_i t ht
   rw [if_neg (by omega), if_neg (by omega), if_pos hr, Bool.and_eq_true, decide_eq_true_iff] at hc
   obtain ⟨⟨h1, h2, h3, h4⟩, h5⟩ := hc
   split at h5
   · rename_i y x hy hx
     have e := of_decide_eq_true h5
     obtain ⟨u, hu⟩ := Option.isSome_iff_exists.1 (cor_good (h.cor _ x hx))
     obtain ⟨v, hv⟩ := Option.isSome_iff_exists.1 (cor_good (h.cor _ y hy))
     obtain ⟨e1, w1, l1⟩ := fo?_some.1 ht
     obtain ⟨e2, w2, l2⟩ := fo?_some.1 hu
     obtain ⟨e3, w3, l3⟩ := fo?_some.1 hv
     rw [e1, e2, e3, imS_tx, tx_eq w3 (im_wf w2 w1)] at e
     exact ⟨s.a.toNat, s.b.toNat, x, y, u, t, by omega, by omega, by omega, by omega, hx, hy, hu, ht, by rw [hv, e]⟩
   · cases h5
theorem gp_fo {given : List ByteArray} {steps : List FregeStep} (h : GP given steps) {k : Nat} {s : FregeStep} (hk : steps[k]? = some s) : ∃ t, fo? s.formula = some t := Option.isSome_iff_exists.1 (cor_good (h.cor k s hk))
theorem cor_any {given : List ByteArray} {steps out : List FregeStep} {k n : Nat} {s : FregeStep} (h : corB given steps k s = true) (hr : s.rule ≠ -1) : corB given out n s = true := by
 unfold corB at h ⊢
 split at h
 · cases h
 · rename_i t ht
   split at h
   · rename_i h1; rw [if_pos h1]; exact h
   · rename_i h1
     rw [if_neg h1]
     split at h
     · rename_i h2; rw [if_pos h2]; exact h
     · cases h
theorem blk_at {given : List ByteArray} {steps : List FregeStep} {g : Ft} {i : Int} {k : Nat} {st : List FregeStep × List Int} {s : FregeStep} (h : GP given steps) (hk : steps[k]? = some s) (hI : Inv given steps g i k st) :
 (s.rule = 0 ∧ s.a = i ∧ blk steps g i st.1.length st.2 s = idS st.1.length g) ∨
 (s.rule = -1 ∧ ∃ (a b p q : Nat) (x y u v : FregeStep) (tx' ty : Ft), s.a = (a : Int) ∧ s.b = (b : Int) ∧ a < k ∧ b < k ∧ steps[a]? = some x ∧ steps[b]? = some y ∧ fo? x.formula = some tx' ∧ fo? s.formula = some ty ∧ st.2[b]? = some (p : Int) ∧ st.2[a]? = some (q : Int) ∧
  st.1[p]? = some u ∧ st.1[q]? = some v ∧ u.formula = tx (im g (im tx' ty)).txt ∧ v.formula = tx (im g tx').txt ∧ blk steps g i st.1.length st.2 s = mpS st.1.length g tx' ty (p : Int) (q : Int)) ∨
 (s.rule ≠ -1 ∧ ¬ (s.rule = 0 ∧ s.a = i) ∧ ∃ ty, fo? s.formula = some ty ∧ blk steps g i st.1.length st.2 s = dfS st.1.length g ty s) := by
 by_cases h1 : s.rule = 0 ∧ s.a = i
 · exact .inl ⟨h1.1, h1.2, by unfold blk; rw [if_pos h1]⟩
 by_cases h2 : s.rule = -1
 · obtain ⟨a, b, x, y, u, t, ha, hb, ha', hb', hx, hy, fx, fs, fy⟩ := gp_mp h hk h2
   obtain ⟨q, q1, v, q2, q3⟩ := hI.at_ a x ha' hx
   obtain ⟨p, p1, w, p2, p3⟩ := hI.at_ b y hb' hy
   refine .inr (.inl ⟨h2, a, b, p, q, x, y, w, v, u, t, ha, hb, ha', hb', hx, hy, fx, fs, p1, q1, p2, q2, by rw [p3, ftOf_eq fy], by rw [q3, ftOf_eq fx], ?_⟩)
   unfold blk
   rw [if_neg h1, if_pos h2, ha, hb, ix_nat hx]
   unfold intAt
   rw [ix_nat p1, ix_nat q1, ftOf_eq fs]
   dsimp only
   rw [ftOf_eq fx]; rfl
 · obtain ⟨t, ht⟩ := gp_fo h hk
   refine .inr (.inr ⟨h2, h1, t, ht, ?_⟩)
   unfold blk
   rw [if_neg h1, if_neg h2, ftOf_eq ht]
theorem last_app {A : Type} (l m : List A) (h : 0 < m.length) : (l ++ m)[(l ++ m).length - 1]? = m[m.length - 1]? := by
 rw [List.length_append, List.getElem?_append_right (by omega)]
 congr 1; omega
theorem Inv.step {given : List ByteArray} {steps : List FregeStep} {g : Ft} {i : Int} {k : Nat} {st : List FregeStep × List Int} {s : FregeStep} (h : GP given steps) (hg : g.wf = true) (hgi : 0 ≤ i ∧ given[i.toNat]? = some (tx g.txt)) (hk : steps[k]? = some s) (hI : Inv given steps g i k st) :
 Inv given steps g i (k + 1) (stp steps g i st s) := by
 have hb := blk_len (steps := steps) (g := g) (i := i) (n := st.1.length) (at_ := st.2) (s := s)
 obtain ⟨t, ht⟩ := gp_fo h hk
 obtain ⟨et, wt, lt⟩ := fo?_some.1 ht
 have hlast : ∃ z, (blk steps g i st.1.length st.2 s)[(blk steps g i st.1.length st.2 s).length - 1]? = some z ∧ z.formula = tx (im g (ftOf s.formula)).txt := by
  rcases blk_at h hk hI with ⟨h1, h2, e⟩ | ⟨h1, a, b, p, q, x, y, u, v, tx', ty, _, _, _, _, _, _, _, fs, _, _, _, _, _, _, e⟩ | ⟨_, _, ty, fs, e⟩
  · rw [e]
    have hc := h.cor k s hk
    unfold corB at hc
    rw [ht] at hc
    dsimp only at hc
    rw [if_neg (by omega), if_pos h1] at hc
    simp only [Bool.and_eq_true, decide_eq_true_eq] at hc
    rw [h2, hgi.2] at hc
    have e2 : tx g.txt = s.formula := Option.some.inj hc.2
    rw [et, tx_eq hg wt] at e2
    exact ⟨_, rfl, by rw [ftOf_eq ht, ← e2]⟩
  · rw [e]; exact ⟨_, rfl, by rw [ftOf_eq fs]⟩
  · rw [e]; exact ⟨_, rfl, by rw [ftOf_eq fs]⟩
 have hlast2 : ∃ z, (stp steps g i st s).1[(stp steps g i st s).1.length - 1]? = some z ∧ z.formula = tx (im g (ftOf s.formula)).txt := by
  obtain ⟨z, z1, z2⟩ := hlast
  exact ⟨z, by show (st.1 ++ _)[(st.1 ++ _).length - 1]? = _; rw [last_app _ _ (by omega)]; exact z1, z2⟩
 refine ⟨?_, ?_, ?_, ?_, ?_⟩
 · show (st.2 ++ [_]).length = k + 1
   rw [List.length_append, hI.len]; rfl
 · show (st.1 ++ blk steps g i st.1.length st.2 s).length ≤ 5 * (k + 1)
   rw [List.length_append]; have := hI.le; omega
 · intro j z hj hz
   by_cases hjk : j < k
   · obtain ⟨p, p1, w, p2, p3⟩ := hI.at_ j z hjk hz
     have hpl := lt_of_get p2
     refine ⟨p, ?_, w, ?_, p3⟩
     · show (st.2 ++ [_])[j]? = _
       rw [List.getElem?_append_left (by rw [hI.len]; exact hjk)]; exact p1
     · show (st.1 ++ _)[p]? = _
       rw [List.getElem?_append_left hpl]; exact p2
   · have : j = k := by omega
     subst this
     rw [hk] at hz; cases hz
     obtain ⟨z, z1, z2⟩ := hlast2
     refine ⟨_, ?_, z, z1, z2⟩
     show (st.2 ++ [_])[j]? = _
     rw [List.getElem?_append_right (by rw [hI.len]; omega), hI.len, Nat.sub_self]; rfl
 · show Cor given i (st.1 ++ blk steps g i st.1.length st.2 s)
   rcases blk_at h hk hI with ⟨h1, h2, e⟩ | ⟨h1, a, b, p, q, x, y, u, v, tx', ty, _, _, _, _, _, _, fx, fs, _, _, hu, hv, eu, ev, e⟩ | ⟨h1, h2, ty, fs, e⟩
   · rw [e]; exact hI.cor.idS hg
   · rw [e]
     exact hI.cor.mpS hg (fo?_some.1 fx).2.1 (fo?_some.1 fs).2.1 hu hv eu ev
   · rw [e]
     obtain ⟨e1, w1, l1⟩ := fo?_some.1 fs
     refine hI.cor.dfS hg w1 (fun h80 => ?_) (fun hr ha => h2 ⟨hr, ha⟩)
     rw [← e1]
     exact cor_any (h.cor k s hk) h1
 · intro z _ hz
   rw [Nat.add_sub_cancel, hk] at hz
   cases hz; exact hlast2
theorem Fk_inv {given : List ByteArray} {steps : List FregeStep} {g : Ft} {i : Int} (h : GP given steps) (hg : g.wf = true) (hgi : 0 ≤ i ∧ given[i.toNat]? = some (tx g.txt)) : ∀ k, k ≤ steps.length → Inv given steps g i k (Fk steps g i k) := by
 intro k
 induction k with
 | zero => intro _; exact ⟨rfl, by show 0 ≤ 0; omega, fun j s hj => by omega, Cor.nil, fun s h0 => by omega⟩
 | succ k ih =>
  intro hk
  have hs : steps[k]? = some steps[k] := List.getElem?_eq_getElem hk
  rw [Fk_succ hs]
  exact (ih (by omega)).step h hg hgi hs
end Go.PF
namespace Go.PF
open Go.Pu
theorem wr_add {n m : Nat} (h : n + m ≤ 1000000000) : wr ((n : Int) + (m : Int)) = ((n + m : Nat) : Int) := by rw [wr_of _ (by omega) (by omega)]; omega
theorem wr_sub {n m : Nat} (h : m ≤ n) (hn : n ≤ 1000000000) : wr ((n : Int) - (m : Int)) = ((n - m : Nat) : Int) := by rw [wr_of _ (by omega) (by omega)]; omega
theorem app1 {A : Type} {l : List A} {x : A} (h : l.length ≤ 1000000) : app l [x] = some (l ++ [x]) := app_ok (by simp only [List.length_singleton]; unfold lim; omega)
theorem len_app1 {A : Type} (l : List A) (x : A) : len (l ++ [x]) = ((l.length + 1 : Nat) : Int) := by rw [len_eq, List.length_append, List.length_singleton]
theorem sc1_at : ix glob0 (wr (1 - 1)) = some (tx sc1.txt) := rfl
theorem sc2_at : ix glob0 (wr (2 - 1)) = some (tx sc2.txt) := rfl
theorem spec_case1 {a b c : Ft} (ha : a.txt.length ≤ 1000) (hb : b.txt.length ≤ 1000) (hc : c.txt.length ≤ 1000) : spec_l24Case 1 (tx a.txt) (tx b.txt) (tx c.txt) = some (tx (cs1 a b).txt) := spec_case (t := sc1) sc1_at rfl (by decide) ha hb hc
theorem spec_case2 {a b c : Ft} (ha : a.txt.length ≤ 1000) (hb : b.txt.length ≤ 1000) (hc : c.txt.length ≤ 1000) : spec_l24Case 2 (tx a.txt) (tx b.txt) (tx c.txt) = some (tx (cs2 a b c).txt) := spec_case (t := sc2) sc2_at rfl (by decide) ha hb hc
theorem spec_imt {a b : Ft} (ha : a.txt.length ≤ 1000000) (hb : b.txt.length ≤ 1000000) : spec_l24Implies (tx a.txt) (tx b.txt) = some (tx (im a b).txt) := by
 rw [spec_im (by rw [tx_size, tx_size]; omega), imS_tx]
theorem impl_imt {a b : Ft} (ha : a.txt.length ≤ 10000) (hb : b.txt.length ≤ 10000) : impl_join 62 a.fo b.fo = some (im a b).fo := impl_join_eq (o := 62) rfl (by rw [show Ft.bin 62 a b = im a b from rfl, im_len]; omega)
theorem spec_id {g : Ft} {out : List FregeStep} (hg : g.txt.length ≤ 80) (ho : out.length ≤ 10000) : spec_l24Identity out (tx g.txt) = some (out ++ idS out.length g) := by
 have l1 := im_len g g
 have l2 := im_len g (im g g)
 unfold spec_l24Identity
 rw [spec_imt (by omega) (by omega), bd_some, spec_case2 (by omega) (by omega) (by omega), bd_some, app1 (by omega), bd_some, spec_case1 (by omega) (by omega) (by omega), bd_some, app1 (by simp; omega), bd_some,
  spec_imt (by omega) (by omega), bd_some, spec_imt (by omega) (by omega), bd_some, app1 (by simp; omega), bd_some, spec_case1 (by omega) (by omega) (by omega), bd_some, app1 (by simp; omega), bd_some, app1 (by simp; omega), bd_some, len_eq]
 have w1 : wr ((out.length : Int) + 1) = ((out.length + 1 : Nat) : Int) := wr_add (m := 1) (by omega)
 have w2 : wr ((out.length : Int) + 2) = ((out.length + 2 : Nat) : Int) := wr_add (m := 2) (by omega)
 have w3 : wr ((out.length : Int) + 3) = ((out.length + 3 : Nat) : Int) := wr_add (m := 3) (by omega)
 rw [w1, w2, w3]
 simp only [List.append_assoc, List.cons_append, List.nil_append]
 rfl
def lgB (out : List FregeStep) : Bool := out.any (fun s => decide (80 < s.formula.size)) || decide (80 < out.length)
theorem lgB_push (out : List FregeStep) (s : FregeStep) : lgB (out ++ [s]) = ((decide (80 < s.formula.size) || decide (out.length = 80)) || lgB out) := by
 unfold lgB
 rw [List.any_append, List.length_append, List.length_singleton]
 simp only [List.any_cons, List.any_nil, Bool.or_false]
 by_cases h : out.length = 80
 · rw [decide_eq_true (show 80 < out.length + 1 by omega), decide_eq_true h]; simp
 · rw [decide_eq_false h]
   have : decide (80 < out.length + 1) = decide (80 < out.length) := decide_eq_decide.2 (by omega)
   rw [this]
   cases out.any _ <;> cases decide (80 < s.formula.size) <;> simp
theorem impl_put {out : List FregeStep} {y : Ft} {r a b : Int} (ho : out.length ≤ 10000) : impl_freger_put ⟨out, lgB out⟩ y.fo r a b = some ((out.length : Int), ⟨out ++ [⟨tx y.txt, r, a, b⟩], lgB (out ++ [⟨tx y.txt, r, a, b⟩])⟩) := by
 obtain ⟨n, n1, n2, n3⟩ := foget y
 unfold impl_freger_put
 rw [n1, bd_some, n2]
 dsimp only
 rw [len_eq, bq]
 have e : (bif (bif decide (80 < ((tx y.txt).size : Int)) then true else decide ((out.length : Int) = 80)) then some (Rs.go (X := Empty) true) else some (Rs.go (lgB out))) = some (Rs.go (lgB (out ++ [⟨tx y.txt, r, a, b⟩]))) := by
  rw [lgB_push]
  rw [show decide (80 < ((tx y.txt).size : Int)) = decide (80 < (tx y.txt).size) from decide_eq_decide.2 (by omega), show decide ((out.length : Int) = 80) = decide (out.length = 80) from decide_eq_decide.2 (by omega)]
  dsimp only
  cases decide (80 < (tx y.txt).size) <;> cases decide (out.length = 80) <;> simp
 rw [e, bdR_go, app1 (by omega), bd_some, len_app1]
 have w := wr_sub (n := out.length + 1) (m := 1) (by omega) (by omega)
 rw [show ((1 : Nat) : Int) = 1 from rfl, Nat.add_sub_cancel] at w
 rw [w]
theorem impl_id {g : Ft} {out : List FregeStep} (hg : g.txt.length ≤ 80) (ho : out.length ≤ 1000) : impl_freger_identity ⟨out, lgB out⟩ g.fo = some (((out.length + 4 : Nat) : Int), ⟨out ++ idS out.length g, lgB (out ++ idS out.length g)⟩) := by
 have l1 := im_len g g
 have l2 := im_len g (im g g)
 unfold impl_freger_identity
 rw [impl_imt (by omega) (by omega), bd_some, impl_case2 (by omega) (by omega) (by omega), bd_some, impl_put (by omega), bd_some, impl_case1 (by omega) (by omega), bd_some, impl_put (by simp; omega), bd_some,
  impl_imt (by omega) (by omega), bd_some, impl_imt (by omega) (by omega), bd_some, impl_put (by simp; omega), bd_some, bd_some, impl_case1 (by omega) (by omega), bd_some, impl_put (by simp; omega), bd_some, impl_put (by simp; omega), bd_some, bd_some]
 simp only [List.append_assoc, List.cons_append, List.nil_append, List.length_append, List.length_cons, List.length_nil]
 rfl
theorem bdR_inv {α S X B : Type} {body : Nat → α → S → Option (Lp S X)} {l : List α} {s : S} {k : S → Option B} {lx : X → Option B} {r : Option B} (I : Nat → S → Prop) (h0 : I 0 s)
 (hb : ∀ i x s, l[i]? = some x → I i s → ∃ s', body i x s = some (.nx s') ∧ I (i + 1) s') (hk : ∀ s, I l.length s → k s = r) : bdR (forL l body s) k lx = r := by
 obtain ⟨s', h1, h2⟩ := forL_inv I h0 hb
 rw [h1, bdR_go]; exact hk s' h2
theorem spec_Dis {given : List ByteArray} {steps : List FregeStep} {g : Ft} {i : Int} (h : GP given steps) (hg : g.wf = true) (h80 : g.txt.length ≤ 80) (hgi : 0 ≤ i ∧ given[i.toNat]? = some (tx g.txt)) :
 spec_l24Discharge given steps i = some (Fk steps g i steps.length).1 := by
 unfold spec_l24Discharge
 have hx : ix given i = some (tx g.txt) := by unfold ix; rw [if_pos hgi.1]; exact hgi.2
 rw [hx, bd_some]
 have hs80 := h.s80
 refine bdR_inv (fun k t => t = Fk steps g i k ∧ k ≤ steps.length) ⟨rfl, by omega⟩ (fun k s t hk ht => ?_) (fun s hs => by rw [hs.1])
 · obtain ⟨rfl, hkl⟩ := ht
   have hkl' := lt_of_get hk
   have hI := Fk_inv h hg hgi k hkl
   have hlen := hI.le
   have hlen2 := hI.len
   generalize hst : Fk steps g i k = st at hI hlen hlen2
   refine ⟨_, ?_, rfl, hkl'⟩
   have hb := blk_len (steps := steps) (g := g) (i := i) (n := st.1.length) (at_ := st.2) (s := s)
   rw [Fk_succ hk, hst]
   have fin : ∀ o, o = st.1 ++ blk steps g i st.1.length st.2 s → (bdR (S := List FregeStep) (X := Empty) (some (Rs.go o)) (fun s285430 => bd (app st.2 [(wr ((len s285430) - 1))]) (fun xs411600 => some (Lp.nx (X := Empty) (s285430, xs411600)))) (fun x => nomatch x)) = some (Lp.nx (stp steps g i st s)) := by
    rintro o rfl
    rw [bdR_go, app1 (by omega), bd_some]
    have w := wr_sub (n := (st.1 ++ blk steps g i st.1.length st.2 s).length) (m := 1) (by rw [List.length_append]; omega) (by rw [List.length_append]; omega)
    rw [show ((1 : Nat) : Int) = 1 from rfl] at w
    rw [len_eq, w]; rfl
   rcases blk_at h hk hI with ⟨h1, h2, e⟩ | ⟨h1, a, b, p, q, x, y, u, v, t1, t2, ha, hb', _, _, hx', _, fx, fs, hp, hq, hu, hv, eu, ev, e⟩ | ⟨h1, h2, ty, fs, e⟩
   · rw [bq, decide_eq_true h1, cond_true, bq, decide_eq_true h2, cond_true, spec_id h80 (by omega), bd_some]
     exact fin _ (by rw [e])
   · obtain ⟨ex, wx, lx⟩ := fo?_some.1 fx
     obtain ⟨es, ws, ls⟩ := fo?_some.1 fs
     have m1 := im_len g t1
     have m2 := im_len g t2
     rw [bq, decide_eq_false (show ¬ s.rule = 0 by omega), cond_false, cond_false, bq, decide_eq_true h1, cond_true, ha, ix_nat hx', bd_some, ex, es, spec_case2 (by omega) (by omega) (by omega), bd_some, app1 (by omega), bd_some,
      spec_imt (by omega) (by omega), bd_some, spec_imt (by omega) (by omega), bd_some, spec_imt (by omega) (by omega), bd_some, hb', ix_nat hp, bd_some, app1 (by simp; omega), bd_some, bd_some, ix_nat hq, bd_some, app1 (by simp; omega), bd_some]
     refine fin _ ?_
     rw [e]
     have w1 := wr_sub (n := st.1.length + 1) (m := 1) (by omega) (by omega)
     have w2 := wr_sub (n := st.1.length + 1 + 1) (m := 1) (by omega) (by omega)
     rw [show ((1 : Nat) : Int) = 1 from rfl, Nat.add_sub_cancel] at w1 w2
     rw [len_app1, w1, len_app1, List.length_append, List.length_singleton, w2]
     simp only [List.append_assoc, List.cons_append, List.nil_append]
     rfl
   · obtain ⟨es, ws, ls⟩ := fo?_some.1 fs
     have m2 := im_len g ty
     have hc : (bif s.rule == 0 then s.a == i else false) = false := by
      rw [bq, bq]
      by_cases c1 : s.rule = 0
      · rw [decide_eq_true c1, cond_true, decide_eq_false (fun c2 => h2 ⟨c1, c2⟩)]
      · rw [decide_eq_false c1, cond_false]
     rw [hc, cond_false, bq, decide_eq_false h1, cond_false, app1 (by omega), bd_some, es, spec_case1 (by omega) (by omega) (by omega), bd_some, app1 (by simp; omega), bd_some, spec_imt (by omega) (by omega), bd_some, app1 (by simp; omega), bd_some]
     refine fin _ ?_
     rw [e]
     have w1 := wr_sub (n := st.1.length + 1 + 1) (m := 1) (by omega) (by omega)
     have w2 := wr_sub (n := st.1.length + 1 + 1) (m := 2) (by omega) (by omega)
     rw [show ((1 : Nat) : Int) = 1 from rfl, Nat.add_sub_cancel] at w1
     rw [show ((2 : Nat) : Int) = 2 from rfl] at w2
     rw [len_app1, List.length_append, List.length_singleton, w1, w2]
     simp only [List.append_assoc, List.cons_append, List.nil_append]
     unfold dfS
     rw [← es]
     rfl
theorem impl_Dis {given : List ByteArray} {steps : List FregeStep} {g : Ft} {i : Int} (h : GP given steps) (hg : g.wf = true) (h80 : g.txt.length ≤ 80) (hgi : 0 ≤ i ∧ given[i.toNat]? = some (tx g.txt)) (hi : i < given.length) :
 impl_Discharge given steps i = some (bif lgB (Fk steps g i steps.length).1 then ([], false) else ((Fk steps g i steps.length).1, true)) := by
 unfold impl_Discharge
 have hx : ix given i = some (tx g.txt) := by unfold ix; rw [if_pos hgi.1]; exact hgi.2
 have h6 := h.g6
 rw [impl_good, prB_iff.2 h, bd_some, Bool.not_true, within_eq, len_eq, wrl (by omega), decide_eq_true (show 0 ≤ i ∧ i ≤ (given.length : Int) - 1 by omega), cond_false, Bool.not_true, cond_false, hx, bd_some, parse_fo (fo?_tx hg h80), bd_some]
 have hs80 := h.s80
 refine bdR_inv (fun k t => t = ((Fk steps g i k).1, lgB (Fk steps g i k).1, (Fk steps g i k).2) ∧ k ≤ steps.length) ⟨rfl, by omega⟩ (fun k s t hk ht => ?_) (fun s hs => by
  rw [hs.1]
  dsimp only
  cases lgB (Fk steps g i steps.length).1 <;> rfl)
 · obtain ⟨rfl, hkl⟩ := ht
   have hkl' := lt_of_get hk
   have hI := Fk_inv h hg hgi k hkl
   have hlen := hI.le
   have hlen2 := hI.len
   generalize hst : Fk steps g i k = st at hI hlen hlen2
   refine ⟨_, ?_, rfl, hkl'⟩
   rw [Fk_succ hk, hst]
   have hb := blk_len (steps := steps) (g := g) (i := i) (n := st.1.length) (at_ := st.2) (s := s)
   have fin : ∀ (o : List FregeStep) (p : Int), o = st.1 ++ blk steps g i st.1.length st.2 s → p = ((o.length - 1 : Nat) : Int) → some (Lp.nx (X := Empty) (o, lgB o, st.2 ++ [p])) = some (Lp.nx ((stp steps g i st s).1, lgB (stp steps g i st s).1, (stp steps g i st s).2)) := by
    rintro o p rfl rfl; rfl
   obtain ⟨ty, fs⟩ := gp_fo h hk
   obtain ⟨es, ws, ls⟩ := fo?_some.1 fs
   rw [parse_fo fs, bd_some]
   dsimp only
   rcases blk_at h hk hI with ⟨h1, h2, e⟩ | ⟨h1, a, b, p, q, x, y, u, v, t1, t2, ha, hb', _, _, hx', _, fx, fs', hp, hq, hu, hv, eu, ev, e⟩ | ⟨h1, h2, ty', fs', e⟩
   · rw [bq, decide_eq_true h1, cond_true, bq, decide_eq_true h2, cond_true, impl_id h80 (by omega), bd_some]
     dsimp only
     rw [app1 (by omega), bd_some]
     exact fin _ _ (by rw [e]) (by rw [List.length_append]; rfl)
   · rw [fs] at fs'; cases fs'
     obtain ⟨ex, wx, lx⟩ := fo?_some.1 fx
     have m1 := im_len g t1
     have m2 := im_len g ty
     have c2 := impl_case2 (a := g) (b := t1) (c := ty) (by omega) (by omega) (by omega)
     rw [bq, decide_eq_false (show ¬ s.rule = 0 by omega), cond_false, cond_false, bq, decide_eq_true h1, cond_true, ha, ix_nat hx', bd_some, parse_fo fx, bd_some]
     dsimp only
     rw [c2, bd_some, impl_put (by omega), bd_some, impl_imt (by omega) (by omega), bd_some, impl_imt (by omega) (by omega), bd_some, impl_imt (by omega) (by omega), bd_some, hb', ix_nat hp, bd_some, impl_put (by simp; omega), bd_some, bd_some, bd_some, ix_nat hq, bd_some]
     dsimp only
     rw [impl_put (by simp; omega), bd_some, bd_some]
     dsimp only
     rw [app1 (by omega), bd_some]
     refine fin _ _ ?_ ?_
     · rw [e]
       simp only [List.append_assoc, List.cons_append, List.nil_append, List.length_append, List.length_singleton]
       rfl
     · simp only [List.length_append, List.length_singleton]
       omega
   · rw [fs] at fs'; cases fs'
     have m2 := im_len g ty
     have hc : (bif s.rule == 0 then s.a == i else false) = false := by
      rw [bq, bq]
      by_cases c1 : s.rule = 0
      · rw [decide_eq_true c1, cond_true, decide_eq_false (fun c2 => h2 ⟨c1, c2⟩)]
      · rw [decide_eq_false c1, cond_false]
     rw [hc, cond_false, bq, decide_eq_false h1, cond_false, impl_put (by omega), bd_some, impl_imt (by omega) (by omega), bd_some, impl_case1 (by omega) (by omega), bd_some]
     dsimp only
     rw [impl_put (by simp; omega), bd_some]
     dsimp only
     rw [impl_put (by simp; omega), bd_some, bd_some]
     dsimp only
     rw [app1 (by omega), bd_some]
     refine fin _ _ ?_ ?_
     · rw [e]
       simp only [List.append_assoc, List.cons_append, List.nil_append, List.length_append, List.length_singleton]
       rfl
     · simp only [List.length_append, List.length_singleton]
       omega
theorem spec_give (out : List FregeStep) : spec_l24Give out = some (bif lgB out then ([], false) else (out, true)) := by
 unfold spec_l24Give lgB
 rw [len_eq]
 by_cases h : 80 < out.length
 · rw [decide_eq_true (show 80 < (out.length : Int) by omega), decide_eq_true h, Bool.or_true]; rfl
 · rw [decide_eq_false (show ¬ 80 < (out.length : Int) by omega), decide_eq_false h, Bool.or_false, cond_false]
   rw [forL_any (p := fun _ s => decide (80 < s.formula.size)) (v := ([], false)) (fun i y hy => by
    rw [show decide (80 < (y.formula.size : Int)) = decide (80 < y.formula.size) from decide_eq_decide.2 (by omega)]), anyI_any]
   cases out.any _ <;> rfl
theorem lgB_false {out : List FregeStep} (h : lgB out = false) : out.length ≤ 80 ∧ ∀ s ∈ out, s.formula.size ≤ 80 := by
 unfold lgB at h
 rw [Bool.or_eq_false_iff, decide_eq_false_iff_not, List.any_eq_false] at h
 refine ⟨by omega, fun s hs => ?_⟩
 have := h.1 s hs
 simp at this; exact this
theorem dis_eq {given : List ByteArray} {steps : List FregeStep} (i : Int) (hz : ∀ x ∈ steps, x.formula.size ≤ 1000000) : (prB given steps = false ∨ ¬ (0 ≤ i ∧ i < given.length)) ∧ spec_Discharge given steps i = some ([], false) ∧ impl_Discharge given steps i = some ([], false) ∨
 ∃ g, GP given steps ∧ g.wf = true ∧ g.txt.length ≤ 80 ∧ 0 ≤ i ∧ i < given.length ∧ given[i.toNat]? = some (tx g.txt) ∧ spec_Discharge given steps i = some (bif lgB (Fk steps g i steps.length).1 then ([], false) else ((Fk steps g i steps.length).1, true)) ∧
  impl_Discharge given steps i = some (bif lgB (Fk steps g i steps.length).1 then ([], false) else ((Fk steps g i steps.length).1, true)) := by
 by_cases hp : prB given steps = true
 · have h := prB_iff.1 hp
   have h6 := h.g6
   by_cases hi : 0 ≤ i ∧ i < given.length
   · obtain ⟨x, hx, hx'⟩ := ix_of (xs := given) hi.1 hi.2
     have hgx := h.gg x (List.mem_of_getElem? hx')
     rw [goodB_fo] at hgx
     obtain ⟨g, fg⟩ := Option.isSome_iff_exists.1 hgx
     obtain ⟨eg, wg, lg⟩ := fo?_some.1 fg
     rw [eg] at hx'
     refine .inr ⟨g, h, wg, lg, hi.1, hi.2, hx', ?_, impl_Dis h wg lg ⟨hi.1, hx'⟩ hi.2⟩
     unfold spec_Discharge
     rw [spec_good hz, hp, bd_some, Bool.not_true, l1In_eq, len_eq, wrl (by omega), decide_eq_true (show 0 ≤ i ∧ i ≤ (given.length : Int) - 1 by omega), cond_false, Bool.not_true, cond_false, spec_Dis h wg lg ⟨hi.1, hx'⟩, bd_some, spec_give, bd_some]
   · refine .inl ⟨.inr hi, ?_, ?_⟩
     · unfold spec_Discharge
       rw [spec_good hz, hp, bd_some, Bool.not_true, l1In_eq, len_eq, wrl (by omega), decide_eq_false (show ¬ (0 ≤ i ∧ i ≤ (given.length : Int) - 1) by omega)]; rfl
     · unfold impl_Discharge
       rw [impl_good, hp, bd_some, Bool.not_true, within_eq, len_eq, wrl (by omega), decide_eq_false (show ¬ (0 ≤ i ∧ i ≤ (given.length : Int) - 1) by omega)]; rfl
 · rw [Bool.not_eq_true] at hp
   refine .inl ⟨.inl hp, ?_, ?_⟩
   · unfold spec_Discharge
     rw [spec_good hz, hp, bd_some]; rfl
   · unfold impl_Discharge
     rw [impl_good, hp, bd_some]; rfl
end Go.PF
namespace Go.PF
open Go.Pu
theorem wr_lenJ {A : Type} {l : List A} (h : l.length ≤ 1000000) : wr (len l - 1) = len l - 1 := wr_of _ (by rw [len_eq]; omega) (by rw [len_eq]; omega)
theorem impl_proved {given : List ByteArray} {steps : List FregeStep} (h : GP given steps) : ∃ s, steps[steps.length - 1]? = some s ∧ impl_ProvedFormula given steps = some (s.formula, true) := by
 have h80 := h.s80
 have hp := h.pos
 have hs : steps[steps.length - 1]? = some steps[steps.length - 1] := List.getElem?_eq_getElem (by omega)
 refine ⟨_, hs, ?_⟩
 unfold impl_ProvedFormula impl_last_impl_FregeStep
 rw [impl_good, prB_iff.2 h, bd_some, Bool.not_true, cond_false, wr_lenJ (by omega), len_eq, show (steps.length : Int) - 1 = ((steps.length - 1 : Nat) : Int) by omega, ix_nat hs]
 rfl
theorem GP.of {given : List ByteArray} {steps out : List FregeStep} {i : Int} (h6 : given.length ≤ 6) (hg : ∀ x ∈ given, goodB x = true) (hc : Cor given i out) (hl : lgB out = false) (hp : 0 < out.length) : GP given out :=
 ⟨h6, (lgB_false hl).1, hg, hp, fun k s hk => hc.cor k s hk ((lgB_false hl).2 s (List.mem_of_getElem? hk))⟩
structure RvJ (xs : List Int) (i : Nat) (ys : List Int) : Prop where
 len : ys.length = xs.length
 mem : ∀ x ∈ ys, x ∈ xs
theorem rev_mem {xs : List Int} (hl : xs.length ≤ 1000000) : ∃ ys, slices_Reverse_int_int xs = some ys ∧ ys.length = xs.length ∧ ∀ x ∈ ys, x ∈ xs := by
 unfold slices_Reverse_int_int
 rw [wr_lenJ hl, len_eq]
 refine loop_ex (R := fun (ys : List Int) => ys.length = xs.length ∧ ∀ x ∈ ys, x ∈ xs) (fun (s : List Int × Int × Int) => (s.2.2 - s.2.1).toNat) (fun (s : List Int × Int × Int) => s.1.length = xs.length ∧ (∀ x ∈ s.1, x ∈ xs) ∧ 0 ≤ s.2.1 ∧ s.2.2 < xs.length) (fun (s : List Int × Int × Int) => s.1.length = xs.length ∧ ∀ x ∈ s.1, x ∈ xs)
  ⟨rfl, fun x hx => hx, by show (0 : Int) ≤ 0; omega, by show (xs.length : Int) - 1 < _; omega⟩ ?_ (fun s hs => ⟨_, rfl, hs⟩)
 rintro ⟨ys, i, j⟩ ⟨g1, g2, g3, g4⟩
 dsimp only at g1 g2 g3 g4 ⊢
 by_cases hij : i < j
 · left
   rw [decide_eq_true hij, cond_true]
   obtain ⟨b, hb, hb'⟩ := ix_of (xs := ys) (i := j) (by omega) (by omega)
   obtain ⟨a, ha, ha'⟩ := ix_of (xs := ys) (i := i) g3 (by omega)
   have p1 : put ys i b = some (ys.set i.toNat b) := by unfold put; rw [if_pos (by omega)]
   obtain ⟨c, hc, _⟩ := ix_of (xs := ys.set i.toNat b) (i := j) (by omega) (by rw [List.length_set]; omega)
   have p2 : put (ys.set i.toNat b) j a = some ((ys.set i.toNat b).set j.toNat a) := by unfold put; rw [if_pos (by rw [List.length_set]; omega)]
   rw [hb, bd_some, ha, bd_some, bd_some, p1, bd_some, hc, bd_some, p2, bd_some, wr_of (i + 1) (by omega) (by omega), wr_of (j - 1) (by omega) (by omega)]
   refine ⟨_, rfl, ⟨by simp [g1], ?_, by dsimp only; omega, by dsimp only; omega⟩, by dsimp only; omega⟩
   intro x hx
   dsimp only at hx
   rcases List.mem_or_eq_of_mem_set hx with hx | rfl
   · rcases List.mem_or_eq_of_mem_set hx with hx | rfl
     · exact g2 x hx
     · exact g2 _ (List.mem_of_getElem? hb')
   · exact g2 _ (List.mem_of_getElem? ha')
 · right
   rw [decide_eq_false hij, cond_false]
   exact ⟨_, rfl, g1, g2⟩
theorem uses_in {given : List ByteArray} {steps : List FregeStep} (h : GP given steps) {k : Nat} {s : FregeStep} (hk : steps[k]? = some s) : impl_FregeStep_uses s = [] ∨ ∃ a b : Nat, impl_FregeStep_uses s = [(a : Int), (b : Int)] ∧ a < steps.length ∧ b < steps.length := by
 unfold impl_FregeStep_uses
 rw [bq]
 by_cases hr : s.rule = -1
 · obtain ⟨a, b, x, y, u, t, ha, hb, ha', hb', _⟩ := gp_mp h hk hr
   have := lt_of_get hk
   exact .inr ⟨a, b, by rw [decide_eq_true hr, cond_true, ha, hb], by omega, by omega⟩
 · exact .inl (by rw [decide_eq_false hr, cond_false])
theorem chk_len {A : Type} {l : List A} (h : l.length ≤ 1000000) : chk (len l) = some l.length := by
 unfold chk; rw [len_eq, if_pos (by omega)]; rfl
theorem rests_in {given : List ByteArray} {steps : List FregeStep} (h : GP given steps) : ∃ L, impl_fregeRests steps = some L ∧ L.length ≤ steps.length ∧ ∀ x ∈ L, ∃ k : Nat, x = (k : Int) ∧ k < steps.length := by
 have h80 := h.s80
 have hp := h.pos
 unfold impl_fregeRests
 rw [len_eq, mk2_ok (by unfold lim; omega), bd_some, wrl (by omega)]
 have key : ∃ L : List Int, bdR (iter (S := List Bool × List Int × Int) (X := Empty) (fun s416 : List Bool × List Int × Int => (bif (decide (0 ≤ s416.2.2)) then bd (ix s416.1 s416.2.2) (fun x770 => (bif (bif (!x770) then (decide (s416.2.2 < ((steps.length : Int) - 1))) else false) then some (Lp.nx (s416.1, s416.2.1, (wr (s416.2.2 - 1)))) else bd (app s416.2.1 [s416.2.2]) (fun xs791 => bd (PF.impl_fregeRests_1 s416.2.2 steps) (fun r802 => bd (chk (len r802)) (fun m812 => bdR (forR (S := (List Bool)) (X := Empty) 0 m812 (fun i813 s813 => bd (ix r802 ((i813 : Nat) : Int)) (fun x911 => bd (ix s813 x911) (fun x919 => bd (put s813 x911 true) (fun xs924 => some (Lp.nx xs924))))) s416.1) (fun s813 => some (Lp.nx (s813, xs791, (wr (s416.2.2 - 1))))) (fun x813 => nomatch x813)))))) else some (Lp.bk (s416.1, s416.2.1, s416.2.2)))) (List.replicate steps.length false, [], (steps.length : Int) - 1)) (fun s416 => bd (PF.slices_Reverse_int_int s416.2.1) (fun r960 => some r960)) (fun x416 => nomatch x416) = some L ∧ L.length ≤ steps.length ∧ ∀ x ∈ L, ∃ k : Nat, x = (k : Int) ∧ k < steps.length := by
  refine loop_ex (R := fun (L : List Int) => L.length ≤ steps.length ∧ ∀ x ∈ L, ∃ k : Nat, x = (k : Int) ∧ k < steps.length)
   (fun (s : List Bool × List Int × Int) => (s.2.2 + 1).toNat) (fun (s : List Bool × List Int × Int) => s.1.length = steps.length ∧ s.2.1.length + (s.2.2 + 1) ≤ steps.length ∧ -1 ≤ s.2.2 ∧ ∀ x ∈ s.2.1, ∃ k : Nat, x = (k : Int) ∧ k < steps.length) (fun (s : List Bool × List Int × Int) => s.2.1.length ≤ steps.length ∧ ∀ x ∈ s.2.1, ∃ k : Nat, x = (k : Int) ∧ k < steps.length)
   ⟨by simp, by show (([] : List Int).length : Int) + ((steps.length : Int) - 1 + 1) ≤ _; simp, by show -1 ≤ (steps.length : Int) - 1; omega, fun x hx => by cases hx⟩ ?_ (fun s hs => ?_)
  · rintro ⟨M, L, i⟩ ⟨g1, g2, g3, g4⟩
    dsimp only at g1 g2 g3 g4 ⊢
    by_cases h0 : 0 ≤ i
    · left
      rw [decide_eq_true h0, cond_true]
      obtain ⟨x, hx, _⟩ := ix_of (xs := M) (i := i) h0 (by omega)
      rw [hx, bd_some, wr_of (i - 1) (by omega) (by omega)]
      by_cases hc : (bif (!x) then (decide (i < ((steps.length : Int) - 1))) else false) = true
      · rw [hc, cond_true]
        exact ⟨_, rfl, ⟨g1, by dsimp only; omega, by dsimp only; omega, g4⟩, by dsimp only; omega⟩
      · rw [Bool.not_eq_true] at hc
        rw [hc, cond_false, app1 (by omega), bd_some]
        obtain ⟨s, hs, hs'⟩ := ix_of (xs := steps) (i := i) h0 (by omega)
        unfold impl_fregeRests_1
        rw [hs, bd_some, bd_some]
        have g4' : ∀ x ∈ L ++ [i], ∃ k : Nat, x = (k : Int) ∧ k < steps.length := by
         intro x hx
         rcases List.mem_append.1 hx with hx | hx
         · exact g4 x hx
         · simp at hx; subst hx; exact ⟨x.toNat, by omega, by omega⟩
        have g2' : ((L ++ [i]).length : Int) + (i - 1 + 1) ≤ steps.length := by simp; omega
        rcases uses_in h hs' with e | ⟨a, b, e, ha, hb⟩
        · rw [e, chk_len (by simp), bd_some]
          have ef : ∀ (B : Nat → List Bool → Option (Lp (List Bool) Empty)), forR (S := List Bool) (X := Empty) 0 ([] : List Int).length B M = some (.go M) := fun B => rfl
          rw [ef, bdR_go]
          exact ⟨_, rfl, ⟨g1, g2', by dsimp only; omega, g4'⟩, by dsimp only; omega⟩
        · rw [e]
          obtain ⟨xa, hxa, _⟩ := ix_of (xs := M) (i := (a : Int)) (by omega) (by omega)
          obtain ⟨xb, hxb, _⟩ := ix_of (xs := M.set a true) (i := (b : Int)) (by omega) (by rw [List.length_set]; omega)
          have e2 : chk (len [(a : Int), (b : Int)]) = some 2 := chk_len (by simp)
          rw [e2, bd_some]
          have ef : forR (S := List Bool) (X := Empty) 0 2 (fun i813 s813 => bd (ix [(a : Int), (b : Int)] ((i813 : Nat) : Int)) (fun x911 => bd (ix s813 x911) (fun x919 => bd (put s813 x911 true) (fun xs924 => some (Lp.nx xs924))))) M = some (.go ((M.set a true).set b true)) := by
           unfold forR
           rw [show 2 - 0 = 2 from rfl, forFrom, show ix [(a : Int), (b : Int)] ((0 : Nat) : Int) = some (a : Int) from rfl, bd_some, hxa, bd_some, put_ok (by omega), bd_some]
           dsimp only
           rw [forFrom, show ix [(a : Int), (b : Int)] ((0 + 1 : Nat) : Int) = some (b : Int) from rfl, bd_some, hxb, bd_some, put_ok (by rw [List.length_set]; omega), bd_some]
           dsimp only
           rw [forFrom]
          rw [ef, bdR_go]
          exact ⟨_, rfl, ⟨by simp [g1], g2', by dsimp only; omega, g4'⟩, by dsimp only; omega⟩
    · right
      rw [decide_eq_false h0, cond_false]
      exact ⟨_, rfl, by dsimp only; omega, g4⟩
  · obtain ⟨ys, y1, y2, y3⟩ := rev_mem (xs := s.2.1) (by have := hs.1; omega)
    exact ⟨ys, by rw [y1, bd_some], by rw [y2]; exact hs.1, fun x hx => hs.2 x (y3 x hx)⟩
 obtain ⟨L, l1, l2⟩ := key
 exact ⟨L, (congrArg (fun x : Option (List Int) => bd x (fun s401 => some s401)) l1).trans rfl, l2⟩
theorem forR_invJ {A S X : Type} {body : Nat → S → Option (Lp S X)} {l : List A} {s : S} (I : Nat → S → Prop) (h0 : I 0 s)
    (hb : ∀ i x s, l[i]? = some x → I i s → ∃ s', body i s = some (.nx s') ∧ I (i + 1) s') : ∃ s', forR 0 l.length body s = some (.go s') ∧ I l.length s' := by
  have key : ∀ (n k : Nat) (s : S), k + n = l.length → I k s → ∃ s', forFrom body n k s = some (.go s') ∧ I l.length s' := by
    intro n
    induction n with
    | zero => intro k s hk hi; exact ⟨s, rfl, by have : k = l.length := by omega
                                                 rw [← this]; exact hi⟩
    | succ n ih =>
      intro k s hk hi
      obtain ⟨s', h1, h2⟩ := hb k l[k] s (List.getElem?_eq_getElem (by omega)) hi
      rw [forFrom, h1]
      exact ih (k + 1) s' (by omega) h2
  exact key l.length 0 s (by omega) h0
theorem impl_used {given : List ByteArray} {steps : List FregeStep} (h : GP given steps) : ∃ U, impl_UsedFormulas given steps = some (U, true) ∧ ∀ x ∈ U, ∃ s ∈ steps, s.rule = 0 ∧ s.a = x := by
 have h80 := h.s80
 obtain ⟨L, l1, l2, l3⟩ := rests_in h
 unfold impl_UsedFormulas
 rw [impl_good, prB_iff.2 h, bd_some, Bool.not_true, cond_false, l1, bd_some, chk_len (by omega), bd_some]
 obtain ⟨V, v1, v2, v3⟩ := forR_invJ (X := Empty) (l := L) (s := ([] : List Int)) (body := fun i38 s38 => bd (ix L ((i38 : Nat) : Int)) (fun x110 => bd (ix steps x110) (fun x118 => (bif (x118.rule == 0) then bd (ix steps x110) (fun x127 => bd (app s38 [x127.a]) (fun xs134 => some (Lp.nx xs134))) else some (Lp.nx s38)))))
  (fun k V => V.length ≤ k ∧ ∀ x ∈ V, ∃ s ∈ steps, s.rule = 0 ∧ s.a = x) ⟨by simp, fun x hx => by cases hx⟩ (fun k x V hk hV => by
   obtain ⟨j, rfl, hj⟩ := l3 x (List.mem_of_getElem? hk)
   have hkl := lt_of_get hk
   have hs : steps[j]? = some steps[j] := List.getElem?_eq_getElem hj
   rw [ix_nat hk, bd_some, ix_nat hs, bd_some, bq]
   by_cases hr : (steps[j]).rule = 0
   · rw [decide_eq_true hr, cond_true, bd_some, app1 (by have := hV.1; omega), bd_some]
     refine ⟨_, rfl, by rw [List.length_append, List.length_singleton]; have := hV.1; omega, fun x hx => ?_⟩
     rcases List.mem_append.1 hx with hx | hx
     · exact hV.2 x hx
     · simp at hx; subst hx; exact ⟨_, List.getElem_mem hj, hr, rfl⟩
   · rw [decide_eq_false hr, cond_false]
     exact ⟨_, rfl, by have := hV.1; omega, hV.2⟩)
 rw [v1, bdR_go]
 unfold slices_Sort_int_int sortI slices_Compact_int_int
 rw [if_pos (by unfold lim; omega), bd_some, bd_some]
 refine ⟨_, rfl, fun x hx => ?_⟩
 rw [mem_compactL, List.mem_mergeSort] at hx
 exact v3 x hx
theorem vHas_eq (l : List Int) (i : Int) : laws_vHas l i = some (l.any fun y => decide (y = i)) := by
 unfold laws_vHas
 rw [forL_any (p := fun _ y => decide (y = i)) (v := true) (fun k y hy => by rw [bq]), anyI_any]
 cases l.any _ <;> rfl
def mvS (s : FregeStep) : FregeStep := if s.rule = -1 then ⟨s.formula, s.rule, s.a + 1, s.b + 1⟩ else s
theorem mvS_f (s : FregeStep) : (mvS s).formula = s.formula := by unfold mvS; split <;> rfl
theorem cor_mv {given : List ByteArray} {out e : List FregeStep} {o : FregeStep} {k : Nat} {s : FregeStep} (h : corB given out k s = true) (hk : k ≤ out.length) : corB given (o :: (out.map mvS ++ e)) (k + 1) (mvS s) = true := by
 unfold corB at h ⊢
 rw [mvS_f]
 split at h
 · cases h
 · rename_i t ht
   by_cases hr : s.rule = -1
   · have e1 : mvS s = ⟨s.formula, s.rule, s.a + 1, s.b + 1⟩ := by unfold mvS; rw [if_pos hr]
     rw [e1]
     dsimp only
     rw [if_neg (by omega), if_neg (by omega), if_pos hr, Bool.and_eq_true, decide_eq_true_iff] at h ⊢
     obtain ⟨⟨h1, h2, h3, h4⟩, h5⟩ := h
     refine ⟨by omega, ?_⟩
     have n1 : (s.a + 1).toNat = s.a.toNat + 1 := by omega
     have n2 : (s.b + 1).toNat = s.b.toNat + 1 := by omega
     rw [n1, n2, List.getElem?_cons_succ, List.getElem?_cons_succ, List.getElem?_append_left (by rw [List.length_map]; omega), List.getElem?_append_left (by rw [List.length_map]; omega), List.getElem?_map, List.getElem?_map]
     split at h5
     · rename_i y x hy hx
       rw [hy, hx]
       simp only [Option.map_some, mvS_f]
       exact h5
     · cases h5
   · have e1 : mvS s = s := by unfold mvS; rw [if_neg hr]
     rw [e1]
     split at h
     · rename_i c; rw [if_pos c]; exact h
     · rename_i c
       rw [if_neg c]
       split at h
       · rename_i c2; rw [if_pos c2]; exact h
       · cases h
theorem impl_modus {given : List ByteArray} {out : List FregeStep} {g t : Ft} {i : Int} (h6 : given.length ≤ 6) (hgg : ∀ x ∈ given, goodB x = true) (hg : g.wf = true) (hg80 : g.txt.length ≤ 80) (ht : t.wf = true) (hi : 0 ≤ i) (hgi : given[i.toNat]? = some (tx g.txt)) (h : GP given out)
 {z : FregeStep} (hz : out[out.length - 1]? = some z) (ez : z.formula = tx (im g t).txt) : ∃ r, impl_AddModus given [⟨tx g.txt, 0, i, 0⟩] out = some r ∧ (r.2 = false ∨ GP given r.1 ∧ ∃ y, r.1[r.1.length - 1]? = some y ∧ y.formula = tx t.txt) := by
 have h80 := h.s80
 have hp := h.pos
 have hone : GP given [⟨tx g.txt, 0, i, 0⟩] := by
  refine ⟨h6, by simp, hgg, by simp, fun k s hk => ?_⟩
  have : k = 0 := by have := lt_of_get hk; simp at this; exact this
  subst this
  simp at hk
  subst hk
  unfold corB
  rw [fo?_tx hg hg80]
  dsimp only
  rw [if_neg (by omega), if_pos rfl, hgi]
  simp [hi]
 unfold impl_AddModus
 rw [impl_good, prB_iff.2 hone, bd_some, Bool.not_true, cond_false, impl_good, prB_iff.2 h, bd_some, bd_some, Bool.not_true, cond_false, len_eq, len_eq]
 have hw : wr (wr ((([⟨tx g.txt, 0, i, 0⟩] : List FregeStep).length : Int) + (out.length : Int)) + 1) = ((out.length + 2 : Nat) : Int) := by
  rw [show (([⟨tx g.txt, 0, i, 0⟩] : List FregeStep).length : Int) = 1 from rfl, wr_of (1 + (out.length : Int)) (by omega) (by omega), wr_of _ (by omega) (by omega)]; omega
 rw [hw]
 by_cases hl : 80 < out.length + 2
 · rw [decide_eq_true (show (80 : Int) < ((out.length + 2 : Nat) : Int) by omega)]
   exact ⟨_, rfl, .inl rfl⟩
 · rw [decide_eq_false (show ¬ (80 : Int) < ((out.length + 2 : Nat) : Int) by omega), cond_false]
   have hfz : fo? z.formula = some (im g t) := by
    obtain ⟨u, hu⟩ := gp_fo h hz
    obtain ⟨eu, wu, lu⟩ := fo?_some.1 hu
    rw [ez, tx_eq (im_wf hg ht) wu] at eu
    rw [hu, eu]
   have hlast : impl_last_impl_FregeStep out = some z := by
    unfold impl_last_impl_FregeStep
    rw [wr_lenJ (by omega), len_eq, show (out.length : Int) - 1 = ((out.length - 1 : Nat) : Int) by omega, ix_nat hz]; rfl
   have hlast1 : impl_last_impl_FregeStep [⟨tx g.txt, 0, i, 0⟩] = some ⟨tx g.txt, 0, i, 0⟩ := by
    unfold impl_last_impl_FregeStep
    rw [wr_lenJ (by simp)]; rfl
   rw [hlast, bd_some, parse_fo hfz, bd_some]
   obtain ⟨n, n1, n2, n3⟩ := foget g
   obtain ⟨m, m1, m2, m3⟩ := foget t
   show ∃ r, bd (some (FoN.mk 62 g.fo t.fo (tx (im g t).txt))) _ = some r ∧ _
   rw [bd_some]
   dsimp only
   rw [hlast1, n1, bd_some, n2, bd_some]
   dsimp only
   rw [eqS, decide_eq_true rfl]
   show ∃ r, bd (some false) _ = some r ∧ _
   rw [bd_some, cond_false]
   unfold slices_Clone_impl_FregeStep_impl_FregeStep
   rw [app_ok (by simp [lim]), bd_some, bd_some, List.nil_append]
   have hloop : ∀ (K : List FregeStep → Option (List FregeStep × Bool)) (r : Option (List FregeStep × Bool)), K (⟨tx g.txt, 0, i, 0⟩ :: out.map mvS) = r →
    bdR (forL (S := (List FregeStep)) (X := Empty) out (fun i128 y127 s128 => (bif (y127.rule == (-1)) then bd (app s128 [(FregeStep.mk y127.formula y127.rule (wr (y127.a + (([⟨tx g.txt, 0, i, 0⟩] : List FregeStep).length : Int))) (wr (y127.b + (([⟨tx g.txt, 0, i, 0⟩] : List FregeStep).length : Int))))]) (fun xs240 => some (Lp.nx xs240)) else bd (app s128 [y127]) (fun xs256 => some (Lp.nx xs256)))) [⟨tx g.txt, 0, i, 0⟩]) K (fun x => nomatch x) = r := by
    intro K r hK
    refine bdR_inv (fun k s => s = ⟨tx g.txt, 0, i, 0⟩ :: (out.take k).map mvS ∧ k ≤ out.length) ⟨rfl, by omega⟩ (fun k s S hk hS => ?_) (fun s hs => by rw [hs.1, List.take_length]; exact hK)
    obtain ⟨rfl, hkl⟩ := hS
    have hkl' := lt_of_get hk
    refine ⟨_, ?_, rfl, hkl'⟩
    rw [List.take_add_one, hk, bq]
    have hlen : (⟨tx g.txt, 0, i, 0⟩ :: (out.take k).map mvS : List FregeStep).length ≤ 1000000 := by simp; omega
    by_cases hr : s.rule = -1
    · obtain ⟨a, b, x, y, u, t, ha, hb, ha', hb', _⟩ := gp_mp h hk hr
      rw [decide_eq_true hr, cond_true, app1 hlen, bd_some, show ((([⟨tx g.txt, 0, i, 0⟩] : List FregeStep).length : Int)) = 1 from rfl, wr_of (s.a + 1) (by omega) (by omega), wr_of (s.b + 1) (by omega) (by omega)]
      have : mvS s = ⟨s.formula, s.rule, s.a + 1, s.b + 1⟩ := by unfold mvS; rw [if_pos hr]
      rw [← this]
      simp
    · rw [decide_eq_false hr, cond_false, app1 hlen, bd_some]
      have : mvS s = s := by unfold mvS; rw [if_neg hr]
      rw [← this]
      simp [this]
   generalize hR : (⟨tx g.txt, 0, i, 0⟩ :: out.map mvS ++ [⟨tx t.txt, -1, 0, (out.length : Int)⟩] : List FregeStep) = R
   refine ⟨(R, true), hloop _ _ ?_, .inr ?_⟩
   · show bd t.fo.get _ = _
     rw [m1, bd_some, m2]
     have hl' : len (⟨tx g.txt, 0, i, 0⟩ :: out.map mvS : List FregeStep) = ((out.length + 1 : Nat) : Int) := by rw [len_eq, List.length_cons, List.length_map]
     have w := wr_sub (n := out.length + 1) (m := 1) (by omega) (by omega)
     rw [show ((1 : Nat) : Int) = 1 from rfl, Nat.add_sub_cancel] at w
     rw [hl', w, app1 (by simp; omega), bd_some, ← hR]
     have w0 : wr ((([⟨tx g.txt, 0, i, 0⟩] : List FregeStep).length : Int) - 1) = 0 := by
      rw [List.length_singleton, wr_of _ (by omega) (by omega)]; rfl
     rw [w0]
   · have hRl : R.length = out.length + 2 := by rw [← hR]; simp
     have ht80 : t.txt.length ≤ 80 := by
      obtain ⟨_, _, l⟩ := fo?_some.1 hfz
      rw [im_len] at l; omega
     refine ⟨⟨h6, by dsimp only; omega, hgg, by dsimp only; omega, fun k s hk => ?_⟩, ⟨tx t.txt, -1, 0, (out.length : Int)⟩, ?_, rfl⟩
     · dsimp only at hk ⊢
       have hkl := lt_of_get hk
       cases k with
       | zero =>
        have : s = ⟨tx g.txt, 0, i, 0⟩ := by rw [← hR] at hk; simp at hk; exact hk.symm
        subst this
        exact cor_any (hone.cor 0 ⟨tx g.txt, 0, i, 0⟩ rfl) (by show (0 : Int) ≠ -1; omega)
       | succ k =>
        by_cases hko : k < out.length
        · have hok : out[k]? = some out[k] := List.getElem?_eq_getElem hko
          have : s = mvS out[k] := by
           rw [← hR, List.cons_append, List.getElem?_cons_succ, List.getElem?_append_left (by rw [List.length_map]; exact hko), List.getElem?_map, hok] at hk
           exact (Option.some.inj hk).symm
          rw [this, ← hR, List.cons_append]
          exact cor_mv (h.cor k _ hok) (by omega)
        · have hk2 : k = out.length := by omega
          subst hk2
          have : s = ⟨tx t.txt, -1, 0, (out.length : Int)⟩ := by
           rw [← hR, List.cons_append, List.getElem?_cons_succ, List.getElem?_append_right (by rw [List.length_map]; omega), List.length_map, Nat.sub_self] at hk
           exact (Option.some.inj hk).symm
          rw [this]
          refine cor_mp ht (p := 0) (q := out.length) (by omega) (by omega) (x := ⟨tx g.txt, 0, i, 0⟩) (y := mvS z) (by rw [← hR]; rfl) ?_ ?_ (by rw [tx_size]; exact ht80)
          · rw [← hR, List.cons_append, show out.length = (out.length - 1) + 1 by omega, List.getElem?_cons_succ, List.getElem?_append_left (by rw [List.length_map]; omega), List.getElem?_map, hz]; rfl
          · rw [mvS_f, ez, imS_tx]
     · rw [hRl, ← hR, show out.length + 2 - 1 = out.length + 1 by omega, List.cons_append, List.getElem?_cons_succ, List.getElem?_append_right (by rw [List.length_map]; omega), List.length_map, Nat.sub_self]; rfl
theorem id_eq (s : ByteArray) : (spec_IdentityProof s = some ([], false) ∧ impl_IdentityProof s = some ([], false)) ∨
 ∃ g, s = tx g.txt ∧ g.wf = true ∧ g.txt.length ≤ 80 ∧ spec_IdentityProof s = some (bif lgB (idS 0 g) then ([], false) else (idS 0 g, true)) ∧ impl_IdentityProof s = some (bif lgB (idS 0 g) then ([], false) else (idS 0 g, true)) := by
 unfold spec_IdentityProof impl_IdentityProof
 rw [spec_l22Good_eq, goodB_fo]
 cases hf : fo? s with
 | none => exact .inl ⟨rfl, by rw [parse_none hf]; rfl⟩
 | some g =>
  obtain ⟨e, w, l⟩ := fo?_some.1 hf
  refine .inr ⟨g, e, w, l, ?_, ?_⟩
  · rw [e]
    show bd (spec_l24Identity [] (tx g.txt)) _ = _
    rw [spec_id l (by simp), bd_some, spec_give, bd_some]; rfl
  · rw [parse_fo hf, bd_some]
    dsimp only
    rw [Bool.not_true, cond_false, show (freger.mk [] false) = ⟨[], lgB []⟩ from rfl, impl_id l (by simp), bd_some]
    dsimp only
    show bd (bif lgB (idS 0 g) then some (false, []) else some (true, idS 0 g)) _ = _
    cases lgB (idS 0 g) <;> rfl
end Go.PF
namespace Go.PF
open Go.Pu
def SmJ (l : List ByteArray) : Prop := ∀ x ∈ l, x.size ≤ 100000
theorem SmJ.push {l : List ByteArray} {x : ByteArray} (h : SmJ l) (hx : x.size ≤ 100000) : SmJ (l ++ [x]) := by
 intro y hy
 rcases List.mem_append.1 hy with hy | hy
 · exact h y hy
 · simp at hy; subst hy; exact hx
theorem dr_given {n : Nat} {c : l1Cur} (h : okC (n + 6200) c) : Dr n (spec_l1Cur_given24 c) fun g => g.length ≤ 8 ∧ SmJ g := by
 unfold spec_l1Cur_given24
 refine (dr_among (n := n + 6190) (h.le (by omega)) (by simp)).bind fun k c1 h1 hk => ?_
 have hk4 : 0 ≤ k ∧ k ≤ 3 := by simp only [List.mem_cons, List.not_mem_nil, or_false] at hk; omega
 refine dr_loop (fun (s : List ByteArray × List Int × Int × Int × Int) => s.2.2.2.2.toNat) (fun s => okC (n + 6150 + 2 * s.2.2.2.2.toNat) (l1Cur.mk s.2.1 s.2.2.1 s.2.2.2.1) ∧ 0 ≤ s.2.2.2.2 ∧ s.1.length + s.2.2.2.2 ≤ 3 ∧ SmJ s.1)
  (fun s => okC (n + 6150) (l1Cur.mk s.2.1 s.2.2.1 s.2.2.2.1) ∧ s.1.length ≤ 3 ∧ SmJ s.1) ⟨h1.le (by show n + 6150 + 2 * k.toNat ≤ _; omega), hk4.1, by show (([] : List ByteArray).length : Int) + k ≤ 3; simp; omega, fun x hx => by cases hx⟩ ?_ ?_
 · rintro ⟨out, cd, at_, sd, j⟩ ⟨g1, g2, g3, g4⟩
   dsimp only at g1 g2 g3 g4 ⊢
   by_cases hj : 0 < j
   · left
     rw [decide_eq_true hj, cond_true]
     obtain ⟨x, c2, e, k1, k2⟩ := dr_of (n := n + 6150 + 2 * (j - 1).toNat) (g1.le (by omega)) (l := [(ByteArray.mk #[97]), (ByteArray.mk #[40, 97, 62, 98, 41]), (ByteArray.mk #[98]), (ByteArray.mk #[40, 98, 62, 99, 41]), (ByteArray.mk #[126, 97]), (ByteArray.mk #[40, 97, 38, 98, 41]), (ByteArray.mk #[40, 40, 97, 38, 98, 41, 62, 99, 41]), (ByteArray.mk #[99])]) (by simp)
     rw [e, bd_some, app1 (by omega), bd_some, wr_of (j - 1) (by omega) (by omega)]
     have hx : x.size ≤ 100000 := by
      simp only [List.mem_cons, List.not_mem_nil, or_false] at k2
      rcases k2 with e | e | e | e | e | e | e | e <;> rw [e] <;> decide
     exact ⟨_, rfl, ⟨k1, by dsimp only; omega, by simp; omega, g4.push hx⟩, by dsimp only; omega⟩
   · right
     rw [decide_eq_false hj, cond_false]
     exact ⟨_, rfl, g1.le (by omega), by dsimp only; omega, g4⟩
 · rintro ⟨out, cd, at_, sd, j⟩ ⟨g1, g2, g3⟩
   dsimp only at g1 g2 g3 ⊢
   refine (dr_pick (n := n + 6148) (g1.le (by omega)) 24).bind fun x c2 h2 hx => ?_
   dsimp only
   cases x == 0 with
   | true =>
    rw [cond_true]
    refine (dr_formulaText (n := n) (h2.le (by omega))).bind fun t c3 h3 ht => ?_
    rw [app1 (by omega), bd_some]
    exact ⟨_, _, rfl, h3, by simp; omega, g3.push ht⟩
   | false =>
    rw [cond_false]
    cases x == 1 with
    | false => exact ⟨_, _, rfl, h2.le (by omega), by omega, g3⟩
    | true =>
     rw [cond_true]
     refine dr_loop (fun (s : List ByteArray × List Int × Int × Int) => 10 - s.1.length) (fun s => okC (n + 2 * (10 - s.1.length) + 2) (l1Cur.mk s.2.1 s.2.2.1 s.2.2.2) ∧ s.1.length ≤ 8 ∧ SmJ s.1)
      (fun s => okC n (l1Cur.mk s.2.1 s.2.2.1 s.2.2.2) ∧ s.1.length ≤ 8 ∧ SmJ s.1) ⟨h2.le (by dsimp only; omega), by dsimp only; omega, g3⟩ ?_ (fun s hs => ⟨_, _, rfl, hs⟩)
     rintro ⟨out, cd, at_, sd⟩ ⟨f1, f2, f3⟩
     dsimp only at f1 f2 f3 ⊢
     obtain ⟨y, c3, e, k1, k2⟩ := dr_pick (n := n + 2 * (10 - out.length)) f1 2
     rw [e, bd_some]
     dsimp only
     have hy : y ≤ 1 := by rcases k2.2.2 with q | q <;> omega
     rw [wr_of (6 + y) (by omega) (by omega), len_eq]
     by_cases hl : (out.length : Int) < 6 + y
     · left
       rw [decide_eq_true hl, cond_true, app1 (by omega), bd_some]
       exact ⟨_, rfl, ⟨k1.le (by simp; omega), by simp; omega, f3.push (x := ByteArray.mk #[97]) (by decide)⟩, by simp; omega⟩
     · right
       rw [decide_eq_false hl, cond_false]
       exact ⟨_, rfl, k1.le (by omega), f2, f3⟩
def GsJ (l : List FregeStep) : Prop := ∀ x ∈ l, (fo? x.formula).isSome = true
def SsJ (l : List FregeStep) : Prop := ∀ x ∈ l, x.formula.size ≤ 100000
theorem GsJ.push {l : List FregeStep} {x : FregeStep} (h : GsJ l) (hx : (fo? x.formula).isSome = true) : GsJ (l ++ [x]) := by
 intro y hy
 rcases List.mem_append.1 hy with hy | hy
 · exact h y hy
 · simp at hy; subst hy; exact hx
theorem SsJ.push {l : List FregeStep} {x : FregeStep} (h : SsJ l) (hx : x.formula.size ≤ 100000) : SsJ (l ++ [x]) := by
 intro y hy
 rcases List.mem_append.1 hy with hy | hy
 · exact h y hy
 · simp at hy; subst hy; exact hx
theorem SsJ.set {l : List FregeStep} {x : FregeStep} {k : Nat} (h : SsJ l) (hx : x.formula.size ≤ 100000) : SsJ (l.set k x) := by
 intro y hy
 rcases List.mem_or_eq_of_mem_set hy with hy | rfl
 · exact h y hy
 · exact hx
theorem GsJ.small {l : List FregeStep} (h : GsJ l) : SsJ l := by
 intro x hx
 obtain ⟨t, ht⟩ := Option.isSome_iff_exists.1 (h x hx)
 obtain ⟨e, _, l⟩ := fo?_some.1 ht
 rw [e, tx_size]; omega
theorem dr_short {n : Nat} {c : l1Cur} (h : okC (n + 2) c) : Dr n (spec_l1Cur_short24 c) fun t => (fo? t).isSome = true := by
 unfold spec_l1Cur_short24
 refine (dr_of h (by simp)).bind fun t c1 h1 ht => ⟨_, _, rfl, h1, ?_⟩
 simp only [List.mem_cons, List.not_mem_nil, or_false] at ht
 dsimp only
 rcases ht with e | e | e | e | e | e | e | e | e | e <;> rw [e] <;> decide
theorem sub_wf {a b c : Ft} (ha : a.wf = true) (hb : b.wf = true) (hc : c.wf = true) : ∀ {t : Ft}, t.wf = true → (subF a b c t).wf = true
 | .leaf h, hw => by
  unfold subF
  split
  · exact ha
  split
  · exact hb
  split
  · exact hc
  · exact hw
 | .neg t, hw => sub_wf ha hb hc (t := t) hw
 | .bin o s t, hw => by
  simp only [Ft.wf, Bool.and_eq_true] at hw
  simp only [subF, Ft.wf, Bool.and_eq_true]
  exact ⟨⟨hw.1.1, sub_wf ha hb hc hw.1.2⟩, sub_wf ha hb hc hw.2⟩
theorem case_good {k : Int} (h1 : 1 ≤ k) (h2 : k ≤ 10) {a b c : ByteArray} (ha : (fo? a).isSome = true) (hb : (fo? b).isSome = true) (hc : (fo? c).isSome = true) : ∃ s, spec_l24Case k a b c = some s ∧ (s.size ≤ 80 → (fo? s).isSome = true) := by
 obtain ⟨ta, fa⟩ := Option.isSome_iff_exists.1 ha
 obtain ⟨tb, fb⟩ := Option.isSome_iff_exists.1 hb
 obtain ⟨tc, fc⟩ := Option.isSome_iff_exists.1 hc
 obtain ⟨ea, wa, la⟩ := fo?_some.1 fa
 obtain ⟨eb, wb, lb⟩ := fo?_some.1 fb
 obtain ⟨ec, wc, lc⟩ := fo?_some.1 fc
 obtain ⟨t, t1, t2, t3, t4⟩ := sch_at h1 h2
 refine ⟨_, by rw [ea, eb, ec]; exact spec_case t1 t2 t4 (by omega) (by omega) (by omega), fun h => ?_⟩
 rw [tx_size] at h
 rw [fo?_tx (sub_wf wa wb wc t2) h]; rfl
theorem parts_good {s : ByteArray} (h : (fo? s).isSome = true) : ∃ r, spec_l22Parts s = some r ∧ (r.1 = 62 → (fo? r.2.2).isSome = true) := by
 obtain ⟨t, ft⟩ := Option.isSome_iff_exists.1 h
 obtain ⟨e, w, l⟩ := fo?_some.1 ft
 refine ⟨_, by rw [e]; exact parts_tx w (by omega), fun h62 => ?_⟩
 dsimp only at h62 ⊢
 cases t with
 | leaf c =>
  have hc : ((c.toNat : Nat) : Int) = ((62 : UInt8).toNat : Int) := h62
  have : c = 62 := UInt8.toNat_inj.1 (by omega)
  subst this; exact absurd w (by decide)
 | neg a => exact absurd h62 (by show ¬ (126 : Int) = 62; omega)
 | bin o a b =>
  simp only [Ft.wf, Bool.and_eq_true] at w
  simp only [Ft.txt, List.length_cons, List.length_append, List.length_nil] at l
  show (fo? (tx b.txt)).isSome = true
  rw [fo?_tx w.2 (by omega)]; rfl
theorem fr_in {N L : Nat} {I : Int} {B : Type} {out : List FregeStep} {cd : List Int} {at_ sd : Int} {K : (List FregeStep × List Int × Int × Int × Bool × Int) → Option B} {R : B → Prop} (hL : L ≤ 20) (hI0 : 0 ≤ I) (hI : I < L) (hl : out.length = L) (hg : GsJ out) (hc : okC (N + 2 * L) (l1Cur.mk cd at_ sd))
 (hk : ∀ s : List FregeStep × List Int × Int × Int × Bool × Int, okC N (l1Cur.mk s.2.1 s.2.2.1 s.2.2.2.1) → GsJ s.1 → (s.2.2.2.2.1 = true → s.1.length = L + 1) → (s.2.2.2.2.1 = false → s.1.length = L) → ∃ r, K s = some r ∧ R r) :
 ∃ r, bdR (iter (S := ((List FregeStep) × (List Int) × Int × Int × Bool × Int)) (X := Empty) (fun s2751 => (bif (bif (decide (s2751.2.2.2.2.2 < (len s2751.1))) then (!s2751.2.2.2.2.1) else false) then bd (ix s2751.1 s2751.2.2.2.2.2) (fun x3044 => bd (PF.spec_l22Parts x3044.formula) (fun r3046 => bd (bif (r3046.1 == 62) then bd (ix s2751.1 I) (fun x3072 => some (r3046.2.1.toList == x3072.formula.toList)) else some false) (fun t3059 => bd (bif t3059 then bd (PF.spec_l1Cur_one (l1Cur.mk s2751.2.1 s2751.2.2.1 s2751.2.2.2.1) 2) (fun r3095 => some (r3095.2.code, r3095.2.at_, r3095.2.seed, r3095.1)) else some (s2751.2.1, s2751.2.2.1, s2751.2.2.2.1, false)) (fun t3091 => (bif t3091.2.2.2 then bd (app s2751.1 [(FregeStep.mk r3046.2.2 (-1) I s2751.2.2.2.2.2)]) (fun xs3123 => some (Lp.nx (xs3123, t3091.1, t3091.2.1, t3091.2.2.1, true, (wr (s2751.2.2.2.2.2 + 1))))) else some (Lp.nx (s2751.1, t3091.1, t3091.2.1, t3091.2.2.1, s2751.2.2.2.2.1, (wr (s2751.2.2.2.2.2 + 1))))))))) else some (Lp.bk (s2751.1, s2751.2.1, s2751.2.2.1, s2751.2.2.2.1, s2751.2.2.2.2.1, s2751.2.2.2.2.2)))) (out, cd, at_, sd, false, 0)) K (fun x2751 => nomatch x2751) = some r ∧ R r := by
 refine loop_ex (fun (s : List FregeStep × List Int × Int × Int × Bool × Int) => if s.2.2.2.2.1 = true then 0 else L + 1 - s.2.2.2.2.2.toNat)
  (fun s => GsJ s.1 ∧ 0 ≤ s.2.2.2.2.2 ∧ (s.2.2.2.2.1 = true → s.1.length = L + 1 ∧ okC N (l1Cur.mk s.2.1 s.2.2.1 s.2.2.2.1)) ∧ (s.2.2.2.2.1 = false → s.1.length = L ∧ s.2.2.2.2.2 ≤ L ∧ okC (N + 2 * (L - s.2.2.2.2.2.toNat)) (l1Cur.mk s.2.1 s.2.2.1 s.2.2.2.1)))
  (fun s => okC N (l1Cur.mk s.2.1 s.2.2.1 s.2.2.2.1) ∧ GsJ s.1 ∧ (s.2.2.2.2.1 = true → s.1.length = L + 1) ∧ (s.2.2.2.2.1 = false → s.1.length = L))
  ⟨hg, by show (0 : Int) ≤ 0; omega, (fun h => by cases h), fun _ => ⟨hl, by show (0 : Int) ≤ L; omega, hc⟩⟩ ?_ (fun s hs => hk s hs.1 hs.2.1 hs.2.2.1 hs.2.2.2)
 rintro ⟨o, cd, at_, sd, fd, k⟩ ⟨g1, g2, g3, g4⟩
 dsimp only at g1 g2 g3 g4 ⊢
 cases fd with
 | true =>
  right
  have hcnd : (bif decide (k < len o) then !true else false) = false := by cases decide (k < len o) <;> rfl
  rw [hcnd, cond_false]
  obtain ⟨f1, f2⟩ := g3 rfl
  exact ⟨_, rfl, f2, g1, fun _ => f1, (fun h => by cases h)⟩
 | false =>
  obtain ⟨f1, f2, f3⟩ := g4 rfl
  rw [len_eq]
  by_cases hk' : k < o.length
  · left
    have hcnd : (bif decide (k < (o.length : Int)) then !false else false) = true := by rw [decide_eq_true hk']; rfl
    rw [hcnd, cond_true]
    obtain ⟨x, hx, hx'⟩ := ix_of (xs := o) g2 hk'
    obtain ⟨r, r1, r2⟩ := parts_good (g1 x (List.mem_of_getElem? hx'))
    obtain ⟨y, hy, hy'⟩ := ix_of (xs := o) (i := I) hI0 (by omega)
    rw [hx, bd_some, r1, bd_some, hy, wr_of (k + 1) (by omega) (by omega)]
    have mstep : ¬ (if false = true then 0 else L + 1 - (k + 1).toNat) ≥ (if false = true then 0 else L + 1 - k.toNat) := by simp; omega
    have stay : ∀ {c : l1Cur}, okC (N + 2 * (L - (k + 1).toNat)) c → ∃ s' : List FregeStep × List Int × Int × Int × Bool × Int, some (Lp.nx (X := Empty) (o, c.code, c.at_, c.seed, false, k + 1)) = some (Lp.nx s') ∧ (GsJ s'.1 ∧ 0 ≤ s'.2.2.2.2.2 ∧ (s'.2.2.2.2.1 = true → s'.1.length = L + 1 ∧ okC N (l1Cur.mk s'.2.1 s'.2.2.1 s'.2.2.2.1)) ∧ (s'.2.2.2.2.1 = false → s'.1.length = L ∧ s'.2.2.2.2.2 ≤ L ∧ okC (N + 2 * (L - s'.2.2.2.2.2.toNat)) (l1Cur.mk s'.2.1 s'.2.2.1 s'.2.2.2.1))) ∧ (if s'.2.2.2.2.1 = true then 0 else L + 1 - s'.2.2.2.2.2.toNat) < (if false = true then 0 else L + 1 - k.toNat) := fun hc =>
     ⟨_, rfl, ⟨g1, by dsimp only; omega, (fun h => by cases h), fun _ => ⟨f1, by dsimp only; omega, hc⟩⟩, by dsimp only; omega⟩
    have plain : okC (N + 2 * (L - (k + 1).toNat)) (l1Cur.mk cd at_ sd) := f3.le (by omega)
    cases h62 : r.1 == 62 with
    | false => exact stay plain
    | true =>
     rw [cond_true, bd_some, bd_some]
     cases (r.2.1.toList == y.formula.toList) with
     | false => exact stay plain
     | true =>
      rw [cond_true]
      obtain ⟨b, c2, e, k1, _⟩ := dr_one (n := N + 2 * (L - (k + 1).toNat)) (f3.le (by omega)) 2
      rw [e, bd_some, bd_some]
      dsimp only
      cases b with
      | false => exact stay k1
      | true =>
       rw [cond_true, app1 (by omega), bd_some]
       refine ⟨_, rfl, ⟨g1.push (r2 (by simpa using h62)), by dsimp only; omega, fun _ => ⟨by simp [f1], k1.le (by omega)⟩, (fun h => by cases h)⟩, ?_⟩
       dsimp only
       rw [if_pos rfl, if_neg (by simp)]; omega
  · right
    have hcnd : (bif decide (k < (o.length : Int)) then !false else false) = false := by rw [decide_eq_false hk']; rfl
    rw [hcnd, cond_false]
    exact ⟨_, rfl, f3.le (by omega), g1, (fun h => by cases h), fun _ => f1⟩
end Go.PF
namespace Go.PF
open Go.Pu
theorem Dr.exi {A B : Type} {n : Nat} {x : Option (A × l1Cur)} {Q : A → Prop} {k : A × l1Cur → Option B} {R : B → Prop} (h : Dr n x Q) (hk : ∀ a c, okC n c → Q a → ∃ r, k (a, c) = some r ∧ R r) : ∃ r, bd x k = some r ∧ R r := by
 obtain ⟨a, c, rfl, hc, hq⟩ := h
 exact hk a c hc hq
theorem fr_out {N L : Nat} {B : Type} {out : List FregeStep} {cd : List Int} {at_ sd : Int} {K : (List FregeStep × List Int × Int × Int × Bool × Int) → Option B} {R : B → Prop} (hL : L ≤ 20) (hl : out.length = L) (hg : GsJ out) (hc : okC (N + (2 + 2 * L) * L) (l1Cur.mk cd at_ sd))
 (hk : ∀ s : List FregeStep × List Int × Int × Int × Bool × Int, okC N (l1Cur.mk s.2.1 s.2.2.1 s.2.2.2.1) → GsJ s.1 → (s.2.2.2.2.1 = true → s.1.length = L + 1) → (s.2.2.2.2.1 = false → s.1.length = L) → ∃ r, K s = some r ∧ R r) :
 ∃ r, bdR (iter (S := ((List FregeStep) × (List Int) × Int × Int × Bool × Int)) (X := Empty) (fun s2002 => bd (bif (bif (decide (s2002.2.2.2.2.2 < (len s2002.1))) then (!s2002.2.2.2.2.1) else false) then bd (PF.spec_l1Cur_one (l1Cur.mk s2002.2.1 s2002.2.2.1 s2002.2.2.2.1) 4) (fun r2730 => some (r2730.2.code, r2730.2.at_, r2730.2.seed, (!r2730.1))) else some (s2002.2.1, s2002.2.2.1, s2002.2.2.2.1, false)) (fun t2726 => (bif t2726.2.2.2 then bdR (iter (S := ((List FregeStep) × (List Int) × Int × Int × Bool × Int)) (X := Empty) (fun s2751 => (bif (bif (decide (s2751.2.2.2.2.2 < (len s2751.1))) then (!s2751.2.2.2.2.1) else false) then bd (ix s2751.1 s2751.2.2.2.2.2) (fun x3044 => bd (PF.spec_l22Parts x3044.formula) (fun r3046 => bd (bif (r3046.1 == 62) then bd (ix s2751.1 s2002.2.2.2.2.2) (fun x3072 => some (r3046.2.1.toList == x3072.formula.toList)) else some false) (fun t3059 => bd (bif t3059 then bd (PF.spec_l1Cur_one (l1Cur.mk s2751.2.1 s2751.2.2.1 s2751.2.2.2.1) 2) (fun r3095 => some (r3095.2.code, r3095.2.at_, r3095.2.seed, r3095.1)) else some (s2751.2.1, s2751.2.2.1, s2751.2.2.2.1, false)) (fun t3091 => (bif t3091.2.2.2 then bd (app s2751.1 [(FregeStep.mk r3046.2.2 (-1) s2002.2.2.2.2.2 s2751.2.2.2.2.2)]) (fun xs3123 => some (Lp.nx (xs3123, t3091.1, t3091.2.1, t3091.2.2.1, true, (wr (s2751.2.2.2.2.2 + 1))))) else some (Lp.nx (s2751.1, t3091.1, t3091.2.1, t3091.2.2.1, s2751.2.2.2.2.1, (wr (s2751.2.2.2.2.2 + 1))))))))) else some (Lp.bk (s2751.1, s2751.2.1, s2751.2.2.1, s2751.2.2.2.1, s2751.2.2.2.2.1, s2751.2.2.2.2.2)))) (s2002.1, t2726.1, t2726.2.1, t2726.2.2.1, s2002.2.2.2.2.1, 0)) (fun s2751 => some (Lp.nx (s2751.1, s2751.2.1, s2751.2.2.1, s2751.2.2.2.1, s2751.2.2.2.2.1, (wr (s2002.2.2.2.2.2 + 1))))) (fun x2751 => nomatch x2751) else some (Lp.bk (s2002.1, t2726.1, t2726.2.1, t2726.2.2.1, s2002.2.2.2.2.1, s2002.2.2.2.2.2))))) (out, cd, at_, sd, false, 0)) K (fun x2002 => nomatch x2002) = some r ∧ R r := by
 refine loop_ex (fun (s : List FregeStep × List Int × Int × Int × Bool × Int) => if s.2.2.2.2.1 = true then 0 else L + 1 - s.2.2.2.2.2.toNat)
  (fun s => GsJ s.1 ∧ 0 ≤ s.2.2.2.2.2 ∧ (s.2.2.2.2.1 = true → s.1.length = L + 1 ∧ okC N (l1Cur.mk s.2.1 s.2.2.1 s.2.2.2.1)) ∧ (s.2.2.2.2.1 = false → s.1.length = L ∧ s.2.2.2.2.2 ≤ L ∧ okC (N + (2 + 2 * L) * (L - s.2.2.2.2.2.toNat)) (l1Cur.mk s.2.1 s.2.2.1 s.2.2.2.1)))
  (fun s => okC N (l1Cur.mk s.2.1 s.2.2.1 s.2.2.2.1) ∧ GsJ s.1 ∧ (s.2.2.2.2.1 = true → s.1.length = L + 1) ∧ (s.2.2.2.2.1 = false → s.1.length = L))
  ⟨hg, by show (0 : Int) ≤ 0; omega, (fun h => by cases h), fun _ => ⟨hl, by show (0 : Int) ≤ L; omega, hc⟩⟩ ?_ (fun s hs => hk s hs.1 hs.2.1 hs.2.2.1 hs.2.2.2)
 rintro ⟨o, cd, at_, sd, fd, k⟩ ⟨g1, g2, g3, g4⟩
 dsimp only at g1 g2 g3 g4 ⊢
 cases fd with
 | true =>
  right
  have hcnd : (bif decide (k < len o) then !true else false) = false := by cases decide (k < len o) <;> rfl
  rw [hcnd, cond_false, bd_some]
  obtain ⟨f1, f2⟩ := g3 rfl
  exact ⟨_, rfl, f2, g1, fun _ => f1, (fun h => by cases h)⟩
 | false =>
  obtain ⟨f1, f2, f3⟩ := g4 rfl
  by_cases hk' : k < o.length
  · have hcnd : (bif decide (k < len o) then !false else false) = true := by rw [len_eq, decide_eq_true hk']; rfl
    rw [hcnd, cond_true]
    have hmul : (2 + 2 * L) * (L - k.toNat) = (2 + 2 * L) * (L - (k + 1).toNat) + (2 + 2 * L) := by
     rw [show L - k.toNat = (L - (k + 1).toNat) + 1 by omega, Nat.mul_add, Nat.mul_one]
    obtain ⟨b, c2, e, k1, _⟩ := dr_one (n := N + (2 + 2 * L) * (L - (k + 1).toNat) + 2 * L) (f3.le (by omega)) 4
    rw [e, bd_some, bd_some]
    dsimp only
    cases b with
    | true => exact .inr ⟨_, rfl, k1.le (by omega), g1, (fun h => by cases h), fun _ => f1⟩
    | false =>
     left
     rw [Bool.not_false, cond_true]
     refine nx_of ?_
     refine fr_in hL g2 (by omega) f1 g1 k1 (fun s q1 q2 q3 q4 => ?_)
     rw [wr_of (k + 1) (by omega) (by omega)]
     refine ⟨_, rfl, _, rfl, ⟨q2, by dsimp only; omega, fun h => ⟨q3 h, q1.le (by omega)⟩, fun h => ⟨q4 h, by dsimp only; omega, q1⟩⟩, ?_⟩
     dsimp only
     rw [if_neg (show ¬ false = true by simp)]
     split <;> omega
  · right
    have hcnd : (bif decide (k < len o) then !false else false) = false := by rw [len_eq, decide_eq_false hk']; rfl
    rw [hcnd, cond_false, bd_some]
    exact ⟨_, rfl, f3.le (by omega), g1, (fun h => by cases h), fun _ => f1⟩
theorem dr_frege {n : Nat} {c : l1Cur} {given : List ByteArray} (hg8 : given.length ≤ 8) (hgs : SmJ given) (h : okC (n + 20000) c) : Dr n (spec_l1Cur_frege c given) fun s => s.length ≤ 100 ∧ SsJ s := by
 unfold spec_l1Cur_frege
 refine (dr_among (n := n + 19000) (h.le (by omega)) (by simp)).bind fun k c1 h1 hk => ?_
 have hk4 : 0 ≤ k ∧ k ≤ 10 := by simp only [List.mem_cons, List.not_mem_nil, or_false] at hk; omega
 refine dr_loop (fun (s : List FregeStep × List Int × Int × Int × Int) => s.2.2.2.2.toNat) (fun s => okC (n + 8000 + 600 * s.2.2.2.2.toNat) (l1Cur.mk s.2.1 s.2.2.1 s.2.2.2.1) ∧ 0 ≤ s.2.2.2.2 ∧ s.1.length + s.2.2.2.2 ≤ 10 ∧ GsJ s.1)
  (fun s => okC (n + 8000) (l1Cur.mk s.2.1 s.2.2.1 s.2.2.2.1) ∧ s.1.length ≤ 10 ∧ GsJ s.1) ⟨h1.le (by show n + 8000 + 600 * k.toNat ≤ _; omega), hk4.1, by show (([] : List FregeStep).length : Int) + k ≤ 10; simp; omega, fun x hx => by cases hx⟩ ?_ ?_
 · rintro ⟨out, cd, at_, sd, j⟩ ⟨g1, g2, g3, g4⟩
   dsimp only at g1 g2 g3 g4 ⊢
   by_cases hj : 0 < j
   · left
     rw [decide_eq_true hj, cond_true]
     refine nx_of ?_
     have hmul : (2 + 2 * out.length) * out.length ≤ 220 := by
      have : out.length ≤ 10 := by omega
      calc (2 + 2 * out.length) * out.length ≤ 22 * 10 := Nat.mul_le_mul (by omega) this
       _ = 220 := rfl
     refine fr_out (N := n + 8000 + 600 * (j - 1).toNat + 300) (L := out.length) (by omega) rfl g4 (g1.le (by omega)) (fun s q1 q2 q3 q4 => ?_)
     rw [wr_of (j - 1) (by omega) (by omega)]
     obtain ⟨o2, cd2, at2, sd2, fd2, i2⟩ := s
     dsimp only at q1 q2 q3 q4 ⊢
     have hend : ∀ {o : List FregeStep} {c' : l1Cur}, okC (n + 8000 + 600 * (j - 1).toNat) c' → o.length ≤ out.length + 1 → GsJ o → ∃ s', Lp.nx (X := Empty) (o, c'.code, c'.at_, c'.seed, j - 1) = Lp.nx s' ∧ (okC (n + 8000 + 600 * s'.2.2.2.2.toNat) (l1Cur.mk s'.2.1 s'.2.2.1 s'.2.2.2.1) ∧ 0 ≤ s'.2.2.2.2 ∧ s'.1.length + s'.2.2.2.2 ≤ 10 ∧ GsJ s'.1) ∧ s'.2.2.2.2.toNat < j.toNat := by
      intro o c' e1 e2 e3
      exact ⟨_, rfl, ⟨e1, by dsimp only; omega, by dsimp only; omega, e3⟩, by dsimp only; omega⟩
     cases fd2 with
     | true =>
      rw [cond_true]
      exact ⟨_, rfl, hend (c' := l1Cur.mk cd2 at2 sd2) (q1.le (by omega)) (by have := q3 rfl; omega) q2⟩
     | false =>
      rw [cond_false]
      have l2 := q4 rfl
      -- the choice of a given formula
      have hch : ∃ cc b, (bif (decide (0 < (len given))) then bd (PF.spec_l1Cur_one (l1Cur.mk cd2 at2 sd2) 3) (fun r3170 => some (r3170.2.code, r3170.2.at_, r3170.2.seed, (!r3170.1))) else some (cd2, at2, sd2, false)) = some (cc.code, cc.at_, cc.seed, b) ∧ okC (n + 8000 + 600 * (j - 1).toNat + 290) cc ∧ (b = true → 0 < given.length) := by
       by_cases h0 : 0 < given.length
       · rw [len_eq, decide_eq_true (show 0 < (given.length : Int) by omega), cond_true]
         obtain ⟨b, c2, e, k1, _⟩ := dr_one (n := n + 8000 + 600 * (j - 1).toNat + 290) (q1.le (by omega)) 3
         rw [e, bd_some]
         exact ⟨c2, !b, rfl, k1, fun _ => h0⟩
       · rw [len_eq, decide_eq_false (show ¬ 0 < (given.length : Int) by omega), cond_false]
         exact ⟨l1Cur.mk cd2 at2 sd2, false, rfl, q1.le (by omega), (fun h => by cases h)⟩
      obtain ⟨c3, b3, e3, k3, n3⟩ := hch
      rw [e3, bd_some]
      dsimp only
      cases b3 with
      | true =>
       have h0 := n3 rfl
       rw [cond_true]
       refine (dr_pick (n := n + 8000 + 600 * (j - 1).toNat + 280) (k3.le (by omega)) (len given)).exi fun x c4 k4 hx => ?_
       dsimp only
       have hxl : x < given.length := by rw [len_eq] at hx; rcases hx.2.2 with q | q <;> omega
       obtain ⟨y, hy, hy'⟩ := ix_of (xs := given) hx.1 hxl
       rw [hy, bd_some, spec_l22Good_eq, bd_some, goodB_fo]
       cases hfy : (fo? y).isSome with
       | true =>
        rw [cond_true, bd_some, app1 (by omega), bd_some, bdR_go]
        exact ⟨_, rfl, hend (k4.le (by omega)) (by simp; omega) (q2.push hfy)⟩
       | false =>
        rw [cond_false, bdR_go]
        exact ⟨_, rfl, hend (k4.le (by omega)) (by omega) q2⟩
      | false =>
       rw [cond_false]
       refine (dr_pick (n := n + 8000 + 600 * (j - 1).toNat + 280) (k3.le (by omega)) 10).exi fun x c4 k4 hx => ?_
       dsimp only
       refine (dr_short (n := n + 8000 + 600 * (j - 1).toNat + 270) (k4.le (by omega))).exi fun a c5 k5 ha => ?_
       dsimp only
       refine (dr_short (n := n + 8000 + 600 * (j - 1).toNat + 260) (k5.le (by omega))).exi fun b c6 k6 hb => ?_
       dsimp only
       have hx9 : x ≤ 9 := by rcases hx.2.2 with q | q <;> omega
       rw [wr_of (1 + x) (by omega) (by omega)]
       have hch : ∃ cc d, (bif (decide (0 < (len o2))) then bd (PF.spec_l1Cur_one c6 2) (fun r3312 => some (r3312.2.code, r3312.2.at_, r3312.2.seed, r3312.1)) else some (c6.code, c6.at_, c6.seed, false)) = some (cc.code, cc.at_, cc.seed, d) ∧ okC (n + 8000 + 600 * (j - 1).toNat + 250) cc ∧ (d = true → 0 < o2.length) := by
        by_cases h0 : 0 < o2.length
        · rw [len_eq, decide_eq_true (show 0 < (o2.length : Int) by omega), cond_true]
          obtain ⟨b, c2, e, k1, _⟩ := dr_one (n := n + 8000 + 600 * (j - 1).toNat + 250) (k6.le (by omega)) 2
          rw [e, bd_some]
          exact ⟨c2, b, rfl, k1, fun _ => h0⟩
        · rw [len_eq, decide_eq_false (show ¬ 0 < (o2.length : Int) by omega), cond_false]
          exact ⟨c6, false, rfl, k6.le (by omega), (fun h => by cases h)⟩
       obtain ⟨c7, b7, e7, k7, n7⟩ := hch
       rw [e7, bd_some]
       dsimp only
       -- the rest behind the choice of a
       have rest : ∀ (a' : ByteArray) (cc : l1Cur), (fo? a').isSome = true → okC (n + 8000 + 600 * (j - 1).toNat + 200) cc → ∃ r, bdR (S := List Int × Int × Int × ByteArray) (X := Empty) (some (Rs.go (cc.code, cc.at_, cc.seed, a'))) (fun s3381 => bd (PF.spec_l1Cur_short24 (l1Cur.mk s3381.1 s3381.2.1 s3381.2.2.1)) (fun r3415 => bd (PF.spec_l24Case (1 + x) s3381.2.2.2 b r3415.1) (fun r3423 => (bif (decide ((r3423.size : Int) ≤ 80)) then bd (app o2 [(FregeStep.mk r3423 (1 + x) 0 0)]) (fun xs3434 => some (Lp.nx (xs3434, r3415.2.code, r3415.2.at_, r3415.2.seed, j - 1))) else some (Lp.nx (X := Empty) (o2, r3415.2.code, r3415.2.at_, r3415.2.seed, j - 1)))))) (fun x3383 => nomatch x3383) = some r ∧
        ∃ s', r = Lp.nx s' ∧ (okC (n + 8000 + 600 * s'.2.2.2.2.toNat) (l1Cur.mk s'.2.1 s'.2.2.1 s'.2.2.2.1) ∧ 0 ≤ s'.2.2.2.2 ∧ s'.1.length + s'.2.2.2.2 ≤ 10 ∧ GsJ s'.1) ∧ s'.2.2.2.2.toNat < j.toNat := by
        intro a' cc ha' hcc
        rw [bdR_go]
        refine (dr_short (n := n + 8000 + 600 * (j - 1).toNat) (hcc.le (by omega))).exi fun d c8 k8 hd => ?_
        dsimp only
        obtain ⟨s, s1, s2⟩ := case_good (k := 1 + x) (by omega) (by omega) ha' hb hd
        rw [s1, bd_some]
        by_cases h80 : s.size ≤ 80
        · rw [decide_eq_true (show (s.size : Int) ≤ 80 by omega), cond_true, app1 (by omega), bd_some]
          exact ⟨_, rfl, hend k8 (by simp; omega) (q2.push (s2 h80))⟩
        · rw [decide_eq_false (show ¬ (s.size : Int) ≤ 80 by omega), cond_false]
          exact ⟨_, rfl, hend k8 (by omega) q2⟩
       cases b7 with
       | false =>
        rw [cond_false, bd_some, cond_false]
        exact rest a c7 ha (k7.le (by omega))
       | true =>
        have h0 := n7 rfl
        have hs0 : o2[0]? = some o2[0] := List.getElem?_eq_getElem h0
        rw [cond_true, show ix o2 0 = some o2[0] from ix_nat (i := 0) hs0, bd_some, bd_some]
        cases decide (((o2[0]).formula.size : Int) < 12) with
        | false =>
         rw [cond_false]
         exact rest a c7 ha (k7.le (by omega))
        | true =>
         rw [cond_true]
         obtain ⟨y, c8, e8, k8, hy⟩ := dr_pick (n := n + 8000 + 600 * (j - 1).toNat + 200) (k7.le (by omega)) (len o2)
         have hyl : y < o2.length := by rw [len_eq] at hy; rcases hy.2.2 with q | q <;> omega
         obtain ⟨z, hz, hz'⟩ := ix_of (xs := o2) hy.1 hyl
         rw [show l1Cur.mk c7.code c7.at_ c7.seed = c7 from rfl, e8, bd_some, hz, bd_some]
         exact rest z.formula c8 (q2 z (List.mem_of_getElem? hz')) k8
   · right
     rw [decide_eq_false hj, cond_false]
     exact ⟨_, rfl, g1.le (by omega), by dsimp only; omega, g4⟩
 · rintro ⟨out, cd, at_, sd, j⟩ ⟨g1, g2, g3⟩
   dsimp only at g1 g2 g3 ⊢
   have hch : ∃ cc d, (bif (decide (0 < (len out))) then bd (PF.spec_l1Cur_one (l1Cur.mk cd at_ sd) 6) (fun r3465 => some (r3465.2.code, r3465.2.at_, r3465.2.seed, r3465.1)) else some (cd, at_, sd, false)) = some (cc.code, cc.at_, cc.seed, d) ∧ okC (n + 7990) cc ∧ (d = true → 0 < out.length) := by
    by_cases h0 : 0 < out.length
    · rw [len_eq, decide_eq_true (show 0 < (out.length : Int) by omega), cond_true]
      obtain ⟨b, c2, e, k1, _⟩ := dr_one (n := n + 7990) (g1.le (by omega)) 6
      rw [e, bd_some]
      exact ⟨c2, b, rfl, k1, fun _ => h0⟩
    · rw [len_eq, decide_eq_false (show ¬ 0 < (out.length : Int) by omega), cond_false]
      exact ⟨l1Cur.mk cd at_ sd, false, rfl, g1.le (by omega), (fun h => by cases h)⟩
   obtain ⟨c3, b3, e3, k3, n3⟩ := hch
   rw [e3, bd_some]
   dsimp only
   have fin : ∀ (o : List FregeStep) (cc : l1Cur), o.length ≤ 10 → SsJ o → okC (n + 1000) cc → Dr n (bdR (S := List FregeStep × List Int × Int × Int) (X := Empty) (some (Rs.go (o, cc.code, cc.at_, cc.seed))) (fun s3628 => bd (PF.spec_l1Cur_one (l1Cur.mk s3628.2.1 s3628.2.2.1 s3628.2.2.2) 40) (fun r3791 => (bif r3791.1 then bdR (iter (S := ((List FregeStep) × (List Int) × Int × Int)) (X := Empty) (fun s3800 => bd (PF.spec_l1Cur_pick (l1Cur.mk s3800.2.1 s3800.2.2.1 s3800.2.2.2) 2) (fun r3882 => (bif (decide ((len s3800.1) < (wr (80 + r3882.1)))) then bd (app s3800.1 [(FregeStep.mk (ByteArray.mk #[49]) 10 0 0)]) (fun xs3896 => some (Lp.nx (xs3896, r3882.2.code, r3882.2.at_, r3882.2.seed))) else some (Lp.bk (s3800.1, r3882.2.code, r3882.2.at_, r3882.2.seed))))) (s3628.1, r3791.2.code, r3791.2.at_, r3791.2.seed)) (fun s3800 => some (s3800.1, (l1Cur.mk s3800.2.1 s3800.2.2.1 s3800.2.2.2))) (fun x3800 => nomatch x3800) else some (s3628.1, r3791.2)))) (fun x3630 => nomatch x3630)) fun s => s.length ≤ 100 ∧ SsJ s := by
    intro o cc ho hs hcc
    rw [bdR_go]
    refine (dr_one (n := n + 990) (hcc.le (by omega)) 40).bind fun b c4 k4 _ => ?_
    dsimp only
    cases b with
    | false => exact ⟨_, _, rfl, k4.le (by omega), by omega, hs⟩
    | true =>
     rw [cond_true]
     refine dr_loop (fun (s : List FregeStep × List Int × Int × Int) => 100 - s.1.length) (fun s => okC (n + 2 * (100 - s.1.length) + 2) (l1Cur.mk s.2.1 s.2.2.1 s.2.2.2) ∧ s.1.length ≤ 90 ∧ SsJ s.1)
      (fun s => okC n (l1Cur.mk s.2.1 s.2.2.1 s.2.2.2) ∧ s.1.length ≤ 100 ∧ SsJ s.1) ⟨k4.le (by dsimp only; omega), by dsimp only; omega, hs⟩ ?_ (fun s hs => ⟨_, _, rfl, hs⟩)
     rintro ⟨o, cd, at_, sd⟩ ⟨f1, f2, f3⟩
     dsimp only at f1 f2 f3 ⊢
     obtain ⟨y, c5, e, k1, k2⟩ := dr_pick (n := n + 2 * (100 - o.length)) f1 2
     rw [e, bd_some]
     dsimp only
     have hy : y ≤ 1 := by rcases k2.2.2 with q | q <;> omega
     rw [wr_of (80 + y) (by omega) (by omega), len_eq]
     by_cases hl : (o.length : Int) < 80 + y
     · left
       rw [decide_eq_true hl, cond_true, app1 (by omega), bd_some]
       exact ⟨_, rfl, ⟨k1.le (by simp; omega), by simp; omega, f3.push (x := ⟨ByteArray.mk #[49], 10, 0, 0⟩) (show (ByteArray.mk #[49]).size ≤ 100000 by decide)⟩, by simp; omega⟩
     · right
       rw [decide_eq_false hl, cond_false]
       exact ⟨_, rfl, k1.le (by omega), by dsimp only; omega, f3⟩
   have gs := g3.small
   cases b3 with
   | false =>
    rw [cond_false]
    exact fin out c3 g2 gs (k3.le (by omega))
   | true =>
    have h0 := n3 rfl
    rw [cond_true]
    obtain ⟨y, c4, e4, k4, hy⟩ := dr_pick (n := n + 7980) (k3.le (by omega)) (len out)
    have hyl : y < out.length := by rw [len_eq] at hy; rcases hy.2.2 with q | q <;> omega
    obtain ⟨z, hz, hz'⟩ := ix_of (xs := out) hy.1 hyl
    have hzs := gs z (List.mem_of_getElem? hz')
    obtain ⟨w, c5, e5, k5, hw⟩ := dr_pick (n := n + 7970) (k4.le (by omega)) 4
    have pt : ∀ x : FregeStep, put out y x = some (out.set y.toNat x) := fun x => by unfold put; rw [if_pos ⟨hy.1, hyl⟩]
    rw [show l1Cur.mk c3.code c3.at_ c3.seed = c3 from rfl, e4, bd_some]
    dsimp only
    rw [e5, bd_some]
    dsimp only
    cases w == 0 with
    | true =>
     rw [cond_true]
     obtain ⟨v, c6, e6, k6, _⟩ := dr_among (n := n + 7960) (k5.le (by omega)) (l := [(-2), (-1), 0, 1, 5, 11]) (by simp)
     rw [e6, bd_some, hz, bd_some, pt, bd_some]
     exact fin _ c6 (by rw [List.length_set]; exact g2) (gs.set hzs) (k6.le (by omega))
    | false =>
     rw [cond_false]
     cases w == 1 with
     | true =>
      rw [cond_true]
      obtain ⟨v, c6, e6, k6, _⟩ := dr_among (n := n + 7960) (k5.le (by omega)) (l := [(-1), 0, 1, 80]) (by simp)
      rw [e6, bd_some, hz, bd_some, pt, bd_some]
      exact fin _ c6 (by rw [List.length_set]; exact g2) (gs.set hzs) (k6.le (by omega))
     | false =>
      rw [cond_false]
      cases w == 2 with
      | true =>
       rw [cond_true]
       obtain ⟨v, c6, e6, k6, _⟩ := dr_among (n := n + 7960) (k5.le (by omega)) (l := [(-1), 0, 1, 80]) (by simp)
       rw [e6, bd_some, hz, bd_some, pt, bd_some]
       exact fin _ c6 (by rw [List.length_set]; exact g2) (gs.set hzs) (k6.le (by omega))
      | false =>
       rw [cond_false]
       cases w == 3 with
       | true =>
        rw [cond_true]
        obtain ⟨v, c6, e6, k6, hv⟩ := dr_formulaText (n := n + 1000) (k5.le (by omega))
        rw [e6, bd_some, hz, bd_some, pt, bd_some]
        exact fin _ c6 (by rw [List.length_set]; exact g2) (gs.set hv) k6
       | false =>
        rw [cond_false]
        exact fin out c5 g2 gs (k5.le (by omega))
theorem draw_discharge {code : List Int} (h : okL okU8 code) : ∃ g s i, spec_DrawDischarge code = some (g, s, i) ∧ g.length ≤ 8 ∧ SmJ g ∧ s.length ≤ 100 ∧ SsJ s := by
 unfold spec_DrawDischarge
 obtain ⟨g, c1, e1, k1, g1, g2⟩ := dr_given (n := 30000) (c := l1Cur.mk code 0 0) ⟨h, by show (0 : Int) ≤ 0; omega, by show (0 : Int) + _ ≤ _; omega⟩
 rw [e1, bd_some]
 dsimp only
 obtain ⟨s, c2, e2, k2, s1, s2⟩ := dr_frege (n := 100) g1 g2 (k1.le (by omega))
 rw [e2, bd_some]
 dsimp only
 obtain ⟨x, c3, e3, k3, _⟩ := dr_pick (n := 50) (k2.le (by omega)) (wr (len g + 1))
 rw [e3, bd_some]
 dsimp only
 obtain ⟨y, c4, e4, k4, _⟩ := dr_pick (n := 10) (k3.le (by omega)) 24
 rw [e4, bd_some]
 exact ⟨_, _, _, rfl, g1, g2, s1, s2⟩
theorem draw_identity {code : List Int} (h : okL okU8 code) : ∃ a, spec_DrawIdentityProof code = some a := by
 unfold spec_DrawIdentityProof
 obtain ⟨b, c1, e1, k1, _⟩ := dr_one (n := 7000) (c := l1Cur.mk code 0 0) ⟨h, by show (0 : Int) ≤ 0; omega, by show (0 : Int) + _ ≤ _; omega⟩ 3
 rw [e1, bd_some]
 dsimp only
 cases b with
 | true =>
  obtain ⟨t, c2, e2, _⟩ := dr_formulaText (n := 10) (k1.le (by omega))
  rw [cond_true, e2, bd_some]; exact ⟨_, rfl⟩
 | false =>
  obtain ⟨t, c2, e2, _⟩ := dr_short (n := 10) (k1.le (by omega))
  rw [cond_false, e2, bd_some]; exact ⟨_, rfl⟩
end Go.PF
namespace Go.PF
open Go.Pu
theorem vFrege_self (l : List FregeStep) (h : l.length ≤ 1000000) : laws_vFrege l l = some true := by
 unfold laws_vFrege
 rw [beq_self_eq_true, Bool.not_true, cond_false]
 rw [forL_any (p := fun _ _ => false) (v := false) (fun i y hy => by
  rw [ix_nat hy, bd_some]
  simp)]
 have : anyI (fun _ (_ : FregeStep) => false) l 0 = false := anyI_false.2 fun _ _ _ => rfl
 rw [this]; rfl
theorem ne_of_any {l : List Int} {i : Int} (h : ∀ x ∈ l, x ≠ i) : (l.any fun y => decide (y = i)) = false := by
 rw [List.any_eq_false]
 intro x hx
 simp [h x hx]
theorem plain_FnDischarge (code : List Int) (hc : okL okU8 code) : laws_FnDischarge code = some true := by
 unfold laws_FnDischarge
 cases laws_vBig code with
 | true => rfl
 | false =>
  rw [cond_false]
  obtain ⟨given, steps, i, d1, g1, g2, s1, s2⟩ := draw_discharge hc
  obtain ⟨a, d2⟩ := draw_identity hc
  rw [d1, bd_some]
  dsimp only
  -- the second half
  have second : bd (PF.spec_DrawIdentityProof code) (fun r610 => bd (PF.impl_IdentityProof r610) (fun r615 => bd (PF.spec_IdentityProof r610) (fun r625 => bd (bif (!(r615.2 == r625.2)) then some true else bd (PF.laws_vFrege r615.1 r625.1) (fun r655 => some (!r655))) (fun t643 => (bif t643 then some false else (bif r615.2 then bd (PF.impl_ProvedFormula [] r615.1) (fun r681 => bd (bif (!r681.2) then some true else bd (catS (ByteArray.mk #[40]) r610) (fun z701 => bd (catS z701 (ByteArray.mk #[62])) (fun z703 => bd (catS z703 r610) (fun z705 => bd (catS z705 (ByteArray.mk #[41])) (fun z707 => some (!(r681.1.toList == z707.toList))))))) (fun t694 => (bif (bif t694 then true else (!((len r615.1) == 5))) then some false else some true))) else some true)))))) = some true := by
   rw [d2, bd_some]
   rcases id_eq a with ⟨q1, q2⟩ | ⟨g, ea, wg, lg, q1, q2⟩
   · rw [q1, q2, bd_some, bd_some]
     dsimp only
     rw [vFrege_self [] (by simp)]; rfl
   · rw [q1, q2, bd_some, bd_some]
     cases hl : lgB (idS 0 g) with
     | true => dsimp only [cond_true]; rw [vFrege_self [] (by simp)]; rfl
     | false =>
      dsimp only [cond_false]
      have hl5 : (idS 0 g).length = 5 := rfl
      rw [beq_self_eq_true, Bool.not_true, cond_false, vFrege_self _ (by omega), bd_some, bd_some, Bool.not_true, cond_false, cond_true]
      have hc : Cor [] 0 (idS 0 g) := by have := Cor.idS (Cor.nil (given := []) (i := 0)) wg; simpa using this
      have hgp : GP [] (idS 0 g) := GP.of (steps := []) (by simp) (by simp) hc hl (by rw [hl5]; omega)
      obtain ⟨z, z1, z2⟩ := impl_proved hgp
      have ez : z = ⟨tx (im g g).txt, -1, ((0 + 3 : Nat) : Int), ((0 + 2 : Nat) : Int)⟩ := by
       rw [hl5] at z1; exact (Option.some.inj z1).symm
      rw [z2, bd_some]
      dsimp only
      rw [Bool.not_true, cond_false, ea, cat_im (by rw [tx_size]; omega), bd_some, imS_tx, ez, eqS, decide_eq_true rfl, len_eq, hl5]
      rfl
  rcases dis_eq (given := given) (steps := steps) i (fun x hx => by have := s2 x hx; omega) with ⟨_, q1, q2⟩ | ⟨g, gp, wg, lg, i0, i1, hgi, q1, q2⟩
  · rw [q1, q2, bd_some, bd_some]
    dsimp only
    rw [beq_self_eq_true, Bool.not_true, cond_false, vFrege_self [] (by simp), bd_some, bd_some, Bool.not_true, cond_false, cond_false, bdR_go]
    exact second
  · rw [q1, q2, bd_some, bd_some]
    have hI := Fk_inv gp wg ⟨i0, hgi⟩ steps.length (Nat.le_refl _)
    have h80 := gp.s80
    have hpos := gp.pos
    have h6 := gp.g6
    generalize hF : Fk steps g i steps.length = F at hI
    have hle := hI.le
    cases hl : lgB F.1 with
    | true =>
     dsimp only [cond_true]
     rw [beq_self_eq_true, Bool.not_true, cond_false, vFrege_self [] (by simp), bd_some, bd_some, Bool.not_true, cond_false, cond_false, bdR_go]
     exact second
    | false =>
     dsimp only [cond_false]
     rw [beq_self_eq_true, Bool.not_true, cond_false, vFrege_self _ (by omega), bd_some, bd_some, Bool.not_true, cond_false, cond_true]
     obtain ⟨s, sl, sp⟩ := impl_proved gp
     obtain ⟨z, z1, z2⟩ := hI.fin s hpos sl
     obtain ⟨t, ft⟩ := gp_fo gp sl
     obtain ⟨et, wt, lt⟩ := fo?_some.1 ft
     rw [ftOf_eq ft] at z2
     have hpF : 0 < F.1.length := by
      have := lt_of_get z1; omega
     have gpo : GP given F.1 := GP.of (steps := steps) h6 gp.gg hI.cor hl hpF
     obtain ⟨z', z1', z2'⟩ := impl_proved gpo
     rw [z1] at z1'; cases z1'
     obtain ⟨U, u1, u2⟩ := impl_used gpo
     have hxi : ix given i = some (tx g.txt) := by unfold ix; rw [if_pos i0]; exact hgi
     rw [sp, bd_some, z2', bd_some, u1, bd_some, hxi]
     dsimp only
     rw [Bool.not_true, len_eq, decide_eq_false (show ¬ i < 0 by omega), decide_eq_false (show ¬ (given.length : Int) ≤ i by omega)]
     simp only [cond_false]
     rw [bd_some, et, cat_im (by rw [tx_size, tx_size]; omega), imS_tx, z2, eqS, decide_eq_true rfl, Bool.not_true, bd_some, cond_false, vHas_eq, bd_some, bd_some, ne_of_any (fun x hx hxi' => by
      obtain ⟨y, y1, y2, y3⟩ := u2 x hx
      exact hI.cor.no y y1 y2 (y3.trans hxi'))]
     have h5 : decide ((wr (5 * (len steps))) < (len F.1)) = false := by
      rw [len_eq, len_eq, wr_of (5 * (steps.length : Int)) (by omega) (by omega)]
      exact decide_eq_false (by omega)
     rw [h5]
     simp only [cond_false]
     rw [bd_some]
     obtain ⟨r, r1, r2⟩ := impl_modus h6 gp.gg wg lg wt i0 hgi gpo z1 z2
     rw [r1, bd_some]
     rcases r2 with r2 | ⟨gpr, y, y1, y2⟩
     · rw [r2, cond_false, bdR_go]; exact second
     · cases r.2 with
       | false => rw [cond_false, bdR_go]; exact second
       | true =>
        obtain ⟨y', y1', y2'⟩ := impl_proved gpr
        rw [y1] at y1'; cases y1'
        rw [cond_true, y2', bd_some]
        dsimp only
        rw [y2, eqS, decide_eq_true rfl]
        exact second
end Go.PF
