/- Clauses under an assignment; loops that count up, whatever the order of their state. DropWeakenings: the law. Unit propagation: the program's and the reference's steps are the same. Unit propagation to its end. Learned clauses: the trail that a learned clause leaves, and its analysis. The analysis of a learned clause: both sides tell the same. -/
import Derived.Test.YtjkdeonnohadeaaGreatLpPlA
set_option linter.unusedVariables false
namespace Go.PF
open Go.Pu
def clv (c a : List Int) : Int := bif c.any (fun l => a.contains l) then 1 else bif c.any (fun l => !a.contains (wr (-l))) then 0 else -1
theorem clv_loop {a : List Int} {f : Nat → Int → Int → Option (Lp Int Int)} (hf : ∀ i y s, f i y s = bif a.contains y then some (.rt 1) else bif !a.contains (wr (-y)) then some (.nx 0) else some (.nx s)) :
    ∀ {c : List Int} {i : Nat} {s : Int}, forLFrom f c i s = some (bif c.any (fun l => a.contains l) then .rt 1 else .go (bif c.any (fun l => !a.contains (wr (-l))) then 0 else s)) := by
  intro c
  induction c with
  | nil => intro i s; rfl
  | cons y c ih =>
    intro i s
    simp only [forLFrom, List.any_cons]
    rw [hf]
    cases h1 : a.contains y with
    | true => simp
    | false =>
      cases h2 : !a.contains (wr (-y)) with
      | true => simp only [cond_false, cond_true, Bool.false_or, Bool.true_or]; rw [ih]; cases c.any (fun l => a.contains l) <;> cases c.any (fun l => !a.contains (wr (-l))) <;> rfl
      | false => simp only [cond_false, Bool.false_or]; rw [ih]
theorem spec_l3Value_eq (c a : List Int) : spec_l3Value c a = some (clv c a) := by
  unfold spec_l3Value clv
  have := clv_loop (a := a) (f := (fun i22 y21 s22 => bd (PF.spec_l2Has a y21) (fun r71 => (bif r71 then some (Lp.rt 1) else bd (PF.spec_l2Has a (wr (-y21))) (fun r83 => (bif (!r83) then some (Lp.nx 0) else some (Lp.nx s22))))))) (fun i y s => by simp only [spec_l2Has_eq, bd_some]) (c := c) (i := 0) (s := -1)
  unfold forL; rw [this]
  cases c.any (fun l => a.contains l) <;> rfl
theorem impl_clauseValue_eq (c a : List Int) : impl_clauseValue c a = some (clv c a) := by
  unfold impl_clauseValue clv
  have := clv_loop (a := a) (f := (fun i22 y21 s22 => bd (PF.slices_Contains_int_int a y21) (fun r67 => (bif r67 then some (Lp.rt 1) else bd (PF.slices_Contains_int_int a (wr (-y21))) (fun r73 => (bif (!r73) then some (Lp.nx 0) else some (Lp.nx s22))))))) (fun i y s => by simp only [slices_Contains_int_int_eq, bd_some]) (c := c) (i := 0) (s := -1)
  unfold forL; rw [this]
  cases c.any (fun l => a.contains l) <;> rfl
def opn (c a : List Int) : List Int := c.filter fun l => !a.contains (wr (-l))
theorem spec_l3Left_eq {c a : List Int} (hl : c.length ≤ lim) : spec_l3Left c a = some (opn c a) := by
  unfold spec_l3Left opn
  rw [forL_filter (p := fun l => !a.contains (wr (-l))) (fun i y s _ => by simp only [spec_l2Has_eq, bd_some]) hl]; rfl
theorem impl_openPart_eq {c a : List Int} (hl : c.length ≤ lim) : impl_openPart c a = some (opn c a) := by
  unfold impl_openPart opn
  rw [slices_Clone_int_int_eq hl, bd_some, slices_DeleteFunc_int_int_eq (g := fun l => a.contains (wr (-l))) (fun y _ => by unfold impl_openPart_1; rw [slices_Contains_int_int_eq, bd_some]) hl, bd_some]
end Go.PF
namespace Go.PF
open Go.Pu
theorem res_isC {V : Int} {a b : List Int} {v : Int} (ha : IsC V a) (hb : IsC V b) : IsC V (res a b v).1 := by
  have hnil : IsC V [] := ⟨ha.lo, ha.hi, nofun, .nil⟩
  unfold res
  cases !a.contains v || !b.contains (wr (-v)) with
  | true => exact hnil
  | false =>
    simp only [cond_false]
    have key : ∀ c, IsC V c → IsC V (without c v) := fun c hc => ⟨hc.lo, hc.hi, fun l hl => hc.lit l (List.mem_filter.1 hl).1, hc.srt.filter _⟩
    have wa := key a ha; have wb := key b hb
    have h := joinL_spec (b := without b v) (s := without a v) wa.srt wa.sm wb.srt wb.sm
    unfold joined
    by_cases hx : ∃ y ∈ without b v, -y ∈ without a v
    · rw [if_pos hx] at h; rw [h]; exact hnil
    · rw [if_neg hx] at h
      obtain ⟨t, ht, hs, hm⟩ := h
      rw [ht]
      exact ⟨ha.lo, ha.hi, fun l hl => by rcases (hm l).1 hl with h | h; · exact wa.lit l h
                                          · exact wb.lit l h, hs⟩
def toA (to : List Int) (k : Int) : Int := (to[k.toNat]?).getD 0
structure WvOk (F : Cnf) (i : Nat) (w : List Int × List ResStep) : Prop where
  len : w.1.length = i
  le : w.2.length ≤ i
  inr : ∀ k ∈ w.1, 0 ≤ k ∧ k < w.2.length
  isC : ∀ s ∈ w.2, IsC F.vars s.clause
theorem WvOk.to {F : Cnf} {i : Nat} {w : List Int × List ResStep} (h : WvOk F i w) {k : Int} (h0 : 0 ≤ k) (h1 : k < i) :
    ix w.1 k = some (toA w.1 k) ∧ 0 ≤ toA w.1 k ∧ toA w.1 k < w.2.length := by
  obtain ⟨x, hx, hg⟩ := ix_of (xs := w.1) h0 (by rw [h.len]; exact h1)
  have e : toA w.1 k = x := by unfold toA; rw [hg]; rfl
  rw [e]
  exact ⟨hx, h.inr x (List.mem_of_getElem? hg)⟩
end Go.PF
namespace Go.PF
open Go.Pu
def uni (c a : List Int) : Int := bif clv c a == 0 then (bif (opn c a).length == 1 then (opn c a).headD 0 else 0) else 0
theorem spec_l3Unit_eq {c a : List Int} (hl : c.length ≤ lim) : spec_l3Unit c a = some (uni c a) := by
  unfold spec_l3Unit uni
  rw [spec_l3Left_eq hl, bd_some, spec_l3Value_eq, bd_some]
  cases h : clv c a == 0 with
  | false => rfl
  | true =>
    simp only [Bool.not_true, cond_false, cond_true]
    rw [show (len (opn c a) == 1) = ((opn c a).length == 1) by rw [len_eq, Bool.eq_iff_iff, beq_iff_eq, beq_iff_eq]; omega]
    cases h1 : (opn c a).length == 1 with
    | false => rfl
    | true =>
      simp only [Bool.not_true, cond_false, cond_true]
      cases ho : opn c a with
      | nil => rw [ho] at h1; simp at h1
      | cons l r => rfl
theorem impl_unit_eq {c a : List Int} (hl : c.length ≤ lim) : impl_unit c a = some (uni c a) := by
  unfold impl_unit uni
  rw [impl_clauseValue_eq, bd_some]
  cases h : clv c a == 0 with
  | false => rfl
  | true =>
    simp only [Bool.not_true, cond_false, cond_true]
    rw [impl_openPart_eq hl, bd_some, show (len (opn c a) == 1) = ((opn c a).length == 1) by rw [len_eq, Bool.eq_iff_iff, beq_iff_eq, beq_iff_eq]; omega]
    cases h1 : (opn c a).length == 1 with
    | false => rfl
    | true =>
      simp only [cond_true]
      cases ho : opn c a with
      | nil => rw [ho] at h1; simp at h1
      | cons l r => rfl
/-! the false clauses -/
def falF (a : List Int) : Nat → List (List Int) → List Int
  | _, [] => []
  | i, c :: cs => bif decide (clv c a < 0) then ((i : Nat) : Int) :: falF a (i + 1) cs else falF a (i + 1) cs
theorem impl_falseClauses_eq {cs : List (List Int)} {a : List Int} (hl : cs.length ≤ 1000000) : impl_falseClauses cs a = some (falF a 0 cs) := by
  unfold impl_falseClauses
  have key : ∀ (cs : List (List Int)) (i : Nat) (s : List Int), s.length + cs.length ≤ 1000000 → forLFrom (S := (List Int)) (X := Empty) (fun i22 y21 s22 => bd (PF.impl_clauseValue y21 a) (fun r85 => (bif (decide (r85 < 0)) then bd (app s22 [((i22 : Nat) : Int)]) (fun xs96 => some (Lp.nx xs96)) else some (Lp.nx s22)))) cs i s = some (.go (s ++ falF a i cs)) := by
    intro cs
    induction cs with
    | nil => intro i s _; simp [forLFrom, falF]
    | cons c cs ih =>
      intro i s hs
      simp only [List.length_cons] at hs
      unfold falF
      cases hd : decide (clv c a < 0) with
      | true =>
        rw [forLFrom_nx (s' := s ++ [((i : Nat) : Int)]) (by rw [impl_clauseValue_eq, bd_some, hd, cond_true, app_ok (by simp; unfold lim; omega), bd_some]), ih _ _ (by simp; omega)]
        simp
      | false =>
        rw [forLFrom_nx (s' := s) (by rw [impl_clauseValue_eq, bd_some, hd]; rfl), ih _ _ (by omega)]
        rfl
  unfold forL
  rw [key cs 0 [] (by simpa using hl)]; rfl
/-! a literal set -/
def setA (a : List Int) (l : Int) : List Int := putL (without a (vr l)) l
theorem without_ne {V : Int} {a : List Int} (h : IsC V a) {l : Int} (hl : -12 ≤ l ∧ l ≤ 12) {x : Int} (hx : x ∈ without a (vr l)) : x ∈ a ∧ x.natAbs ≠ l.natAbs := by
  unfold without at hx
  rw [List.mem_filter] at hx
  refine ⟨hx.1, fun e => ?_⟩
  have h1 := h.sm x hx.1
  have h2 := hx.2
  rw [vr_abs h1.1 h1.2.1, vr_abs hl.1 hl.2] at h2
  simp at h2
  omega
theorem setA_isC {V : Int} {a : List Int} (h : IsC V a) {l : Int} (hl : -V ≤ l ∧ l ≤ V ∧ l ≠ 0) : IsC V (setA a l) := by
  have hv := h.hi
  have hw : IsC V (without a (vr l)) := ⟨h.lo, h.hi, fun x hx => h.lit x (List.mem_filter.1 hx).1, h.srt.filter _⟩
  refine ⟨h.lo, h.hi, fun x hx => ?_, ?_⟩
  · rcases putL_mem.1 hx with rfl | hx
    · exact hl
    · exact hw.lit x hx
  · exact putL_srt hw.srt hw.sm ⟨by omega, by omega⟩ fun x hx => (without_ne h ⟨by omega, by omega⟩ hx).2
theorem spec_l3Set_eq {V : Int} {a : List Int} (h : IsC V a) (l : Int) : spec_l3Set a l = some (setA a l) := by
  have hl := h.len
  have : (without a (vr l)).length ≤ a.length := List.length_filter_le _ _
  unfold spec_l3Set setA
  rw [spec_l2Var_eq, spec_l2Without_eq (by unfold lim; omega), bd_some, spec_l2Put_eq (by unfold lim; omega), bd_some]
theorem impl_set_eq {V : Int} {a : List Int} (h : IsC V a) {l : Int} (hl : -V ≤ l ∧ l ≤ V ∧ l ≠ 0) : impl_set a l = some (setA a l) := by
  have hn := h.len; have hv := h.hi
  have hwl : (without a (vr l)).length ≤ a.length := List.length_filter_le _ _
  have hw : IsC V (without a (vr l)) := ⟨h.lo, h.hi, fun x hx => h.lit x (List.mem_filter.1 hx).1, h.srt.filter _⟩
  have hL : IsC V [l] := ⟨h.lo, h.hi, fun x hx => (List.mem_singleton.1 hx) ▸ hl, List.pairwise_singleton _ _⟩
  unfold impl_set setA
  rw [impl_abs_eq (by unfold okI; omega), impl_withoutVar_eq h.ok.2 (by unfold lim; omega), bd_some, app_ok (by simp; unfold lim; omega), bd_some]
  unfold impl_mustClause
  rw [clause_joined hw.srt hL.srt hw.sm hL.sm (by simp; unfold lim; omega), bd_some, bd_some]
  have hwr : wr (-l) = -l := wr_of _ (by omega) (by omega)
  have h1 : (without a (vr l)).contains (wr (-l)) = false := by
    rw [hwr]
    cases hc : (without a (vr l)).contains (-l) with
    | false => rfl
    | true =>
      have := (without_ne (l := l) h ⟨by omega, by omega⟩ (by simpa using hc)).2
      omega
  have h2 : (without a (vr l)).contains l = false := by
    cases hc : (without a (vr l)).contains l with
    | false => rfl
    | true => exact absurd rfl (without_ne (l := l) h ⟨by omega, by omega⟩ (by simpa using hc)).2
  unfold joined
  simp only [joinL, h1, h2, Bool.not_false, cond_true, cond_false]
end Go.PF
namespace Go.PF
open Go.Pu
theorem iter_mk_down {T σ α X : Type} (mk : σ → Int → T) {xs : List α} {body : T → Option (Lp T X)} {F : σ → α × Nat → σ} (I : Nat → σ → Prop) {s0 : σ} (h0 : I xs.length s0)
    (h : ∀ (i : Nat) x s, xs[i]? = some x → I (i + 1) s → body (mk s (i : Int)) = some (.nx (mk (F s (x, i)) ((i : Int) - 1))) ∧ I i (F s (x, i))) (he : ∀ s, I 0 s → body (mk s (-1)) = some (.bk (mk s (-1)))) :
    iter body (mk s0 (len xs - 1)) = some (.go (mk (xs.zipIdx.reverse.foldl F s0) (-1))) ∧ I 0 (xs.zipIdx.reverse.foldl F s0) := by
  have key : ∀ (k : Nat) (s : σ), k ≤ xs.length → I k s → iter body (mk s ((k : Int) - 1)) = some (.go (mk ((xs.take k).zipIdx.reverse.foldl F s) (-1))) ∧ I 0 ((xs.take k).zipIdx.reverse.foldl F s) := by
    intro k
    induction k with
    | zero => intro s _ hI; exact ⟨iter_bk (he s hI), hI⟩
    | succ k ih =>
      intro s hk hI
      obtain ⟨x, hx⟩ : ∃ x, xs[k]? = some x := ⟨_, List.getElem?_eq_getElem (by omega)⟩
      obtain ⟨h1, h2⟩ := h k x s hx hI
      rw [take_rev hx, List.foldl_cons, show ((k + 1 : Nat) : Int) - 1 = (k : Int) by omega, iter_nx h1]
      exact ih _ (by omega) h2
  have := key xs.length s0 (Nat.le_refl _) h0
  rwa [List.take_length] at this
def zAt {α : Type} : Option (Nat × α) → Int
  | some z => ((z.1 : Nat) : Int)
  | none => -1
theorem fold_first {α : Type} {p : α → Bool} : ∀ {xs : List α} {k : Nat}, (xs.zipIdx k).reverse.foldl (fun (s : Int) q => bif p q.1 then ((q.2 : Nat) : Int) else s) (-1) = zAt (findI (fun _ y => p y) xs k) := by
  intro xs
  induction xs with
  | nil => intro k; rfl
  | cons y xs ih =>
    intro k
    rw [List.zipIdx_cons, List.reverse_cons, List.foldl_append]
    simp only [findI, List.foldl_cons, List.foldl_nil]
    cases p y with
    | true => rfl
    | false => simp only [cond_false]; exact ih
def falB (K : List (List Int)) (a : List Int) : Bool := K.any fun c => decide (clv c a < 0)
def fuF (K : List (List Int)) (a : List Int) : Option (Nat × List Int) := findI (fun _ c => !(uni c a == 0)) K 0
def propF : Nat → List (List Int) → List Int → List (Int × Int) → (List (Int × Int)) × List Int × Bool
  | 0, _, a, t => (t, a, true)
  | n + 1, K, a, t => bif falB K a then (t, a, true) else match fuF K a with
    | none => (t, a, false)
    | some z => propF n K (setA a (uni z.2 a)) (t ++ [(uni z.2 a, ((z.1 : Nat) : Int))])
structure KOk (V : Int) (K : List (List Int)) : Prop where
  len : K.length ≤ 1000
  isC : ∀ c ∈ K, IsC V c
theorem uni_mem {c a : List Int} (h : uni c a ≠ 0) : uni c a ∈ c ∧ a.contains (wr (-(uni c a))) = false ∧ a.contains (uni c a) = false := by
  unfold uni at h ⊢
  cases h1 : clv c a == 0 with
  | false => rw [h1] at h; exact absurd rfl h
  | true =>
    rw [h1] at h
    simp only [cond_true] at h ⊢
    cases h2 : (opn c a).length == 1 with
    | false => rw [h2] at h; exact absurd rfl h
    | true =>
      rw [h2] at h
      simp only [cond_true] at h ⊢
      cases ho : opn c a with
      | nil => rw [ho] at h2; cases h2
      | cons l r =>
        simp only [List.headD_cons]
        have hm : l ∈ opn c a := by rw [ho]; simp
        unfold opn at hm
        obtain ⟨m1, m2⟩ := List.mem_filter.1 hm
        refine ⟨m1, by simpa using m2, ?_⟩
        cases hc : a.contains l with
        | false => rfl
        | true =>
          unfold clv at h1
          rw [show (c.any fun l => a.contains l) = true from List.any_eq_true.2 ⟨l, m1, hc⟩] at h1
          cases h1
theorem setA_new {V : Int} {c a : List Int} (hc : IsC V c) (ha : IsC V a) (h : uni c a ≠ 0) : IsC V (setA a (uni c a)) ∧ (setA a (uni c a)).length = a.length + 1 ∧ (-V ≤ uni c a ∧ uni c a ≤ V ∧ uni c a ≠ 0) := by
  obtain ⟨m1, m2, m3⟩ := uni_mem h
  have hb := hc.lit _ m1
  have hv := hc.hi
  refine ⟨setA_isC ha hb, ?_, hb⟩
  unfold setA
  rw [putL_length]
  have : without a (vr (uni c a)) = a := by
    unfold without
    rw [List.filter_eq_self]
    intro x hx
    have h1 := ha.sm x hx
    rw [vr_abs h1.1 h1.2.1, vr_abs (by omega) (by omega)]
    rw [wr_of _ (by omega) (by omega)] at m2
    have e1 : x ≠ uni c a := fun e => by
      have : a.contains (uni c a) = true := by rw [← e]; simpa using hx
      rw [this] at m3; cases m3
    have e2 : x ≠ -(uni c a) := fun e => by
      have : a.contains (-(uni c a)) = true := by rw [← e]; simpa using hx
      rw [this] at m2; cases m2
    simp
    omega
  rw [this]
theorem fuF_some {K : List (List Int)} {a : List Int} {z : Nat × List Int} (h : fuF K a = some z) : K[z.1]? = some z.2 ∧ uni z.2 a ≠ 0 := by
  obtain ⟨_, h2, h3, _⟩ := findI_some h
  exact ⟨by simpa using h2, by simpa using h3⟩
structure PrOk (V : Int) (K : List (List Int)) (r : (List (Int × Int)) × List Int × Bool) : Prop where
  a : IsC V r.2.1
  t : ∀ q ∈ r.1, (-V ≤ q.1 ∧ q.1 ≤ V ∧ q.1 ≠ 0) ∧ ∃ c, 0 ≤ q.2 ∧ q.2 < K.length ∧ ix K q.2 = some c
  f : r.2.2 = true → falB K r.2.1 = true
theorem propF_ok {V : Int} {K : List (List Int)} (hK : KOk V K) : ∀ {n : Nat} {a : List Int} {t : List (Int × Int)}, IsC V a → 12 < n + a.length →
    (∀ q ∈ t, (-V ≤ q.1 ∧ q.1 ≤ V ∧ q.1 ≠ 0) ∧ ∃ c, 0 ≤ q.2 ∧ q.2 < K.length ∧ ix K q.2 = some c) → PrOk V K (propF n K a t) ∧ (propF n K a t).1.length ≤ t.length + n := by
  intro n
  induction n with
  | zero => intro a t ha hn; have := ha.len; omega
  | succ n ih =>
    intro a t ha hn ht
    unfold propF
    cases hf : falB K a with
    | true => exact ⟨⟨ha, ht, fun _ => hf⟩, by simp⟩
    | false =>
      simp only [cond_false]
      cases hu : fuF K a with
      | none => exact ⟨⟨ha, ht, fun h => by cases h⟩, by simp⟩
      | some z =>
        simp only
        obtain ⟨h1, h2⟩ := fuF_some hu
        obtain ⟨g1, g2, g3⟩ := setA_new (hK.isC _ (List.mem_of_getElem? h1)) ha h2
        obtain ⟨q1, q2⟩ := ih (t := t ++ [(uni z.2 a, ((z.1 : Nat) : Int))]) g1 (by omega) (fun q hq => by
          rcases List.mem_append.1 hq with hq | hq
          · exact ht q hq
          · rw [List.mem_singleton.1 hq]
            exact ⟨g3, z.2, by simp, by have := (List.getElem?_eq_some_iff.1 h1).1; simp; omega, by rw [ix_get]; exact h1⟩)
        exact ⟨q1, by simp at q2; omega⟩
theorem spec_l3CnfValue_eq {V : Int} {F : Cnf} {a : List Int} (hK : KOk V F.clauses) : ∃ r, spec_l3CnfValue F a = some r ∧ decide (0 ≤ r) = !falB F.clauses a := by
  unfold spec_l3CnfValue
  have hl := hK.len
  have h := iter_foldI (X := Empty) (xs := F.clauses) (body := (fun (s29 : Int × Int) => (bif (decide (s29.2 < (len F.clauses))) then bd (ix F.clauses s29.2) (fun x74 => bd (PF.spec_l3Value x74 a) (fun r78 => some (Lp.nx ((PF.spec_l1Least s29.1 r78), (wr (s29.2 + 1)))))) else some (Lp.bk (s29.1, s29.2)))))
    (F := fun s c => PF.spec_l1Least s (clv c a)) (fun _ _ => True) (s0 := 1) trivial (fun i x s hx _ => by
      have hi := (List.getElem?_eq_some_iff.1 hx).1
      refine ⟨?_, trivial⟩
      have e : decide ((i : Int) < len F.clauses) = true := decide_eq_true (by rw [len_eq]; omega)
      show (bif decide ((i : Int) < len F.clauses) then bd (ix F.clauses (i : Int)) (fun x74 => bd (PF.spec_l3Value x74 a) (fun r78 => some (Lp.nx ((PF.spec_l1Least s r78), (wr ((i : Int) + 1)))))) else some (Lp.bk (s, (i : Int)))) = _
      rw [e, cond_true, ix_get, hx, bd_some, spec_l3Value_eq, bd_some, wr_succ hi (by omega)]) (fun s => by simp [len_eq])
  rw [h.1, bdR_go]
  refine ⟨_, rfl, ?_⟩
  have key : ∀ (K : List (List Int)) (s : Int), decide (0 ≤ K.foldl (fun s c => PF.spec_l1Least s (clv c a)) s) = (decide (0 ≤ s) && !K.any fun c => decide (clv c a < 0)) := by
    intro K
    induction K with
    | nil => intro s; simp only [List.foldl_nil, List.any_nil, Bool.not_false, Bool.and_true]; exact decide_eq_decide.2 Iff.rfl
    | cons c K ih =>
      intro s
      rw [List.foldl_cons, ih, List.any_cons]
      unfold spec_l1Least
      cases hd : decide (s < clv c a) with
      | true =>
        simp at hd
        simp only [cond_true]
        cases hq : decide (clv c a < 0) with
        | false => simp
        | true => simp at hq; simp; intro h; omega
      | false =>
        simp at hd
        simp only [cond_false]
        cases hq : decide (clv c a < 0) with
        | false => simp at hq; simp [hq]; intro _; omega
        | true => simp at hq; simp; intro h; omega
  rw [key]; rfl
theorem falF_any {a : List Int} : ∀ {cs : List (List Int)} {i : Nat}, decide (0 < len (falF a i cs)) = falB cs a := by
  intro cs
  induction cs with
  | nil => intro i; rfl
  | cons c cs ih =>
    intro i
    unfold falF falB
    rw [List.any_cons]
    cases hd : decide (clv c a < 0) with
    | true => simp [len_eq]
    | false => simp only [cond_false, Bool.false_or]; exact ih
theorem spec_first {K : List (List Int)} {a : List Int} {V : Int} (hK : KOk V K) :
    iter (S := (Int × Int)) (X := Empty) (fun s330 => (bif (decide (0 ≤ s330.2)) then bd (ix K s330.2) (fun x380 => bd (PF.spec_l3Unit x380 a) (fun r389 => (bif (!(r389 == 0)) then some (Lp.nx (s330.2, (wr (s330.2 - 1)))) else some (Lp.nx (s330.1, (wr (s330.2 - 1))))))) else some (Lp.bk (s330.1, s330.2)))) ((-1), (wr ((len K) - 1))) = some (.go (zAt (fuF K a), -1)) := by
  have hl := hK.len
  rw [wr_of (len K - 1) (by rw [len_eq]; omega) (by rw [len_eq]; omega)]
  have := (iter_down (X := Empty) (xs := K) (body := (fun (s330 : Int × Int) => (bif (decide (0 ≤ s330.2)) then bd (ix K s330.2) (fun x380 => bd (PF.spec_l3Unit x380 a) (fun r389 => (bif (!(r389 == 0)) then some (Lp.nx (s330.2, (wr (s330.2 - 1)))) else some (Lp.nx (s330.1, (wr (s330.2 - 1))))))) else some (Lp.bk (s330.1, s330.2)))))
    (F := fun s q => bif !(uni q.1 a == 0) then ((q.2 : Nat) : Int) else s) (fun _ _ => True) (s0 := -1) trivial (fun i x s hx _ => by
      have hi := (List.getElem?_eq_some_iff.1 hx).1
      have hc := (hK.isC _ (List.mem_of_getElem? hx)).len
      have e : decide (0 ≤ (i : Int)) = true := decide_eq_true (by omega)
      refine ⟨?_, trivial⟩
      show (bif decide (0 ≤ (i : Int)) then bd (ix K (i : Int)) (fun x380 => bd (PF.spec_l3Unit x380 a) (fun r389 => (bif (!(r389 == 0)) then some (Lp.nx ((i : Int), (wr ((i : Int) - 1)))) else some (Lp.nx (s, (wr ((i : Int) - 1))))))) else some (Lp.bk (s, (i : Int)))) = _
      rw [e, cond_true, ix_get, hx, bd_some, spec_l3Unit_eq (by unfold lim; omega), bd_some, wr_down hi (by omega)]
      cases !(uni x a == 0) <;> rfl) (fun s => rfl)).1
  rw [this, fold_first (p := fun c => !(uni c a == 0))]; rfl
theorem impl_first {K : List (List Int)} {a : List Int} {V : Int} (hK : KOk V K) :
    bdR (forL (S := Unit) (X := Int) K (fun i362 y361 s362 => bd (β := _) (bd (PF.impl_unit y361 a) (fun r415 => some (!(r415 == 0))) : Option Bool) (fun s414 => (bif s414 then some (Lp.rt ((i362 : Nat) : Int)) else some (Lp.nx ())))) ()) (fun s362 => some (-1)) (fun x362 => some x362) = some (zAt (fuF K a)) := by
  rw [forL_find (p := fun _ c => !(uni c a == 0)) (v := fun i _ => ((i : Nat) : Int)) (fun i y hy => by
    have hc := (hK.isC _ (List.mem_of_getElem? hy)).len
    rw [impl_unit_eq (by unfold lim; omega), bd_some, bd_some])]
  unfold fuF
  cases findI (fun _ c => !(uni c a == 0)) K 0 <;> rfl
theorem spec_steps_loop {V : Int} {F : Cnf} (hK : KOk V F.clauses) {f : (List (Int × Int)) × (List Int) → Option (Lp ((List (Int × Int)) × (List Int)) ((List (Int × Int)) × (List Int) × Bool))}
    (hf : ∀ t a, f (t, a) = bd (PF.spec_l3CnfValue F a) (fun r324 => (bif (decide (0 ≤ r324)) then bdR (iter (S := (Int × Int)) (X := Empty) (fun s330 => (bif (decide (0 ≤ s330.2)) then bd (ix F.clauses s330.2) (fun x380 => bd (PF.spec_l3Unit x380 a) (fun r389 => (bif (!(r389 == 0)) then some (Lp.nx (s330.2, (wr (s330.2 - 1)))) else some (Lp.nx (s330.1, (wr (s330.2 - 1))))))) else some (Lp.bk (s330.1, s330.2)))) ((-1), (wr ((len F.clauses) - 1)))) (fun s330 => (bif (decide (s330.1 < 0)) then some (Lp.rt (t, a, false)) else bd (ix F.clauses s330.1) (fun x412 => bd (PF.spec_l3Unit x412 a) (fun r421 => bd (app t [(r421, s330.1)]) (fun xs431 => bd (PF.spec_l3Set a r421) (fun r447 => some (Lp.nx (xs431, r447)))))))) (fun x330 => nomatch x330) else some (Lp.bk (t, a))))) : ∀ {n : Nat} {a : List Int} {t : List (Int × Int)}, IsC V a → 12 < n + a.length → t.length + n ≤ 1000 →
    iter (S := ((List (Int × Int)) × (List Int))) (X := ((List (Int × Int)) × (List Int) × Bool)) f (t, a)
      = some (bif (propF n F.clauses a t).2.2 then .go ((propF n F.clauses a t).1, (propF n F.clauses a t).2.1) else .rt ((propF n F.clauses a t).1, (propF n F.clauses a t).2.1, false)) := by
  intro n
  induction n with
  | zero => intro a t ha hn; have := ha.len; omega
  | succ n ih =>
    intro a t ha hn hl
    obtain ⟨r, hr, hv⟩ := spec_l3CnfValue_eq (a := a) hK
    unfold propF
    cases hg : falB F.clauses a with
    | true => rw [iter_bk (s' := (t, a)) (by rw [hf, hr, bd_some, hv, hg]; rfl)]; rfl
    | false =>
      cases hu : fuF F.clauses a with
      | none => rw [iter_rt (x := (t, a, false)) (by rw [hf, hr, bd_some, hv, hg, Bool.not_false, cond_true, spec_first hK, bdR_go, hu]; rfl)]; rfl
      | some z =>
        simp only [cond_false]
        obtain ⟨h1, h2⟩ := fuF_some hu
        have hz := hK.isC _ (List.mem_of_getElem? h1)
        have hzl := hz.len
        obtain ⟨g1, g2, g3⟩ := setA_new hz ha h2
        rw [iter_nx (s' := (t ++ [(uni z.2 a, ((z.1 : Nat) : Int))], setA a (uni z.2 a))) (by
          rw [hf, hr, bd_some, hv, hg, Bool.not_false, cond_true, spec_first hK, bdR_go, hu]
          show (bif decide (((z.1 : Nat) : Int) < 0) then _ else bd (ix F.clauses ((z.1 : Nat) : Int)) _) = _
          rw [decide_eq_false (by omega), cond_false, ix_get, h1, bd_some, spec_l3Unit_eq (by unfold lim; omega), bd_some, app_ok (by simp; unfold lim; omega), bd_some, spec_l3Set_eq ha, bd_some]; rfl)]
        exact ih g1 (by omega) (by simp; omega)
def unitP (K : List (List Int)) (a : List Int) : (List (Int × Int)) × List Int × Bool := propF 13 K a []
theorem spec_l3Steps_eq {V : Int} {F : Cnf} (hK : KOk V F.clauses) {a : List Int} (ha : IsC V a) : spec_l3Steps F a = some (unitP F.clauses a) := by
  unfold spec_l3Steps unitP
  have hl := ha.len
  rw [spec_l1Own_eq (by unfold lim; omega), bd_some, spec_steps_loop hK (fun _ _ => by rfl) ha (n := 13) (by omega) (by simp)]
  obtain ⟨t, a', b⟩ := propF 13 F.clauses a []
  cases b <;> rfl
theorem impl_steps_loop {V : Int} {K : List (List Int)} (hK : KOk V K) {f : (List Int) × (List (Int × Int)) → Option (Lp ((List Int) × (List (Int × Int))) ((List Int) × (List (Int × Int)) × Bool))}
    (hf : ∀ a t, f (a, t) = bd (PF.impl_falseClauses K a) (fun r304 => (bif (decide (0 < (len r304))) then some (Lp.rt (a, t, true)) else bd (β := _) (bdR (forL (S := Unit) (X := Int) K (fun i362 y361 s362 => bd (β := _) (bd (PF.impl_unit y361 a) (fun r415 => some (!(r415 == 0))) : Option Bool) (fun s414 => (bif s414 then some (Lp.rt ((i362 : Nat) : Int)) else some (Lp.nx ())))) ()) (fun s362 => some (-1)) (fun x362 => some x362) : Option Int) (fun s360 => (bif (decide (s360 < 0)) then some (Lp.rt (a, t, false)) else bd (ix K s360) (fun x454 => bd (PF.impl_unit x454 a) (fun r458 => bd (PF.impl_set a r458) (fun r463 => bd (app t [(r458, s360)]) (fun xs481 => some (Lp.nx (r463, xs481))))))))))) : ∀ {n : Nat} {a : List Int} {t : List (Int × Int)}, IsC V a → 12 < n + a.length → t.length + n ≤ 1000 →
    iter (S := ((List Int) × (List (Int × Int)))) (X := ((List Int) × (List (Int × Int)) × Bool)) f (a, t)
      = some (.rt ((propF n K a t).2.1, (propF n K a t).1, (propF n K a t).2.2)) := by
  intro n
  induction n with
  | zero => intro a t ha hn; have := ha.len; omega
  | succ n ih =>
    intro a t ha hn hl
    have hkl := hK.len
    unfold propF
    cases hg : falB K a with
    | true => rw [iter_rt (x := (a, t, true)) (by rw [hf, impl_falseClauses_eq (a := a) (show K.length ≤ 1000000 by omega), bd_some, falF_any, hg]; rfl)]; rfl
    | false =>
      cases hu : fuF K a with
      | none => rw [iter_rt (x := (a, t, false)) (by rw [hf, impl_falseClauses_eq (a := a) (show K.length ≤ 1000000 by omega), bd_some, falF_any, hg, cond_false, impl_first hK, bd_some, hu]; rfl)]; rfl
      | some z =>
        simp only [cond_false]
        obtain ⟨h1, h2⟩ := fuF_some hu
        have hz := hK.isC _ (List.mem_of_getElem? h1)
        have hzl := hz.len
        obtain ⟨g1, g2, g3⟩ := setA_new hz ha h2
        rw [iter_nx (s' := (setA a (uni z.2 a), t ++ [(uni z.2 a, ((z.1 : Nat) : Int))])) (by
          rw [hf, impl_falseClauses_eq (a := a) (show K.length ≤ 1000000 by omega), bd_some, falF_any, hg, cond_false, impl_first hK, bd_some, hu]
          show (bif decide (((z.1 : Nat) : Int) < 0) then _ else bd (ix K ((z.1 : Nat) : Int)) _) = _
          rw [decide_eq_false (by omega), cond_false, ix_get, h1, bd_some, impl_unit_eq (by unfold lim; omega), bd_some, impl_set_eq ha g3, bd_some, app_ok (by simp; unfold lim; omega), bd_some]; rfl)]
        exact ih g1 (by omega) (by simp; omega)
theorem impl_propagate_eq {V : Int} {K : List (List Int)} (hK : KOk V K) {a : List Int} (ha : IsC V a) : impl_propagate K a = some ((unitP K a).2.1, (unitP K a).1, (unitP K a).2.2) := by
  unfold impl_propagate unitP
  have hl := ha.len
  rw [slices_Clone_int_int_eq (by unfold lim; omega), bd_some, impl_steps_loop hK (fun _ _ => by rfl) ha (n := 13) (by omega) (by simp)]
  rfl
theorem unitP_ok {V : Int} {K : List (List Int)} (hK : KOk V K) {a : List Int} (ha : IsC V a) : PrOk V K (unitP K a) ∧ (unitP K a).1.length ≤ 13 := by
  have := propF_ok hK (n := 13) (t := []) ha (by omega) (by simp)
  exact ⟨this.1, by have h := this.2; simp only [List.length_nil, Nat.zero_add] at h; exact h⟩
end Go.PF
namespace Go.PF
open Go.Pu
def negL (c : List Int) : List Int := c.map fun y => wr (-y)
theorem negL_isC {V : Int} {c : List Int} (h : IsC V c) : IsC V (negL c) := by
  have hv := h.hi
  have e : ∀ y ∈ c, wr (-y) = -y := fun y hy => by have := h.lit y hy; exact wr_of _ (by omega) (by omega)
  refine ⟨h.lo, h.hi, fun l hl => ?_, ?_⟩
  · obtain ⟨y, hy, rfl⟩ := List.mem_map.1 hl
    have := h.lit y hy
    rw [e y hy]; omega
  · unfold negL
    rw [List.pairwise_map]
    refine h.srt.imp_of_mem fun {a b} ha hb hab => ?_
    rw [e a ha, e b hb]; omega
theorem spec_l11Deny_eq {c : List Int} (hl : c.length ≤ lim) : spec_l11Deny c = some (negL c) := by
  unfold spec_l11Deny negL
  rw [(forL_foldI (X := Empty) (fun s y => s ++ [wr (-y)]) (fun i s => s.length ≤ i) (l := c) (s := []) (by simp) (fun i x t hx ht => by
    have hi := (List.getElem?_eq_some_iff.1 hx).1
    exact ⟨by rw [app_ok (by simp; omega), bd_some], by simp; omega⟩)).1, bdR_go]
  congr 1
  have : ∀ (c s : List Int), c.foldl (fun s y => s ++ [wr (-y)]) s = s ++ c.map fun y => wr (-y) := by
    intro c
    induction c with
    | nil => simp
    | cons y c ih => intro s; simp [ih]
  simpa using this c []
theorem impl_negated_eq {c : List Int} (hl : c.length ≤ lim) : impl_negated c = some (negL c) := spec_l11Deny_eq hl
def lk (F : Cnf) (ls : List (List Int)) (i : Nat) : List (List Int) := F.clauses ++ ls.take i
structure LOk (F : Cnf) (ls : List (List Int)) : Prop where
  v : 0 ≤ F.vars ∧ F.vars ≤ 12
  fl : F.clauses.length ≤ 60
  f : ∀ c ∈ F.clauses, IsC F.vars c
  ll : ls.length ≤ 60
  l : ∀ c ∈ ls, IsC F.vars c
theorem LOk.k {F : Cnf} {ls : List (List Int)} (h : LOk F ls) (i : Nat) : KOk F.vars (lk F ls i) := by
  have := h.fl; have := h.ll
  refine ⟨by unfold lk; simp; omega, fun c hc => ?_⟩
  rcases List.mem_append.1 hc with hc | hc
  · exact h.f c hc
  · exact h.l c (List.mem_of_mem_take hc)
theorem spec_l11With_eq {F : Cnf} {ls : List (List Int)} (h : LOk F ls) {i : Nat} : spec_l11With F (ls.take i) = some ⟨F.vars, lk F ls i⟩ := by
  have := h.fl; have := h.ll
  unfold spec_l11With lk
  rw [app_ok (by simp; unfold lim; omega), bd_some, app_ok (by simp; unfold lim; omega), bd_some]; rfl
theorem concatLL2 {a b : List (List Int)} (hl : a.length + b.length ≤ 1000) : slices_Concat_LLint_Lint [a, b] = some (a ++ b) := by
  have e1 : wr (0 + len a) = (a.length : Int) := by rw [wr_of _ (by rw [len_eq]; omega) (by rw [len_eq]; omega), len_eq]; omega
  have e2 : wr ((a.length : Int) + len b) = ((a.length + b.length : Nat) : Int) := by rw [wr_of _ (by rw [len_eq]; omega) (by rw [len_eq]; omega), len_eq]; omega
  have d1 : decide ((a.length : Int) < 0) = false := by rw [decide_eq_false_iff_not]; omega
  have d2 : decide (((a.length + b.length : Nat) : Int) < 0) = false := by rw [decide_eq_false_iff_not]; omega
  unfold slices_Concat_LLint_Lint forL
  rw [forLFrom_nx (s' := (a.length : Int)) (by rw [e1, d1]; rfl), forLFrom_nx (s' := ((a.length + b.length : Nat) : Int)) (by rw [e2, d2]; rfl), forLFrom_nil, bdR_go]
  unfold slices_Grow_LLint_Lint
  rw [if_pos (by unfold lim; omega), bd_some]
  rw [forLFrom_nx (s' := a) (by rw [app_ok (by simp; unfold lim; omega), bd_some]; rfl), forLFrom_nx (s' := a ++ b) (by rw [app_ok (by unfold lim; omega), bd_some]), forLFrom_nil, bdR_go]
theorem cut_take {A : Type} {xs : List A} {i : Nat} (h : i ≤ xs.length) : cut xs 0 (i : Int) = some (xs.take i) := by
  have := cut_ok (xs := xs) (a := 0) (b := i) (Nat.zero_le _) h
  simpa using this
theorem impl_before_eq {F : Cnf} {ls : List (List Int)} (h : LOk F ls) {i : Nat} (hi : i ≤ ls.length) : impl_before F ls (i : Int) = some (lk F ls i) := by
  have := h.fl; have := h.ll
  unfold impl_before lk
  rw [cut_take hi, bd_some, concatLL2 (by simp; omega), bd_some]
def goodL (F : Cnf) (ls : List (List Int)) : Bool := cnfB F && (decide (len ls ≤ 60) && ls.all (clauseB F.vars))
theorem goodL_ok {F : Cnf} {ls : List (List Int)} (h : goodL F ls = true) : LOk F ls := by
  unfold goodL cnfB at h
  simp only [Bool.and_eq_true, decide_eq_true_eq, List.all_eq_true] at h
  obtain ⟨⟨⟨h1, h2⟩, h3⟩, h4, h5⟩ := h
  exact ⟨varsB_iff.1 h1, by rw [len_eq] at h2; omega, fun c hc => clauseB_iff.1 (h3 c hc), by rw [len_eq] at h4; omega, fun c hc => clauseB_iff.1 (h5 c hc)⟩
theorem spec_l11Takes_eq {F : Cnf} {ls : List (List Int)} (hF : okCnf F) (hl : okL (okL okI) ls) : spec_l11Takes F ls = some (goodL F ls) := by
  unfold spec_l11Takes goodL
  rw [spec_l2Good_eq hF, bd_some]
  cases cnfB F with
  | false => rfl
  | true =>
    have e : (decide (60 < len ls)) = !decide (len ls ≤ 60) := by
      by_cases h : len ls ≤ 60
      · simp [h]
      · simp [h]; omega
    simp only [Bool.not_true, cond_false, Bool.true_and]
    rw [e]
    cases decide (len ls ≤ 60) with
    | false => rfl
    | true =>
      simp only [Bool.not_true, cond_false, Bool.true_and]
      rw [forL_any (p := fun _ c => !clauseB F.vars c) (v := false) (fun i y hy => by rw [spec_l2Clause_eq (hl.2 _ (List.mem_of_getElem? hy)), bd_some])]
      rw [anyI_any, show (ls.any fun y => !clauseB F.vars y) = !ls.all (clauseB F.vars) by rw [List.all_eq_not_any_not, Bool.not_not]]
      cases ls.all (clauseB F.vars) <;> rfl
theorem impl_listOk_eq {F : Cnf} {ls : List (List Int)} (hF : okCnf F) (hl : okL (okL okI) ls) : impl_listOk F ls = some (goodL F ls) := by
  unfold impl_listOk goodL
  rw [impl_IsCnf_eq hF, bd_some]
  cases cnfB F with
  | false => rfl
  | true =>
    simp only [cond_true, Bool.true_and]
    cases decide (len ls ≤ 60) with
    | false => rfl
    | true =>
      simp only [cond_true, Bool.true_and]
      have : slices_ContainsFunc_LLint_Lint ls (fun x0 => PF.impl_listOk_1 x0 F) = some (ls.any fun c => !clauseB F.vars c) := by
        unfold slices_ContainsFunc_LLint_Lint slices_IndexFunc_LLint_Lint
        rw [forL_find (p := fun _ c => !clauseB F.vars c) (v := fun i _ => ((i : Nat) : Int)) (fun i y hy => by show bd (PF.impl_listOk_1 y F) _ = _; unfold impl_listOk_1; rw [impl_IsClause_eq (hl.2 _ (List.mem_of_getElem? hy)), bd_some, bd_some])]
        rw [← anyI_any (fun c => !clauseB F.vars c) ls 0]
        cases hf : findI (fun _ c => !clauseB F.vars c) ls 0 with
        | none => rw [findI_none.1 hf]; rfl
        | some z => rw [(findI_some hf).2.2.2, bdR_rt, bd_some, decide_eq_true (by omega)]
      rw [this, bd_some, bd_some, show (ls.any fun y => !clauseB F.vars y) = !ls.all (clauseB F.vars) by rw [List.all_eq_not_any_not, Bool.not_not], Bool.not_not]
def folB (F : Cnf) (ls : List (List Int)) (i : Nat) (y : List Int) : Bool := (unitP (lk F ls i) (negL y)).2.2
def firstU (F : Cnf) (ls : List (List Int)) : Option (Nat × List Int) := findI (fun i y => !folB F ls i y) ls 0
theorem spec_l11First_eq {F : Cnf} {ls : List (List Int)} (h : LOk F ls) : spec_l11First F ls = some (zAt (firstU F ls)) := by
  unfold spec_l11First
  rw [forL_find (p := fun i y => !folB F ls i y) (v := fun i _ => ((i : Nat) : Int)) (fun i y hy => by
    have hi := (List.getElem?_eq_some_iff.1 hy).1
    have hy' := h.l _ (List.mem_of_getElem? hy)
    have hyl := hy'.len
    rw [cut_take (by omega), bd_some, spec_l11With_eq h, bd_some]
    unfold spec_l11Follows
    rw [spec_l11Deny_eq (by unfold lim; omega), bd_some, spec_l3Steps_eq (F := ⟨F.vars, lk F ls i⟩) (h.k i) (negL_isC hy'), bd_some, bd_some]; rfl)]
  unfold firstU
  cases findI (fun i y => !folB F ls i y) ls 0 <;> rfl
theorem impl_firstUnfollowed_eq {F : Cnf} {ls : List (List Int)} (h : LOk F ls) : impl_firstUnfollowed F ls = some (zAt (firstU F ls)) := by
  unfold impl_firstUnfollowed
  rw [forL_find (p := fun i y => !folB F ls i y) (v := fun i _ => ((i : Nat) : Int)) (fun i y hy => by
    have hi := (List.getElem?_eq_some_iff.1 hy).1
    have hy' := h.l _ (List.mem_of_getElem? hy)
    have hyl := hy'.len
    rw [impl_before_eq h (by omega), bd_some]
    unfold impl_follows
    rw [impl_negated_eq (by unfold lim; omega), bd_some, impl_propagate_eq (h.k i) (negL_isC hy'), bd_some, bd_some]; rfl)]
  unfold firstU
  cases findI (fun i y => !folB F ls i y) ls 0 <;> rfl
def learnB (F : Cnf) (ls : List (List Int)) : Bool := goodL F ls && decide (zAt (firstU F ls) < 0)
theorem spec_l11Good_eq {F : Cnf} {ls : List (List Int)} (hF : okCnf F) (hl : okL (okL okI) ls) : spec_l11Good F ls = some (learnB F ls) := by
  unfold spec_l11Good learnB
  rw [spec_l11Takes_eq hF hl, bd_some]
  cases h : goodL F ls with
  | false => rfl
  | true => simp only [cond_true, Bool.true_and]; rw [spec_l11First_eq (goodL_ok h), bd_some, bd_some]
theorem impl_learned_eq {F : Cnf} {ls : List (List Int)} (hF : okCnf F) (hl : okL (okL okI) ls) : impl_learned F ls = some (learnB F ls) := by
  unfold impl_learned learnB
  rw [impl_listOk_eq hF hl, bd_some]
  cases h : goodL F ls with
  | false => rfl
  | true => simp only [cond_true, Bool.true_and]; rw [impl_firstUnfollowed_eq (goodL_ok h), bd_some, bd_some]
theorem learnB_fol {F : Cnf} {ls : List (List Int)} (h : learnB F ls = true) {i : Nat} {y : List Int} (hy : ls[i]? = some y) : folB F ls i y = true := by
  unfold learnB at h
  rw [Bool.and_eq_true] at h
  have h2 := h.2
  have hn : firstU F ls = none := by
    cases hf : firstU F ls with
    | none => rfl
    | some z => rw [hf] at h2; have h3 := of_decide_eq_true h2; simp only [zAt] at h3; omega
  have := anyI_false.1 (findI_none.1 hn) i y hy
  simpa using this
/-! the trail -/
theorem iter_find {α X : Type} {xs : List α} {body : Int → Option (Lp Int X)} {p : Nat → α → Bool} {v : Nat → α → X} (h : ∀ (i : Nat) y, xs[i]? = some y → body (i : Int) = (bif p i y then some (.rt (v i y)) else some (.nx ((i : Int) + 1)))) (he : body (xs.length : Int) = some (.bk (xs.length : Int))) :
    iter body 0 = some (match findI p xs 0 with | some z => .rt (v z.1 z.2) | none => .go (xs.length : Int)) := by
  have key : ∀ (m : List α) (k : Nat), k + m.length = xs.length → (∀ i y, m[i]? = some y → xs[k + i]? = some y) → iter body (k : Int) = some (match findI p m k with | some z => .rt (v z.1 z.2) | none => .go (xs.length : Int)) := by
    intro m
    induction m with
    | nil => intro k hk _; simp at hk; subst hk; exact iter_bk he
    | cons y m ih =>
      intro k hk hm
      have h0 := h k y (by have := hm 0 y rfl; simpa using this)
      unfold findI
      cases hp : p k y with
      | true => rw [hp] at h0; exact iter_rt h0
      | false =>
        rw [hp] at h0
        rw [iter_nx h0]
        exact ih (k + 1) (by simp at hk; omega) fun i z hz => by have := hm (i + 1) z (by simpa using hz); rwa [show k + (i + 1) = k + 1 + i by omega] at this
  exact key xs 0 (by simp) (by simp)
def fz (K : List (List Int)) (a : List Int) : Option (Nat × List Int) := findI (fun _ c => decide (clv c a < 0)) K 0
theorem fz_some {K : List (List Int)} {a : List Int} (h : falB K a = true) : ∃ z, fz K a = some z ∧ K[z.1]? = some z.2 := by
  unfold fz
  cases hf : findI (fun _ c => decide (clv c a < 0)) K 0 with
  | none =>
    have := findI_none.1 hf
    rw [anyI_any] at this
    unfold falB at h; rw [h] at this; cases this
  | some z => exact ⟨z, rfl, by have := (findI_some hf).2.1; simpa using this⟩
theorem spec_l9False_eq {V : Int} {F : Cnf} (hK : KOk V F.clauses) (a : List Int) : spec_l9False F a = some (zAt (fz F.clauses a)) := by
  unfold spec_l9False
  have hl := hK.len
  rw [iter_find (xs := F.clauses) (p := fun _ c => decide (clv c a < 0)) (v := fun i _ => ((i : Nat) : Int)) (fun i y hy => by
    have hi := (List.getElem?_eq_some_iff.1 hy).1
    rw [decide_eq_true (by rw [len_eq]; omega), cond_true, ix_get, hy, bd_some, spec_l3Value_eq, bd_some, wr_succ hi (by omega)]) (by
    rw [decide_eq_false (by rw [len_eq]; omega), cond_false])]
  unfold fz
  cases findI (fun _ c => decide (clv c a < 0)) F.clauses 0 <;> rfl
theorem falF_head {a : List Int} : ∀ {cs : List (List Int)} {i : Nat} {z : Nat × List Int}, findI (fun _ c => decide (clv c a < 0)) cs i = some z → ix (falF a i cs) 0 = some ((z.1 : Nat) : Int) := by
  intro cs
  induction cs with
  | nil => intro i z h; cases h
  | cons c cs ih =>
    intro i z h
    unfold findI at h
    unfold falF
    cases hd : decide (clv c a < 0) with
    | true => rw [hd] at h; cases h; rfl
    | false => rw [hd] at h; exact ih h
end Go.PF
namespace Go.PF
open Go.Pu
def trl (F : Cnf) (ls : List (List Int)) (i : Nat) : (List (Int × Int)) × List Int × Bool := unitP (lk F ls i) (negL ((ls[i]?).getD []))
def cfl (F : Cnf) (ls : List (List Int)) (i : Nat) : Int := zAt (fz (lk F ls i) (trl F ls i).2.1)
theorem trl_ok {F : Cnf} {ls : List (List Int)} (h : LOk F ls) (hg : learnB F ls = true) {i : Nat} (hi : i < ls.length) :
    PrOk F.vars (lk F ls i) (trl F ls i) ∧ (trl F ls i).1.length ≤ 13 ∧ ∃ z, fz (lk F ls i) (trl F ls i).2.1 = some z ∧ (lk F ls i)[z.1]? = some z.2 := by
  have hy : ls[i]? = some ls[i] := List.getElem?_eq_getElem hi
  have hc := h.l _ (List.mem_of_getElem? hy)
  have h1 := unitP_ok (h.k i) (negL_isC hc)
  unfold trl
  rw [hy, Option.getD_some]
  refine ⟨h1.1, h1.2, fz_some (h1.1.f ?_)⟩
  exact learnB_fol hg hy
theorem spec_l11Trail_eq {F : Cnf} {ls : List (List Int)} (h : LOk F ls) {i : Nat} (hi : i < ls.length) : spec_l11Trail F ls (i : Int) = some ((trl F ls i).1, cfl F ls i) := by
  have hy : ls[i]? = some ls[i] := List.getElem?_eq_getElem hi
  have hc := h.l _ (List.mem_of_getElem? hy)
  have hcl := hc.len
  unfold spec_l11Trail cfl trl
  rw [hy, Option.getD_some, cut_take (by omega), bd_some, spec_l11With_eq h, bd_some, ix_get, hy, bd_some, spec_l11Deny_eq (by unfold lim; omega), bd_some, spec_l3Steps_eq (F := ⟨F.vars, lk F ls i⟩) (h.k i) (negL_isC hc), bd_some,
    spec_l9False_eq (V := F.vars) (F := ⟨F.vars, lk F ls i⟩) (h.k i), bd_some]
theorem impl_trail_eq {F : Cnf} {ls : List (List Int)} (h : LOk F ls) (hg : learnB F ls = true) {i : Nat} (hi : i < ls.length) : impl_trail F ls (i : Int) = some ((trl F ls i).1, cfl F ls i) := by
  have hy : ls[i]? = some ls[i] := List.getElem?_eq_getElem hi
  have hc := h.l _ (List.mem_of_getElem? hy)
  have hcl := hc.len
  obtain ⟨_, _, z, hz, _⟩ := trl_ok h hg hi
  unfold impl_trail cfl
  rw [hz]
  unfold trl at hz ⊢
  rw [hy, Option.getD_some] at hz ⊢
  have hk := (h.k i).len
  rw [impl_before_eq h (by omega), bd_some, ix_get, hy, bd_some, impl_negated_eq (by unfold lim; omega), bd_some, impl_propagate_eq (h.k i) (negL_isC hc), bd_some, impl_falseClauses_eq (by omega), bd_some, falF_head hz, bd_some]; rfl
/-! the fold -/
def kAt (K : List (List Int)) (r : Int) : List Int := (ix K r).getD []
def rsv (K : List (List Int)) (c : List Int) (q : Int × Int) : List Int := bif decide (q.1 < 0) then (res c (kAt K q.2) (wr (-q.1))).1 else (res (kAt K q.2) c q.1).1
def anS (K : List (List Int)) (s : List l11Use × List Int) (p : (Int × Int) × Nat) : List l11Use × List Int :=
  bif !s.2.contains (wr (-p.1.1)) then s else (s.1 ++ [l11Use.mk p.1.2 (vr p.1.1) (rsv K s.2 p.1)], rsv K s.2 p.1)
structure TrOk (V : Int) (K : List (List Int)) (t : List (Int × Int)) : Prop where
  len : t.length ≤ 13
  q : ∀ q ∈ t, (-V ≤ q.1 ∧ q.1 ≤ V ∧ q.1 ≠ 0) ∧ ∃ c, 0 ≤ q.2 ∧ q.2 < K.length ∧ ix K q.2 = some c
theorem TrOk.at {V : Int} {K : List (List Int)} {t : List (Int × Int)} (h : TrOk V K t) (hK : KOk V K) {q : Int × Int} (hq : q ∈ t) : ix K q.2 = some (kAt K q.2) ∧ IsC V (kAt K q.2) := by
  obtain ⟨_, c, h1, h2, h3⟩ := h.q q hq
  have : kAt K q.2 = c := by unfold kAt; rw [h3]; rfl
  rw [this]
  refine ⟨h3, hK.isC _ ?_⟩
  unfold ix at h3
  rw [if_pos h1] at h3
  exact List.mem_of_getElem? h3
theorem rsv_isC {V : Int} {K : List (List Int)} {t : List (Int × Int)} (h : TrOk V K t) (hK : KOk V K) {c : List Int} (hc : IsC V c) {q : Int × Int} (hq : q ∈ t) : IsC V (rsv K c q) := by
  unfold rsv
  cases decide (q.1 < 0) with
  | true => exact res_isC hc (h.at hK hq).2
  | false => exact res_isC (h.at hK hq).2 hc
structure AnOk (V : Int) (n : Nat) (s : List l11Use × List Int) : Prop where
  c : IsC V s.2
  l : s.1.length ≤ n
theorem anS_ok {V : Int} {K : List (List Int)} {t : List (Int × Int)} (h : TrOk V K t) (hK : KOk V K) {n : Nat} {s : List l11Use × List Int} (hs : AnOk V n s) {q : Int × Int} (hq : q ∈ t) (i : Nat) : AnOk V (n + 1) (anS K s (q, i)) := by
  unfold anS
  cases s.2.contains (wr (-q.1)) with
  | false => exact ⟨hs.c, Nat.le_succ_of_le hs.l⟩
  | true => exact ⟨rsv_isC h hK hs.c hq, by have := hs.l; simp; omega⟩
theorem spec_analyse_loop {V : Int} {K : List (List Int)} {t : List (Int × Int)} (hK : KOk V K) (h : TrOk V K t) {c0 : List Int} (h0 : IsC V c0) {f : (List l11Use) × (List Int) × Int → Option (Lp ((List l11Use) × (List Int) × Int) Empty)}
    (hf : ∀ u c i, f (u, c, i) = (bif (decide (0 ≤ i)) then bd (ix t i) (fun x27219 => bd (ix t i) (fun x27227 => bd (PF.spec_l2Has c (wr (-x27219.1))) (fun r27232 => (bif (!r27232) then some (Lp.nx (u, c, (wr (i - 1)))) else (bif (decide (x27219.1 < 0)) then bd (ix K x27227.2) (fun x27245 => bd (PF.spec_l2Resolve c x27245 (wr (-x27219.1))) (fun r27249 => bd (app u [(l11Use.mk x27227.2 (PF.spec_l2Var x27219.1) r27249.1)]) (fun xs27273 => some (Lp.nx (xs27273, r27249.1, (wr (i - 1))))))) else bd (ix K x27227.2) (fun x27291 => bd (PF.spec_l2Resolve x27291 c x27219.1) (fun r27295 => bd (app u [(l11Use.mk x27227.2 (PF.spec_l2Var x27219.1) r27295.1)]) (fun xs27319 => some (Lp.nx (xs27319, r27295.1, (wr (i - 1)))))))))))) else some (Lp.bk (u, c, i)))) :
    iter f ([], c0, (wr ((len t) - 1))) = some (.go ((t.zipIdx.reverse.foldl (anS K) ([], c0)).1, (t.zipIdx.reverse.foldl (anS K) ([], c0)).2, -1)) ∧ AnOk V t.length (t.zipIdx.reverse.foldl (anS K) ([], c0)) := by
  have hl := h.len
  rw [wr_of (len t - 1) (by rw [len_eq]; omega) (by rw [len_eq]; omega)]
  have := iter_mk_down (X := Empty) (fun (s : List l11Use × List Int) i => (s.1, s.2, i)) (xs := t) (body := f) (F := anS K) (fun i s => AnOk V (t.length - i) s) (s0 := ([], c0)) ⟨h0, by simp⟩ (fun i q s hq hs => by
    have hi := (List.getElem?_eq_some_iff.1 hq).1
    have hm := List.mem_of_getElem? hq
    have hs' := anS_ok h hK hs hm i
    refine ⟨?_, by rw [show t.length - i = t.length - (i + 1) + 1 by omega]; exact hs'⟩
    obtain ⟨k1, k2⟩ := h.at hK hm
    have hcl := hs.c.len; have hkl := k2.len; have hul := hs.l
    rw [hf, decide_eq_true (by omega), cond_true, ix_get, hq, bd_some, bd_some, spec_l2Has_eq, bd_some, wr_down hi (by omega)]
    unfold anS
    simp only
    cases s.2.contains (wr (-q.1)) with
    | false => rfl
    | true =>
      simp only [Bool.not_true, cond_false]
      unfold rsv
      cases decide (q.1 < 0) with
      | true => simp only [cond_true]; rw [k1, bd_some, spec_l2Resolve_eq (by unfold lim; omega), bd_some, app_ok (by simp; unfold lim; omega), bd_some]; rfl
      | false => simp only [cond_false]; rw [k1, bd_some, spec_l2Resolve_eq (by unfold lim; omega), bd_some, app_ok (by simp; unfold lim; omega), bd_some]; rfl) (fun s _ => by rw [hf]; rfl)
  exact this
def anF (F : Cnf) (ls : List (List Int)) (i : Nat) : List l11Use × List Int := (trl F ls i).1.zipIdx.reverse.foldl (anS (lk F ls i)) ([], kAt (lk F ls i) (cfl F ls i))
structure An (F : Cnf) (ls : List (List Int)) (i : Nat) : Prop where
  t : TrOk F.vars (lk F ls i) (trl F ls i).1
  z : ∃ n : Nat, cfl F ls i = (n : Int) ∧ n < (lk F ls i).length ∧ ix (lk F ls i) (cfl F ls i) = some (kAt (lk F ls i) (cfl F ls i)) ∧ IsC F.vars (kAt (lk F ls i) (cfl F ls i))
theorem an_ok {F : Cnf} {ls : List (List Int)} (h : LOk F ls) (hg : learnB F ls = true) {i : Nat} (hi : i < ls.length) : An F ls i := by
  obtain ⟨h1, h2, z, h3, h4⟩ := trl_ok h hg hi
  refine ⟨⟨h2, h1.t⟩, z.1, by unfold cfl; rw [h3]; rfl, (List.getElem?_eq_some_iff.1 h4).1, ?_⟩
  have e : cfl F ls i = ((z.1 : Nat) : Int) := by unfold cfl; rw [h3]; rfl
  have : kAt (lk F ls i) ((z.1 : Nat) : Int) = z.2 := by unfold kAt; rw [ix_get, h4]; rfl
  rw [e, this, ix_get]
  exact ⟨h4, (h.k i).isC _ (List.mem_of_getElem? h4)⟩
theorem spec_l11Analyse_eq {F : Cnf} {ls : List (List Int)} (h : LOk F ls) (hg : learnB F ls = true) {i : Nat} (hi : i < ls.length) :
    spec_l11Analyse F ls (i : Int) = some (cfl F ls i, (anF F ls i).1) ∧ AnOk F.vars (trl F ls i).1.length (anF F ls i) := by
  obtain ⟨n, z1, z2, z3, z4⟩ := (an_ok h hg hi).z
  have hL := fun f hf => spec_analyse_loop (f := f) (h.k i) (an_ok h hg hi).t z4 hf
  unfold spec_l11Analyse
  rw [spec_l11Trail_eq h hi, bd_some, cut_take (by omega), bd_some, spec_l11With_eq h, bd_some]
  show bd (ix (lk F ls i) (cfl F ls i)) _ = _ ∧ _
  rw [z3, bd_some, (hL _ (fun _ _ _ => by rfl)).1, bdR_go]
  exact ⟨rfl, (hL (fun s => (bif (decide (0 ≤ s.2.2)) then bd (ix (trl F ls i).1 s.2.2) (fun x27219 => bd (ix (trl F ls i).1 s.2.2) (fun x27227 => bd (PF.spec_l2Has s.2.1 (wr (-x27219.1))) (fun r27232 => (bif (!r27232) then some (Lp.nx (s.1, s.2.1, (wr (s.2.2 - 1)))) else (bif (decide (x27219.1 < 0)) then bd (ix (lk F ls i) x27227.2) (fun x27245 => bd (PF.spec_l2Resolve s.2.1 x27245 (wr (-x27219.1))) (fun r27249 => bd (app s.1 [(l11Use.mk x27227.2 (PF.spec_l2Var x27219.1) r27249.1)]) (fun xs27273 => some (Lp.nx (xs27273, r27249.1, (wr (s.2.2 - 1))))))) else bd (ix (lk F ls i) x27227.2) (fun x27291 => bd (PF.spec_l2Resolve x27291 s.2.1 x27219.1) (fun r27295 => bd (app s.1 [(l11Use.mk x27227.2 (PF.spec_l2Var x27219.1) r27295.1)]) (fun xs27319 => some (Lp.nx (xs27319, r27295.1, (wr (s.2.2 - 1)))))))))))) else some (Lp.bk (s.1, s.2.1, s.2.2)))) (fun _ _ _ => rfl)).2⟩
theorem lk_ix {F : Cnf} {ls : List (List Int)} {i n : Nat} (hn : n < (lk F ls i).length) : ix (lk F ls ls.length) (n : Int) = ix (lk F ls i) (n : Int) := by
  rw [ix_get, ix_get]
  unfold lk at hn ⊢
  rw [List.length_append] at hn
  by_cases hf : n < F.clauses.length
  · rw [List.getElem?_append_left hf, List.getElem?_append_left hf]
  · rw [List.getElem?_append_right (by omega), List.getElem?_append_right (by omega), List.take_length, List.getElem?_take, if_pos (by have := List.length_take_le i ls; omega)]
end Go.PF
