/- The analysis of a learned clause: both sides tell the same. -/
import Derived.Test.YtjkdeonnohadeaaGreatTlPlAn
set_option linter.unusedVariables false
namespace Go.PF
open Go.Pu
def trl (F : Cnf) (ls : List (List Int)) (i : Nat) : (List (Int × Int)) × List Int × Bool := unitP (lk F ls i) (negL ((ls[i]?).getD []))
def cfl (F : Cnf) (ls : List (List Int)) (i : Nat) : Int := zAt (fz (lk F ls i) (trl F ls i).2.1)
theorem trl_ok {F : Cnf} {ls : List (List Int)} (h : LOk F ls) (hg : learnB F ls = true) {i : Nat} (hi : i < ls.length) :
    PrOk F.vars (lk F ls i) (trl F ls i) ∧ (trl F ls i).1.length ≤ 13 ∧ ∃ z, fz (lk F ls i) (trl F ls i).2.1 = some z ∧ (lk F ls i)[z.1]? = some z.2 := by
  have hy : ls[i]? = some ls[i] := List.getElem?_eq_getElem hi
  have hc := h.l _ (List.mem_of_getElem? hy)
  have h1 := unitP_ok (h.k i) (negL_isC hc)
  unfold trl
  rw [hy, Option.getD_some]
  refine ⟨h1.1, h1.2, fz_some (h1.1.f ?_)⟩
  exact learnB_fol hg hy
theorem spec_l11Trail_eq {F : Cnf} {ls : List (List Int)} (h : LOk F ls) {i : Nat} (hi : i < ls.length) : spec_l11Trail F ls (i : Int) = some ((trl F ls i).1, cfl F ls i) := by
  have hy : ls[i]? = some ls[i] := List.getElem?_eq_getElem hi
  have hc := h.l _ (List.mem_of_getElem? hy)
  have hcl := hc.len
  unfold spec_l11Trail cfl trl
  rw [hy, Option.getD_some, cut_take (by omega), bd_some, spec_l11With_eq h, bd_some, ix_get, hy, bd_some, spec_l11Deny_eq (by unfold lim; omega), bd_some, spec_l3Steps_eq (F := ⟨F.vars, lk F ls i⟩) (h.k i) (negL_isC hc), bd_some,
    spec_l9False_eq (V := F.vars) (F := ⟨F.vars, lk F ls i⟩) (h.k i), bd_some]
theorem impl_trail_eq {F : Cnf} {ls : List (List Int)} (h : LOk F ls) (hg : learnB F ls = true) {i : Nat} (hi : i < ls.length) : impl_trail F ls (i : Int) = some ((trl F ls i).1, cfl F ls i) := by
  have hy : ls[i]? = some ls[i] := List.getElem?_eq_getElem hi
  have hc := h.l _ (List.mem_of_getElem? hy)
  have hcl := hc.len
  obtain ⟨_, _, z, hz, _⟩ := trl_ok h hg hi
  unfold impl_trail cfl
  rw [hz]
  unfold trl at hz ⊢
  rw [hy, Option.getD_some] at hz ⊢
  have hk := (h.k i).len
  rw [impl_before_eq h (by omega), bd_some, ix_get, hy, bd_some, impl_negated_eq (by unfold lim; omega), bd_some, impl_propagate_eq (h.k i) (negL_isC hc), bd_some, impl_falseClauses_eq (by omega), bd_some, falF_head hz, bd_some]; rfl
/-! the fold -/
def kAt (K : List (List Int)) (r : Int) : List Int := (ix K r).getD []
def rsv (K : List (List Int)) (c : List Int) (q : Int × Int) : List Int := bif decide (q.1 < 0) then (res c (kAt K q.2) (wr (-q.1))).1 else (res (kAt K q.2) c q.1).1
def anS (K : List (List Int)) (s : List l11Use × List Int) (p : (Int × Int) × Nat) : List l11Use × List Int :=
  bif !s.2.contains (wr (-p.1.1)) then s else (s.1 ++ [l11Use.mk p.1.2 (vr p.1.1) (rsv K s.2 p.1)], rsv K s.2 p.1)
def anI (K : List (List Int)) (s : List Int × List Int) (p : (Int × Int) × Nat) : List Int × List Int :=
  bif !s.2.contains (wr (-p.1.1)) then s else (s.1 ++ [p.1.2], rsv K s.2 p.1)
theorem an_rel {K : List (List Int)} : ∀ {l : List ((Int × Int) × Nat)} {s : List l11Use × List Int}, l.foldl (anI K) (s.1.map (·.reason), s.2) = ((l.foldl (anS K) s).1.map (·.reason), (l.foldl (anS K) s).2) := by
  intro l
  induction l with
  | nil => intro s; rfl
  | cons p l ih =>
    intro s
    rw [List.foldl_cons, List.foldl_cons, ← ih]
    congr 1
    unfold anI anS
    simp only
    cases s.2.contains (wr (-p.1.1)) <;> simp
def endC (c0 : List Int) (s : List l11Use × List Int) : List Int := match s.1.getLast? with | some u => u.clause | none => c0
theorem an_end {K : List (List Int)} {c0 : List Int} : ∀ {l : List ((Int × Int) × Nat)} {s : List l11Use × List Int}, endC c0 s = s.2 → endC c0 (l.foldl (anS K) s) = (l.foldl (anS K) s).2 := by
  intro l
  induction l with
  | nil => intro s h; exact h
  | cons p l ih =>
    intro s h
    rw [List.foldl_cons]
    refine ih ?_
    unfold anS
    cases s.2.contains (wr (-p.1.1)) with
    | false => exact h
    | true => simp [endC]
structure TrOk (V : Int) (K : List (List Int)) (t : List (Int × Int)) : Prop where
  len : t.length ≤ 13
  q : ∀ q ∈ t, (-V ≤ q.1 ∧ q.1 ≤ V ∧ q.1 ≠ 0) ∧ ∃ c, 0 ≤ q.2 ∧ q.2 < K.length ∧ ix K q.2 = some c
theorem TrOk.at {V : Int} {K : List (List Int)} {t : List (Int × Int)} (h : TrOk V K t) (hK : KOk V K) {q : Int × Int} (hq : q ∈ t) : ix K q.2 = some (kAt K q.2) ∧ IsC V (kAt K q.2) := by
  obtain ⟨_, c, h1, h2, h3⟩ := h.q q hq
  have : kAt K q.2 = c := by unfold kAt; rw [h3]; rfl
  rw [this]
  refine ⟨h3, hK.isC _ ?_⟩
  unfold ix at h3
  rw [if_pos h1] at h3
  exact List.mem_of_getElem? h3
theorem rsv_isC {V : Int} {K : List (List Int)} {t : List (Int × Int)} (h : TrOk V K t) (hK : KOk V K) {c : List Int} (hc : IsC V c) {q : Int × Int} (hq : q ∈ t) : IsC V (rsv K c q) := by
  unfold rsv
  cases decide (q.1 < 0) with
  | true => exact res_isC hc (h.at hK hq).2
  | false => exact res_isC (h.at hK hq).2 hc
structure AnOk (V : Int) (n : Nat) (s : List l11Use × List Int) : Prop where
  c : IsC V s.2
  l : s.1.length ≤ n
theorem anS_ok {V : Int} {K : List (List Int)} {t : List (Int × Int)} (h : TrOk V K t) (hK : KOk V K) {n : Nat} {s : List l11Use × List Int} (hs : AnOk V n s) {q : Int × Int} (hq : q ∈ t) (i : Nat) : AnOk V (n + 1) (anS K s (q, i)) := by
  unfold anS
  cases s.2.contains (wr (-q.1)) with
  | false => exact ⟨hs.c, Nat.le_succ_of_le hs.l⟩
  | true => exact ⟨rsv_isC h hK hs.c hq, by have := hs.l; simp; omega⟩
theorem spec_analyse_loop {V : Int} {K : List (List Int)} {t : List (Int × Int)} (hK : KOk V K) (h : TrOk V K t) {c0 : List Int} (h0 : IsC V c0) {f : (List l11Use) × (List Int) × Int → Option (Lp ((List l11Use) × (List Int) × Int) Empty)}
    (hf : ∀ u c i, f (u, c, i) = (bif (decide (0 ≤ i)) then bd (ix t i) (fun x27219 => bd (ix t i) (fun x27227 => bd (PF.spec_l2Has c (wr (-x27219.1))) (fun r27232 => (bif (!r27232) then some (Lp.nx (u, c, (wr (i - 1)))) else (bif (decide (x27219.1 < 0)) then bd (ix K x27227.2) (fun x27245 => bd (PF.spec_l2Resolve c x27245 (wr (-x27219.1))) (fun r27249 => bd (app u [(l11Use.mk x27227.2 (PF.spec_l2Var x27219.1) r27249.1)]) (fun xs27273 => some (Lp.nx (xs27273, r27249.1, (wr (i - 1))))))) else bd (ix K x27227.2) (fun x27291 => bd (PF.spec_l2Resolve x27291 c x27219.1) (fun r27295 => bd (app u [(l11Use.mk x27227.2 (PF.spec_l2Var x27219.1) r27295.1)]) (fun xs27319 => some (Lp.nx (xs27319, r27295.1, (wr (i - 1)))))))))))) else some (Lp.bk (u, c, i)))) :
    iter f ([], c0, (wr ((len t) - 1))) = some (.go ((t.zipIdx.reverse.foldl (anS K) ([], c0)).1, (t.zipIdx.reverse.foldl (anS K) ([], c0)).2, -1)) ∧ AnOk V t.length (t.zipIdx.reverse.foldl (anS K) ([], c0)) := by
  have hl := h.len
  rw [wr_of (len t - 1) (by rw [len_eq]; omega) (by rw [len_eq]; omega)]
  have := iter_mk_down (X := Empty) (fun (s : List l11Use × List Int) i => (s.1, s.2, i)) (xs := t) (body := f) (F := anS K) (fun i s => AnOk V (t.length - i) s) (s0 := ([], c0)) ⟨h0, by simp⟩ (fun i q s hq hs => by
    have hi := (List.getElem?_eq_some_iff.1 hq).1
    have hm := List.mem_of_getElem? hq
    have hs' := anS_ok h hK hs hm i
    refine ⟨?_, by rw [show t.length - i = t.length - (i + 1) + 1 by omega]; exact hs'⟩
    obtain ⟨k1, k2⟩ := h.at hK hm
    have hcl := hs.c.len; have hkl := k2.len; have hul := hs.l
    rw [hf, decide_eq_true (by omega), cond_true, ix_get, hq, bd_some, bd_some, spec_l2Has_eq, bd_some, wr_down hi (by omega)]
    unfold anS
    simp only
    cases s.2.contains (wr (-q.1)) with
    | false => rfl
    | true =>
      simp only [Bool.not_true, cond_false]
      unfold rsv
      cases decide (q.1 < 0) with
      | true => simp only [cond_true]; rw [k1, bd_some, spec_l2Resolve_eq (by unfold lim; omega), bd_some, app_ok (by simp; unfold lim; omega), bd_some]; rfl
      | false => simp only [cond_false]; rw [k1, bd_some, spec_l2Resolve_eq (by unfold lim; omega), bd_some, app_ok (by simp; unfold lim; omega), bd_some]; rfl) (fun s _ => by rw [hf]; rfl)
  exact this
def anF (F : Cnf) (ls : List (List Int)) (i : Nat) : List l11Use × List Int := (trl F ls i).1.zipIdx.reverse.foldl (anS (lk F ls i)) ([], kAt (lk F ls i) (cfl F ls i))
structure An (F : Cnf) (ls : List (List Int)) (i : Nat) : Prop where
  t : TrOk F.vars (lk F ls i) (trl F ls i).1
  z : ∃ n : Nat, cfl F ls i = (n : Int) ∧ n < (lk F ls i).length ∧ ix (lk F ls i) (cfl F ls i) = some (kAt (lk F ls i) (cfl F ls i)) ∧ IsC F.vars (kAt (lk F ls i) (cfl F ls i))
theorem an_ok {F : Cnf} {ls : List (List Int)} (h : LOk F ls) (hg : learnB F ls = true) {i : Nat} (hi : i < ls.length) : An F ls i := by
  obtain ⟨h1, h2, z, h3, h4⟩ := trl_ok h hg hi
  refine ⟨⟨h2, h1.t⟩, z.1, by unfold cfl; rw [h3]; rfl, (List.getElem?_eq_some_iff.1 h4).1, ?_⟩
  have e : cfl F ls i = ((z.1 : Nat) : Int) := by unfold cfl; rw [h3]; rfl
  have : kAt (lk F ls i) ((z.1 : Nat) : Int) = z.2 := by unfold kAt; rw [ix_get, h4]; rfl
  rw [e, this, ix_get]
  exact ⟨h4, (h.k i).isC _ (List.mem_of_getElem? h4)⟩
theorem spec_l11Analyse_eq {F : Cnf} {ls : List (List Int)} (h : LOk F ls) (hg : learnB F ls = true) {i : Nat} (hi : i < ls.length) :
    spec_l11Analyse F ls (i : Int) = some (cfl F ls i, (anF F ls i).1) ∧ AnOk F.vars (trl F ls i).1.length (anF F ls i) := by
  obtain ⟨n, z1, z2, z3, z4⟩ := (an_ok h hg hi).z
  have hL := fun f hf => spec_analyse_loop (f := f) (h.k i) (an_ok h hg hi).t z4 hf
  unfold spec_l11Analyse
  rw [spec_l11Trail_eq h hi, bd_some, cut_take (by omega), bd_some, spec_l11With_eq h, bd_some]
  show bd (ix (lk F ls i) (cfl F ls i)) _ = _ ∧ _
  rw [z3, bd_some, (hL _ (fun _ _ _ => by rfl)).1, bdR_go]
  exact ⟨rfl, (hL (fun s => (bif (decide (0 ≤ s.2.2)) then bd (ix (trl F ls i).1 s.2.2) (fun x27219 => bd (ix (trl F ls i).1 s.2.2) (fun x27227 => bd (PF.spec_l2Has s.2.1 (wr (-x27219.1))) (fun r27232 => (bif (!r27232) then some (Lp.nx (s.1, s.2.1, (wr (s.2.2 - 1)))) else (bif (decide (x27219.1 < 0)) then bd (ix (lk F ls i) x27227.2) (fun x27245 => bd (PF.spec_l2Resolve s.2.1 x27245 (wr (-x27219.1))) (fun r27249 => bd (app s.1 [(l11Use.mk x27227.2 (PF.spec_l2Var x27219.1) r27249.1)]) (fun xs27273 => some (Lp.nx (xs27273, r27249.1, (wr (s.2.2 - 1))))))) else bd (ix (lk F ls i) x27227.2) (fun x27291 => bd (PF.spec_l2Resolve x27291 s.2.1 x27219.1) (fun r27295 => bd (app s.1 [(l11Use.mk x27227.2 (PF.spec_l2Var x27219.1) r27295.1)]) (fun xs27319 => some (Lp.nx (xs27319, r27295.1, (wr (s.2.2 - 1)))))))))))) else some (Lp.bk (s.1, s.2.1, s.2.2)))) (fun _ _ _ => rfl)).2⟩
theorem anI_fold {F : Cnf} {ls : List (List Int)} {i : Nat} : (trl F ls i).1.zipIdx.reverse.foldl (anI (lk F ls i)) ([], kAt (lk F ls i) (cfl F ls i)) = ((anF F ls i).1.map (·.reason), (anF F ls i).2) := an_rel (s := ([], kAt (lk F ls i) (cfl F ls i)))
theorem forB_an {V : Int} {K : List (List Int)} {t : List (Int × Int)} (hK : KOk V K) (h : TrOk V K t) {c0 : List Int} (h0 : IsC V c0) :
    forB (S := ((List Int) × (List Int))) (X := Empty) t (fun y243553 j243553 s243553 => bd (PF.slices_Contains_int_int s243553.2 (wr (-y243553.1))) (fun r405820 => (bif (!r405820) then some (Lp.nx (s243553.1, s243553.2)) else (bif (decide (0 < y243553.1)) then bd (ix K y243553.2) (fun x414833 => bd (PF.impl_resolve x414833 s243553.2 y243553.1) (fun r426827 => bd (β := _) (bd (app s243553.1 [y243553.2]) (fun xs444870 => some xs444870) : Option (List Int)) (fun s444860 => some (Lp.nx (s444860, r426827.1))))) else bd (ix K y243553.2) (fun x456895 => bd (PF.impl_resolve s243553.2 x456895 (wr (-y243553.1))) (fun r468889 => bd (β := _) (bd (app s243553.1 [y243553.2]) (fun xs486932 => some xs486932) : Option (List Int)) (fun s486922 => some (Lp.nx (s486922, r468889.1))))))))) ([], c0)
      = some (.go (t.zipIdx.reverse.foldl (anI K) ([], c0))) := by
  have hl := h.len
  refine (forB_foldI (X := Empty) (anI K) (fun i s => IsC V s.2 ∧ s.1.length ≤ t.length - i) (s0 := ([], c0)) ⟨h0, by simp⟩ (fun i q s hq hs => by
    have hi := (List.getElem?_eq_some_iff.1 hq).1
    have hm := List.mem_of_getElem? hq
    obtain ⟨k1, k2⟩ := h.at hK hm
    obtain ⟨b1, _⟩ := h.q q hm
    have hcl := hs.1.len; have hkl := k2.len; have hul := hs.2
    have hr := rsv_isC h hK hs.1 hm
    rw [slices_Contains_int_int_eq, bd_some]
    unfold anI
    simp only
    cases s.2.contains (wr (-q.1)) with
    | false => exact ⟨rfl, hs.1, by simp only [Bool.not_false, cond_true]; omega⟩
    | true =>
      simp only [Bool.not_true, cond_false]
      refine ⟨?_, hr, by simp; omega⟩
      unfold rsv
      by_cases hq0 : q.1 < 0
      · rw [decide_eq_false (show ¬ 0 < q.1 by omega), decide_eq_true hq0, cond_false, cond_true, k1, bd_some, impl_resolve_eq hs.1 k2, bd_some, app_ok (by simp; unfold lim; omega)]; rfl
      · rw [decide_eq_true (show 0 < q.1 by omega), decide_eq_false hq0, cond_true, cond_false, k1, bd_some, impl_resolve_eq k2 hs.1, bd_some, app_ok (by simp; unfold lim; omega)]; rfl)).1
theorem forL_putI {α : Type} {g : α → Int} {us : List α} {c : List Int} (hc : Asc c) (hl : c.length + us.length ≤ lim) :
    forL (S := (List Int)) (X := Empty) us (fun i32 y26 s32 => bd (PF.spec_l1Put s32 (g y26)) (fun r75 => some (Lp.nx r75))) c = some (.go ((us.map g).foldl putI c)) := by
  rw [List.foldl_map]
  refine (forL_foldI (X := Empty) (fun s u => putI s (g u)) (fun i s => Asc s ∧ s.length + us.length ≤ c.length + us.length + i) ⟨hc, by omega⟩ (fun i x t hx ht => ?_)).1
  have hi := (List.getElem?_eq_some_iff.1 hx).1
  have hp := putI_length t (g x)
  exact ⟨by rw [spec_l1Put_eq ht.1 (by omega), bd_some], putI_asc ht.1, by omega⟩
def usedL (F : Cnf) (ls : List (List Int)) (i : Nat) : List Int := setI ((anF F ls i).1.map (·.reason) ++ [cfl F ls i])
theorem spec_l11Used_eq {n : Int} {us : List l11Use} (hl : us.length ≤ 1000) : spec_l11Used n us = some (setI (us.map (·.reason) ++ [n])) := by
  unfold spec_l11Used
  have h1 : Asc [n] := by unfold Asc; simp
  have hl2 : [n].length + us.length ≤ lim := by simp only [List.length_singleton]; unfold lim; omega
  have key := forL_putI (g := l11Use.reason) (us := us) (c := [n]) h1 hl2
  rw [key, bdR_go]
  refine congrArg some ?_
  obtain ⟨q1, q2, _⟩ := putI_fold (ys := us.map (·.reason)) h1
  refine asc_unique q1 (setI_asc _) fun x => ?_
  rw [q2, setI_mem]
  simp only [List.mem_append, List.mem_singleton]
  constructor
  · rintro (h | h) <;> simp [h]
  · rintro (h | h) <;> simp [h]
theorem compactL_len {A : Type} [DecidableEq A] : ∀ (xs : List A), (compactL xs).length ≤ xs.length
  | [] => Nat.le_refl _
  | [_] => Nat.le_refl _
  | x :: y :: t => by
    have := compactL_len (y :: t)
    unfold compactL
    split <;> simp_all <;> omega
theorem setI_length (xs : List Int) : (setI xs).length ≤ xs.length := by
  unfold setI
  refine Nat.le_trans (compactL_len _) ?_
  rw [List.length_mergeSort]; exact Nat.le_refl _
def anR (F : Cnf) (ls : List (List Int)) (a2 : Int) : List Int × List Int × Bool :=
  bif !learnB F ls || !inB a2 0 (wr (len ls - 1)) then ([], [], false) else ((anF F ls a2.toNat).2, usedL F ls a2.toNat, true)
theorem an_idx {ls : List (List Int)} (hl : ls.length ≤ 60) {a2 : Int} (h : inB a2 0 (wr (len ls - 1)) = true) : ∃ i : Nat, a2 = (i : Int) ∧ i < ls.length := by
  have := inB_iff.1 h
  rw [wr_of (len ls - 1) (by rw [len_eq]; omega) (by rw [len_eq]; omega), len_eq] at this
  exact ⟨a2.toNat, by omega, by omega⟩
theorem lk_ix {F : Cnf} {ls : List (List Int)} {i n : Nat} (hn : n < (lk F ls i).length) : ix (lk F ls ls.length) (n : Int) = ix (lk F ls i) (n : Int) := by
  rw [ix_get, ix_get]
  unfold lk at hn ⊢
  rw [List.length_append] at hn
  by_cases hf : n < F.clauses.length
  · rw [List.getElem?_append_left hf, List.getElem?_append_left hf]
  · rw [List.getElem?_append_right (by omega), List.getElem?_append_right (by omega), List.take_length, List.getElem?_take, if_pos (by have := List.length_take_le i ls; omega)]
theorem anR_small {F : Cnf} {ls : List (List Int)} {a2 : Int} : (anR F ls a2).1.length ≤ 12 ∧ (anR F ls a2).2.1.length ≤ 100 := by
  unfold anR
  cases hg : learnB F ls with
  | false => simp
  | true =>
    cases hb : inB a2 0 (wr (len ls - 1)) with
    | false => simp
    | true =>
      have h : LOk F ls := goodL_ok (by unfold learnB at hg; rw [Bool.and_eq_true] at hg; exact hg.1)
      obtain ⟨i, rfl, hi⟩ := an_idx h.ll hb
      obtain ⟨s1, s2⟩ := spec_l11Analyse_eq h hg hi
      have ht := (an_ok h hg hi).t.len
      have hul := s2.l; have hcl := s2.c.len
      have := setI_length ((anF F ls i).1.map (·.reason) ++ [cfl F ls i])
      simp only [Bool.not_true, Bool.or_false, cond_false, Int.toNat_natCast]
      refine ⟨hcl, ?_⟩
      unfold usedL
      simp only [List.length_append, List.length_map, List.length_singleton] at this
      omega
end Go.PF
