/- Unit propagation to its end. -/
import Derived.Test.YtjkdeonnohadeaaGreatTlPlUn
import Derived.Test.YtjkdeonnohadeaaGreatTlPl10
set_option linter.unusedVariables false
namespace Go.PF
open Go.Pu
/-- loops that count down, whatever the order of their state -/
theorem iter_mk_down {T σ α X : Type} (mk : σ → Int → T) {xs : List α} {body : T → Option (Lp T X)} {F : σ → α × Nat → σ} (I : Nat → σ → Prop) {s0 : σ} (h0 : I xs.length s0)
    (h : ∀ (i : Nat) x s, xs[i]? = some x → I (i + 1) s → body (mk s (i : Int)) = some (.nx (mk (F s (x, i)) ((i : Int) - 1))) ∧ I i (F s (x, i))) (he : ∀ s, I 0 s → body (mk s (-1)) = some (.bk (mk s (-1)))) :
    iter body (mk s0 (len xs - 1)) = some (.go (mk (xs.zipIdx.reverse.foldl F s0) (-1))) ∧ I 0 (xs.zipIdx.reverse.foldl F s0) := by
  have key : ∀ (k : Nat) (s : σ), k ≤ xs.length → I k s → iter body (mk s ((k : Int) - 1)) = some (.go (mk ((xs.take k).zipIdx.reverse.foldl F s) (-1))) ∧ I 0 ((xs.take k).zipIdx.reverse.foldl F s) := by
    intro k
    induction k with
    | zero => intro s _ hI; exact ⟨iter_bk (he s hI), hI⟩
    | succ k ih =>
      intro s hk hI
      obtain ⟨x, hx⟩ : ∃ x, xs[k]? = some x := ⟨_, List.getElem?_eq_getElem (by omega)⟩
      obtain ⟨h1, h2⟩ := h k x s hx hI
      rw [take_rev hx, List.foldl_cons, show ((k + 1 : Nat) : Int) - 1 = (k : Int) by omega, iter_nx h1]
      exact ih _ (by omega) h2
  have := key xs.length s0 (Nat.le_refl _) h0
  rwa [List.take_length] at this
def zAt {α : Type} : Option (Nat × α) → Int
  | some z => ((z.1 : Nat) : Int)
  | none => -1
theorem fold_first {α : Type} {p : α → Bool} : ∀ {xs : List α} {k : Nat}, (xs.zipIdx k).reverse.foldl (fun (s : Int) q => bif p q.1 then ((q.2 : Nat) : Int) else s) (-1) = zAt (findI (fun _ y => p y) xs k) := by
  intro xs
  induction xs with
  | nil => intro k; rfl
  | cons y xs ih =>
    intro k
    rw [List.zipIdx_cons, List.reverse_cons, List.foldl_append]
    simp only [findI, List.foldl_cons, List.foldl_nil]
    cases p y with
    | true => rfl
    | false => simp only [cond_false]; exact ih
def falB (K : List (List Int)) (a : List Int) : Bool := K.any fun c => decide (clv c a < 0)
def fuF (K : List (List Int)) (a : List Int) : Option (Nat × List Int) := findI (fun _ c => !(uni c a == 0)) K 0
def propF : Nat → List (List Int) → List Int → List (Int × Int) → (List (Int × Int)) × List Int × Bool
  | 0, _, a, t => (t, a, true)
  | n + 1, K, a, t => bif falB K a then (t, a, true) else match fuF K a with
    | none => (t, a, false)
    | some z => propF n K (setA a (uni z.2 a)) (t ++ [(uni z.2 a, ((z.1 : Nat) : Int))])
structure KOk (V : Int) (K : List (List Int)) : Prop where
  len : K.length ≤ 1000
  isC : ∀ c ∈ K, IsC V c
theorem uni_mem {c a : List Int} (h : uni c a ≠ 0) : uni c a ∈ c ∧ a.contains (wr (-(uni c a))) = false ∧ a.contains (uni c a) = false := by
  unfold uni at h ⊢
  cases h1 : clv c a == 0 with
  | false => rw [h1] at h; exact absurd rfl h
  | true =>
    rw [h1] at h
    simp only [cond_true] at h ⊢
    cases h2 : (opn c a).length == 1 with
    | false => rw [h2] at h; exact absurd rfl h
    | true =>
      rw [h2] at h
      simp only [cond_true] at h ⊢
      cases ho : opn c a with
      | nil => rw [ho] at h2; cases h2
      | cons l r =>
        simp only [List.headD_cons]
        have hm : l ∈ opn c a := by rw [ho]; simp
        unfold opn at hm
        obtain ⟨m1, m2⟩ := List.mem_filter.1 hm
        refine ⟨m1, by simpa using m2, ?_⟩
        cases hc : a.contains l with
        | false => rfl
        | true =>
          unfold clv at h1
          rw [show (c.any fun l => a.contains l) = true from List.any_eq_true.2 ⟨l, m1, hc⟩] at h1
          cases h1
theorem setA_new {V : Int} {c a : List Int} (hc : IsC V c) (ha : IsC V a) (h : uni c a ≠ 0) : IsC V (setA a (uni c a)) ∧ (setA a (uni c a)).length = a.length + 1 ∧ (-V ≤ uni c a ∧ uni c a ≤ V ∧ uni c a ≠ 0) := by
  obtain ⟨m1, m2, m3⟩ := uni_mem h
  have hb := hc.lit _ m1
  have hv := hc.hi
  refine ⟨setA_isC ha hb, ?_, hb⟩
  unfold setA
  rw [putL_length]
  have : without a (vr (uni c a)) = a := by
    unfold without
    rw [List.filter_eq_self]
    intro x hx
    have h1 := ha.sm x hx
    rw [vr_abs h1.1 h1.2.1, vr_abs (by omega) (by omega)]
    rw [wr_of _ (by omega) (by omega)] at m2
    have e1 : x ≠ uni c a := fun e => by
      have : a.contains (uni c a) = true := by rw [← e]; simpa using hx
      rw [this] at m3; cases m3
    have e2 : x ≠ -(uni c a) := fun e => by
      have : a.contains (-(uni c a)) = true := by rw [← e]; simpa using hx
      rw [this] at m2; cases m2
    simp
    omega
  rw [this]
theorem fuF_some {K : List (List Int)} {a : List Int} {z : Nat × List Int} (h : fuF K a = some z) : K[z.1]? = some z.2 ∧ uni z.2 a ≠ 0 := by
  obtain ⟨_, h2, h3, _⟩ := findI_some h
  exact ⟨by simpa using h2, by simpa using h3⟩
/-- what a propagation leaves -/
structure PrOk (V : Int) (K : List (List Int)) (r : (List (Int × Int)) × List Int × Bool) : Prop where
  a : IsC V r.2.1
  t : ∀ q ∈ r.1, (-V ≤ q.1 ∧ q.1 ≤ V ∧ q.1 ≠ 0) ∧ ∃ c, 0 ≤ q.2 ∧ q.2 < K.length ∧ ix K q.2 = some c
  f : r.2.2 = true → falB K r.2.1 = true
theorem propF_ok {V : Int} {K : List (List Int)} (hK : KOk V K) : ∀ {n : Nat} {a : List Int} {t : List (Int × Int)}, IsC V a → 12 < n + a.length →
    (∀ q ∈ t, (-V ≤ q.1 ∧ q.1 ≤ V ∧ q.1 ≠ 0) ∧ ∃ c, 0 ≤ q.2 ∧ q.2 < K.length ∧ ix K q.2 = some c) → PrOk V K (propF n K a t) ∧ (propF n K a t).1.length ≤ t.length + n := by
  intro n
  induction n with
  | zero => intro a t ha hn; have := ha.len; omega
  | succ n ih =>
    intro a t ha hn ht
    unfold propF
    cases hf : falB K a with
    | true => exact ⟨⟨ha, ht, fun _ => hf⟩, by simp⟩
    | false =>
      simp only [cond_false]
      cases hu : fuF K a with
      | none => exact ⟨⟨ha, ht, fun h => by cases h⟩, by simp⟩
      | some z =>
        simp only
        obtain ⟨h1, h2⟩ := fuF_some hu
        obtain ⟨g1, g2, g3⟩ := setA_new (hK.isC _ (List.mem_of_getElem? h1)) ha h2
        obtain ⟨q1, q2⟩ := ih (t := t ++ [(uni z.2 a, ((z.1 : Nat) : Int))]) g1 (by omega) (fun q hq => by
          rcases List.mem_append.1 hq with hq | hq
          · exact ht q hq
          · rw [List.mem_singleton.1 hq]
            exact ⟨g3, z.2, by simp, by have := (List.getElem?_eq_some_iff.1 h1).1; simp; omega, by rw [ix_get]; exact h1⟩)
        exact ⟨q1, by simp at q2; omega⟩
theorem spec_l3CnfValue_eq {V : Int} {F : Cnf} {a : List Int} (hK : KOk V F.clauses) : ∃ r, spec_l3CnfValue F a = some r ∧ decide (0 ≤ r) = !falB F.clauses a := by
  unfold spec_l3CnfValue
  have hl := hK.len
  have h := iter_foldI (X := Empty) (xs := F.clauses) (body := (fun (s29 : Int × Int) => (bif (decide (s29.2 < (len F.clauses))) then bd (ix F.clauses s29.2) (fun x74 => bd (PF.spec_l3Value x74 a) (fun r78 => some (Lp.nx ((PF.spec_l1Least s29.1 r78), (wr (s29.2 + 1)))))) else some (Lp.bk (s29.1, s29.2)))))
    (F := fun s c => PF.spec_l1Least s (clv c a)) (fun _ _ => True) (s0 := 1) trivial (fun i x s hx _ => by
      have hi := (List.getElem?_eq_some_iff.1 hx).1
      refine ⟨?_, trivial⟩
      have e : decide ((i : Int) < len F.clauses) = true := decide_eq_true (by rw [len_eq]; omega)
      show (bif decide ((i : Int) < len F.clauses) then bd (ix F.clauses (i : Int)) (fun x74 => bd (PF.spec_l3Value x74 a) (fun r78 => some (Lp.nx ((PF.spec_l1Least s r78), (wr ((i : Int) + 1)))))) else some (Lp.bk (s, (i : Int)))) = _
      rw [e, cond_true, ix_get, hx, bd_some, spec_l3Value_eq, bd_some, wr_succ hi (by omega)]) (fun s => by simp [len_eq])
  rw [h.1, bdR_go]
  refine ⟨_, rfl, ?_⟩
  have key : ∀ (K : List (List Int)) (s : Int), decide (0 ≤ K.foldl (fun s c => PF.spec_l1Least s (clv c a)) s) = (decide (0 ≤ s) && !K.any fun c => decide (clv c a < 0)) := by
    intro K
    induction K with
    | nil => intro s; simp only [List.foldl_nil, List.any_nil, Bool.not_false, Bool.and_true]; exact decide_eq_decide.2 Iff.rfl
    | cons c K ih =>
      intro s
      rw [List.foldl_cons, ih, List.any_cons]
      unfold spec_l1Least
      cases hd : decide (s < clv c a) with
      | true =>
        simp at hd
        simp only [cond_true]
        cases hq : decide (clv c a < 0) with
        | false => simp
        | true => simp at hq; simp; intro h; omega
      | false =>
        simp at hd
        simp only [cond_false]
        cases hq : decide (clv c a < 0) with
        | false => simp at hq; simp [hq]; intro _; omega
        | true => simp at hq; simp; intro h; omega
  rw [key]; rfl
theorem falF_any {a : List Int} : ∀ {cs : List (List Int)} {i : Nat}, decide (0 < len (falF a i cs)) = falB cs a := by
  intro cs
  induction cs with
  | nil => intro i; rfl
  | cons c cs ih =>
    intro i
    unfold falF falB
    rw [List.any_cons]
    cases hd : decide (clv c a < 0) with
    | true => simp [len_eq]
    | false => simp only [cond_false, Bool.false_or]; exact ih
theorem spec_first {K : List (List Int)} {a : List Int} {V : Int} (hK : KOk V K) :
    iter (S := (Int × Int)) (X := Empty) (fun s330 => (bif (decide (0 ≤ s330.2)) then bd (ix K s330.2) (fun x380 => bd (PF.spec_l3Unit x380 a) (fun r389 => (bif (!(r389 == 0)) then some (Lp.nx (s330.2, (wr (s330.2 - 1)))) else some (Lp.nx (s330.1, (wr (s330.2 - 1))))))) else some (Lp.bk (s330.1, s330.2)))) ((-1), (wr ((len K) - 1))) = some (.go (zAt (fuF K a), -1)) := by
  have hl := hK.len
  rw [wr_of (len K - 1) (by rw [len_eq]; omega) (by rw [len_eq]; omega)]
  have := (iter_down (X := Empty) (xs := K) (body := (fun (s330 : Int × Int) => (bif (decide (0 ≤ s330.2)) then bd (ix K s330.2) (fun x380 => bd (PF.spec_l3Unit x380 a) (fun r389 => (bif (!(r389 == 0)) then some (Lp.nx (s330.2, (wr (s330.2 - 1)))) else some (Lp.nx (s330.1, (wr (s330.2 - 1))))))) else some (Lp.bk (s330.1, s330.2)))))
    (F := fun s q => bif !(uni q.1 a == 0) then ((q.2 : Nat) : Int) else s) (fun _ _ => True) (s0 := -1) trivial (fun i x s hx _ => by
      have hi := (List.getElem?_eq_some_iff.1 hx).1
      have hc := (hK.isC _ (List.mem_of_getElem? hx)).len
      have e : decide (0 ≤ (i : Int)) = true := decide_eq_true (by omega)
      refine ⟨?_, trivial⟩
      show (bif decide (0 ≤ (i : Int)) then bd (ix K (i : Int)) (fun x380 => bd (PF.spec_l3Unit x380 a) (fun r389 => (bif (!(r389 == 0)) then some (Lp.nx ((i : Int), (wr ((i : Int) - 1)))) else some (Lp.nx (s, (wr ((i : Int) - 1))))))) else some (Lp.bk (s, (i : Int)))) = _
      rw [e, cond_true, ix_get, hx, bd_some, spec_l3Unit_eq (by unfold lim; omega), bd_some, wr_down hi (by omega)]
      cases !(uni x a == 0) <;> rfl) (fun s => rfl)).1
  rw [this, fold_first (p := fun c => !(uni c a == 0))]; rfl
theorem impl_first {K : List (List Int)} {a : List Int} {V : Int} (hK : KOk V K) :
    bdR (forL (S := Unit) (X := Int) K (fun i362 y361 s362 => bd (β := _) (bd (PF.impl_unit y361 a) (fun r415 => some (!(r415 == 0))) : Option Bool) (fun s414 => (bif s414 then some (Lp.rt ((i362 : Nat) : Int)) else some (Lp.nx ())))) ()) (fun s362 => some (-1)) (fun x362 => some x362) = some (zAt (fuF K a)) := by
  rw [forL_find (p := fun _ c => !(uni c a == 0)) (v := fun i _ => ((i : Nat) : Int)) (fun i y hy => by
    have hc := (hK.isC _ (List.mem_of_getElem? hy)).len
    rw [impl_unit_eq (by unfold lim; omega), bd_some, bd_some])]
  unfold fuF
  cases findI (fun _ c => !(uni c a == 0)) K 0 <;> rfl
theorem spec_steps_loop {V : Int} {F : Cnf} (hK : KOk V F.clauses) {f : (List (Int × Int)) × (List Int) → Option (Lp ((List (Int × Int)) × (List Int)) ((List (Int × Int)) × (List Int) × Bool))}
    (hf : ∀ t a, f (t, a) = bd (PF.spec_l3CnfValue F a) (fun r324 => (bif (decide (0 ≤ r324)) then bdR (iter (S := (Int × Int)) (X := Empty) (fun s330 => (bif (decide (0 ≤ s330.2)) then bd (ix F.clauses s330.2) (fun x380 => bd (PF.spec_l3Unit x380 a) (fun r389 => (bif (!(r389 == 0)) then some (Lp.nx (s330.2, (wr (s330.2 - 1)))) else some (Lp.nx (s330.1, (wr (s330.2 - 1))))))) else some (Lp.bk (s330.1, s330.2)))) ((-1), (wr ((len F.clauses) - 1)))) (fun s330 => (bif (decide (s330.1 < 0)) then some (Lp.rt (t, a, false)) else bd (ix F.clauses s330.1) (fun x412 => bd (PF.spec_l3Unit x412 a) (fun r421 => bd (app t [(r421, s330.1)]) (fun xs431 => bd (PF.spec_l3Set a r421) (fun r447 => some (Lp.nx (xs431, r447)))))))) (fun x330 => nomatch x330) else some (Lp.bk (t, a))))) : ∀ {n : Nat} {a : List Int} {t : List (Int × Int)}, IsC V a → 12 < n + a.length → t.length + n ≤ 1000 →
    iter (S := ((List (Int × Int)) × (List Int))) (X := ((List (Int × Int)) × (List Int) × Bool)) f (t, a)
      = some (bif (propF n F.clauses a t).2.2 then .go ((propF n F.clauses a t).1, (propF n F.clauses a t).2.1) else .rt ((propF n F.clauses a t).1, (propF n F.clauses a t).2.1, false)) := by
  intro n
  induction n with
  | zero => intro a t ha hn; have := ha.len; omega
  | succ n ih =>
    intro a t ha hn hl
    obtain ⟨r, hr, hv⟩ := spec_l3CnfValue_eq (a := a) hK
    unfold propF
    cases hg : falB F.clauses a with
    | true => rw [iter_bk (s' := (t, a)) (by rw [hf, hr, bd_some, hv, hg]; rfl)]; rfl
    | false =>
      cases hu : fuF F.clauses a with
      | none => rw [iter_rt (x := (t, a, false)) (by rw [hf, hr, bd_some, hv, hg, Bool.not_false, cond_true, spec_first hK, bdR_go, hu]; rfl)]; rfl
      | some z =>
        simp only [cond_false]
        obtain ⟨h1, h2⟩ := fuF_some hu
        have hz := hK.isC _ (List.mem_of_getElem? h1)
        have hzl := hz.len
        obtain ⟨g1, g2, g3⟩ := setA_new hz ha h2
        rw [iter_nx (s' := (t ++ [(uni z.2 a, ((z.1 : Nat) : Int))], setA a (uni z.2 a))) (by
          rw [hf, hr, bd_some, hv, hg, Bool.not_false, cond_true, spec_first hK, bdR_go, hu]
          show (bif decide (((z.1 : Nat) : Int) < 0) then _ else bd (ix F.clauses ((z.1 : Nat) : Int)) _) = _
          rw [decide_eq_false (by omega), cond_false, ix_get, h1, bd_some, spec_l3Unit_eq (by unfold lim; omega), bd_some, app_ok (by simp; unfold lim; omega), bd_some, spec_l3Set_eq ha, bd_some]; rfl)]
        exact ih g1 (by omega) (by simp; omega)
def unitP (K : List (List Int)) (a : List Int) : (List (Int × Int)) × List Int × Bool := propF 13 K a []
theorem spec_l3Steps_eq {V : Int} {F : Cnf} (hK : KOk V F.clauses) {a : List Int} (ha : IsC V a) : spec_l3Steps F a = some (unitP F.clauses a) := by
  unfold spec_l3Steps unitP
  have hl := ha.len
  rw [spec_l1Own_eq (by unfold lim; omega), bd_some, spec_steps_loop hK (fun _ _ => by rfl) ha (n := 13) (by omega) (by simp)]
  obtain ⟨t, a', b⟩ := propF 13 F.clauses a []
  cases b <;> rfl
theorem impl_steps_loop {V : Int} {K : List (List Int)} (hK : KOk V K) {f : (List Int) × (List (Int × Int)) → Option (Lp ((List Int) × (List (Int × Int))) ((List Int) × (List (Int × Int)) × Bool))}
    (hf : ∀ a t, f (a, t) = bd (PF.impl_falseClauses K a) (fun r304 => (bif (decide (0 < (len r304))) then some (Lp.rt (a, t, true)) else bd (β := _) (bdR (forL (S := Unit) (X := Int) K (fun i362 y361 s362 => bd (β := _) (bd (PF.impl_unit y361 a) (fun r415 => some (!(r415 == 0))) : Option Bool) (fun s414 => (bif s414 then some (Lp.rt ((i362 : Nat) : Int)) else some (Lp.nx ())))) ()) (fun s362 => some (-1)) (fun x362 => some x362) : Option Int) (fun s360 => (bif (decide (s360 < 0)) then some (Lp.rt (a, t, false)) else bd (ix K s360) (fun x454 => bd (PF.impl_unit x454 a) (fun r458 => bd (PF.impl_set a r458) (fun r463 => bd (app t [(r458, s360)]) (fun xs481 => some (Lp.nx (r463, xs481))))))))))) : ∀ {n : Nat} {a : List Int} {t : List (Int × Int)}, IsC V a → 12 < n + a.length → t.length + n ≤ 1000 →
    iter (S := ((List Int) × (List (Int × Int)))) (X := ((List Int) × (List (Int × Int)) × Bool)) f (a, t)
      = some (.rt ((propF n K a t).2.1, (propF n K a t).1, (propF n K a t).2.2)) := by
  intro n
  induction n with
  | zero => intro a t ha hn; have := ha.len; omega
  | succ n ih =>
    intro a t ha hn hl
    have hkl := hK.len
    unfold propF
    cases hg : falB K a with
    | true => rw [iter_rt (x := (a, t, true)) (by rw [hf, impl_falseClauses_eq (a := a) (show K.length ≤ 1000000 by omega), bd_some, falF_any, hg]; rfl)]; rfl
    | false =>
      cases hu : fuF K a with
      | none => rw [iter_rt (x := (a, t, false)) (by rw [hf, impl_falseClauses_eq (a := a) (show K.length ≤ 1000000 by omega), bd_some, falF_any, hg, cond_false, impl_first hK, bd_some, hu]; rfl)]; rfl
      | some z =>
        simp only [cond_false]
        obtain ⟨h1, h2⟩ := fuF_some hu
        have hz := hK.isC _ (List.mem_of_getElem? h1)
        have hzl := hz.len
        obtain ⟨g1, g2, g3⟩ := setA_new hz ha h2
        rw [iter_nx (s' := (setA a (uni z.2 a), t ++ [(uni z.2 a, ((z.1 : Nat) : Int))])) (by
          rw [hf, impl_falseClauses_eq (a := a) (show K.length ≤ 1000000 by omega), bd_some, falF_any, hg, cond_false, impl_first hK, bd_some, hu]
          show (bif decide (((z.1 : Nat) : Int) < 0) then _ else bd (ix K ((z.1 : Nat) : Int)) _) = _
          rw [decide_eq_false (by omega), cond_false, ix_get, h1, bd_some, impl_unit_eq (by unfold lim; omega), bd_some, impl_set_eq ha g3, bd_some, app_ok (by simp; unfold lim; omega), bd_some]; rfl)]
        exact ih g1 (by omega) (by simp; omega)
theorem impl_propagate_eq {V : Int} {K : List (List Int)} (hK : KOk V K) {a : List Int} (ha : IsC V a) : impl_propagate K a = some ((unitP K a).2.1, (unitP K a).1, (unitP K a).2.2) := by
  unfold impl_propagate unitP
  have hl := ha.len
  rw [slices_Clone_int_int_eq (by unfold lim; omega), bd_some, impl_steps_loop hK (fun _ _ => by rfl) ha (n := 13) (by omega) (by simp)]
  rfl
theorem unitP_ok {V : Int} {K : List (List Int)} (hK : KOk V K) {a : List Int} (ha : IsC V a) : PrOk V K (unitP K a) ∧ (unitP K a).1.length ≤ 13 := by
  have := propF_ok hK (n := 13) (t := []) ha (by omega) (by simp)
  exact ⟨this.1, by have h := this.2; simp only [List.length_nil, Nat.zero_add] at h; exact h⟩
end Go.PF
