/- ProofToPlanes: the law. -/
import Derived.Test.YtjpjbfbloplacaaGreatPpPlPu
set_option linter.unusedVariables false
namespace Go.PF
open Go.Pu
def plV (F : Cnf) (S : List ResStep) : List PlaneStep × Bool :=
  bif derB F S && decide (0 < len S) then (match finL F.vars S S ([], []) with | some u => (u.2.take ((gA u.1 ((S.length : Int) - 1)) + 1).toNat, true) | none => ([], false)) else ([], false)
theorem cnfB_vars {F : Cnf} (h : cnfB F = true) : 0 ≤ F.vars ∧ F.vars ≤ 12 := by
  unfold cnfB at h
  rw [Bool.and_eq_true, Bool.and_eq_true] at h
  exact varsB_iff.1 h.1.1
theorem fin_last {F : Cnf} {S : List ResStep} (h0 : 0 < S.length) {u : PW} (hu : Pv F.vars S S.length u) : ix u.1 ((S.length : Int) - 1) = some (gA u.1 ((S.length : Int) - 1)) ∧ 0 ≤ gA u.1 ((S.length : Int) - 1) ∧ gA u.1 ((S.length : Int) - 1) < u.2.length := by
  obtain ⟨a, a1, a2⟩ := ix_of (xs := u.1) (i := (S.length : Int) - 1) (by omega) (by rw [hu.len]; omega)
  have e : gA u.1 ((S.length : Int) - 1) = a := by unfold gA; rw [a2]; rfl
  have hx : S[S.length - 1]? = some S[S.length - 1] := List.getElem?_eq_getElem (by omega)
  have hA := hu.at_ (S.length - 1) _ (by omega) hx
  rw [show ((S.length - 1 : Nat) : Int) = (S.length : Int) - 1 by omega] at hA
  exact ⟨by rw [a1, e], hA.k0, hA.k1⟩
theorem finL_ok {F : Cnf} {S : List ResStep} (hD : IsD F S) {u : PW} : ∀ (rest : List ResStep) (k : Nat) (w : PW), k + rest.length = S.length → (∀ i y, rest[i]? = some y → S[k + i]? = some y) → Pv F.vars S k w → len w.2 ≤ 400 → finL F.vars S rest w = some u → Pv F.vars S S.length u ∧ len u.2 ≤ 400
  | [], k, w, hk, _, hw, h4, h => by
    cases h
    simp only [List.length_nil, Nat.add_zero] at hk
    subst hk; exact ⟨hw, h4⟩
  | x :: rest, k, w, hk, hm, hw, h4, h => by
    have hx : S[k]? = some x := by have := hm 0 x rfl; simpa using this
    simp only [finL] at h
    cases hd : decide (400 < len (stp F.vars S w x).2) with
    | true => rw [hd] at h; cases h
    | false =>
      rw [hd] at h
      have hd := of_decide_eq_false hd
      simp only [List.length_cons] at hk
      exact finL_ok hD rest (k + 1) _ (by omega) (fun i y hy => by have := hm (i + 1) y (by simpa using hy); rwa [show k + (i + 1) = k + 1 + i by omega] at this) (stp_ok hD hx hw) (by omega) h
theorem spec_pl_fin {F : Cnf} {S : List ResStep} (hD : IsD F S) {lb : List Int → List PlaneStep × Int × Int → Option (Lp (List PlaneStep × Int × Int) Empty)} {l1 l2 : Empty → Option (List PlaneStep × Int)} {lx : Empty → Option (List PlaneStep × List Int)} {body : List Int × List PlaneStep × Int → Option (Lp (List Int × List PlaneStep × Int) Empty)}
    (hb : ∀ at_ st (i : Int), body (at_, st, i) = bif (bif decide (i < len S) then decide (len st ≤ 400) else false) then bd (ix S i) (fun x => bif spec_l8Axiom x then bd (spec_l16OfClause F.vars x.clause) (fun q => bd (spec_l17Add st 1 x.right 0 0 q) fun r => bd (app at_ [wr (len r - 1)]) fun xs => some (.nx (xs, r, wr (i + 1))))
      else bif !spec_l8Resolvent x then bd (ix at_ x.left) (fun a => bd (ix S x.left) fun y => bd (spec_l17Extra x.clause y.clause) fun ls => bd (β := _) (bdR (iter (lb ls) (st, a, 0)) (fun s => some (s.1, s.2.1)) l1 : Option (List PlaneStep × Int)) fun s => bd (app at_ [s.2]) fun xs => some (.nx (xs, s.1, wr (i + 1))))
      else bd (ix at_ x.left) (fun a => bd (ix at_ x.right) fun b => bd (ix at_ x.left) fun a2 => bd (ix st a2) fun y => bd (ix at_ x.right) fun b2 => bd (ix st b2) fun z => bd (spec_l16Add y.ineq z.ineq) fun q => bd (spec_l17Add st 4 a b 0 q) fun r => bd (ix S x.left) fun u => bd (ix S x.right) fun v => bd (spec_l17Single x.clause u.clause v.clause) fun ls =>
        bd (β := _) (bdR (iter (lb ls) (r, wr (len r - 1), 0)) (fun s => some (s.1, s.2.1)) l2 : Option (List PlaneStep × Int)) fun s => bd (ix s.1 s.2) fun y => bd (spec_l16Divide y.ineq 2) fun q => bd (spec_l17Add s.1 6 s.2 0 2 q.1) fun t => bd (app at_ [wr (len t - 1)]) fun xs => some (.nx (xs, t, wr (i + 1))))) else some (.bk (at_, st, i)))
    (hlb : ∀ ls st now (i : Int), lb ls (st, now, i) = bif decide (i < len ls) then bd (ix ls i) (fun x => bif decide (x < 0) then bd (ix ls i) (fun x1 => bd (ix ls i) fun x2 => bd (spec_l17Literal F.vars x2) fun q => bd (spec_l17Add st 3 (spec_l2Var x1) 0 0 q) fun r => bd (ix r now) fun y => bd (ix r (wr (len r - 1))) fun z => bd (spec_l16Add y.ineq z.ineq) fun a => bd (spec_l17Add r 4 now (wr (len r - 1)) 0 a) fun t => some (.nx (t, wr (len t - 1), wr (i + 1))))
      else bd (ix ls i) (fun x1 => bd (ix ls i) fun x2 => bd (spec_l17Literal F.vars x2) fun q => bd (spec_l17Add st 2 (spec_l2Var x1) 0 0 q) fun r => bd (ix r now) fun y => bd (ix r (wr (len r - 1))) fun z => bd (spec_l16Add y.ineq z.ineq) fun a => bd (spec_l17Add r 4 now (wr (len r - 1)) 0 a) fun t => some (.nx (t, wr (len t - 1), wr (i + 1))))) else some (.bk (st, now, i))) :
    ∃ z, bdR (iter body ([], [], 0)) (fun s => some (s.2.1, s.1)) lx = some z ∧ (∀ u, finL F.vars S S ([], []) = some u → z.2 = u.1 ∧ z.1 = u.2 ∧ len u.2 ≤ 400 ∧ Pv F.vars S S.length u) ∧ (finL F.vars S S ([], []) = none → 400 < len z.1) := by
  obtain ⟨z, z1, z2, z3⟩ := spec_pl_loop hD (cnfB_vars hD.cnf) hlb hb S 0 ([], []) (by omega) (fun i y hy => by rw [Nat.zero_add]; exact hy) Pv.nil (by decide)
  rw [show ((0 : Nat) : Int) = 0 from rfl] at z1
  simp only at z1
  rw [z1, bdR_go]
  exact ⟨_, rfl, z2, z3⟩
theorem cut_take {A : Type} {xs : List A} {k : Int} (h0 : 0 ≤ k) (h1 : k < xs.length) (hl : xs.length ≤ 1000000) : cut xs 0 (wr (k + 1)) = some (xs.take (k + 1).toNat) := by
  obtain ⟨n, rfl⟩ : ∃ n : Nat, k = n := ⟨k.toNat, by omega⟩
  rw [wr_of _ (by omega) (by omega), show ((n : Int) + 1) = ((n + 1 : Nat) : Int) by omega]
  have := cut_ok (xs := xs) (a := 0) (b := n + 1) (Nat.zero_le _) (by omega)
  rw [List.drop_zero] at this
  exact this
theorem impl_pl_fin {F : Cnf} {S : List ResStep} (hD : IsD F S) (h0 : 0 < S.length) {l3 : Empty → Option (Lp (List Int × List PlaneStep × Int) (List PlaneStep × Bool))} {body : Nat → ResStep → List Int × List PlaneStep × Int → Option (Lp (List Int × List PlaneStep × Int) (List PlaneStep × Bool))}
    (hb : ∀ i y s, body i y s = bdR (S := List Int × List PlaneStep × Int) (X := Empty) (bif impl_ResStep_isAxiom y then bd (β := _) (bd (ix F.clauses y.right) (fun c => bd (impl_planeOf s.2.2 c) fun q => bd (β := _) (bd (app s.2.1 [(PlaneStep.mk q 1 y.right 0 0)]) (fun t => some (t, s.2.2, wr (len t - 1))) : Option (List PlaneStep × Int × Int)) fun u => some (u.1, u.2.1, u.2.2)) : Option (List PlaneStep × Int × Int)) (fun u => bd (ix s.1 ((i : Nat) : Int)) fun _ => bd (put s.1 ((i : Nat) : Int) u.2.2) fun ys => some (Rs.go (ys, u.1, u.2.1)))
      else bif impl_ResStep_isWeakening y then bd (ix s.1 y.left) (fun a => bd (ix S y.left) fun u => bd (impl_further y.clause u.clause) fun ls => bd (impl_planer_literals (planer.mk s.2.2 s.2.1) a ls) fun r => bd (ix s.1 ((i : Nat) : Int)) fun _ => bd (put s.1 ((i : Nat) : Int) r.1) fun ys => some (Rs.go (ys, r.2.steps, r.2.vars)))
      else bd (ix s.1 y.left) (fun a => bd (ix s.1 y.right) fun b => bd (impl_planer_add (planer.mk s.2.2 s.2.1) a b) fun r => bd (ix S y.left) fun u => bd (ix S y.right) fun v => bd (impl_inOne y.clause u.clause v.clause) fun ls => bd (impl_planer_literals r.2 r.1 ls) fun q => bd (impl_planer_divide q.2 q.1 2) fun d => bd (ix s.1 ((i : Nat) : Int)) fun _ => bd (put s.1 ((i : Nat) : Int) d.1) fun ys => some (Rs.go (ys, d.2.steps, d.2.vars))))
      (fun u => bif decide (400 < len u.2.1) then some (Lp.rt ([], false)) else some (Lp.nx (u.1, u.2.1, u.2.2))) l3) :
    bdR (forL S body (List.replicate S.length 0, [], F.vars)) (fun s => bd (impl_last_int s.1) fun r => bd (cut s.2.1 0 (wr (r + 1))) fun xs => some (xs, true)) (fun x => some x) =
      some (match finL F.vars S S ([], []) with | some u => (u.2.take ((gA u.1 ((S.length : Int) - 1)) + 1).toNat, true) | none => ([], false)) := by
  have hle := hD.le
  have key := impl_pl_loop hD (cnfB_vars hD.cnf) hb S 0 ([], []) (by omega) (fun i y hy => by rw [Nat.zero_add]; exact hy) Pv.nil
  unfold forL
  rw [List.nil_append, Nat.sub_zero] at key
  simp only at key
  rw [key]
  cases hf : finL F.vars S S ([], []) with
  | none => rfl
  | some u =>
    obtain ⟨e4, e3⟩ := finL_ok hD S 0 ([], []) (by omega) (fun i y hy => by rw [Nat.zero_add]; exact hy) Pv.nil (by decide) hf
    obtain ⟨f1, f2, f3⟩ := fin_last h0 e4
    simp only [bdR_go]
    unfold impl_last_int
    rw [len_eq u.1, e4.len, wr_of _ (by omega) (by omega), f1, bd_some, bd_some, cut_take f2 f3 (by rw [len_eq] at e3; omega), bd_some]
theorem spec_ProofToPlanes_eq {F : Cnf} {S : List ResStep} (hF : okCnf F) (hS : okL okResStep S) : spec_ProofToPlanes F S = some (plV F S) := by
  unfold spec_ProofToPlanes plV spec_l8Takes
  cases h0 : decide (0 < len S) with
  | false => simp
  | true =>
    have hl := of_decide_eq_true h0
    rw [len_eq] at hl
    simp only [cond_true, spec_l7Good_eq hF hS, bd_some, Bool.and_true]
    cases hd : derB F S with
    | false => rfl
    | true =>
      have hD := derB_iff.1 hd
      have hle := hD.le
      obtain ⟨z, z1, z2, z3⟩ : ∃ z, spec_l17Planes F S = some z ∧ (∀ u, finL F.vars S S ([], []) = some u → z.2 = u.1 ∧ z.1 = u.2 ∧ len u.2 ≤ 400 ∧ Pv F.vars S S.length u) ∧ (finL F.vars S S ([], []) = none → 400 < len z.1) := by
        unfold spec_l17Planes
        exact spec_pl_fin hD (fun _ _ _ => by rfl) (fun _ _ _ _ => by rfl)
      simp only [Bool.not_true, cond_false, cond_true]
      rw [z1, bd_some]
      cases hf : finL F.vars S S ([], []) with
      | none =>
        rw [show decide (400 < len z.1) = true from decide_eq_true (z3 hf)]; rfl
      | some u =>
        obtain ⟨e1, e2, e3, e4⟩ := z2 u hf
        obtain ⟨f1, f2, f3⟩ := fin_last (by omega) e4
        rw [e1, e2, show decide (400 < len u.2) = false by rw [decide_eq_false_iff_not]; omega, cond_false, len_eq u.1, e4.len, wr_of _ (by omega) (by omega), f1, bd_some, cut_take f2 f3 (by rw [len_eq] at e3; omega), bd_some]
theorem impl_ProofToPlanes_eq {F : Cnf} {S : List ResStep} (hF : okCnf F) (hS : okL okResStep S) : impl_ProofToPlanes F S = some (plV F S) := by
  unfold impl_ProofToPlanes plV impl_isProof
  rw [impl_IsDerivation_eq hF hS, bd_some, bd_some]
  cases hd : derB F S with
  | false => rfl
  | true =>
    cases h0 : decide (0 < len S) with
    | false => rfl
    | true =>
      have hl := of_decide_eq_true h0
      rw [len_eq] at hl
      have hD := derB_iff.1 hd
      have hle := hD.le
      have hlim : lim = 4294967296 := rfl
      simp only [Bool.not_true, cond_false, cond_true, Bool.and_true]
      rw [len_eq, mk2_ok (by omega), bd_some]
      exact impl_pl_fin hD (by omega) (fun _ _ _ => by rfl)
/-! sizes -/
def S12 (st : List PlaneStep) : Prop := ∀ s ∈ st, s.ineq.coeffs.length ≤ 12
theorem gI_12 {st : List PlaneStep} (h : S12 st) (k : Int) : (gI st k).coeffs.length ≤ 12 := by
  unfold gI
  cases hx : st[k.toNat]? with
  | none => exact Nat.zero_le _
  | some s => exact h s (List.mem_of_getElem? hx)
theorem S12.app {st : List PlaneStep} (h : S12 st) {s : PlaneStep} (hs : s.ineq.coeffs.length ≤ 12) : S12 (st ++ [s]) := fun x hx => by
  rcases List.mem_append.1 hx with hx | hx
  · exact h x hx
  · rw [List.mem_singleton.1 hx]; exact hs
theorem addQ_12 {q r : Inequality} (h : r.coeffs.length ≤ 12) : (addQ q r).coeffs.length ≤ 12 := by
  unfold addQ; simp only [List.length_zipWith]; omega
theorem plI_12 {V : Nat} (hV : V ≤ 12) (φ : Nat → Int) (b : Int) : (plI V φ b).coeffs.length ≤ 12 := by
  unfold plI; simpa using hV
theorem lits_12 {V : Nat} (hV : V ≤ 12) : ∀ {ls : List Int} {w : List PlaneStep × Int}, S12 w.1 → S12 (ls.foldl (lstp V) w).1
  | [], _, h => h
  | l :: ls, w, h => lits_12 hV (ls := ls) (w := lstp V w l) (by
    unfold lstp
    exact (h.app (plI_12 hV _ _)).app (addQ_12 (plI_12 hV _ _)))
theorem stp_12 {V : Int} (hV : V.toNat ≤ 12) {S : List ResStep} {w : PW} {x : ResStep} (h : S12 w.2) : S12 (stp V S w x).2 := by
  unfold stp
  by_cases hl : x.left < 0
  · rw [if_pos hl]; exact h.app (plI_12 hV _ _)
  · rw [if_neg hl]
    by_cases hr : x.right < 0
    · rw [if_pos hr]; exact lits_12 hV (w := (w.2, gA w.1 x.left)) h
    · rw [if_neg hr]
      have h1 : S12 (w.2 ++ [⟨addQ (gI w.2 (gA w.1 x.left)) (gI w.2 (gA w.1 x.right)), 4, gA w.1 x.left, gA w.1 x.right, 0⟩]) := h.app (addQ_12 (gI_12 h _))
      have h2 := lits_12 hV (ls := one x.clause (clAt S x.left) (clAt S x.right)) (w := (w.2 ++ [⟨addQ (gI w.2 (gA w.1 x.left)) (gI w.2 (gA w.1 x.right)), 4, gA w.1 x.left, gA w.1 x.right, 0⟩], len w.2)) h1
      refine h2.app ?_
      unfold halfQ
      simp only [List.length_map]
      exact gI_12 h2 _
theorem finL_12 {V : Int} (hV : V.toNat ≤ 12) {S : List ResStep} {u : PW} : ∀ (rest : List ResStep) (w : PW), S12 w.2 → finL V S rest w = some u → S12 u.2
  | [], w, hw, h => by cases h; exact hw
  | x :: rest, w, hw, h => by
    simp only [finL] at h
    cases hd : decide (400 < len (stp V S w x).2) with
    | true => rw [hd] at h; cases h
    | false => rw [hd] at h; exact finL_12 hV rest _ (stp_12 hV hw) h
def mPl (a : PlaneStep) : Nat := a.ineq.coeffs.length + 5
theorem plV_small {F : Cnf} {S : List ResStep} : tot mPl (plV F S).1 ≤ 7000 := by
  unfold plV
  cases h : derB F S && decide (0 < len S) with
  | false => exact Nat.zero_le _
  | true =>
    have h1 := (Bool.and_eq_true _ _).mp h
    have hD := derB_iff.1 h1.1
    have hV := cnfB_vars hD.cnf
    simp only [cond_true]
    cases hf : finL F.vars S S ([], []) with
    | none => exact Nat.zero_le _
    | some u =>
      obtain ⟨_, e3⟩ := finL_ok hD S 0 ([], []) (by omega) (fun i y hy => by rw [Nat.zero_add]; exact hy) Pv.nil (by decide) hf
      have h12 := finL_12 (by omega) S ([], []) nofun hf
      rw [len_eq] at e3
      have key : ∀ l : List PlaneStep, S12 l → tot mPl l ≤ 17 * l.length := by
        intro l
        induction l with
        | nil => intro _; exact Nat.le_refl _
        | cons c l ih =>
          intro h
          have := h c (by simp); have := ih fun d hd => h d (by simp [hd])
          simp only [tot, mPl, List.length_cons]; omega
      have h2 : S12 (u.2.take ((gA u.1 ((S.length : Int) - 1)) + 1).toNat) := fun s hs => h12 s (List.mem_of_mem_take hs)
      have := key _ h2
      have hl : (u.2.take ((gA u.1 ((S.length : Int) - 1)) + 1).toNat).length ≤ u.2.length := by rw [List.length_take]; omega
      simp only
      omega
theorem eq_Inequality (a : Inequality) : laws_eqInequality a a = some true := by unfold laws_eqInequality; rw [eq_IntS]; simp
theorem eq_PlaneStep (a : PlaneStep) : laws_eqPlaneStep a a = some true := by unfold laws_eqPlaneStep; rw [eq_Inequality]; simp
theorem eq_PlaneStepS (a : List PlaneStep) : laws_eqPlaneStepS a a = some true := eq_list (eq := laws_eqPlaneStep) (fun _ _ _ => rfl) (fun y _ => eq_PlaneStep y)
theorem wr5 {k : Int} (h0 : 0 ≤ k) (h1 : k + 5 ≤ 9223372036854775807) : wr (k + 1) = k + 1 ∧ wr (k + 1 + 1) = k + 2 ∧ wr (k + 2 + 1) = k + 3 ∧ wr (k + 3 + 1) = k + 4 ∧ wr (k + 4 + 1) = k + 5 :=
  ⟨wr_of _ (by omega) (by omega), by rw [wr_of _ (by omega) (by omega)]; omega, by rw [wr_of _ (by omega) (by omega)]; omega, by rw [wr_of _ (by omega) (by omega)]; omega, by rw [wr_of _ (by omega) (by omega)]; omega⟩
theorem mark_PlaneStepS {a : List PlaneStep} {k : Int} (h0 : 0 ≤ k) (h1 : k + tot mPl a ≤ 9223372036854775807) : (laws_markPlaneStepS a k).2 = k + tot mPl a := by
  refine mark_end (wt := mPl) (fun y _ k h0 h1 => ?_) h0 h1
  unfold mPl at h1 ⊢
  have e := mark_IntS (a := y.ineq.coeffs) (k := k) (by omega) (by unfold big; omega)
  obtain ⟨a1, a2, a3, a4, a5⟩ := wr5 (k := k + y.ineq.coeffs.length) (by omega) (by omega)
  simp only [e, a1, a2, a3, a4, a5]; clear a1 a2 a3 a4 a5 e; omega
theorem held_PlaneStepS {a : List PlaneStep} {k : Int} (h0 : 0 ≤ k) (h1 : k + tot mPl a ≤ 9223372036854775807) : laws_heldPlaneStepS (laws_markPlaneStepS a k).1 k = some (laws_markPlaneStepS a k).2 := by
  unfold laws_heldPlaneStepS forL laws_markPlaneStepS
  rw [held_list (wt := mPl) (fun y _ k h0 h1 => ?_) h0 h1]
  · rfl
  · unfold mPl at h1 ⊢
    have e := mark_IntS (a := y.ineq.coeffs) (k := k) (by omega) (by unfold big; omega)
    have hh := held_IntS (a := y.ineq.coeffs) (k := k) (by omega) (by unfold big; omega)
    obtain ⟨a1, a2, a3, a4, a5⟩ := wr5 (k := k + y.ineq.coeffs.length) (by omega) (by omega)
    have hd : decide (k + (y.ineq.coeffs.length : Int) < 0) = false := by rw [decide_eq_false_iff_not]; omega
    simp only [e] at hh
    refine ⟨by simp only [e, a1, a2, a3, a4, a5]; clear a1 a2 a3 a4 a5 e hh; omega, fun i => ?_⟩
    simp only [e, a1, a2, a3, a4, a5, hh, hd, bd_some, BEq.rfl, Bool.not_true, cond_false]
theorem plain_ProofToPlanes (a0 : Cnf) (a1 : List ResStep) (o0 : okCnf a0) (o1 : okL okResStep a1) : laws_FnExactProofToPlanes a0 a1 = some true := by
  unfold laws_FnExactProofToPlanes
  obtain ⟨r0, q0, z0⟩ := sz_Cnf o0 (s := 1048576) (by omega) (by omega)
  rw [q0, bd_some]
  by_cases n0 : r0 < 0
  · simp [n0]
  obtain ⟨r1, q1, z1⟩ := sz_ResStepS o1 (s := r0) (by omega) (by omega)
  simp only [n0, decide_false, cond_false]
  rw [q1, bd_some]
  by_cases n1 : r1 < 0
  · simp [n1]
  simp only [n1, decide_false, cond_false]
  have hlim : lim = 4294967296 := rfl
  have t0 := to_Cnf (a := a0) (by omega)
  have t1 := to_ResStepS (a := a1) (by omega)
  have hs := spec_ProofToPlanes_eq (F := a0) o0 o1
  have hi := impl_ProofToPlanes_eq (F := a0) o0 o1
  have hm := plV_small (F := a0) (S := a1)
  generalize plV a0 a1 = g at hs hi hm
  have w0 : tot wIntS a0.clauses ≤ 1048576 := by unfold wCnf wIntSS at z0; omega
  have w1 := mResStep_le (a := a1) (by omega)
  have m0 := mark_Cnf (a := a0) (k := 1) (by omega) (by unfold big; omega)
  have m1 := mark_ResStepS (a := a1) (k := (laws_markCnf a0 1).2) (by omega) (by unfold big; omega)
  have mg := mark_PlaneStepS (a := g.1) (k := 1) (by omega) (by omega)
  have hg := held_PlaneStepS (a := g.1) (k := 1) (by omega) (by omega)
  have d1 : decide ((laws_markResStepS a1 (laws_markCnf a0 1).2).2 < 0) = false := by rw [decide_eq_false_iff_not]; omega
  have d2 : decide ((laws_markPlaneStepS g.1 1).2 < 0) = false := by rw [decide_eq_false_iff_not]; omega
  simp only [t0, t1, hs, hi, hg, d1, d2, bd_some, eq_ResStepS, eq_PlaneStepS, eq_Cnf, BEq.rfl, Bool.not_true, cond_false, bif_tt, Bool.or_false]
end Go.PF
