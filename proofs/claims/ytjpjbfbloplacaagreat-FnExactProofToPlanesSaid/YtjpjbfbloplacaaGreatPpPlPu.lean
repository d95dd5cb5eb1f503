/- ProofToPlanes: the law. -/
import Derived.Test.YtjpjbfbloplacaaGreatPpPlPt
set_option linter.unusedVariables false
namespace Go.PF
open Go.Pu
def finL (V : Int) (S : List ResStep) : List ResStep → PW → Option PW
  | [], w => some w
  | x :: r, w => bif decide (400 < len (stp V S w x).2) then none else finL V S r (stp V S w x)
section
variable {F : Cnf} {S : List ResStep} (hD : IsD F S)
include hD
theorem spec_pl_loop (hF : 0 ≤ F.vars ∧ F.vars ≤ 12) {lb : List Int → List PlaneStep × Int × Int → Option (Lp (List PlaneStep × Int × Int) Empty)} {l1 l2 : Empty → Option (List PlaneStep × Int)} {body : List Int × List PlaneStep × Int → Option (Lp (List Int × List PlaneStep × Int) Empty)}
    (hlb : ∀ ls st now (i : Int), lb ls (st, now, i) = bif decide (i < len ls) then bd (ix ls i) (fun x => bif decide (x < 0) then bd (ix ls i) (fun x1 => bd (ix ls i) fun x2 => bd (spec_l17Literal F.vars x2) fun q => bd (spec_l17Add st 3 (spec_l2Var x1) 0 0 q) fun r => bd (ix r now) fun y => bd (ix r (wr (len r - 1))) fun z => bd (spec_l16Add y.ineq z.ineq) fun a => bd (spec_l17Add r 4 now (wr (len r - 1)) 0 a) fun t => some (.nx (t, wr (len t - 1), wr (i + 1))))
      else bd (ix ls i) (fun x1 => bd (ix ls i) fun x2 => bd (spec_l17Literal F.vars x2) fun q => bd (spec_l17Add st 2 (spec_l2Var x1) 0 0 q) fun r => bd (ix r now) fun y => bd (ix r (wr (len r - 1))) fun z => bd (spec_l16Add y.ineq z.ineq) fun a => bd (spec_l17Add r 4 now (wr (len r - 1)) 0 a) fun t => some (.nx (t, wr (len t - 1), wr (i + 1))))) else some (.bk (st, now, i)))
    (hb : ∀ at_ st (i : Int), body (at_, st, i) = bif (bif decide (i < len S) then decide (len st ≤ 400) else false) then bd (ix S i) (fun x => bif spec_l8Axiom x then bd (spec_l16OfClause F.vars x.clause) (fun q => bd (spec_l17Add st 1 x.right 0 0 q) fun r => bd (app at_ [wr (len r - 1)]) fun xs => some (.nx (xs, r, wr (i + 1))))
      else bif !spec_l8Resolvent x then bd (ix at_ x.left) (fun a => bd (ix S x.left) fun y => bd (spec_l17Extra x.clause y.clause) fun ls => bd (β := _) (bdR (iter (lb ls) (st, a, 0)) (fun s => some (s.1, s.2.1)) l1 : Option (List PlaneStep × Int)) fun s => bd (app at_ [s.2]) fun xs => some (.nx (xs, s.1, wr (i + 1))))
      else bd (ix at_ x.left) (fun a => bd (ix at_ x.right) fun b => bd (ix at_ x.left) fun a2 => bd (ix st a2) fun y => bd (ix at_ x.right) fun b2 => bd (ix st b2) fun z => bd (spec_l16Add y.ineq z.ineq) fun q => bd (spec_l17Add st 4 a b 0 q) fun r => bd (ix S x.left) fun u => bd (ix S x.right) fun v => bd (spec_l17Single x.clause u.clause v.clause) fun ls =>
        bd (β := _) (bdR (iter (lb ls) (r, wr (len r - 1), 0)) (fun s => some (s.1, s.2.1)) l2 : Option (List PlaneStep × Int)) fun s => bd (ix s.1 s.2) fun y => bd (spec_l16Divide y.ineq 2) fun q => bd (spec_l17Add s.1 6 s.2 0 2 q.1) fun t => bd (app at_ [wr (len t - 1)]) fun xs => some (.nx (xs, t, wr (i + 1))))) else some (.bk (at_, st, i))) :
    ∀ (rest : List ResStep) (k : Nat) (w : PW), k + rest.length = S.length → (∀ i y, rest[i]? = some y → S[k + i]? = some y) → Pv F.vars S k w → len w.2 ≤ 400 →
      ∃ z, iter body (w.1, w.2, (k : Int)) = some (.go z) ∧ (∀ u, finL F.vars S rest w = some u → z.1 = u.1 ∧ z.2.1 = u.2 ∧ len u.2 ≤ 400 ∧ Pv F.vars S S.length u) ∧ (finL F.vars S rest w = none → 400 < len z.2.1) := by
  intro rest
  have hlim : lim = 4294967296 := rfl
  have hle := hD.le
  induction rest with
  | nil =>
    intro k w hk _ hw h400
    simp only [List.length_nil, Nat.add_zero] at hk
    subst hk
    refine ⟨(w.1, w.2, (S.length : Int)), iter_bk ?_, fun u hu => ?_, nofun⟩
    · rw [hb, show decide ((S.length : Int) < len S) = false by rw [decide_eq_false_iff_not, len_eq]; omega]; rfl
    · cases hu; exact ⟨rfl, rfl, h400, hw⟩
  | cons x rest ih =>
    intro k w hk hm hw h400
    simp only [List.length_cons] at hk
    have hx : S[k]? = some x := by have := hm 0 x rfl; simpa using this
    have hcl := hD.clause (List.mem_of_getElem? hx)
    have hcn := hcl.len
    have hsz := hw.sz
    have w1 : wr ((k : Int) + 1) = ((k + 1 : Nat) : Int) := by rw [wr_of _ (by omega) (by omega)]; omega
    have hok := stp_ok hD hx hw
    have e : body (w.1, w.2, (k : Int)) = some (.nx ((stp F.vars S w x).1, (stp F.vars S w x).2, ((k + 1 : Nat) : Int))) := by
      rw [hb, show decide ((k : Int) < len S) = true by rw [decide_eq_true_eq, len_eq]; omega, show decide (len w.2 ≤ 400) = true from decide_eq_true h400]
      simp only [cond_true, ix_get, hx, bd_some, w1]
      unfold stp
      by_cases hl : x.left < 0
      · rw [if_pos hl, show spec_l8Axiom x = true by unfold spec_l8Axiom; simpa using hl, cond_true, spec_l16OfClause_eq hcl, bd_some]
        unfold spec_l17Add
        rw [app_ok (by simp; omega), bd_some, bd_some, app_ok (by simp; rw [hw.len]; omega), bd_some, len_eq, List.length_append, List.length_singleton, wr_of _ (by omega) (by omega), len_eq]
        rw [show (((w.2.length + 1 : Nat) : Int) - 1) = (w.2.length : Int) by omega]
      · have hb1 := hD.before hx (by omega)
        obtain ⟨p1, p2⟩ := hw.place hD (by omega) (by omega : 0 ≤ x.left) hb1.1
        obtain ⟨y, y1, y2, y3, y4⟩ := clAt_of hD (i := k) (by omega) (by omega : 0 ≤ x.left) hb1.1
        rw [if_neg hl, show spec_l8Axiom x = false by unfold spec_l8Axiom; simp; omega, cond_false]
        by_cases hr : x.right < 0
        · have ho := mor_ok (F := F) (c := x.clause) (d := clAt S x.left) hcl
          have hq := spec_lits hF ho.1 ho.2 (hlb _) (mor x.clause (clAt S x.left)) 0 w.2 (gA w.1 x.left) _ _ (by omega) (fun i z hz => by rw [Nat.zero_add]; exact hz) p2 (by omega) (fun j _ => by have := cfA_bd (clAt S x.left) j; omega) (by omega)
          rw [show ((0 : Nat) : Int) = 0 from rfl] at hq
          rw [if_pos hr, show spec_l8Resolvent x = false by unfold spec_l8Resolvent; simp; omega, Bool.not_false, cond_true, p1, bd_some, y1, bd_some, spec_l17Extra_eq (by omega), bd_some, ← y3,
            hq, bdR_go, bd_some,
            app_ok (by simp; rw [hw.len]; omega), bd_some]
        · obtain ⟨q1, q2⟩ := hw.place hD (by omega) (by omega : 0 ≤ x.right) (hb1.2 (by omega))
          obtain ⟨z, z1, z2, z3, z4⟩ := clAt_of hD (i := k) (by omega) (by omega : 0 ≤ x.right) (hb1.2 (by omega))
          obtain ⟨h0, h1⟩ := res_at hD hx hw (by omega) (by omega)
          have ho := one_ok (F := F) (c := x.clause) (d := clAt S x.left) (e := clAt S x.right) hcl
          obtain ⟨s, s1, s2⟩ := p2.ix
          obtain ⟨t, t1, t2⟩ := q2.ix
          obtain ⟨b, b1, b2, b3⟩ := p2.ex
          obtain ⟨d, d1, d2, d3⟩ := q2.ex
          have hadd : spec_l16Add s.ineq t.ineq = some (addQ (gI w.2 (gA w.1 x.left)) (gI w.2 (gA w.1 x.right))) := by
            rw [s2, t2, b1, d1, spec_l16Add_eq (by omega) (fun k hk => by have := cfA_bd (clAt S x.left) k; omega) (fun k hk => by have := cfA_bd (clAt S x.right) k; omega) (by omega) (by omega), addQ_pl]
          have hw3 : wr (len (w.2 ++ [(⟨addQ (gI w.2 (gA w.1 x.left)) (gI w.2 (gA w.1 x.right)), 4, gA w.1 x.left, gA w.1 x.right, 0⟩ : PlaneStep)]) - 1) = len w.2 := by
            rw [len_eq, len_eq, List.length_append, List.length_singleton, wr_of _ (by omega) (by omega)]; omega
          rw [if_neg hr, show spec_l8Resolvent x = true by unfold spec_l8Resolvent; simp; omega, Bool.not_true, cond_false, p1, bd_some, q1, bd_some, bd_some, s1, bd_some, bd_some, t1, bd_some, hadd, bd_some]
          have hq := spec_lits hF ho.1 ho.2 (hlb _) (one x.clause (clAt S x.left) (clAt S x.right)) 0 _ (len w.2) _ _ (by omega) (fun i z hz => by rw [Nat.zero_add]; exact hz) h0 (by omega) (fun j _ => by have := cfA_bd (clAt S x.left) j; have := cfA_bd (clAt S x.right) j; omega) (by simp; omega)
          rw [show ((0 : Nat) : Int) = 0 from rfl] at hq
          unfold spec_l17Add
          rw [app_ok (by simp; omega), bd_some, bd_some, y1, bd_some, z1, bd_some, spec_l17Single_eq (by omega), bd_some, ← y3, ← z3, hw3,
            hq, bdR_go, bd_some]
          obtain ⟨_, g2, _⟩ := lits_at (ls := one x.clause (clAt S x.left) (clAt S x.right)) (w := (w.2 ++ [⟨addQ (gI w.2 (gA w.1 x.left)) (gI w.2 (gA w.1 x.right)), 4, gA w.1 x.left, gA w.1 x.right, 0⟩], len w.2)) h0
          generalize (one x.clause (clAt S x.left) (clAt S x.right)).foldl (lstp F.vars.toNat) (w.2 ++ [⟨addQ (gI w.2 (gA w.1 x.left)) (gI w.2 (gA w.1 x.right)), 4, gA w.1 x.left, gA w.1 x.right, 0⟩], len w.2) = r at h1 g2 ⊢
          simp only [List.length_append, List.length_singleton] at g2
          obtain ⟨c, c1, c2, c3⟩ := h1.ex
          obtain ⟨v, v1, v2⟩ := h1.ix
          have hfin : wr (len (r.1 ++ [(⟨plI F.vars.toNat (cfA x.clause) (upH c), 6, r.2, 0, 2⟩ : PlaneStep)]) - 1) = len r.1 := by
            have := ho.2
            rw [len_eq, len_eq, List.length_append, List.length_singleton, wr_of _ (by omega) (by omega)]; omega
          rw [v1, bd_some, v2, c1, spec_l16Divide_eq (by omega) (fun k hk => by have := cfA_bd x.clause k; omega) (by omega), bd_some, app_ok (by have := ho.2; simp; omega), bd_some, bd_some, hfin, app_ok (by simp; rw [hw.len]; omega), bd_some, halfQ_pl]
    by_cases h4 : 400 < len (stp F.vars S w x).2
    · refine ⟨((stp F.vars S w x).1, (stp F.vars S w x).2, ((k + 1 : Nat) : Int)), (iter_nx e).trans (iter_bk ?_), ?_, fun _ => h4⟩
      · rw [hb, show decide (len (stp F.vars S w x).2 ≤ 400) = false by rw [decide_eq_false_iff_not]; omega]
        cases decide (((k + 1 : Nat) : Int) < len S) <;> rfl
      · intro u hu
        simp only [finL, show decide (400 < len (stp F.vars S w x).2) = true from decide_eq_true h4, cond_true] at hu
        cases hu
    · obtain ⟨z, i1, i2, i3⟩ := ih (k + 1) (stp F.vars S w x) (by omega) (fun i y hy => by have := hm (i + 1) y (by simpa using hy); rwa [show k + (i + 1) = k + 1 + i by omega] at this) hok (by omega)
      have hfin : finL F.vars S (x :: rest) w = finL F.vars S rest (stp F.vars S w x) := by
        simp only [finL, show decide (400 < len (stp F.vars S w x).2) = false from decide_eq_false h4, cond_false]
      rw [hfin]
      exact ⟨z, (iter_nx e).trans i1, i2, i3⟩
theorem impl_pl_loop (hF : 0 ≤ F.vars ∧ F.vars ≤ 12) {l3 : Empty → Option (Lp (List Int × List PlaneStep × Int) (List PlaneStep × Bool))} {body : Nat → ResStep → List Int × List PlaneStep × Int → Option (Lp (List Int × List PlaneStep × Int) (List PlaneStep × Bool))}
    (hb : ∀ i y s, body i y s = bdR (S := List Int × List PlaneStep × Int) (X := Empty) (bif impl_ResStep_isAxiom y then bd (β := _) (bd (ix F.clauses y.right) (fun c => bd (impl_planeOf s.2.2 c) fun q => bd (β := _) (bd (app s.2.1 [(PlaneStep.mk q 1 y.right 0 0)]) (fun t => some (t, s.2.2, wr (len t - 1))) : Option (List PlaneStep × Int × Int)) fun u => some (u.1, u.2.1, u.2.2)) : Option (List PlaneStep × Int × Int)) (fun u => bd (ix s.1 ((i : Nat) : Int)) fun _ => bd (put s.1 ((i : Nat) : Int) u.2.2) fun ys => some (Rs.go (ys, u.1, u.2.1)))
      else bif impl_ResStep_isWeakening y then bd (ix s.1 y.left) (fun a => bd (ix S y.left) fun u => bd (impl_further y.clause u.clause) fun ls => bd (impl_planer_literals (planer.mk s.2.2 s.2.1) a ls) fun r => bd (ix s.1 ((i : Nat) : Int)) fun _ => bd (put s.1 ((i : Nat) : Int) r.1) fun ys => some (Rs.go (ys, r.2.steps, r.2.vars)))
      else bd (ix s.1 y.left) (fun a => bd (ix s.1 y.right) fun b => bd (impl_planer_add (planer.mk s.2.2 s.2.1) a b) fun r => bd (ix S y.left) fun u => bd (ix S y.right) fun v => bd (impl_inOne y.clause u.clause v.clause) fun ls => bd (impl_planer_literals r.2 r.1 ls) fun q => bd (impl_planer_divide q.2 q.1 2) fun d => bd (ix s.1 ((i : Nat) : Int)) fun _ => bd (put s.1 ((i : Nat) : Int) d.1) fun ys => some (Rs.go (ys, d.2.steps, d.2.vars))))
      (fun u => bif decide (400 < len u.2.1) then some (Lp.rt ([], false)) else some (Lp.nx (u.1, u.2.1, u.2.2))) l3) :
    ∀ (rest : List ResStep) (k : Nat) (w : PW), k + rest.length = S.length → (∀ i y, rest[i]? = some y → S[k + i]? = some y) → Pv F.vars S k w →
      forLFrom body rest k (w.1 ++ List.replicate (S.length - k) 0, w.2, F.vars) = some (match finL F.vars S rest w with | some u => .go (u.1, u.2, F.vars) | none => .rt ([], false)) := by
  intro rest
  have hlim : lim = 4294967296 := rfl
  have hle := hD.le
  induction rest with
  | nil =>
    intro k w hk _ hw
    simp only [List.length_nil, Nat.add_zero] at hk
    subst hk
    simp [forLFrom, finL]
  | cons x rest ih =>
    intro k w hk hm hw
    simp only [List.length_cons] at hk
    have hx : S[k]? = some x := by have := hm 0 x rfl; simpa using this
    have hcl := hD.clause (List.mem_of_getElem? hx)
    have hcn := hcl.len
    have hsz := hw.sz
    have hok := stp_ok hD hx hw
    have hold : ∀ a : Int, 0 ≤ a → a < k → ix (w.1 ++ List.replicate (S.length - k) 0) a = ix w.1 a := fun a h0 h1 => by
      unfold ix; rw [if_pos h0, if_pos h0, List.getElem?_append_left (by rw [hw.len]; omega)]
    have hnow : ix (w.1 ++ List.replicate (S.length - k) 0) ((k : Nat) : Int) = some 0 := by
      rw [ix_get, List.getElem?_append_right (by rw [hw.len]; exact Nat.le_refl _), hw.len, Nat.sub_self, List.getElem?_replicate, if_pos (by omega)]
    have hput : ∀ a : Int, put (w.1 ++ List.replicate (S.length - k) 0) ((k : Nat) : Int) a = some (w.1 ++ [a] ++ List.replicate (S.length - (k + 1)) 0) := fun a => by
      rw [put_ok (by simp; rw [hw.len]; omega), List.set_append_right _ _ (by rw [hw.len]; exact Nat.le_refl _), hw.len, Nat.sub_self]
      obtain ⟨m, hm⟩ : ∃ m, S.length - k = m + 1 := ⟨S.length - k - 1, by omega⟩
      rw [hm, List.replicate_succ, List.set_cons_zero, show S.length - (k + 1) = m by omega]
      simp
    have e : body k x (w.1 ++ List.replicate (S.length - k) 0, w.2, F.vars) = bif decide (400 < len (stp F.vars S w x).2) then some (.rt ([], false)) else some (.nx ((stp F.vars S w x).1 ++ List.replicate (S.length - (k + 1)) 0, (stp F.vars S w x).2, F.vars)) := by
      rw [hb]
      unfold stp
      by_cases hl : x.left < 0
      · rw [if_pos hl, show impl_ResStep_isAxiom x = true by unfold impl_ResStep_isAxiom; simpa using hl, cond_true, hD.axm hx hl, bd_some]
        simp only
        rw [impl_planeOf_eq hcl, bd_some, app_ok (by simp; omega), bd_some, bd_some, bd_some]
        simp only
        rw [hnow, bd_some, hput, bd_some, bdR_go, len_eq (w.2 ++ _), List.length_append, List.length_singleton, wr_of _ (by omega) (by omega), len_eq w.2]
        rw [show (((w.2.length + 1 : Nat) : Int) - 1) = (w.2.length : Int) by omega]
      · have hb1 := hD.before hx (by omega)
        obtain ⟨p1, p2⟩ := hw.place hD (by omega) (by omega : 0 ≤ x.left) hb1.1
        obtain ⟨y, y1, y2, y3, y4⟩ := clAt_of hD (i := k) (by omega) (by omega : 0 ≤ x.left) hb1.1
        rw [if_neg hl, show impl_ResStep_isAxiom x = false by unfold impl_ResStep_isAxiom; simp; omega, cond_false]
        simp only
        by_cases hr : x.right < 0
        · have ho := mor_ok (F := F) (c := x.clause) (d := clAt S x.left) hcl
          rw [if_pos hr, show impl_ResStep_isWeakening x = true by unfold impl_ResStep_isWeakening; simp; omega, cond_true, hold _ (by omega) hb1.1, p1, bd_some, y1, bd_some, impl_further_mor (by omega), bd_some, ← y3,
            impl_planer_literals_eq hF ho.1 ho.2 p2 (by omega) (fun j _ => by have := cfA_bd (clAt S x.left) j; omega) (by omega), bd_some, hnow, bd_some, hput, bd_some, bdR_go]
        · obtain ⟨q1, q2⟩ := hw.place hD (by omega) (by omega : 0 ≤ x.right) (hb1.2 (by omega))
          obtain ⟨z, z1, z2, z3, z4⟩ := clAt_of hD (i := k) (by omega) (by omega : 0 ≤ x.right) (hb1.2 (by omega))
          obtain ⟨h0, h1⟩ := res_at hD hx hw (by omega) (by omega)
          have ho := one_ok (F := F) (c := x.clause) (d := clAt S x.left) (e := clAt S x.right) hcl
          rw [if_neg hr, show impl_ResStep_isWeakening x = false by unfold impl_ResStep_isWeakening; simp; omega, cond_false, hold _ (by omega) hb1.1, p1, bd_some, hold _ (by omega) (hb1.2 (by omega)), q1, bd_some,
            impl_planer_add_eq hF p2 q2 (by omega) (fun j _ => by have := cfA_bd (clAt S x.left) j; omega) (fun j _ => by have := cfA_bd (clAt S x.right) j; omega) (by omega), bd_some, y1, bd_some, z1, bd_some, impl_inOne_eq (by omega), bd_some, ← y3, ← z3,
            impl_planer_literals_eq hF ho.1 ho.2 h0 (by omega) (fun j _ => by have := cfA_bd (clAt S x.left) j; have := cfA_bd (clAt S x.right) j; omega) (by simp; omega), bd_some]
          obtain ⟨_, g2, _⟩ := lits_at (ls := one x.clause (clAt S x.left) (clAt S x.right)) (w := (w.2 ++ [⟨addQ (gI w.2 (gA w.1 x.left)) (gI w.2 (gA w.1 x.right)), 4, gA w.1 x.left, gA w.1 x.right, 0⟩], len w.2)) h0
          generalize (one x.clause (clAt S x.left) (clAt S x.right)).foldl (lstp F.vars.toNat) (w.2 ++ [⟨addQ (gI w.2 (gA w.1 x.left)) (gI w.2 (gA w.1 x.right)), 4, gA w.1 x.left, gA w.1 x.right, 0⟩], len w.2) = r at h1 g2 ⊢
          simp only [List.length_append, List.length_singleton] at g2
          rw [impl_planer_divide_eq hF h1 (by omega) (fun j _ => by have := cfA_bd x.clause j; omega) (by have := ho.2; omega), bd_some]
          simp only
          rw [hnow, bd_some, hput, bd_some, bdR_go]
    simp only [forLFrom, e, finL]
    cases h4 : decide (400 < len (stp F.vars S w x).2) with
    | true => rfl
    | false =>
      simp only [cond_false]
      exact ih (k + 1) (stp F.vars S w x) (by omega) (fun i y hy => by have := hm (i + 1) y (by simpa using hy); rwa [show k + (i + 1) = k + 1 + i by omega] at this) hok
end
end Go.PF
