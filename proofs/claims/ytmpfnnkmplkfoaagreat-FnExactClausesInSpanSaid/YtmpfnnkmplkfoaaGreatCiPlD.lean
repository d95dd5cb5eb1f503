/- The program's echelon: a row more. The program's span. The span of a Cnf for a degree, as the program finds it. Lists of terms that are polynomials. What is left of a polynomial by a span. -/
import Derived.Test.YtmpfnnkmplkfoaaGreatCiPlC
import Derived.Test.YtmpfnnkmplkfoaaGreatCiPlB
set_option linter.unusedVariables false
namespace Go.PF
open Go.Pu
open Go.La (vadd co V Ctx Red redL red1 row1 monic isz add1 addR addAll fixG)
theorem forR_sim {S X α σ : Type} {xs : List α} {body : Nat → S → Option (Lp S X)} {F : σ → α → σ} (P : Nat → σ → S → Prop) {t0 : σ} {s0 : S} (h0 : P 0 t0 s0)
    (h : ∀ i x t s, xs[i]? = some x → P i t s → ∃ s', body i s = some (.nx s') ∧ P (i + 1) (F t x) s') : ∃ s', forR 0 xs.length body s0 = some (.go s') ∧ P xs.length (xs.foldl F t0) s' := by
  have key : ∀ (m : List α) (k : Nat) (t : σ) (s : S), k + m.length = xs.length → (∀ i y, m[i]? = some y → xs[k + i]? = some y) → P k t s → ∃ s', forFrom body m.length k s = some (.go s') ∧ P xs.length (m.foldl F t) s' := by
    intro m
    induction m with
    | nil =>
      intro k t s hk _ hP
      simp only [List.length_nil, Nat.add_zero] at hk
      subst hk
      exact ⟨s, rfl, hP⟩
    | cons y m ih =>
      intro k t s hk hm hP
      obtain ⟨s', h1, h2⟩ := h k y t s (by have := hm 0 y rfl; simpa using this) hP
      simp only [List.length_cons, forFrom, h1, List.foldl_cons]
      exact ih (k + 1) _ s' (by simp at hk; omega) (fun i z hz => by have := hm (i + 1) z (by simpa using hz); rwa [show k + (i + 1) = k + 1 + i by omega] at this) h2
  unfold forR
  exact key xs 0 t0 s0 (by simp) (by simp) h0
theorem chk_ok {A : Type} {xs : List A} (h : xs.length ≤ 1000000) : chk (len xs) = some xs.length := by
  unfold chk; rw [if_pos (by rw [len_eq]; omega), len_eq]; simp
def Mk (p : Int) (n : Nat) (M : List (List Int)) : Prop := M.length = n ∧ ∀ m ∈ M, m.length ≤ n ∧ Dn p m.length m
theorem set_Dn {p : Int} {n : Nat} {s : List Int} (hs : Dn p n s) {i : Nat} {x : Int} (hx : 0 ≤ x ∧ x < p) : Dn p n (s.set i x) :=
  ⟨by rw [List.length_set, hs.len], fun y hy => by
    rcases List.mem_or_eq_of_mem_set hy with hy | rfl
    · exact hs.bd y hy
    · exact hx⟩
theorem tm_bd {p x : Int} (hp : 1 < p) (hx : 0 ≤ x) : 0 ≤ x.tmod p ∧ x.tmod p < p := by
  rw [Int.tmod_eq_emod_of_nonneg hx]
  exact ⟨Int.emod_nonneg _ (by omega), Int.emod_lt_of_pos _ (by omega)⟩
theorem lin_bd {p c x y : Int} (hp : 1 < p ∧ p ≤ 5) (hc : 0 ≤ c ∧ c ≤ 5) (hx : 0 ≤ x ∧ x < p) (hy : 0 ≤ y ∧ y < p) : 0 ≤ (wr (x + wr (c * y))).tmod p ∧ (wr (x + wr (c * y))).tmod p < p := by
  have := mul_sm hc (y := y) ⟨by omega, by omega⟩
  rw [wr_sm (n := c * y) (by omega) (by omega), wr_sm (by omega) (by omega)]
  exact tm_bd hp.1 (by omega)
theorem dn_get {p : Int} {n : Nat} {s : List Int} (hs : Dn p n s) {i : Nat} (hi : i < n) : ∃ x, ix s ((i : Nat) : Int) = some x ∧ (0 ≤ x ∧ x < p) ∧ i < s.length := by
  have hl : i < s.length := by rw [hs.len]; exact hi
  exact ⟨s[i], ix_nat (List.getElem?_eq_getElem hl), hs.bd _ (List.getElem_mem _), hl⟩
theorem made_loop {p c : Int} (hp : 1 < p ∧ p ≤ 5) {n : Nat} {mr md : List Int} (hm : mr.length ≤ n ∧ Dn p mr.length mr) (hd : Dn p n md) (hc : 0 ≤ c ∧ c ≤ 5) {f : Nat → Int → List Int → Option (Lp (List Int) Empty)}
    (hf : ∀ i y s, f i y s = bd (ix s ((i : Nat) : Int)) fun x => bd (nz p) fun _ => bd (ix s ((i : Nat) : Int)) fun _ => bd (put s ((i : Nat) : Int) ((wr (x + wr (c * y))).tmod p)) fun xs => some (.nx xs)) :
    ∃ s', forL mr f md = some (.go s') ∧ Dn p n s' :=
  forL_inv (fun _ s => Dn p n s) hd fun i y s hy hs => by
    have hi := (List.getElem?_eq_some_iff.1 hy).1
    obtain ⟨x, h1, h2, h3⟩ := dn_get hs (i := i) (by omega)
    rw [hf, h1]
    simp only [bd_some, nz_ok (show p ≠ 0 by omega)]
    rw [put_ok h3, bd_some]
    exact ⟨_, rfl, set_Dn hs (lin_bd hp hc h2 (hm.2.bd y (List.mem_of_getElem? hy)))⟩
theorem rep_Dn {p : Int} (hp : 1 < p) {n : Nat} : Dn p n (List.replicate n 0) := zs_Dn (N := n) hp
theorem impl_reduce_eq {p v : Int} (h : PV p v) {R : List (List Int)} (hR : Red (cx h) R) {M : List (List Int)} (hM : Mk p R.length M) {a : List Int} (ha : V p (nN v) a) :
    ∃ md, impl_echelon_reduce (echelon.mk ⟨p, v⟩ R M ((R.length : Nat) : Int)) a = some (redL (cx h) R a, md, echelon.mk ⟨p, v⟩ R M ((R.length : Nat) : Int)) ∧ Dn p R.length md := by
  have hp := h.pos; have hN := nN_le h.v6
  have hlen : R.length ≤ 64 := Nat.le_trans hR.len hN.2
  unfold impl_echelon_reduce
  simp only
  rw [mk2_ok (by unfold lim; omega), bd_some, chk_ok (by omega), bd_some]
  obtain ⟨s', e1, hv, hd, e2⟩ := forR_sim (xs := R) (X := Empty) (F := red1 (cx h))
    (body := (fun i32 s32 => bd (ix R ((i32 : Nat) : Int)) (fun x342416 => bd (PF.impl_leading x342416) (fun r342420 => bd (ix s32.2 r342420) (fun x342431 => (bif (!(x342431 == 0)) then bd (PF.impl_ring_plus ⟨p, v⟩ s32.2 x342416 (wr (p - x342431))) (fun r384434 => bd (ix M ((i32 : Nat) : Int)) (fun x393458 => bdR (forL (S := (List Int)) (X := Empty) x393458 (fun i393463 y393462 s393463 => bd (ix s393463 ((i393463 : Nat) : Int)) (fun x528575 => bd (nz p) (fun u561570 => bd (ix s393463 ((i393463 : Nat) : Int)) (fun x564575 => bd (put s393463 ((i393463 : Nat) : Int) ((wr (x528575 + (wr (x342431 * y393462)))).tmod p)) (fun xs567572 => some (Lp.nx xs567572)))))) s32.1) (fun s393463 => some (Lp.nx (s393463, r384434))) (fun x393463 => nomatch x393463))) else some (Lp.nx (s32.1, s32.2))))))))
    (fun _ b s => V p (nN v) b ∧ Dn p R.length s.1 ∧ s.2 = b) (t0 := a) (s0 := (List.replicate R.length 0, a)) ⟨ha, rep_Dn hp.1, rfl⟩ (fun i r b s hr hP => by
      obtain ⟨s1, s2⟩ := s
      obtain ⟨hb, hs, hsb⟩ := hP
      have hsb' : s2 = b := hsb
      subst hsb'
      have hm := List.mem_of_getElem? hr
      have hrv : V p (nN v) r := hR.vec r hm
      have hx : ix R ((i : Nat) : Int) = some r := ix_nat hr
      obtain ⟨l1, l2⟩ := ldI_pos (Red.nz hR hm)
      have hc := hb.bd (ldP r)
      obtain ⟨w1, w2, w3⟩ := wr_pc hp hc
      have hxc : ix s2 ((ldP r : Nat) : Int) = some (co s2 (ldP r)) := ix_nat (Go.La.co_eq (by rw [hb.len, ← hrv.len]; exact l2))
      simp only [hx, bd_some]
      rw [impl_leading_eq (v64 h hrv), bd_some, l1, hxc, bd_some]
      have hv1 : V p (nN v) (red1 (cx h) s2 r) := Go.La.red1_V (C := cx h) hb hrv
      unfold red1 at hv1 ⊢
      simp only [cx_ld] at hv1 ⊢
      cases hz : co s2 (ldP r) == 0 with
      | true => exact ⟨_, rfl, hb, hs, rfl⟩
      | false =>
        rw [hz] at hv1
        simp only [Bool.not_false, cond_true, w1]
        rw [impl_plus_eq (r := ⟨p, v⟩) h ⟨w2, w3⟩ (dn_of_v hb) (dn_of_v hrv), bd_some]
        have hi := (List.getElem?_eq_some_iff.1 hr).1
        have hMi : ix M ((i : Nat) : Int) = some (M[i]'(by rw [hM.1]; exact hi)) := ix_nat (List.getElem?_eq_getElem (by rw [hM.1]; exact hi))
        rw [hMi, bd_some]
        obtain ⟨s', g1, g2⟩ := made_loop hp (c := co s2 (ldP r)) (hM.2 _ (List.getElem_mem (by rw [hM.1]; exact hi))) hs ⟨hc.1, by omega⟩ (f := fun i393463 y393462 s393463 => bd (ix s393463 ((i393463 : Nat) : Int)) (fun x528575 => bd (nz p) (fun u561570 => bd (ix s393463 ((i393463 : Nat) : Int)) (fun x564575 => bd (put s393463 ((i393463 : Nat) : Int) ((wr (x528575 + (wr (co s2 (ldP r) * y393462)))).tmod p)) (fun xs567572 => some (Lp.nx xs567572)))))) (fun _ _ _ => rfl)
        rw [g1, bdR_go]
        exact ⟨_, rfl, hv1, g2, rfl⟩)
  refine ⟨s'.1, ?_, hd⟩
  refine (congrArg (fun z => bdR z _ _) e1).trans ?_
  rw [bdR_go, e2]; rfl
theorem iv_lt {p c : Int} (hp : p = 2 ∨ p = 3 ∨ p = 5) (h0 : 0 < c) (h1 : c < p) : 0 ≤ iv p c ∧ iv p c < p := by
  rcases pc_cases hp h0 h1 with ⟨rfl, rfl⟩ | ⟨rfl, rfl⟩ | ⟨rfl, rfl⟩ | ⟨rfl, rfl⟩ | ⟨rfl, rfl⟩ | ⟨rfl, rfl⟩ | ⟨rfl, rfl⟩ <;> decide
theorem app_Dn {p : Int} (hp : 1 < p) {m : List Int} (hm : Dn p m.length m) {k : Nat} : Dn p (m.length + k) (m ++ List.replicate k 0) :=
  ⟨by simp, fun x hx => by
    rcases List.mem_append.1 hx with hx | hx
    · exact hm.bd x hx
    · rw [List.mem_replicate] at hx; omega⟩
theorem impl_add_eq {p v : Int} (h : PV p v) {R : List (List Int)} (hR : Red (cx h) R) {M : List (List Int)} (hM : Mk p R.length M) {a : List Int} (ha : V p (nN v) a) :
    ∃ M', impl_echelon_add (echelon.mk ⟨p, v⟩ R M ((R.length : Nat) : Int)) a = some (!isz (redL (cx h) R a), echelon.mk ⟨p, v⟩ (add1 (cx h) (iv p) R a) M' (((add1 (cx h) (iv p) R a).length : Nat) : Int)) ∧ Mk p (add1 (cx h) (iv p) R a).length M' := by
  have hp := h.pos; have hN := nN_le h.v6
  have hlen : R.length ≤ 64 := Nat.le_trans hR.len hN.2
  obtain ⟨md, hr, hmd⟩ := impl_reduce_eq h hR hM ha
  have hrv : V p (nN v) (redL (cx h) R a) := (Go.La.redL_spec hR ha).1
  unfold impl_echelon_add add1
  rw [hr, bd_some]
  simp only
  rw [impl_leading_eq (v64 h hrv), bd_some, ldI_neg]
  cases hz : isz (redL (cx h) R a) with
  | true => exact ⟨M, rfl, hM⟩
  | false =>
    have hF := Go.La.fresh (iv_inv h.p1 hp.1) hR ha hz
    have hb : 0 < co (redL (cx h) R a) (ldP (redL (cx h) R a)) ∧ co (redL (cx h) R a) (ldP (redL (cx h) R a)) < p := hF.bd
    have hld : ldP (monic (cx h) (iv p (co (redL (cx h) R a) (ldP (redL (cx h) R a)))) (redL (cx h) R a)) = ldP (redL (cx h) R a) := hF.ld
    have hnew : Go.La.New (cx h) R (monic (cx h) (iv p (co (redL (cx h) R a) (ldP (redL (cx h) R a)))) (redL (cx h) R a)) := hF.new
    clear hF hr
    obtain ⟨l1, l2⟩ := ldI_pos hz
    simp only [cond_false, cx_ld, Bool.not_false]
    generalize redL (cx h) R a = rest at *
    rw [l1, ix_nat (Go.La.co_eq l2), bd_some, impl_ring_inverse_eq h.p1 hb.1 hb.2, bd_some]
    obtain ⟨b1, b2⟩ := iv_lt h.p1 hb.1 hb.2
    rw [impl_zero_eq (r := ⟨p, v⟩) h, bd_some, impl_plus_eq (r := ⟨p, v⟩) h ⟨b1, by omega⟩ (zs_Dn hp.1) (dn_of_v hrv), bd_some]
    rw [show (vadd p (iv p (co rest (ldP rest))) (zs (nN v)) rest) = monic (cx h) (iv p (co rest (ldP rest))) rest from rfl]
    have hnv : V p (nN v) (monic (cx h) (iv p (co rest (ldP rest))) rest) := hnew.vec
    generalize monic (cx h) (iv p (co rest (ldP rest))) rest = new at *
    generalize iv p (co rest (ldP rest)) = k at *
    have hw1 : wr (((R.length : Nat) : Int) + 1) = ((R.length + 1 : Nat) : Int) := by rw [wr_sm (by omega) (by omega)]; omega
    rw [hw1, mk2_ok (by unfold lim; omega), bd_some, chk_ok (by rw [hmd.len]; omega), bd_some]
    -- how the new row is made
    obtain ⟨own0, e0, ho0⟩ := forR_sim (xs := md) (X := Empty) (F := fun (u : Unit) (_ : Int) => u)
      (body := (fun i45082 s45082 => bd (ix md ((i45082 : Nat) : Int)) (fun x171182 => bd (nz p) (fun u222185 => bd (ix s45082 ((i45082 : Nat) : Int)) (fun x225190 => bd (put s45082 ((i45082 : Nat) : Int) ((wr ((wr (p - x171182)) * k)).tmod p)) (fun xs228187 => some (Lp.nx xs228187)))))))
      (fun _ _ s => Dn p (R.length + 1) s) (t0 := ()) (s0 := List.replicate (R.length + 1) 0) (rep_Dn hp.1) (fun i x _ s hx hs => by
        have hi := (List.getElem?_eq_some_iff.1 hx).1
        rw [hmd.len] at hi
        obtain ⟨y, h1, h2, h3⟩ := dn_get hs (i := i) (by omega)
        have hxb := hmd.bd x (List.mem_of_getElem? hx)
        rw [ix_nat hx]
        simp only [bd_some, nz_ok (show p ≠ 0 by omega), h1]
        rw [put_ok h3, bd_some]
        refine ⟨_, rfl, set_Dn hs ?_⟩
        have := mul_sm (k := p - x) (y := k) ⟨by omega, by omega⟩ ⟨by omega, by omega⟩
        rw [wr_sm (n := p - x) (by omega) (by omega), wr_sm (by omega) (by omega)]
        exact tm_bd hp.1 (by omega))
    obtain ⟨y0, y1, _, y2⟩ := dn_get ho0 (i := R.length) (by omega)
    have hown : Dn p (R.length + 1) (own0.set R.length k) := set_Dn ho0 ⟨b1, b2⟩
    generalize hgo : own0.set R.length k = own at *
    have hnl : ldP rest = ldP new := hld.symm
    -- the rows
    obtain ⟨st, e2, q1, q2, q3, q4, q5⟩ := forR_sim (xs := R) (X := Empty) (F := fun (u : Unit) (_ : List Int) => u)
      (body := (fun i234233 (s234233 : (List (List Int)) × (List (List Int)) × Int × Int × Int) => bd (ix s234233.1 ((i234233 : Nat) : Int)) (fun x1014667 => bd (ix s234233.2.1 ((i234233 : Nat) : Int)) (fun x1047677 => bd (PF.slices_Clone_impl_dense_int x1047677) (fun r1053671 => bd (ix s234233.2.1 ((i234233 : Nat) : Int)) (fun x1083677 => bd (appZ r1053671 (wr (s234233.2.2.2.2 - (len x1083677)))) (fun xs1095671 => bd (ix s234233.2.1 ((i234233 : Nat) : Int)) (fun x1098677 => bd (ix x1014667 ((ldP rest : Nat) : Int)) (fun x1107698 => (bif (!(x1107698 == 0)) then bd (PF.impl_ring_plus (ring.mk s234233.2.2.1 s234233.2.2.2.1) x1014667 new (wr (s234233.2.2.1 - x1107698))) (fun r1164706 => bd (ix s234233.1 ((i234233 : Nat) : Int)) (fun x1167707 => bd (put s234233.1 ((i234233 : Nat) : Int) r1164706) (fun xs1170709 => bd (chk (len own)) (fun m1176719 => bdR (forR (S := (List Int)) (X := Empty) 0 m1176719 (fun i1176720 s1176720 => bd (ix own ((i1176720 : Nat) : Int)) (fun x1404834 => bd (ix s1176720 ((i1176720 : Nat) : Int)) (fun x1455842 => bd (nz s234233.2.2.1) (fun u1506837 => bd (ix s1176720 ((i1176720 : Nat) : Int)) (fun x1509842 => bd (put s1176720 ((i1176720 : Nat) : Int) ((wr (x1455842 + (wr ((wr (s234233.2.2.1 - x1107698)) * x1404834)))).tmod s234233.2.2.1)) (fun xs1512839 => some (Lp.nx xs1512839))))))) xs1095671) (fun s1176720 => bd (put s234233.2.1 ((i234233 : Nat) : Int) s1176720) (fun xs1518874 => some (Lp.nx (xs1170709, xs1518874, s234233.2.2.1, s234233.2.2.2.1, s234233.2.2.2.2)))) (fun x1176720 => nomatch x1176720))))) else bd (put s234233.2.1 ((i234233 : Nat) : Int) xs1095671) (fun xs1518899 => some (Lp.nx (s234233.1, xs1518899, s234233.2.2.1, s234233.2.2.2.1, s234233.2.2.2.2)))))))))))))
      (fun i _ s => s.2.2 = (p, v, ((R.length + 1 : Nat) : Int)) ∧ s.1.length = R.length ∧ (∀ j, s.1[j]? = if j < i then (R.map (row1 (cx h) new))[j]? else R[j]?) ∧ s.2.1.length = R.length ∧ ∀ m ∈ s.2.1, m.length ≤ R.length + 1 ∧ Dn p m.length m) (t0 := ()) (s0 := (R, M, p, v, ((R.length + 1 : Nat) : Int)))
      ⟨rfl, rfl, fun j => by simp, hM.1, fun m hm => ⟨by have := (hM.2 m hm).1; omega, (hM.2 m hm).2⟩⟩ (fun i r _ s hr hP => by
        obtain ⟨S, Ms, s3⟩ := s
        obtain ⟨g1, g2, g3, g4, g5⟩ := hP
        simp only at g1 g2 g3 g4 g5
        subst g1
        have hi := (List.getElem?_eq_some_iff.1 hr).1
        have hm := List.mem_of_getElem? hr
        have hv : V p (nN v) r := hR.vec r hm
        have hx : ix S ((i : Nat) : Int) = some r := ix_nat (by rw [g3, if_neg (Nat.lt_irrefl i), hr])
        have hMi : ix Ms ((i : Nat) : Int) = some (Ms[i]'(by rw [g4]; exact hi)) := ix_nat (List.getElem?_eq_getElem (by rw [g4]; exact hi))
        obtain ⟨m1, m2⟩ := g5 _ (List.getElem_mem (show i < Ms.length by rw [g4]; exact hi))
        generalize Ms[i]'(by rw [g4]; exact hi) = mi at *
        have hxr : ix r ((ldP rest : Nat) : Int) = some (co r (ldP rest)) := ix_nat (Go.La.co_eq (by rw [hv.len, ← hrv.len]; exact l2))
        have hc := hv.bd (ldP rest)
        obtain ⟨w1, w2, w3⟩ := wr_pc hp hc
        have hwl : wr (((R.length + 1 : Nat) : Int) - len mi) = ((R.length + 1 - mi.length : Nat) : Int) := by rw [len_eq, wr_sm (by omega) (by omega)]; omega
        have happ : appZ mi ((R.length + 1 - mi.length : Nat) : Int) = some (mi ++ List.replicate (R.length + 1 - mi.length) 0) := by
          unfold appZ; rw [if_pos (by unfold lim; omega)]; simp
        have hnm : Dn p (R.length + 1) (mi ++ List.replicate (R.length + 1 - mi.length) 0) := by
          have := app_Dn hp.1 m2 (k := R.length + 1 - mi.length)
          rwa [show mi.length + (R.length + 1 - mi.length) = R.length + 1 by omega] at this
        generalize mi ++ List.replicate (R.length + 1 - mi.length) 0 = nm at *
        have hpm : ∀ z, put Ms ((i : Nat) : Int) z = some (Ms.set i z) := fun z => put_ok (by rw [g4]; exact hi)
        have hps : ∀ z, put S ((i : Nat) : Int) z = some (S.set i z) := fun z => put_ok (by rw [g2]; exact hi)
        simp only [hx, hMi, bd_some, slices_Clone_dense_eq (show mi.length ≤ lim by unfold lim; omega), hwl, happ, hxr]
        have hmem : ∀ z : List Int, Dn p (R.length + 1) z → ∀ m ∈ Ms.set i z, m.length ≤ R.length + 1 ∧ Dn p m.length m := fun z hz m hm => by
          rcases List.mem_or_eq_of_mem_set hm with hm | rfl
          · exact g5 m hm
          · exact ⟨by rw [hz.len]; exact Nat.le_refl _, by rw [hz.len]; exact hz⟩
        have hrow : row1 (cx h) new r = bif co r (ldP rest) == 0 then r else vadd p (p - co r (ldP rest)) r new := by unfold row1; rw [cx_ld, ← hnl]; rfl
        have hnext : ∀ j, (S.set i (row1 (cx h) new r))[j]? = if j < i + 1 then (R.map (row1 (cx h) new))[j]? else R[j]? := fun j => by
          rw [List.getElem?_set]
          by_cases hij : i = j
          · subst hij
            rw [if_pos rfl, if_pos (by rw [g2]; exact hi), if_pos (Nat.lt_succ_self i), List.getElem?_map, hr]; rfl
          · rw [if_neg hij, g3]
            by_cases hlt : j < i
            · rw [if_pos hlt, if_pos (by omega)]
            · rw [if_neg hlt, if_neg (by omega)]
        cases hz : co r (ldP rest) == 0 with
        | true =>
          rw [hz] at hrow
          simp only [cond_true] at hrow
          simp only [Bool.not_true, cond_false, hpm, bd_some]
          refine ⟨_, rfl, rfl, g2, fun j => ?_, by simp [g4], hmem _ hnm⟩
          have := hnext j
          rw [hrow] at this
          rw [← this, List.getElem?_set]
          by_cases hij : i = j
          · subst hij
            rw [if_pos rfl, if_pos (by rw [g2]; exact hi), g3, if_neg (Nat.lt_irrefl i), hr]
          · rw [if_neg hij]
        | false =>
          rw [hz] at hrow
          simp only [cond_false] at hrow
          simp only [Bool.not_false, cond_true, w1]
          rw [impl_plus_eq (r := ⟨p, v⟩) h ⟨w2, w3⟩ (dn_of_v hv) (dn_of_v hnv), bd_some, ← hrow]
          simp only [hps, bd_some]
          rw [chk_ok (by rw [hown.len]; omega), bd_some]
          obtain ⟨ms, f1, f2⟩ := forR_sim (xs := own) (X := Empty) (F := fun (u : Unit) (_ : Int) => u)
            (body := (fun i1176720 s1176720 => bd (ix own ((i1176720 : Nat) : Int)) (fun x1404834 => bd (ix s1176720 ((i1176720 : Nat) : Int)) (fun x1455842 => bd (nz p) (fun u1506837 => bd (ix s1176720 ((i1176720 : Nat) : Int)) (fun x1509842 => bd (put s1176720 ((i1176720 : Nat) : Int) ((wr (x1455842 + (wr ((p - co r (ldP rest)) * x1404834)))).tmod p)) (fun xs1512839 => some (Lp.nx xs1512839))))))))
            (fun _ _ s => Dn p (R.length + 1) s) (t0 := ()) (s0 := nm) hnm (fun j x _ s hx hs => by
              have hj := (List.getElem?_eq_some_iff.1 hx).1
              rw [hown.len] at hj
              obtain ⟨y, z1, z2, z3⟩ := dn_get hs hj
              rw [ix_nat hx]
              simp only [bd_some, nz_ok (show p ≠ 0 by omega), z1]
              rw [put_ok z3, bd_some]
              exact ⟨_, rfl, set_Dn hs (lin_bd hp ⟨w2, w3⟩ z2 (hown.bd x (List.mem_of_getElem? hx)))⟩)
          refine ⟨(S.set i (row1 (cx h) new r), Ms.set i ms, p, v, ((R.length + 1 : Nat) : Int)), ?_, rfl, by simp [g2], hnext, by simp [g4], hmem _ f2⟩
          refine (congrArg (fun z => bdR z _ _) f1).trans ?_
          rw [bdR_go, hpm, bd_some])
    obtain ⟨S, Ms, s3⟩ := st
    simp only at q1 q2 q3 q4 q5
    subst q1
    have hS : S = R.map (row1 (cx h) new) := by
      apply List.ext_getElem?
      intro j
      rw [q3]
      split
      · rfl
      · rw [List.getElem?_eq_none (by omega), List.getElem?_eq_none (by rw [List.length_map]; omega)]
    subst hS
    have hlen2 : (addR (cx h) R new).length = R.length + 1 := by unfold addR; simp
    refine ⟨Ms ++ [own], ?_, ?_⟩
    · refine (congrArg (fun z => bdR z _ _) e0).trans ?_
      rw [bdR_go, y1, bd_some, put_ok y2, bd_some, hgo, chk_ok (by omega), bd_some]
      refine (congrArg (fun z => bdR z _ _) e2).trans ?_
      rw [bdR_go]
      simp only
      rw [app_ok (by simp; unfold lim; omega), bd_some, app_ok (by simp; unfold lim; omega), bd_some, hlen2]
      rfl
    · rw [hlen2]
      refine ⟨by simp [q4], fun m hm => ?_⟩
      rcases List.mem_append.1 hm with hm | hm
      · exact q5 m hm
      · have : m = own := by simpa using hm
        subst this
        exact ⟨by rw [hown.len]; exact Nat.le_refl _, by rw [hown.len]; exact hown⟩
end Go.PF
namespace Go.PF
open Go.Pu
open Go.La (vadd co V Ctx Red redL isz add1 addAll fixG lk)
theorem cmI_neg {m n : Nat} : cmI m n < 0 ↔ ky m < ky n := by
  unfold cmI
  by_cases h1 : ky m < ky n
  · simp [h1]
  · by_cases h2 : ky n < ky m <;> simp [h1, h2]
theorem red_lt {p v : Int} (h : PV p v) {R : List (List Int)} (hR : Red (cx h) R) {r : List Int} (hr : r ∈ R) : ldI r = ((ldP r : Nat) : Int) ∧ ldP r < 64 := by
  obtain ⟨l1, l2⟩ := ldI_pos (Red.nz hR hr)
  have := v64 h (hR.vec r hr)
  exact ⟨l1, by omega⟩
theorem span_2_eq {p v : Int} (h : PV p v) {R : List (List Int)} (hR : Red (cx h) R) {x y : List Int} (hx : x ∈ R) (hy : y ∈ R) : impl_algebra_span_2 x y = some (cmI (ldP x) (ldP y)) := by
  obtain ⟨x1, x2⟩ := red_lt h hR hx
  obtain ⟨y1, y2⟩ := red_lt h hR hy
  unfold impl_algebra_span_2
  rw [impl_leading_eq (v64 h (hR.vec x hx)), bd_some, impl_leading_eq (v64 h (hR.vec y hy)), bd_some, x1, y1, impl_compareMonos_eq x2 y2, bd_some]
def leK (x y : List Int) : Bool := decide (ky (ldP x) ≤ ky (ldP y))
theorem sort_rows {p v : Int} (h : PV p v) {R : List (List Int)} (hR : Red (cx h) R) :
    ∃ T, slices_SortFunc_impl_dense_impl_dense R (fun x0 x1 => PF.impl_algebra_span_2 x0 x1) = some T ∧ T.Perm R ∧ Go.La.Srt (cx h) T := by
  have hlen : R.length ≤ 64 := Nat.le_trans hR.len (nN_le h.v6).2
  refine ⟨R.mergeSort (leF fun x0 x1 => PF.impl_algebra_span_2 x0 x1), ?_, List.mergeSort_perm _ _, ?_⟩
  · unfold slices_SortFunc_impl_dense_impl_dense sortF
    rw [if_pos]
    refine ⟨fun x y => cmI (ldP x) (ldP y), by unfold lim; omega, fun x hx y hy => span_2_eq h hR hx hy, fun x _ => ?_, fun x _ y _ z _ h1 h2 => ?_, fun x _ y _ z _ h1 h2 => ?_, fun x hx y hy h1 h2 => ?_⟩
    · rw [cmI_neg]; omega
    · rw [cmI_neg] at *; omega
    · rw [cmI_neg] at *; omega
    · rw [cmI_neg] at *
      exact hR.inj hx hy (ky_inj (by show ky (ldP x) = ky (ldP y); omega))
  · have e : R.mergeSort (leF fun x0 x1 => PF.impl_algebra_span_2 x0 x1) = R.mergeSort leK := by
      have := List.map_mergeSort (r := leF fun x0 x1 => PF.impl_algebra_span_2 x0 x1) (s := leK) (f := id) (l := R) (fun x hx y hy => by
        unfold leF leK
        simp only [span_2_eq h hR hy hx, id]
        rw [← decide_not, decide_eq_decide, cmI_neg]
        omega)
      simpa using this
    rw [e]
    have h1 : (R.mergeSort leK).Pairwise fun x y => leK x y = true := List.pairwise_mergeSort (fun a b c h1 h2 => by
      unfold leK at *; rw [decide_eq_true_iff] at *; omega) (fun a b => by
      unfold leK; rw [Bool.or_eq_true, decide_eq_true_iff, decide_eq_true_iff]; omega) R
    have hp := List.mergeSort_perm R leK
    have h2 : (R.mergeSort leK).Nodup := hp.nodup_iff.2 hR.nd
    have h3 := List.Pairwise.and h1 h2
    refine List.Pairwise.imp_of_mem (fun {x y} hx hy hxy => ?_) h3
    have h4 := hxy.1
    unfold leK at h4
    rw [decide_eq_true_iff] at h4
    have h5 : ky (ldP x) ≠ ky (ldP y) := fun e => hxy.2 (hR.inj (hp.mem_iff.1 hx) (hp.mem_iff.1 hy) (ky_inj e))
    show ky (ldP x) < ky (ldP y)
    omega
def basA {p v : Int} (h : PV p v) (d : Int) (cs : List (List Int)) : List (List Int) :=
  fixG (fun R => addAll (cx h) (iv p) R (prodsL p v d R)) 65 (addAll (cx h) (iv p) [] (qsL p v d cs))
theorem basA_ok {p v : Int} (h : PV p v) (d : Int) (cs : List (List Int)) : Red (cx h) (basA h d cs) ∧ (basA h d cs).Perm (basS h d cs) :=
  ⟨Go.La.spanA_ok (iv_inv h.p1 h.pos.1) (qsL_V h cs) (fun _ => prodsL_V h _) 65, Go.La.span_perm (iv_inv h.p1 h.pos.1) (qsL_V h cs) (fun _ => prodsL_V h _) (fun hp a => prodsL_mem hp a) 65⟩
theorem rep_Mk {p : Int} (n : Nat) : Mk p n (List.replicate n []) := ⟨by simp, fun m hm => by
  rw [List.mem_replicate] at hm
  rw [hm.2]
  exact ⟨Nat.zero_le _, rfl, nofun⟩⟩
theorem impl_algebra_span_eq {p : Int} {F : Cnf} (h : PV p F.vars) (hF : cnfB F = true) (d : Int) :
    impl_algebra_span (alg p F) d = some (some (echelon.mk ⟨p, F.vars⟩ (basS h d F.clauses) (List.replicate (basS h d F.clauses).length []) (((basS h d F.clauses).length : Nat) : Int))) := by
  have hp := h.pos; have hN := nN_le h.v6; have h0 := h.v0; have h6 := h.v6
  have hiv := iv_inv (N := nN F.vars) h.p1 hp.1
  obtain ⟨hcl, hcs⟩ := cnf_bds hF
  unfold impl_algebra_span
  -- the clauses
  obtain ⟨t1, e1, q1⟩ := forL_sim (X := Empty) (l := F.clauses) (F := fun R c => bif decide (len c ≤ d) then add1 (cx h) (iv p) R (clD p (nN F.vars) c) else R)
    (body := (fun i41 y40 (s41 : (List (List Int)) × (List (List Int)) × Int × Int × Int) => (bif (decide ((len y40) ≤ d)) then bd (ix (alg p F).q ((i41 : Nat) : Int)) (fun x87157 => bd (PF.impl_echelon_add (echelon.mk (ring.mk s41.2.2.1 s41.2.2.2.1) s41.2.1 s41.1 s41.2.2.2.2) x87157) (fun r93151 => some (Lp.nx (r93151.2.made, r93151.2.rows, r93151.2.ring.p, r93151.2.ring.vars, r93151.2.many)))) else some (Lp.nx (s41.1, s41.2.1, s41.2.2.1, s41.2.2.2.1, s41.2.2.2.2)))))
    (fun i R t => t.2 = (R, p, F.vars, ((R.length : Nat) : Int)) ∧ Mk p R.length t.1 ∧ Red (cx h) R) (t0 := []) (s := ([], [], p, F.vars, 0)) ⟨rfl, ⟨rfl, nofun⟩, .nil⟩ (fun i c R t hc hP => by
      obtain ⟨M, t2⟩ := t
      obtain ⟨g1, g2, g3⟩ := hP
      simp only at g1 g2
      subst g1
      have hcv : V p (nN F.vars) (clD p (nN F.vars) c) := (clD_Dn hp.1 c).v hp.1
      have hx : ix (alg p F).q ((i : Nat) : Int) = some (clD p (nN F.vars) c) := ix_nat (by unfold alg; rw [List.getElem?_map, hc]; rfl)
      cases decide (len c ≤ d) with
      | true =>
        simp only [cond_true, hx, bd_some]
        obtain ⟨M', f1, f2⟩ := impl_add_eq h g3 g2 hcv
        rw [f1, bd_some]
        exact ⟨_, rfl, rfl, f2, (Go.La.add1_ext hiv g3 hcv).red⟩
      | false => exact ⟨_, rfl, rfl, g2, g3⟩)
  rw [qs_fold (pf := add1 (cx h) (iv p))] at q1
  obtain ⟨M1, t1⟩ := t1
  obtain ⟨g1, g2, g3⟩ := q1
  simp only at g1 g2
  subst g1
  refine (congrArg (fun z => bdR z _ _) e1).trans ?_
  rw [bdR_go]
  -- the rounds
  have hst := fun (R : List (List Int)) (as : List (List Int)) (b : Bool) => stepF_fold (C := cx h) (pf := add1 (cx h) (iv p)) (fun _ _ => Go.La.add1_len) (as := as) (R := R) (b := b)
  obtain ⟨t2, e2, q2⟩ := rounds (X := List Int) (Y := Empty) (n := 64) (f := fun R => addAll (cx h) (iv p) R (prodsL p F.vars d R))
    (body := (fun (s99188 : (List (List Int)) × (List (List Int)) × Int × Int × Int × Bool) => (bif s99188.2.2.2.2.2 then bd (β := _) (bd (app [] s99188.2.1) (fun xs508158 => some xs508158) : Option (List (List Int))) (fun s508144 => bd (β := _) (bd (chk (len s508144)) (fun m712576 => bdR (forR (S := ((List (List Int)) × (List (List Int)) × Int × Int × Int × Bool)) (X := ((List (List Int)) × (List (List Int)) × Int × Int × Int × Bool × Bool)) 0 m712576 (fun i712577 s712577 => bd (ix s508144 ((i712577 : Nat) : Int)) (fun x916970 => bdR (iter (S := ((List (List Int)) × (List (List Int)) × Int × Int × Int × Bool × Int)) (X := (Lp ((List (List Int)) × (List (List Int)) × Int × Int × Int × Bool) ((List (List Int)) × (List (List Int)) × Int × Int × Int × Bool × Bool))) (fun s916974 => bd (bif (decide (s916974.2.2.2.2.2.2 ≤ F.vars)) then bd (PF.impl_dense_degree x916970) (fun r1019137 => some (decide (r1019137 < d))) else some false) (fun t1019130 => (bif t1019130 then bd (PF.impl_ring_literal ⟨p, F.vars⟩ s916974.2.2.2.2.2.2) (fun r1055152 => bd (PF.impl_ring_times ⟨p, F.vars⟩ x916970 r1055152) (fun r1058157 => bd (β := _) (bd (PF.impl_echelon_add (echelon.mk (ring.mk s916974.2.2.1 s916974.2.2.2.1) s916974.2.1 s916974.1 s916974.2.2.2.2.1) r1058157) (fun r1061232 => some (r1061232.2.made, r1061232.2.rows, r1061232.2.ring.p, r1061232.2.ring.vars, r1061232.2.many, (bif r1061232.1 then true else s916974.2.2.2.2.2.1), true)) : Option ((List (List Int)) × (List (List Int)) × Int × Int × Int × Bool × Bool)) (fun s1061222 => (bif (!s1061222.2.2.2.2.2.2) then some (Lp.rt (Lp.rt (s1061222.1, s1061222.2.1, s1061222.2.2.1, s1061222.2.2.2.1, s1061222.2.2.2.2.1, s1061222.2.2.2.2.2.1, false))) else some (Lp.nx (s1061222.1, s1061222.2.1, s1061222.2.2.1, s1061222.2.2.2.1, s1061222.2.2.2.2.1, s1061222.2.2.2.2.2.1, (wr (s916974.2.2.2.2.2.2 + 1)))))))) else some (Lp.bk (s916974.1, s916974.2.1, s916974.2.2.1, s916974.2.2.2.1, s916974.2.2.2.2.1, s916974.2.2.2.2.2.1, s916974.2.2.2.2.2.2))))) (s712577.1, s712577.2.1, s712577.2.2.1, s712577.2.2.2.1, s712577.2.2.2.2.1, s712577.2.2.2.2.2, 1)) (fun s916974 => some (Lp.nx (s916974.1, s916974.2.1, s916974.2.2.1, s916974.2.2.2.1, s916974.2.2.2.2.1, s916974.2.2.2.2.2.1))) (fun x916974 => some x916974))) (s99188.1, s99188.2.1, s99188.2.2.1, s99188.2.2.2.1, s99188.2.2.2.2.1, false)) (fun s712577 => some (s712577.1, s712577.2.1, s712577.2.2.1, s712577.2.2.2.1, s712577.2.2.2.2.1, s712577.2.2.2.2.2, true)) (fun x712577 => some x712577)) : Option ((List (List Int)) × (List (List Int)) × Int × Int × Int × Bool × Bool)) (fun s712566 => some (Lp.nx (s712566.1, s712566.2.1, s712566.2.2.1, s712566.2.2.2.1, s712566.2.2.2.2.1, s712566.2.2.2.2.2.1)))) else some (Lp.bk (s99188.1, s99188.2.1, s99188.2.2.1, s99188.2.2.2.1, s99188.2.2.2.2.1, s99188.2.2.2.2.2)))))
    (fun R b t => t.2 = (R, p, F.vars, ((R.length : Nat) : Int), b) ∧ Mk p R.length t.1 ∧ Red (cx h) R) (fun R t hP => by
      obtain ⟨M, t2⟩ := t
      obtain ⟨g1, g2, hR⟩ := hP
      simp only at g1 g2
      subst g1
      have hRl : R.length ≤ 64 := Nat.le_trans hR.len hN.2
      simp only [cond_true]
      rw [app_ok (by simp; unfold lim; omega), bd_some, List.nil_append, bd_some, chk_ok (by omega), bd_some]
      obtain ⟨t3, e3, q3⟩ := forR_sim (xs := R) (X := ((List (List Int)) × (List (List Int)) × Int × Int × Int × Bool × Bool)) (F := fun s r => (prodsR p F.vars d r).foldl (stepF (cx h) (add1 (cx h) (iv p))) s)
        (body := (fun i712577 (s712577 : (List (List Int)) × (List (List Int)) × Int × Int × Int × Bool) => bd (ix R ((i712577 : Nat) : Int)) (fun x916970 => bdR (iter (S := ((List (List Int)) × (List (List Int)) × Int × Int × Int × Bool × Int)) (X := (Lp ((List (List Int)) × (List (List Int)) × Int × Int × Int × Bool) ((List (List Int)) × (List (List Int)) × Int × Int × Int × Bool × Bool))) (fun s916974 => bd (bif (decide (s916974.2.2.2.2.2.2 ≤ F.vars)) then bd (PF.impl_dense_degree x916970) (fun r1019137 => some (decide (r1019137 < d))) else some false) (fun t1019130 => (bif t1019130 then bd (PF.impl_ring_literal ⟨p, F.vars⟩ s916974.2.2.2.2.2.2) (fun r1055152 => bd (PF.impl_ring_times ⟨p, F.vars⟩ x916970 r1055152) (fun r1058157 => bd (β := _) (bd (PF.impl_echelon_add (echelon.mk (ring.mk s916974.2.2.1 s916974.2.2.2.1) s916974.2.1 s916974.1 s916974.2.2.2.2.1) r1058157) (fun r1061232 => some (r1061232.2.made, r1061232.2.rows, r1061232.2.ring.p, r1061232.2.ring.vars, r1061232.2.many, (bif r1061232.1 then true else s916974.2.2.2.2.2.1), true)) : Option ((List (List Int)) × (List (List Int)) × Int × Int × Int × Bool × Bool)) (fun s1061222 => (bif (!s1061222.2.2.2.2.2.2) then some (Lp.rt (Lp.rt (s1061222.1, s1061222.2.1, s1061222.2.2.1, s1061222.2.2.2.1, s1061222.2.2.2.2.1, s1061222.2.2.2.2.2.1, false))) else some (Lp.nx (s1061222.1, s1061222.2.1, s1061222.2.2.1, s1061222.2.2.2.1, s1061222.2.2.2.2.1, s1061222.2.2.2.2.2.1, (wr (s916974.2.2.2.2.2.2 + 1)))))))) else some (Lp.bk (s916974.1, s916974.2.1, s916974.2.2.1, s916974.2.2.2.1, s916974.2.2.2.2.1, s916974.2.2.2.2.2.1, s916974.2.2.2.2.2.2))))) (s712577.1, s712577.2.1, s712577.2.2.1, s712577.2.2.2.1, s712577.2.2.2.2.1, s712577.2.2.2.2.2, 1)) (fun s916974 => some (Lp.nx (s916974.1, s916974.2.1, s916974.2.2.1, s916974.2.2.2.1, s916974.2.2.2.2.1, s916974.2.2.2.2.2.1))) (fun x916974 => some x916974))))
        (fun i s t => t.2 = (s.1, p, F.vars, ((s.1.length : Nat) : Int), s.2) ∧ Mk p s.1.length t.1 ∧ Red (cx h) s.1) (t0 := (R, false)) (s0 := (M, R, p, F.vars, ((R.length : Nat) : Int), false)) ⟨rfl, g2, hR⟩ (fun i r s t hr hP => by
          obtain ⟨M, t2⟩ := t
          obtain ⟨S, b⟩ := s
          obtain ⟨g1, g2, hS⟩ := hP
          simp only at g1 g2 hS
          subst g1
          have hrv : V p (nN F.vars) r := hR.vec r (List.mem_of_getElem? hr)
          simp only [ix_nat hr, bd_some, impl_dense_degree_eq (v64 h hrv)]
          obtain ⟨t4, e4, q4⟩ := iter_sim (xs := prodsR p F.vars d r) (X := (Lp ((List (List Int)) × (List (List Int)) × Int × Int × Int × Bool) ((List (List Int)) × (List (List Int)) × Int × Int × Int × Bool × Bool))) (F := stepF (cx h) (add1 (cx h) (iv p)))
            (body := (fun (s916974 : (List (List Int)) × (List (List Int)) × Int × Int × Int × Bool × Int) => bd (bif (decide (s916974.2.2.2.2.2.2 ≤ F.vars)) then some (decide (dgI r < d)) else some false) (fun t1019130 => (bif t1019130 then bd (PF.impl_ring_literal ⟨p, F.vars⟩ s916974.2.2.2.2.2.2) (fun r1055152 => bd (PF.impl_ring_times ⟨p, F.vars⟩ r r1055152) (fun r1058157 => bd (β := _) (bd (PF.impl_echelon_add (echelon.mk (ring.mk s916974.2.2.1 s916974.2.2.2.1) s916974.2.1 s916974.1 s916974.2.2.2.2.1) r1058157) (fun r1061232 => some (r1061232.2.made, r1061232.2.rows, r1061232.2.ring.p, r1061232.2.ring.vars, r1061232.2.many, (bif r1061232.1 then true else s916974.2.2.2.2.2.1), true)) : Option ((List (List Int)) × (List (List Int)) × Int × Int × Int × Bool × Bool)) (fun s1061222 => (bif (!s1061222.2.2.2.2.2.2) then some (Lp.rt (Lp.rt (s1061222.1, s1061222.2.1, s1061222.2.2.1, s1061222.2.2.2.1, s1061222.2.2.2.2.1, s1061222.2.2.2.2.2.1, false))) else some (Lp.nx (s1061222.1, s1061222.2.1, s1061222.2.2.1, s1061222.2.2.2.1, s1061222.2.2.2.2.1, s1061222.2.2.2.2.2.1, (wr (s916974.2.2.2.2.2.2 + 1)))))))) else some (Lp.bk (s916974.1, s916974.2.1, s916974.2.2.1, s916974.2.2.2.1, s916974.2.2.2.2.1, s916974.2.2.2.2.2.1, s916974.2.2.2.2.2.2))))))
            (fun j s t => t.2 = (s.1, p, F.vars, ((s.1.length : Nat) : Int), s.2, ((j : Nat) : Int) + 1) ∧ Mk p s.1.length t.1 ∧ Red (cx h) s.1) (fun s t => (∃ k, t.2 = (s.1, p, F.vars, ((s.1.length : Nat) : Int), s.2, k)) ∧ Mk p s.1.length t.1 ∧ Red (cx h) s.1)
            (s0 := (S, b)) (t0 := (M, S, p, F.vars, ((S.length : Nat) : Int), b, 1)) ⟨rfl, g2, hS⟩ (fun j a s t ha hP => by
              obtain ⟨M, t2⟩ := t
              obtain ⟨S, b⟩ := s
              obtain ⟨g1, g2, hS⟩ := hP
              simp only at g1 g2 hS
              subst g1
              obtain ⟨z1, z2, rfl⟩ := prodsR_get h ha
              have hav : V p (nN F.vars) (timesV p F.vars r j) := prodsR_V h r _ (List.mem_of_getElem? ha)
              simp only
              rw [show decide (((j : Nat) : Int) + 1 ≤ F.vars) = true by simpa using z2, cond_true, bd_some, show decide (dgI r < d) = true by simpa using z1, cond_true]
              rw [impl_literal_eq (r := ⟨p, F.vars⟩) h (by omega) (by show -F.vars ≤ _; omega) z2, bd_some]
              rw [impl_times_eq (r := ⟨p, F.vars⟩) h (dn_of_v hrv) (litD_Dn hp.1 _), bd_some]
              rw [show mulT p (nN F.vars) (sp r) (sp (litD p (nN F.vars) (((j : Nat) : Int) + 1))) = timesV p F.vars r j from rfl]
              obtain ⟨M', f1, f2⟩ := impl_add_eq h hS g2 hav
              rw [f1]
              simp only [bd_some, Bool.not_true, cond_false]
              rw [wr_sm (by omega) (by omega)]
              refine ⟨_, rfl, ?_, f2, (Go.La.add1_ext hiv hS hav).red⟩
              simp only [stepF]
              rw [show (bif !isz (redL (cx h) S (timesV p F.vars r j)) then true else b) = bif b then true else !isz (redL (cx h) S (timesV p F.vars r j)) by cases b <;> cases isz (redL (cx h) S (timesV p F.vars r j)) <;> rfl]
              simp) (fun s t hP => by
              obtain ⟨M, t2⟩ := t
              obtain ⟨S, b⟩ := s
              obtain ⟨g1, g2, hS⟩ := hP
              simp only at g1 g2 hS
              subst g1
              refine ⟨(M, S, p, F.vars, ((S.length : Nat) : Int), b, (((prodsR p F.vars d r).length : Nat) : Int) + 1), ?_, ⟨_, rfl⟩, g2, hS⟩
              simp only
              rcases prodsR_end (d := d) h r with ⟨g1, g2⟩ | ⟨g1, g2⟩
              · rw [show decide ((((prodsR p F.vars d r).length : Nat) : Int) + 1 ≤ F.vars) = false by rw [decide_eq_false_iff_not]; omega]
                rfl
              · rw [show decide (dgI r < d) = false by simpa using g1]
                cases decide ((((prodsR p F.vars d r).length : Nat) : Int) + 1 ≤ F.vars) <;> rfl)
          obtain ⟨M4, t4⟩ := t4
          obtain ⟨⟨k4, g4⟩, hM4, hS4⟩ := q4
          simp only at g4 hM4
          subst g4
          refine ⟨(M4, (List.foldl (stepF (cx h) (add1 (cx h) (iv p))) (S, b) (prodsR p F.vars d r)).1, p, F.vars, (((List.foldl (stepF (cx h) (add1 (cx h) (iv p))) (S, b) (prodsR p F.vars d r)).1.length : Nat) : Int), (List.foldl (stepF (cx h) (add1 (cx h) (iv p))) (S, b) (prodsR p F.vars d r)).2), ?_, rfl, hM4, hS4⟩
          exact (congrArg (fun z => bdR z _ _) e4).trans rfl)
      obtain ⟨M3, t3⟩ := t3
      obtain ⟨g3, hM3, hS3⟩ := q3
      simp only at g3 hM3 hS3
      subst g3
      rw [← List.foldl_flatMap] at e3 hM3 hS3
      rw [show R.flatMap (prodsR p F.vars d) = prodsL p F.vars d R from rfl, (hst R _ false).1] at e3 hM3 hS3
      refine ⟨(M3, _), ?_, rfl, hM3, hS3⟩
      refine (congrArg (fun z => bd (bdR z _ _) _) e3).trans ?_
      rfl) (fun R t hP => by
      obtain ⟨M, t2⟩ := t
      obtain ⟨g1, g2, hR⟩ := hP
      simp only at g1
      subst g1
      rfl) (fun R b t hP => Nat.le_trans hP.2.2.len hN.2) 65 _ (M1, addAll (cx h) (iv p) [] (qsL p F.vars d F.clauses), p, F.vars, (((addAll (cx h) (iv p) [] (qsL p F.vars d F.clauses)).length : Nat) : Int), true) ⟨rfl, g2, g3⟩ (by omega)
  obtain ⟨M2, t2⟩ := t2
  obtain ⟨g4, hM2, hR2⟩ := q2
  simp only at g4 hM2 hR2
  subst g4
  refine (congrArg (fun z => bdR z _ _) e2).trans ?_
  rw [bdR_go]
  simp only
  rw [show fixG (fun R => addAll (cx h) (iv p) R (prodsL p F.vars d R)) 65 (addAll (cx h) (iv p) [] (qsL p F.vars d F.clauses)) = basA h d F.clauses from rfl] at hR2 ⊢
  obtain ⟨b1, b2⟩ := basA_ok h d F.clauses
  obtain ⟨T, s1, s2, s3⟩ := sort_rows h b1
  have hT : T = basS h d F.clauses := Go.La.srt_eq (s2.trans b2) s3 (basS_ok h d F.clauses).2
  subst hT
  have hl2 := b2.length_eq
  have hl3 := Nat.le_trans b1.len hN.2
  rw [s1, bd_some, len_eq, mk2_ok (by unfold lim; omega), bd_some, hl2]
end Go.PF
namespace Go.PF
open Go.Pu
open Go.La (V Red)
theorem impl_degreeOk_eq (d : Int) : impl_degreeOk d = inB d 0 6 := by unfold impl_degreeOk; rw [impl_within_eq]
theorem impl_spanOf_eq {p : Int} {F : Cnf} (hF : okCnf F) (d : Int) : impl_spanOf p F d = some (if h : pvB p F.vars = true then (bif cnfB F && inB d 0 6 then (some (alg p F), some (echelon.mk ⟨p, F.vars⟩ (basS (pvB_iff.1 h) d F.clauses) (List.replicate (basS (pvB_iff.1 h) d F.clauses).length []) (((basS (pvB_iff.1 h) d F.clauses).length : Nat) : Int)), true) else (none, none, false)) else (none, none, false)) := by
  unfold impl_spanOf
  rw [impl_algebraOf_eq hF, bd_some, impl_degreeOk_eq]
  cases ha : algB p F with
  | true =>
    obtain ⟨h, hc⟩ := algB_iff.1 ha
    rw [dif_pos (pvB_iff.2 h), hc]
    cases hd : inB d 0 6 with
    | true =>
      simp only [Bool.not_true, cond_false, Bool.and_self, cond_true, bd_some]
      rw [impl_algebra_span_eq h hc d, bd_some, bd_some]
    | false => rfl
  | false =>
    simp only [cond_false, Bool.not_false, cond_true]
    by_cases h : pvB p F.vars = true
    · rw [dif_pos h]
      have : cnfB F = false := by
        cases hc : cnfB F with
        | true => rw [algB_iff.2 ⟨pvB_iff.1 h, hc⟩] at ha; cases ha
        | false => rfl
      rw [this]; rfl
    · rw [dif_neg h]
end Go.PF
namespace Go.PF
open Go.Pu
end Go.PF
namespace Go.PF
open Go.Pu
open Go.La (vadd co V Ctx Red redL red1 isz)
theorem red_loop {p v : Int} (h : PV p v) {R : List (List Int)} (hR : Red (cx h) R) {M : List (List Int)} (hM : Mk p R.length M) {a : List Int} (ha : V p (nN v) a) {f : Nat → List Int → List Int × List Int → Option (Lp (List Int × List Int) Empty)}
    (hf : ∀ (i684927 : Nat) y684926 (s684927 : List Int × List Int), f i684927 y684926 s684927 = bd (PF.impl_leading y684926) (fun r1027310 => bd (ix s684927.2 r1027310) (fun x1027321 => (bif (!(x1027321 == 0)) then bd (PF.impl_ring_plus ⟨p, v⟩ s684927.2 y684926 (wr (p - x1027321))) (fun r1069324 => bd (ix M ((i684927 : Nat) : Int)) (fun x1078348 => bdR (forL (S := (List Int)) (X := Empty) x1078348 (fun i1078353 y1078352 s1078353 => bd (ix s1078353 ((i1078353 : Nat) : Int)) (fun x1213465 => bd (nz p) (fun u1246460 => bd (ix s1078353 ((i1078353 : Nat) : Int)) (fun x1249465 => bd (put s1078353 ((i1078353 : Nat) : Int) ((wr (x1213465 + (wr (x1027321 * y1078352)))).tmod p)) (fun xs1252462 => some (Lp.nx xs1252462)))))) s684927.1) (fun s1078353 => some (Lp.nx (s1078353, r1069324))) (fun x1078353 => nomatch x1078353))) else some (Lp.nx (s684927.1, s684927.2)))))) :
    ∃ md, forL R f (List.replicate R.length 0, a) = some (.go (md, redL (cx h) R a)) := by
  have hp := h.pos; have hN := nN_le h.v6
  have hlen : R.length ≤ 64 := Nat.le_trans hR.len hN.2
  obtain ⟨s', e1, hv, hd, e2⟩ := forL_sim (l := R) (X := Empty) (F := red1 (cx h)) (body := f)
    (fun _ b s => V p (nN v) b ∧ Dn p R.length s.1 ∧ s.2 = b) (t0 := a) (s := (List.replicate R.length 0, a)) ⟨ha, rep_Dn hp.1, rfl⟩ (fun i r b s hr hP => by
      obtain ⟨s1, s2⟩ := s
      obtain ⟨hb, hs, hsb⟩ := hP
      have hsb' : s2 = b := hsb
      subst hsb'
      have hm := List.mem_of_getElem? hr
      have hrv : V p (nN v) r := hR.vec r hm
      obtain ⟨l1, l2⟩ := ldI_pos (Red.nz hR hm)
      have hc := hb.bd (ldP r)
      obtain ⟨w1, w2, w3⟩ := wr_pc hp hc
      have hxc : ix s2 ((ldP r : Nat) : Int) = some (co s2 (ldP r)) := ix_nat (Go.La.co_eq (by rw [hb.len, ← hrv.len]; exact l2))
      rw [hf]
      simp only
      rw [impl_leading_eq (v64 h hrv), bd_some, l1, hxc, bd_some]
      have hv1 : V p (nN v) (red1 (cx h) s2 r) := Go.La.red1_V (C := cx h) hb hrv
      unfold red1 at hv1 ⊢
      simp only [cx_ld] at hv1 ⊢
      cases hz : co s2 (ldP r) == 0 with
      | true => exact ⟨_, rfl, hb, hs, rfl⟩
      | false =>
        rw [hz] at hv1
        simp only [Bool.not_false, cond_true, w1]
        rw [impl_plus_eq (r := ⟨p, v⟩) h ⟨w2, w3⟩ (dn_of_v hb) (dn_of_v hrv), bd_some]
        have hi := (List.getElem?_eq_some_iff.1 hr).1
        have hMi : ix M ((i : Nat) : Int) = some (M[i]'(by rw [hM.1]; exact hi)) := ix_nat (List.getElem?_eq_getElem (by rw [hM.1]; exact hi))
        rw [hMi, bd_some]
        obtain ⟨s', g1, g2⟩ := made_loop hp (c := co s2 (ldP r)) (hM.2 _ (List.getElem_mem (by rw [hM.1]; exact hi))) hs ⟨hc.1, by omega⟩ (f := fun i393463 y393462 s393463 => bd (ix s393463 ((i393463 : Nat) : Int)) (fun x528575 => bd (nz p) (fun u561570 => bd (ix s393463 ((i393463 : Nat) : Int)) (fun x564575 => bd (put s393463 ((i393463 : Nat) : Int) ((wr (x528575 + (wr (co s2 (ldP r) * y393462)))).tmod p)) (fun xs567572 => some (Lp.nx xs567572)))))) (fun _ _ _ => rfl)
        rw [g1, bdR_go]
        exact ⟨_, rfl, hv1, g2, rfl⟩)
  obtain ⟨m, b⟩ := s'
  have e3 : b = redL (cx h) R a := e2
  subst e3
  exact ⟨m, e1⟩
end Go.PF
