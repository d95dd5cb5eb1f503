/- Helpers of the walks and plain laws. -/
import Derived.Test.YtkaikagbfoadpaaGreatPcPC
import Derived.Test.YtkaikagbfoadpaaGreatPcPA
import Derived.Test.YtkaikagbfoadpaaGreatPcPB
set_option linter.unusedVariables false
namespace Go.PF
open Go.Pu
theorem bdR_downT {σ α T X β : Type} (mk : σ → Int → T) {xs : List α} {body : T → Option (Lp T X)} {k : T → Option β} {l : X → Option β} {r : Option β} (I : Nat → σ → Prop) {s0 : σ} {t0 : T} (ht : t0 = mk s0 (len xs - 1)) (h0 : I xs.length s0)
 (h : ∀ (i : Nat) x s, xs[i]? = some x → I (i + 1) s → ∃ s', body (mk s (i : Int)) = some (.nx (mk s' ((i : Int) - 1))) ∧ I i s') (he : ∀ s, I 0 s → body (mk s (-1)) = some (.bk (mk s (-1)))) (hk : ∀ s, I 0 s → k (mk s (-1)) = r) : bdR (iter body t0) k l = r := by
 subst ht
 have key : ∀ (k : Nat) (s : σ), k ≤ xs.length → I k s → ∃ s', iter body (mk s ((k : Int) - 1)) = some (.go (mk s' (-1))) ∧ I 0 s' := by
  intro k
  induction k with
  | zero => intro s _ hI; exact ⟨s, iter_bk (he s hI), hI⟩
  | succ k ih =>
   intro s hk hI
   obtain ⟨x, hx⟩ : ∃ x, xs[k]? = some x := ⟨_, List.getElem?_eq_getElem (by omega)⟩
   obtain ⟨s', h1, h2⟩ := h k x s hx hI
   rw [show ((k + 1 : Nat) : Int) - 1 = (k : Int) by omega, iter_nx h1]
   exact ih _ (by omega) h2
 obtain ⟨s', h1, h2⟩ := key xs.length s0 (Nat.le_refl _) h0
 have h1' : iter body (mk s0 (len xs - 1)) = some (.go (mk s' (-1))) := h1
 rw [h1', bdR_go]; exact hk _ h2
theorem need_loopP {S : List PcStep} (h : IsU S) {β : Type} {k : List Bool × List Int × Int → Option β} {l : Empty → Option β} {r : Option β} (hk : ∀ M, k (M, (needIP S).reverse, -1) = r) : bdR (iter (S := ((List Bool) × (List Int) × Int)) (X := Empty) (fun s1850 => (bif (decide (0 ≤ s1850.2.2)) then bd (ix s1850.1 s1850.2.2) (fun x2240 => (bif (bif (!x2240) then (decide (s1850.2.2 < (wr ((len S) - 1)))) else false) then some (Lp.nx (s1850.1, s1850.2.1, (wr (s1850.2.2 - 1)))) else bd (app s1850.2.1 [s1850.2.2]) (fun xs2261 => bd (β := _) (bd (ix S s1850.2.2) (fun x2301 => some (PF.impl_PcStep_uses x2301)) : Option (List Int)) (fun s2290 => bd (chk (len s2290)) (fun m2318 => bdR (forR (S := (List Bool)) (X := Empty) 0 m2318 (fun i2319 s2319 => bd (ix s2290 ((i2319 : Nat) : Int)) (fun x2417 => bd (ix s2319 x2417) (fun x2425 => bd (put s2319 x2417 true) (fun xs2430 => some (Lp.nx xs2430))))) s1850.1) (fun s2319 => some (Lp.nx (s2319, xs2261, (wr (s1850.2.2 - 1))))) (fun x2319 => nomatch x2319)))))) else some (Lp.bk (s1850.1, s1850.2.1, s1850.2.2)))) (List.replicate S.length false, [], (wr ((len S) - 1)))) k l = r := by
 have hS := h.le
 rw [show wr ((len S) - 1) = len S - 1 from wr_len (by omega)]
 refine bdR_downT (σ := List Bool × List Int) (fun s i => (s.1, s.2, i)) (xs := S) (s0 := (List.replicate S.length false, [])) (fun k s => s.1.length = S.length ∧ remP S k (s.1.set (S.length - 1) true) = maskP S ∧ s.2 = tailNP S k) rfl ⟨by simp, by simp [maskP], by simp [tailNP]⟩ ?hh (fun s _ => rfl) ?hk
 case hk =>
  rintro ⟨M, out⟩ ⟨_, _, rfl⟩
  have e : tailNP S 0 = (needIP S).reverse := by unfold tailNP needIP needP; rw [List.map_reverse, List.range_eq_range']; simp
  show k (M, tailNP S 0, -1) = r
  rw [e]; exact hk M
 case hh =>
  rintro i x ⟨M, out⟩ hx ⟨hM, hr, rfl⟩
  have hi := (List.getElem?_eq_some_iff.1 hx).1
  dsimp only at hM hr ⊢
  have hp := premP_len x
  have hb := h.prem hx
  have hd : decide ((0 : Int) ≤ (i : Int)) = true := by simp
  have hwd : wr ((i : Int) - 1) = (i : Int) - 1 := wr_down hi (by omega)
  have hwl : wr ((len S) - 1) = len S - 1 := wr_len (by omega)
  -- whether it is needed
  have hn : bAt (maskP S) i = bAt (M.set (S.length - 1) true) i := by
   rw [← hr]; unfold bAt; rw [rem_outP h (by omega) (by omega)]
  have hMi : ix M (i : Int) = some (bAt M i) := by rw [ix_get]; unfold bAt; rw [List.getElem?_eq_getElem (by omega)]; rfl
  have hc : (bif !bAt M i then decide ((i : Int) < len S - 1) else false) = !bAt (maskP S) i := by
   rw [hn]
   unfold bAt
   by_cases e : i = S.length - 1
   · have e1 : decide ((i : Int) < len S - 1) = false := by rw [len_eq]; simp; omega
     rw [e1, ← e, List.getElem?_set_self (by omega)]; simp
   · have e1 : decide ((i : Int) < len S - 1) = true := by rw [len_eq]; simp; omega
     rw [e1, List.getElem?_set_ne (by omega)]; simp
  have hr2 := hr
  rw [rem_succP hx] at hr2
  have ht := tailN_stepP hi
  have hix : ix S (i : Int) = some x := by rw [ix_get]; exact hx
  simp only [hd, cond_true, hMi, bd_some, hwd, hc]
  cases hm : bAt (maskP S) i with
  | false =>
   rw [hm] at ht hn
   simp only [Bool.not_false, cond_true, cond_false] at ht ⊢
   refine ⟨(M, tailNP S (i + 1)), rfl, hM, ?_, ht.symm⟩
   rw [← hr2]
   unfold nstP
   dsimp only
   rw [← hn]; rfl
  | true =>
   rw [hm] at ht hn
   simp only [Bool.not_true, cond_true, cond_false] at ht ⊢
   have hl : (tailNP S (i + 1)).length ≤ S.length := by
    unfold tailNP; simp
    have := List.length_filter_le (bAt (maskP S)) (List.range' (i + 1) (S.length - (i + 1)))
    simp at this; omega
   rw [app_ok (by simp; unfold lim; omega), bd_some, hix]
   simp only [bd_some]
   rw [show impl_PcStep_uses x = premP x from rfl, chk_len hp, bd_some]
   rw [forR_fold (X := Empty) (xs := premP x) (F := fun M k => M.set k.toNat true) (s0 := M) (fun _ N => N.length = S.length) hM (fun j k N hk hN => by
    have hkb := hb k (List.mem_of_getElem? hk)
    obtain ⟨y, hy, _⟩ := ix_of (xs := N) hkb.1 (by omega)
    have hput : put N k true = some (N.set k.toNat true) := by
     have := put_ok (xs := N) (i := k.toNat) (x := true) (by omega)
     rwa [show ((k.toNat : Nat) : Int) = k by omega] at this
    simp only [ix_get, hk, bd_some, hy, hput]
    exact ⟨trivial, by simpa using hN⟩), bdR_go]
   refine ⟨(setT M (premP x), tailNP S (i + 1) ++ [(i : Int)]), rfl, ?_, ?_, ht.symm⟩
   · exact (setT_len (ks := premP x) (M := M)).trans hM
   · rw [← hr2]
     unfold nstP
     dsimp only
     rw [← hn]
     simp only [cond_true]
     exact congrArg (remP S i) (setT_set (fun k hk => by have := hb k hk; omega))
theorem forR_inv {α σ X : Type} {xs : List α} {body : Nat → σ → Option (Lp σ X)} (I : Nat → σ → Prop) {s0 : σ} (h0 : I 0 s0) (h : ∀ i x s, xs[i]? = some x → I i s → ∃ s', body i s = some (.nx s') ∧ I (i + 1) s') : ∃ s', forR 0 xs.length body s0 = some (.go s') ∧ I xs.length s' := by
 have key : ∀ (n i : Nat) (s : σ), i + n = xs.length → I i s → ∃ s', forFrom body n i s = some (.go s') ∧ I xs.length s' := by
  intro n
  induction n with
  | zero => intro i s hi hI; rw [Nat.add_zero] at hi; subst hi; exact ⟨s, rfl, hI⟩
  | succ n ih =>
   intro i s hi hI
   obtain ⟨s', e, hI'⟩ := h i xs[i] s (List.getElem?_eq_getElem (by omega)) hI
   unfold forFrom
   rw [e]; exact ih (i + 1) s' (by omega) hI'
 exact key xs.length 0 s0 (by omega) h0
theorem trim_snoc {S : List PcStep} {l : List Nat} {i : Nat} {x : PcStep} (hx : S[i]? = some x) : trimLP S (l ++ [i]) = trimLP S l ++ [trimXP S x] := by
 unfold trimLP
 rw [List.filterMap_append]
 have e : trimAtP S i = some (trimXP S x) := by unfold trimAtP; rw [hx]; rfl
 rw [List.filterMap_cons_some e]; rfl
theorem impl_trim_eq {p : Int} {F : Cnf} {S : List PcStep} (hF : okCnf F) (hS : okPs S) : (bd (PF.impl_algebraOf p F) (fun r750 => bd (bif (!r750.2) then some true else bd r750.1 (fun y786 => bd (PF.impl_algebra_pcDerivation y786 S) (fun r802 => some (!r802)))) (fun t779 => (bif t779 then some (false, []) else bd (β := _) (bd (β := _) (bd (mk2 (false : Bool) (len S) (len S)) (fun xs1840 => bdR (iter (S := ((List Bool) × (List Int) × Int)) (X := Empty) (fun s1850 => (bif (decide (0 ≤ s1850.2.2)) then bd (ix s1850.1 s1850.2.2) (fun x2240 => (bif (bif (!x2240) then (decide (s1850.2.2 < (wr ((len S) - 1)))) else false) then some (Lp.nx (s1850.1, s1850.2.1, (wr (s1850.2.2 - 1)))) else bd (app s1850.2.1 [s1850.2.2]) (fun xs2261 => bd (β := _) (bd (ix S s1850.2.2) (fun x2301 => some (PF.impl_PcStep_uses x2301)) : Option (List Int)) (fun s2290 => bd (chk (len s2290)) (fun m2318 => bdR (forR (S := (List Bool)) (X := Empty) 0 m2318 (fun i2319 s2319 => bd (ix s2290 ((i2319 : Nat) : Int)) (fun x2417 => bd (ix s2319 x2417) (fun x2425 => bd (put s2319 x2417 true) (fun xs2430 => some (Lp.nx xs2430))))) s1850.1) (fun s2319 => some (Lp.nx (s2319, xs2261, (wr (s1850.2.2 - 1))))) (fun x2319 => nomatch x2319)))))) else some (Lp.bk (s1850.1, s1850.2.1, s1850.2.2)))) (xs1840, [], (wr ((len S) - 1)))) (fun s1850 => bd (PF.slices_Reverse_int_int s1850.2.1) (fun r2466 => some r2466)) (fun x1850 => nomatch x1850)) : Option (List Int)) (fun s1835 => bd (chk (len s1835)) (fun m2480 => bdR (forR (S := (List PcStep)) (X := Empty) 0 m2480 (fun i2481 s2481 => bd (ix s1835 ((i2481 : Nat) : Int)) (fun x2665 => bd (ix S x2665) (fun x2673 => bd (PF.slices_Clone_impl_Term_impl_Term x2673.poly) (fun r2684 => (bif (decide (0 < (len (PF.impl_PcStep_uses (PcStep.mk x2673.kind r2684 x2673.a x2673.b x2673.x x2673.y))))) then bd (PF.slices_Index_int_int s1835 x2673.a) (fun r2718 => (bif ((len (PF.impl_PcStep_uses (PcStep.mk x2673.kind r2684 x2673.a x2673.b x2673.x x2673.y))) == 2) then bd (PF.slices_Index_int_int s1835 x2673.b) (fun r2732 => bd (app s2481 [(PcStep.mk x2673.kind r2684 r2718 r2732 x2673.x x2673.y)]) (fun xs2751 => some (Lp.nx xs2751))) else bd (app s2481 [(PcStep.mk x2673.kind r2684 r2718 x2673.b x2673.x x2673.y)]) (fun xs2774 => some (Lp.nx xs2774)))) else bd (app s2481 [(PcStep.mk x2673.kind r2684 x2673.a x2673.b x2673.x x2673.y)]) (fun xs2797 => some (Lp.nx xs2797))))))) []) (fun s2481 => some s2481) (fun x2481 => nomatch x2481))) : Option (List PcStep)) (fun s1417 => some (true, s1417))))) : Option (Bool × (List PcStep))) = some ((trimVP p F S).2, (trimVP p F S).1) := by
 unfold trimVP
 rw [impl_algebraOf_eq hF, bd_some]
 cases ha : algB p F with
 | false => rfl
 | true =>
 simp only [cond_true, Bool.not_true, cond_false, bd_some]
 rw [impl_pcDerivation_eq ha hS, bd_some, bd_some]
 cases hg : pcdB p F S with
 | false => rfl
 | true =>
 have hU := pcd_U (algB_iff ha).1 hg
 have hSl := hU.le
 have hn := need_leP S
 have hl : (needIP S).length ≤ 300 := by rw [needI_lengthP]; omega
 simp only [Bool.not_true, cond_false, Bool.true_and, cond_true]
 have first : (bd (mk2 (false : Bool) (len S) (len S)) (fun xs1840 => bdR (iter (S := ((List Bool) × (List Int) × Int)) (X := Empty) (fun s1850 => (bif (decide (0 ≤ s1850.2.2)) then bd (ix s1850.1 s1850.2.2) (fun x2240 => (bif (bif (!x2240) then (decide (s1850.2.2 < (wr ((len S) - 1)))) else false) then some (Lp.nx (s1850.1, s1850.2.1, (wr (s1850.2.2 - 1)))) else bd (app s1850.2.1 [s1850.2.2]) (fun xs2261 => bd (β := _) (bd (ix S s1850.2.2) (fun x2301 => some (PF.impl_PcStep_uses x2301)) : Option (List Int)) (fun s2290 => bd (chk (len s2290)) (fun m2318 => bdR (forR (S := (List Bool)) (X := Empty) 0 m2318 (fun i2319 s2319 => bd (ix s2290 ((i2319 : Nat) : Int)) (fun x2417 => bd (ix s2319 x2417) (fun x2425 => bd (put s2319 x2417 true) (fun xs2430 => some (Lp.nx xs2430))))) s1850.1) (fun s2319 => some (Lp.nx (s2319, xs2261, (wr (s1850.2.2 - 1))))) (fun x2319 => nomatch x2319)))))) else some (Lp.bk (s1850.1, s1850.2.1, s1850.2.2)))) (xs1840, [], (wr ((len S) - 1)))) (fun s1850 => bd (PF.slices_Reverse_int_int s1850.2.1) (fun r2466 => some r2466)) (fun x1850 => nomatch x1850)) : Option (List Int)) = some (needIP S) := by
  rw [show len S = ((S.length : Nat) : Int) from rfl, mk2_ok (by unfold lim; omega), bd_some]
  refine need_loopP hU fun M => ?_
  show bd (slices_Reverse_int_int (needIP S).reverse) _ = _
  rw [slices_Reverse_eq (by rw [List.length_reverse]; unfold lim; omega), bd_some, List.reverse_reverse]
 refine (congrArg (fun z => bd (bd z _) _) first).trans ?_
 rw [bd_some, chk_lem (by omega), bd_some]
 obtain ⟨s, h1, h2⟩ := forR_inv (X := Empty) (xs := needIP S) (s0 := ([] : List PcStep)) (body := (fun i2481 s2481 => bd (ix (needIP S) ((i2481 : Nat) : Int)) (fun x2665 => bd (ix S x2665) (fun x2673 => bd (PF.slices_Clone_impl_Term_impl_Term x2673.poly) (fun r2684 => (bif (decide (0 < (len (PF.impl_PcStep_uses (PcStep.mk x2673.kind r2684 x2673.a x2673.b x2673.x x2673.y))))) then bd (PF.slices_Index_int_int (needIP S) x2673.a) (fun r2718 => (bif ((len (PF.impl_PcStep_uses (PcStep.mk x2673.kind r2684 x2673.a x2673.b x2673.x x2673.y))) == 2) then bd (PF.slices_Index_int_int (needIP S) x2673.b) (fun r2732 => bd (app s2481 [(PcStep.mk x2673.kind r2684 r2718 r2732 x2673.x x2673.y)]) (fun xs2751 => some (Lp.nx xs2751))) else bd (app s2481 [(PcStep.mk x2673.kind r2684 r2718 x2673.b x2673.x x2673.y)]) (fun xs2774 => some (Lp.nx xs2774)))) else bd (app s2481 [(PcStep.mk x2673.kind r2684 x2673.a x2673.b x2673.x x2673.y)]) (fun xs2797 => some (Lp.nx xs2797))))))))
  (fun j s => s = trimLP S ((needP S).take j)) rfl (fun j k s hj hs => by
   subst hs
   obtain ⟨i, x, g1, rfl, hx, hm⟩ := needI_atP hj
   have hjl := (List.getElem?_eq_some_iff.1 g1).1
   have hmm := List.mem_of_getElem? hx
   have hpl := hU.poly hmm
   have hkd := hU.kind hmm
   have hi := (List.getElem?_eq_some_iff.1 hx).1
   have hlt : ∀ i ∈ (needP S).take j, i < S.length := fun i hi => needTo_ltP (S := S) i (by rw [needTo_allP]; exact List.mem_of_mem_take hi)
   have hix : ∀ k, k ∈ premP x → slices_Index_int_int (needIP S) k = some (posNP S k) := fun k hk => by
    have hb := hU.prem hx k hk
    exact index_needP hb.1 (by omega) (mask_premP hU hx hm k hk)
   have fin : ∀ y, app (trimLP S ((needP S).take j)) [y] = some (trimLP S ((needP S).take j) ++ [y]) := fun y => app_ok (by rw [trimL_lenP hlt]; simp; unfold lim; omega)
   have hcl : slices_Clone_impl_Term_impl_Term x.poly = some x.poly := by unfold slices_Clone_impl_Term_impl_Term; rw [app_ok (by simp; unfold lim; omega)]; rfl
   refine ⟨trimLP S ((needP S).take j) ++ [trimXP S x], ?_, by rw [List.take_add_one, g1]; exact (trim_snoc (l := (needP S).take j) hx).symm⟩
   rw [ix_get, hj, bd_some, ix_get, hx, bd_some, hcl, bd_some]
   clear hcl hpl hmm hx
   obtain ⟨kd, P, a, b, xx, y⟩ := x
   unfold trimXP
   unfold premP at hix
   dsimp only at hkd hix ⊢
   rcases hkd with rfl | rfl | rfl
   · show bd (app _ [PcStep.mk 1 P a b xx y]) _ = _
     rw [fin]; rfl
   · have h1 := hix a (by simp)
     have h2 := hix b (by simp)
     show bd (slices_Index_int_int (needIP S) a) _ = _
     rw [h1, bd_some]
     show bd (slices_Index_int_int (needIP S) b) _ = _
     rw [h2, bd_some, fin]; rfl
   · have h1 := hix a (by simp)
     show bd (slices_Index_int_int (needIP S) a) _ = _
     rw [h1, bd_some]
     show bd (app _ [PcStep.mk 3 P (posNP S a) b xx y]) _ = _
     rw [fin]; rfl)
 refine (congrArg (fun z => bd (bdR z _ _) _) h1).trans ?_
 rw [bdR_go, bd_some, h2, needI_lengthP, List.take_length]
end Go.PF
namespace Go.La
variable {C : Ctx}
structure Fresh (C : Ctx) (iv : Int → Int) (R : List (List Int)) (rest : List Int) : Prop where
 vec : V C.p C.N rest
 nz : co rest (C.ld rest) ≠ 0
 bd : 0 < co rest (C.ld rest) ∧ co rest (C.ld rest) < C.p
 new : New C R (monic C (iv (co rest (C.ld rest))) rest)
 ld : C.ld (monic C (iv (co rest (C.ld rest))) rest) = C.ld rest
end Go.La
namespace Go.PF
open Go.Pu
open Go.La (vadd co V Ctx)
def pc (m : Nat) : Nat := m % 2 + m / 2 % 2 + m / 4 % 2 + m / 8 % 2 + m / 16 % 2 + m / 32 % 2
def ky (m : Nat) : Nat := if m < 64 then pc m * 64 + m else m + 1000
theorem pc_le (m : Nat) : pc m ≤ 6 := by unfold pc; omega
theorem ky_inj {m n : Nat} (h : ky m = ky n) : m = n := by
 have h1 := pc_le m; have h2 := pc_le n
 unfold ky at h
 generalize pc m = x at *; generalize pc n = y at *
 split at h <;> split at h <;> omega
def best (a : List Int) : Nat → Option Nat
 | 0 => none
 | n + 1 => if co a n = 0 then best a n else match best a n with
  | none => some n
  | some m => if ky m < ky n then some n else some m
def bst (a : List Int) : Option Nat := best a a.length
def bstT (o : Option Nat) (t : Term) : Option Nat := match o with
 | none => some t.mono.toNat
 | some m => if ky m < ky t.mono.toNat then some t.mono.toNat else some m
theorem co_app {a : List Int} {x : Int} {b : List Int} : co (a ++ x :: b) a.length = x := by unfold co; simp
theorem best_sp (b : List Int) : ∀ (a : List Int), (spF a.length b).foldl bstT (best (a ++ b) a.length) = best (a ++ b) (a ++ b).length := by
 induction b with
 | nil => intro a; simp [spF]
 | cons x b ih =>
  intro a
  have h1 := ih (a ++ [x])
  simp only [List.append_assoc, List.singleton_append, List.length_append, List.length_singleton] at h1
  have h2 : best (a ++ x :: b) (a.length + 1) = bif x == 0 then best (a ++ x :: b) a.length else bstT (best (a ++ x :: b) a.length) ⟨((a.length : Nat) : Int), x⟩ := by
   conv => lhs; unfold best
   rw [co_app]
   by_cases h0 : x = 0
   · rw [if_pos h0, h0]; rfl
   · rw [if_neg h0, show (x == 0) = false by simp [h0]]
     unfold bstT
     simp only [cond_false, Int.toNat_natCast]
  rw [h2] at h1
  unfold spF
  cases hx : x == 0 with
  | true =>
   rw [hx] at h1
   simp only [cond_true] at h1 ⊢
   rw [h1]; simp
  | false =>
   rw [hx] at h1
   simp only [cond_false, List.foldl_cons] at h1 ⊢
   rw [h1]; simp
theorem bst_sp (a : List Int) : (sp a).foldl bstT none = bst a := by
 have := best_sp a []
 simpa [best, sp, bst] using this
def dgI (a : List Int) : Int := match bst a with | none => -1 | some m => ((pc m : Nat) : Int)
theorem ky_lt {m n : Nat} (hm : m < 64) (hn : n < 64) : ky m < ky n ↔ pc m < pc n ∨ (pc m = pc n ∧ m < n) := by
 unfold ky
 rw [if_pos hm, if_pos hn]
 generalize pc m = x; generalize pc n = y
 omega
end Go.PF
namespace Go.PF
open Go.Pu
open Go.La (vadd co V Ctx)
theorem pc_half (m : Nat) (h : m < 64) : pc m = m % 2 + pc (m / 2) := by unfold pc; omega
theorem l14_iter {body : Int × Int → Option (Lp (Int × Int) Empty)} (hb : ∀ s, body s = bif decide (0 < s.1) then some (.nx (wr (s.1.tdiv 2), wr (s.2 + s.1.tmod 2))) else some (.bk (s.1, s.2))) :
 ∀ (n m c : Nat), n ≤ 6 → m < 2 ^ n → c + n ≤ 100 → iter body (((m : Nat) : Int), ((c : Nat) : Int)) = some (.go (0, ((c + pc m : Nat) : Int))) := by
 intro n
 induction n with
 | zero =>
  intro m c _ hm _
  have e : m = 0 := by simpa using hm
  subst e
  refine iter_bk ?_
  rw [hb]; rfl
 | succ n ih =>
  intro m c hn hm hc
  by_cases h0 : m = 0
  · subst h0
    refine iter_bk ?_
    rw [hb]; rfl
  · have h64 : m < 64 := Nat.lt_of_lt_of_le hm (Nat.pow_le_pow_right (by omega) (show n + 1 ≤ 6 by omega))
    have h2 : m / 2 < 2 ^ n := by rw [Nat.pow_succ] at hm; omega
    have e1 : wr (((m : Nat) : Int).tdiv 2) = ((m / 2 : Nat) : Int) := by
     have : ((m : Nat) : Int).tdiv 2 = ((m / 2 : Nat) : Int) := by rw [Int.tdiv_eq_ediv_of_nonneg (by omega)]; omega
     rw [this]; exact wr_of _ (by omega) (by omega)
    have e2 : wr (((c : Nat) : Int) + ((m : Nat) : Int).tmod 2) = ((c + m % 2 : Nat) : Int) := by
     have : ((m : Nat) : Int).tmod 2 = ((m % 2 : Nat) : Int) := by rw [Int.tmod_eq_emod_of_nonneg (by omega)]; omega
     rw [this]; rw [wr_of _ (by omega) (by omega)]; omega
    rw [iter_nx (s' := (((m / 2 : Nat) : Int), ((c + m % 2 : Nat) : Int))) (by rw [hb, show decide (0 < (((m : Nat) : Int), ((c : Nat) : Int)).1) = true by simp; omega, cond_true, e1, e2])]
    rw [ih (m / 2) (c + m % 2) (by omega) h2 (by omega), pc_half m h64]
    rw [Nat.add_assoc]
theorem spec_l14Count_eq {m : Nat} (h : m < 64) : spec_l14Count ((m : Nat) : Int) = some ((pc m : Nat) : Int) := by
 unfold spec_l14Count
 have := l14_iter (body := (fun s21 => (bif (decide (0 < s21.1)) then some (Lp.nx ((wr (s21.1.tdiv 2)), (wr (s21.2 + (s21.1.tmod 2))))) else some (Lp.bk (s21.1, s21.2))))) (fun _ => rfl) 6 m 0 (Nat.le_refl _) h (by omega)
 rw [show (((0 : Nat) : Int)) = 0 from rfl] at this
 rw [this, bdR_go]; simp
theorem deg_tab : (List.range 64).all (fun m => impl_degreeOf ((m : Nat) : Int) == ((pc m : Nat) : Int)) = true := by decide +kernel
theorem impl_degreeOf_eq {m : Nat} (h : m < 64) : impl_degreeOf ((m : Nat) : Int) = ((pc m : Nat) : Int) := by
 have := (List.all_eq_true.1 deg_tab) m (by simpa using h)
 simpa using this
theorem sp_T64 {a : List Int} (h : a.length ≤ 64) : ∀ t ∈ sp a, ∃ j : Nat, j < 64 ∧ t.mono = ((j : Nat) : Int) := fun t ht => by
 obtain ⟨j, h1, h2, _⟩ := mem_sp ht
 exact ⟨j, by omega, h2⟩
theorem co_loop {S : Type} {f : Nat → Int → S → Option (Lp S Empty)} {g : S → Term → S} (I : S → Prop) {a : List Int} (ha : a.length ≤ 64) {s : S} (h0 : I s)
 (hf : ∀ (i : Nat) (y : Int) (s : S), i < 64 → I s → f i y s = (bif !(y == 0) then some (.nx (g s ⟨((i : Nat) : Int), y⟩)) else some (.nx s)) ∧ (y ≠ 0 → I (g s ⟨((i : Nat) : Int), y⟩))) : forL a f s = some (.go ((sp a).foldl g s)) := by
 have key : ∀ (b : List Int) (i : Nat) (s : S), i + b.length ≤ 64 → I s → forLFrom f b i s = some (.go ((spF i b).foldl g s)) := by
  intro b
  induction b with
  | nil => intro i s _ _; rfl
  | cons y b ih =>
   intro i s hi hs
   simp only [List.length_cons] at hi
   obtain ⟨h1, h2⟩ := hf i y s (by omega) hs
   unfold spF
   cases hy : y == 0 with
   | true =>
    rw [forLFrom_nx (s' := s) (by rw [h1, hy]; rfl)]
    exact ih (i + 1) s (by omega) hs
   | false =>
    rw [forLFrom_nx (s' := g s ⟨((i : Nat) : Int), y⟩) (by rw [h1, hy]; rfl), cond_false, List.foldl_cons]
    exact ih (i + 1) _ (by omega) (h2 (by simpa using hy))
 exact key a 0 s (by omega) h0
def ldO (o : Option Nat) : Int := match o with | none => -1 | some m => ((m : Nat) : Int)
def dgO (o : Option Nat) : Int := match o with | none => -1 | some m => ((pc m : Nat) : Int)
def stD (s : Int) (t : Term) : Int := mx s ((pc t.mono.toNat : Nat) : Int)
theorem ky_mono {m n : Nat} (hm : m < 64) (hn : n < 64) (h : ky m < ky n) : pc m ≤ pc n := by have := (ky_lt hm hn).1 h; omega
theorem stD_dgO {o : Option Nat} (ho : ∀ m, o = some m → m < 64) {t : Term} (h : ∃ j : Nat, j < 64 ∧ t.mono = ((j : Nat) : Int)) : stD (dgO o) t = dgO (bstT o t) ∧ (∀ m, bstT o t = some m → m < 64) := by
 obtain ⟨j, h1, h2⟩ := h
 unfold stD bstT dgO mx
 cases o with
 | none =>
  simp only [h2, Int.toNat_natCast]
  refine ⟨if_pos (by omega), fun m e => by cases e; exact h1⟩
 | some m =>
  have hm := ho m rfl
  simp only [h2, Int.toNat_natCast]
  by_cases hk : ky m < ky j
  · have := ky_mono hm h1 hk
    rw [if_pos hk]
    refine ⟨?_, fun k e => by cases e; exact h1⟩
    split <;> simp only <;> omega
  · rw [if_neg hk]
    have : pc j ≤ pc m := by
     by_cases he : ky m = ky j
     · rw [ky_inj he]; exact Nat.le_refl _
     · exact ky_mono h1 hm (by omega)
    refine ⟨?_, fun k e => by cases e; exact hm⟩
    split <;> simp only <;> omega
theorem stD_fold : ∀ {l : List Term} {o : Option Nat}, (∀ m, o = some m → m < 64) → (∀ t ∈ l, ∃ j : Nat, j < 64 ∧ t.mono = ((j : Nat) : Int)) → l.foldl stD (dgO o) = dgO (l.foldl bstT o)
 | [], _, _, _ => rfl
 | t :: l, o, ho, h => by
  obtain ⟨h1, h2⟩ := stD_dgO ho (h t (by simp))
  rw [List.foldl_cons, List.foldl_cons, h1]
  exact stD_fold h2 fun t ht => h t (by simp [ht])
theorem fold_dg {a : List Int} (ha : a.length ≤ 64) : (sp a).foldl stD (-1) = dgI a := by
 have := stD_fold (o := none) nofun (sp_T64 ha)
 rw [bst_sp] at this
 exact this
theorem impl_dense_degree_eq {a : List Int} (ha : a.length ≤ 64) : impl_dense_degree a = some (dgI a) := by
 unfold impl_dense_degree
 rw [co_loop (g := stD) (fun _ => True) ha trivial (fun i y s hi _ => by
  refine ⟨?_, fun _ => trivial⟩
  rw [impl_degreeOf_eq hi]
  unfold stD
  simp only [Int.toNat_natCast]), bdR_go, fold_dg ha]
theorem spec_l18Degree_eq {a : List Int} (ha : a.length ≤ 64) : spec_l18Degree (sp a) = some (dgI a) := by
 unfold spec_l18Degree
 rw [forL_fold stD (fun i t s ht => by
  obtain ⟨j, h1, h2⟩ := sp_T64 ha t (List.mem_of_getElem? ht)
  rw [h2, spec_l14Count_eq h1, bd_some]
  unfold spec_l1Most stD mx
  rw [h2]
  simp only [Int.toNat_natCast]
  by_cases hlt : ((pc j : Nat) : Int) < s
  · rw [if_neg (by omega), show decide (((pc j : Nat) : Int) < s) = true by simpa using hlt]; rfl
  · rw [show decide (((pc j : Nat) : Int) < s) = false by simpa using hlt]
    by_cases h3 : ((pc j : Nat) : Int) > s
    · rw [if_pos h3]; rfl
    · rw [if_neg h3, show s = ((pc j : Nat) : Int) by omega]; rfl), bdR_go, fold_dg ha]
def iv (p c : Int) : Int := bif c == 1 then 1 else bif p == 3 then 2 else bif c == 2 then 3 else bif c == 3 then 2 else 4
end Go.PF
namespace Go.PF
open Go.Pu
theorem dnT_of {p v : Int} {A : List Term} (h : ∃ a, Dn p (nN v) a ∧ sp a = A) : Dn p (nN v) (dnT p v A) ∧ sp (dnT p v A) = A := by
 unfold dnT
 rw [dif_pos h]
 exact h.choose_spec
noncomputable def dgS (p v : Int) (s : Int) (y : PcStep) : Int := mx s (dgI (dnT p v y.poly))
theorem most_mx (a b : Int) : spec_l1Most a b = mx a b := by
 unfold spec_l1Most mx
 by_cases h : b < a
 · rw [if_neg (by omega), show decide (b < a) = true by simpa using h]; rfl
 · rw [show decide (b < a) = false by simpa using h]
   by_cases h2 : b > a
   · rw [if_pos h2]; rfl
   · rw [if_neg h2, show a = b by omega]; rfl
theorem dn64 {p v : Int} (h : PV p v) {a : List Int} (ha : Dn p (nN v) a) : a.length ≤ 64 := by rw [ha.len]; exact (nN_le h.v6).2
end Go.PF
namespace Go.PF
open Go.Pu Go.La
theorem impl_value_eq {p v : Int} (h : PV p v) {n : Nat} (hn : n < 9223372036854775808) {a : List Int} (ha : Dn p (nN v) a) : impl_ring_value ⟨p, v⟩ a (n : Int) = some ((ev n a).tmod p) := by
 have hN := nN_le h.v6; have hp := h.pos
 have hl := ha.len
 unfold impl_ring_value
 have := loop_l (X := Empty) (B := Int) (xs := a) (s0 := (0 : Int)) (k := fun s30 => bd (nz (ring.mk p v).p) (fun u76 => some (s30.tmod (ring.mk p v).p))) (lx := fun x30 => nomatch x30) (R := fun r => r = (ev n a).tmod p) (body := fun i30 y29 s30 => (bif ((andK true 64 ((i30 : Nat) : Int) (n : Int)) == ((i30 : Nat) : Int)) then some (Lp.nx (wr (s30 + y29))) else some (Lp.nx s30)))
  (fun i s => s + evF n i (a.drop i) = ev n a ∧ 0 ≤ s ∧ s ≤ 5 * i) ⟨by rw [List.drop_zero, Int.zero_add]; rfl, by omega, by omega⟩ (fun i x s hx hI => by
   obtain ⟨hi, he⟩ := List.getElem?_eq_some_iff.1 hx
   have hb := ha.bd x (List.mem_of_getElem? hx)
   obtain ⟨h1, h2, h3⟩ := hI
   have hd : a.drop i = x :: a.drop (i + 1) := by rw [List.drop_eq_getElem_cons hi, he]
   rw [hd] at h1
   have h1' : s + ((bif sb i n then x else 0) + evF n (i + 1) (a.drop (i + 1))) = ev n a := h1
   rw [andK_nat (by omega) hn]
   have hs : (((i &&& n : Nat) : Int) == ((i : Nat) : Int)) = sb i n := by
    unfold sb
    rw [Bool.eq_iff_iff, beq_iff_eq, beq_iff_eq]
    exact Int.ofNat_inj
   rw [hs]
   cases hsb : sb i n with
   | true =>
    rw [hsb] at h1'
    simp only [cond_true] at h1' ⊢
    rw [wr_of _ (by omega) (by omega)]
    exact ⟨_, rfl, by omega, by omega, by omega⟩
   | false =>
    rw [hsb] at h1'
    simp only [cond_false] at h1' ⊢
    exact ⟨_, rfl, by omega, by omega, by omega⟩) (fun s hs => by
   have h1 := hs.1
   rw [List.drop_length] at h1
   have : s = ev n a := by rw [← h1]; show s = s + 0; omega
   subst this
   exact ⟨_, by rw [nz_ok (by show p ≠ 0; omega), bd_some], rfl⟩)
 obtain ⟨r, e, rfl⟩ := this
 exact e
theorem cg_zero {p x : Int} (h : cg p x 0) : x.tmod p = 0 := by
 obtain ⟨k, hk⟩ := h
 have : x = p * k := by omega
 subst this
 exact Int.mul_tmod_right ..
theorem clD_lits {v : Int} {c : List Int} (h : IsC v c) : ∀ l ∈ c, l ≠ 0 ∧ -v ≤ l ∧ l ≤ v := fun l hl => by have := h.lit l hl; omega
theorem dn_sp {p v : Int} (h : PV p v) {a : List Int} (ha : Dn p (nN v) a) : dnT p v (sp a) = a := by
 obtain ⟨d1, d2⟩ := dnT_of (p := p) (v := v) (A := sp a) ⟨a, ha, rfl⟩
 exact sp_inj h d1 ha d2
open Classical in
theorem pc_sound {p : Int} {F : Cnf} {S : List PcStep} (ha : algB p F = true) (hd : pcdB p F S = true) {n : Nat} (hm : modB F.clauses n = true) : ∀ (i : Nat) (s : PcStep), S[i]? = some s → polyB p F.vars s.poly = true ∧ cg p (ev n (dnT p F.vars s.poly)) 0 := by
 obtain ⟨hP, hF⟩ := algB_iff ha
 have hp := hP.pos
 intro i
 induction i using Nat.strongRecOn with
 | ind i ih =>
  intro s hs
  have h3 := (pcd_at hd).2 i s hs
  have hi := (List.getElem?_eq_some_iff.1 hs).1
  unfold pcB at h3
  rw [Bool.and_eq_true] at h3
  refine ⟨h3.1, ?_⟩
  have h4 := h3.2
  have pre : ∀ k, preB p F.vars S i k = true → Dn p (nN F.vars) (dnT p F.vars (pAt S k)) ∧ cg p (ev n (dnT p F.vars (pAt S k))) 0 := fun k hk => by
   have hk0 := hk
   unfold preB at hk
   rw [Bool.and_eq_true] at hk
   have hb := inB_iff.1 hk.1
   obtain ⟨y, hy, hg⟩ := ix_of (xs := S) (i := k) (by omega) (by omega)
   refine ⟨(dnT_ok hP hk.2).1, ?_⟩
   have := (ih k.toNat (by omega) y hg).2
   unfold pAt
   rw [hg]
   exact this
  cases e1 : s.kind == 1 with
  | true =>
   rw [e1] at h4
   simp only [cond_true, Bool.and_eq_true] at h4
   obtain ⟨c, c1, c2, c3⟩ := cnf_at hF h4.1.1
   have e := of_decide_eq_true h4.2
   rw [c2] at e
   rw [e]
   have hD := clD_Dn (N := nN F.vars) hp.1 c
   show cg p (ev n (dnT p F.vars (sp (clD p (nN F.vars) c)))) 0
   rw [dn_sp hP hD]
   have := ev_cl hP (n := n) (clD_lits c3)
   rw [modB_iff.1 hm c (List.mem_of_getElem? c2)] at this
   exact this
  | false =>
  rw [e1] at h4
  cases e2 : s.kind == 2 with
  | true =>
   rw [e2] at h4
   simp only [cond_false, cond_true, Bool.and_eq_true] at h4
   obtain ⟨d1, z1⟩ := pre _ h4.1.1
   obtain ⟨d2, z2⟩ := pre _ h4.1.2.1
   rw [of_decide_eq_true h4.2, dn_sp hP (sumD_Dn hp.1 d1 d2)]
   unfold sumD
   have q0 := zs_Dn (N := nN F.vars) hp.1
   have q1 := ev_vadd (p := p) (k := s.x) (n := n) (a := zs (nN F.vars)) (b := dnT p F.vars (pAt S s.a)) (by rw [q0.len, d1.len])
   have q2 := ev_vadd (p := p) (k := s.y) (n := n) (a := vadd p s.x (zs (nN F.vars)) (dnT p F.vars (pAt S s.a))) (b := dnT p F.vars (pAt S s.b)) (by rw [(vadd_Dn hp.1 q0.len d1.len).len, d2.len])
   rw [ev_zs] at q1
   obtain ⟨u1, hu1⟩ := q1; obtain ⟨u2, hu2⟩ := q2; obtain ⟨u3, hu3⟩ := z1; obtain ⟨u4, hu4⟩ := z2
   exact ⟨u2 + u1 + s.x * u3 + s.y * u4, by grind⟩
  | false =>
  rw [e2] at h4
  cases e3 : s.kind == 3 with
  | false => rw [e3] at h4; cases h4
  | true =>
   rw [e3] at h4
   simp only [cond_false, cond_true, Bool.and_eq_true] at h4
   obtain ⟨d1, z1⟩ := pre _ h4.1.1
   have d2 := litD_Dn (N := nN F.vars) hp.1 s.x
   rw [of_decide_eq_true h4.2, dn_sp hP (mulT_Dn hp.1 _ _)]
   have q1 := ev_mul hP (n := n) d1 d2
   obtain ⟨u1, hu1⟩ := q1; obtain ⟨u3, hu3⟩ := z1
   exact ⟨u1 + u3 * ev n (litD p (nN F.vars) s.x), by grind⟩
theorem sp_zs {N : Nat} : sp (zs N) = [] := spF_zero
theorem impl_polys_eq {p v : Int} (h : PV p v) {A : List Term} (hA : polyB p v A = true) : impl_polys p v [A, []] = some (⟨p, v⟩, [dnT p v A, zs (nN v)], true) := by
 have hN := nN_le h.v6
 have hz := zs_Dn (N := nN v) h.pos.1
 obtain ⟨d1, d2⟩ := dnT_ok h hA
 have hl := (sp_okP h d1).1
 rw [d2] at hl
 have a1 : impl_ring_is ⟨p, v⟩ A = some true := by rw [impl_ring_is_eq h (by omega), hA]
 have a2 : impl_ring_dense ⟨p, v⟩ A = some (dnT p v A) := by have := impl_ring_dense_eq h d1; rwa [d2] at this
 have z1 : impl_ring_is ⟨p, v⟩ [] = some true := by rw [impl_ring_is_eq h (by simp)]; rfl
 have z2 : impl_ring_dense ⟨p, v⟩ [] = some (zs (nN v)) := by have := impl_ring_dense_eq h hz; rwa [sp_zs] at this
 unfold impl_polys
 rw [impl_ringOf_eq, pvB_iff.2 h]
 simp only [Bool.not_true, cond_false]
 unfold forL forLFrom forLFrom forLFrom
 simp only [a1, a2, z1, z2, bd_some, Bool.not_true, cond_false]
 rw [app_ok (by simp; unfold lim; omega)]
 simp only [bd_some]
 rw [app_ok (by simp; unfold lim; omega)]
 rfl
theorem same_zero {p : Int} {F : Cnf} (ha : algB p F = true) {A : List Term} (hA : polyB p F.vars A = true) (hm : ∀ n, modB F.clauses n = true → cg p (ev n (dnT p F.vars A)) 0) : impl_AreSameOn p F A [] = some (true, true) := by
 obtain ⟨hP, hF⟩ := algB_iff ha
 have hC := cnfB_isC hF; have hN := cnfB_len hF; have hv := cnfB_rng hF
 have hok : okCnf F := ⟨by unfold okI; omega, ⟨by omega, fun c h => (hC c h).ok⟩⟩
 obtain ⟨hs, hp, hnn, hck⟩ := shl_vars hF
 have hD := (dnT_ok hP hA).1
 have hz := zs_Dn (N := nN F.vars) hP.pos.1
 unfold impl_AreSameOn
 rw [impl_IsCnf_eq hok, bd_some, hF]
 simp only [Bool.not_true, cond_false]
 rw [impl_polys_eq hP hA, bd_some]
 simp only [Bool.not_true, cond_false]
 rw [hnn, bd_some, hck, bd_some]
 have := forR_inv (X := Bool) (xs := List.range (2 ^ F.vars.toNat)) (s0 := true) (body := fun i192235 s192235 => bd (PF.impl_isModel F.clauses ((i192235 : Nat) : Int)) (fun r384347 => bd (bif r384347 then bd (β := _) (bd (ix [dnT p F.vars A, zs (nN F.vars)] 0) (fun x537386 => bd (PF.impl_ring_value ⟨p, F.vars⟩ x537386 ((i192235 : Nat) : Int)) (fun r546380 => bd (ix [dnT p F.vars A, zs (nN F.vars)] 1) (fun x555386 => bd (PF.impl_ring_value ⟨p, F.vars⟩ x555386 ((i192235 : Nat) : Int)) (fun r564380 => some ((r546380 == r564380), (r546380 == r564380)))))) : Option (Bool × Bool)) (fun s528379 => some (s528379.1, (!s528379.2))) else some (s192235, false)) (fun t480371 => (bif t480371.2 then some (Lp.rt t480371.1) else some (Lp.nx t480371.1)))))
  (fun _ s => s = true) rfl (fun i x s hx hI => by
   subst hI
   have hi : i < 2 ^ F.vars.toNat := by have := (List.getElem?_eq_some_iff.1 hx).1; simpa using this
   rw [impl_isModel_eq hC (by omega), bd_some]
   cases hmi : modB F.clauses i with
   | false => exact ⟨true, rfl, rfl⟩
   | true =>
    have e1 : ix [dnT p F.vars A, zs (nN F.vars)] 0 = some (dnT p F.vars A) := rfl
    have e2 : ix [dnT p F.vars A, zs (nN F.vars)] 1 = some (zs (nN F.vars)) := rfl
    simp only [cond_true]
    rw [e1, bd_some, impl_value_eq hP (by omega) hD, bd_some, e2, bd_some, impl_value_eq hP (by omega) hz, cg_zero (hm i hmi), ev_zs, Int.zero_tmod]
    exact ⟨true, rfl, rfl⟩)
 obtain ⟨s, e, rfl⟩ := this
 rw [List.length_range] at e
 refine (congrArg (fun z => bd (bdR z _ _) _) e).trans rfl
end Go.PF
namespace Go.PF
open Go.Pu Go.La
theorem trim_at {S : List PcStep} {i : Nat} {x : PcStep} (hx : S[i]? = some x) (hm : bAt (maskP S) i = true) : (trimLP S (needP S))[(needToP S i).length]? = some (trimXP S x) := by
 have hi := (List.getElem?_eq_some_iff.1 hx).1
 obtain ⟨r, hr⟩ := need_splitP hi hm
 have hlt : ∀ j ∈ needToP S i, j < S.length := fun j hj => by have := needTo_ltP j hj; omega
 have e : trimLP S (needP S) = trimLP S (needToP S i) ++ trimXP S x :: trimLP S r := by
  rw [hr]
  unfold trimLP
  rw [List.filterMap_append, List.filterMap_cons_some (b := trimXP S x) (by unfold trimAtP; rw [hx]; rfl)]
 rw [e, List.getElem?_append_right (by rw [trimL_lenP hlt]; omega), trimL_lenP hlt, Nat.sub_self]
 rfl
theorem trim_of {S : List PcStep} {j : Nat} {y : PcStep} (hy : (trimLP S (needP S))[j]? = some y) : ∃ (i : Nat) (x : PcStep), S[i]? = some x ∧ bAt (maskP S) i = true ∧ y = trimXP S x ∧ j = (needToP S i).length := by
 have hlt : ∀ i ∈ needP S, i < S.length := fun i hi => needTo_ltP (S := S) i hi
 have hj := (List.getElem?_eq_some_iff.1 hy).1
 rw [trimL_lenP hlt] at hj
 have hmem := List.getElem_mem hj
 have hi := hlt _ hmem
 generalize he : (needP S)[j] = i at *
 have hm : bAt (maskP S) i = true := by
  have h2 := hmem
  unfold needP at h2
  exact (List.mem_filter.1 h2).2
 obtain ⟨r, hr⟩ := need_splitP hi hm
 have hnd : (needP S).Nodup := by unfold needP; exact List.nodup_range.filter _
 have e1 : (needP S)[j]? = (needP S)[(needToP S i).length]? := by
  rw [List.getElem?_eq_getElem hj, he, hr, List.getElem?_append_right (Nat.le_refl _), Nat.sub_self]; rfl
 have hjj := (List.getElem?_inj hj hnd).1 e1
 have := trim_at (List.getElem?_eq_getElem hi) hm
 rw [← hjj, hy] at this
 exact ⟨i, S[i], List.getElem?_eq_getElem hi, hm, Option.some.inj this, hjj⟩
theorem trimX_poly (S : List PcStep) (x : PcStep) : (trimXP S x).poly = x.poly := by
 unfold trimXP; cases x.kind == 2 <;> cases x.kind == 3 <;> rfl
theorem trimX_kind (S : List PcStep) (x : PcStep) : (trimXP S x).kind = x.kind := by
 unfold trimXP; cases x.kind == 2 <;> cases x.kind == 3 <;> rfl
theorem needTo_mono {S : List PcStep} {k i : Nat} (h : k < i) (hm : bAt (maskP S) k = true) : (needToP S k).length < (needToP S i).length := by
 have key : ∀ d, (needToP S (k + 1)).length ≤ (needToP S (k + 1 + d)).length := by
  intro d
  induction d with
  | zero => exact Nat.le_refl _
  | succ d ih =>
   rw [show k + 1 + (d + 1) = (k + 1 + d) + 1 by omega, needTo_succP S (k + 1 + d)]
   cases bAt (maskP S) (k + 1 + d)
   · exact ih
   · rw [cond_true, List.length_append]; omega
 have h1 := key (i - (k + 1))
 rw [show k + 1 + (i - (k + 1)) = i by omega, needTo_succP, hm] at h1
 simp at h1
 omega
open Classical in
theorem trim_right {p : Int} {F : Cnf} {S : List PcStep} (hP : PV p F.vars) (hd : pcdB p F S = true) : pcdB p F (trimLP S (needP S)) = true := by
 have hU := pcd_U hP hd
 have hlt : ∀ i ∈ needP S, i < S.length := fun i hi => needTo_ltP (S := S) i hi
 have hle := need_leP S
 have hU1 := hU.le
 unfold pcdB
 rw [Bool.and_eq_true]
 refine ⟨decide_eq_true (by rw [len_eq, trimL_lenP hlt]; omega), ?_⟩
 rw [Bool.not_eq_true', anyI_false]
 intro j y hy
 rw [Nat.zero_add]
 obtain ⟨i, x, hx, hm, rfl, rfl⟩ := trim_of hy
 have hr := (pcd_at hd).2 i x hx
 -- the places told
 have pos : ∀ k, k ∈ premP x → pAt (trimLP S (needP S)) (posNP S k) = pAt S k ∧ (preB p F.vars S i k = true → preB p F.vars (trimLP S (needP S)) (needToP S i).length (posNP S k) = true) := fun k hk => by
  have hb := hU.prem hx k hk
  have hmk := mask_premP hU hx hm k hk
  have hi := (List.getElem?_eq_some_iff.1 hx).1
  have hkx := List.getElem?_eq_getElem (l := S) (i := k.toNat) (by omega)
  have ht := trim_at hkx hmk
  have hpos : (posNP S k).toNat = (needToP S k.toNat).length := by unfold posNP; simp
  have e : pAt (trimLP S (needP S)) (posNP S k) = pAt S k := by
   unfold pAt
   rw [hpos, ht, hkx]
   exact trimX_poly S _
  refine ⟨e, fun hp => ?_⟩
  unfold preB at hp ⊢
  rw [Bool.and_eq_true] at hp ⊢
  refine ⟨inB_iff.2 ?_, by rw [e]; exact hp.2⟩
  have := needTo_mono (k := k.toNat) (i := i) (by omega) hmk
  unfold posNP
  omega
 rw [Bool.not_eq_false']
 unfold pcB at hr ⊢
 rw [trimX_poly, trimX_kind]
 rw [Bool.and_eq_true] at hr ⊢
 refine ⟨hr.1, ?_⟩
 have h4 := hr.2
 have hk := hU.kind (List.mem_of_getElem? hx)
 clear hr hy hx
 obtain ⟨kd, P, a, b, xx, yy⟩ := x
 dsimp only at hk h4 pos ⊢
 rcases hk with rfl | rfl | rfl
 · exact h4
 · have pa := pos a (by simp [premP])
   have pb := pos b (by simp [premP])
   have h5 : ((preB p F.vars S i a && (preB p F.vars S i b && (inB xx 0 (p - 1) && inB yy 0 (p - 1)))) && decide (P = sp (sumD p (nN F.vars) (dnT p F.vars (pAt S a)) xx (dnT p F.vars (pAt S b)) yy))) = true := h4
   show ((preB p F.vars _ _ (posNP S a) && (preB p F.vars _ _ (posNP S b) && (inB xx 0 (p - 1) && inB yy 0 (p - 1)))) && decide (P = sp (sumD p (nN F.vars) (dnT p F.vars (pAt _ (posNP S a))) xx (dnT p F.vars (pAt _ (posNP S b))) yy))) = true
   rw [pa.1, pb.1]
   simp only [Bool.and_eq_true] at h5 ⊢
   exact ⟨⟨pa.2 h5.1.1, pb.2 h5.1.2.1, h5.1.2.2⟩, h5.2⟩
 · have pa := pos a (by simp [premP])
   have h5 : ((preB p F.vars S i a && (b == 0 && (inB xx 1 F.vars && yy == 0))) && decide (P = sp (mulT p (nN F.vars) (sp (dnT p F.vars (pAt S a))) (sp (litD p (nN F.vars) xx))))) = true := h4
   show ((preB p F.vars _ _ (posNP S a) && (b == 0 && (inB xx 1 F.vars && yy == 0))) && decide (P = sp (mulT p (nN F.vars) (sp (dnT p F.vars (pAt _ (posNP S a)))) (sp (litD p (nN F.vars) xx))))) = true
   rw [pa.1]
   simp only [Bool.and_eq_true] at h5 ⊢
   exact ⟨⟨pa.2 h5.1.1, h5.1.2⟩, h5.2⟩
theorem mask_last {S : List PcStep} (hU : IsU S) (h : 0 < S.length) : bAt (maskP S) (S.length - 1) = true := by
 unfold maskP bAt
 rw [rem_outP hU (Nat.le_refl _) (by omega), List.getElem?_set_self (by simp; omega)]
 rfl
theorem trim_last {S : List PcStep} (hU : IsU S) (h : 0 < S.length) : ∃ x y, S[S.length - 1]? = some x ∧ 0 < (trimLP S (needP S)).length ∧ (trimLP S (needP S)).length ≤ S.length ∧ (trimLP S (needP S))[(trimLP S (needP S)).length - 1]? = some y ∧ y.poly = x.poly := by
 have hlt : ∀ i ∈ needP S, i < S.length := fun i hi => needTo_ltP (S := S) i hi
 have hle := need_leP S
 have hm := mask_last hU h
 have hx := List.getElem?_eq_getElem (l := S) (i := S.length - 1) (by omega)
 have ht := trim_at hx hm
 have hn : (needP S).length = (needToP S (S.length - 1)).length + 1 := by
  have := needTo_succP S (S.length - 1)
  rw [show S.length - 1 + 1 = S.length by omega, hm] at this
  rw [← needTo_allP, this]; simp
 refine ⟨_, _, hx, by rw [trimL_lenP hlt]; omega, by rw [trimL_lenP hlt]; omega, by rw [trimL_lenP hlt, hn, Nat.add_sub_cancel]; exact ht, trimX_poly S _⟩
theorem refuted {p : Int} {F : Cnf} {S : List PcStep} (ha : algB p F = true) (hd : pcdB p F S = true) {i : Nat} {s : PcStep} (hs : S[i]? = some s) (h1 : s.poly = [Term.mk 0 1]) : satB F.vars.toNat F.clauses = false := by
 obtain ⟨hP, hF⟩ := algB_iff ha
 have hN := nN_le hP.v6; have hp := hP.pos
 rw [Bool.eq_false_iff]
 intro h
 unfold satB at h
 obtain ⟨n, _, hm⟩ := List.any_eq_true.1 h
 have := (pc_sound ha hd hm i s hs).2
 have e : sp (eD (nN F.vars) 0) = [Term.mk 0 1] := sp_eD (by omega)
 rw [h1, ← e, dn_sp hP (eD_Dn hp.1), ev_eD (by omega), sb_zero] at this
 obtain ⟨k, hk⟩ := this
 have hk2 : p * k = 1 := by simp at hk; omega
 have h3 : p ∣ 1 := ⟨k, hk2.symm⟩
 have := Int.le_of_dvd (by decide) h3
 omega
end Go.PF
namespace Go.PF
open Go.Pu Go.La
noncomputable def wrongV (p : Int) (F : Cnf) (S : List PcStep) : Int := match findI (fun i s => !pcB p F S i s) S 0 with | none => -1 | some z => (z.1 : Int)
theorem spec_wrong_eq {p : Int} {F : Cnf} (h : PV p F.vars) (hF : cnfB F = true) {S : List PcStep} (hS : okPs S) : spec_l20Wrong p F S = some (wrongV p F S) := by
 unfold spec_l20Wrong wrongV
 rw [forL_find (p := fun i s => !pcB p F S i s) (v := fun i _ => (i : Int)) (fun i y hy => by rw [spec_l20Correct_eq h hF hS hy, bd_some])]
 cases findI (fun i s => !pcB p F S i s) S 0 <;> rfl
theorem impl_wrong_eq {p : Int} {F : Cnf} (h : PV p F.vars) (hF : cnfB F = true) {S : List PcStep} (hS : okPs S) : impl_algebra_firstWrongPc (alg p F) S = some (wrongV p F S) := by
 unfold impl_algebra_firstWrongPc wrongV
 rw [forL_find (p := fun i s => !pcB p F S i s) (v := fun i _ => (i : Int)) (fun i y hy => by rw [impl_pcCorrect_eq h hF hS hy, bd_some])]
 cases findI (fun i s => !pcB p F S i s) S 0 <;> rfl
theorem wrong_lt {p : Int} {F : Cnf} {S : List PcStep} : decide (wrongV p F S < 0) = !anyI (fun i s => !pcB p F S i s) S 0 := by
 unfold wrongV
 cases hf : findI (fun i s => !pcB p F S i s) S 0 with
 | none => rw [findI_none.1 hf]; rfl
 | some z => rw [(findI_some hf).2.2.2]; simp
noncomputable def fwV (p : Int) (F : Cnf) (S : List PcStep) : Int × Bool := bif algB p F && decide (len S ≤ 300) then (wrongV p F S, true) else (0, false)
theorem le_not {a b : Int} : decide (a < b) = !decide (b ≤ a) := by
 by_cases h : a < b
 · rw [decide_eq_true h, decide_eq_false (by omega)]; rfl
 · rw [decide_eq_false h, decide_eq_true (by omega)]; rfl
theorem impl_FirstWrong_eq {p : Int} {F : Cnf} {S : List PcStep} (hF : okCnf F) (hS : okPs S) : impl_FirstWrongPcStep p F S = some (fwV p F S) := by
 unfold impl_FirstWrongPcStep fwV
 rw [impl_algebraOf_eq hF, bd_some]
 cases ha : algB p F with
 | false => rfl
 | true =>
  obtain ⟨hP, hC⟩ := algB_iff ha
  simp only [cond_true, Bool.not_true, cond_false, Bool.true_and]
  rw [le_not]
  cases decide (len S ≤ 300) with
  | false => rfl
  | true =>
   simp only [Bool.not_true, cond_false, cond_true]
   rw [bd_some, impl_wrong_eq hP hC hS, bd_some]
theorem spec_FirstWrong_eq {p : Int} {F : Cnf} {S : List PcStep} (hF : okCnf F) (hS : okPs S) : spec_FirstWrongPcStep p F S = some (fwV p F S) := by
 unfold spec_FirstWrongPcStep fwV
 rw [spec_l20Asked_eq hF, bd_some]
 cases ha : algB p F with
 | false => rfl
 | true =>
  obtain ⟨hP, hC⟩ := algB_iff ha
  simp only [Bool.not_true, cond_false, Bool.true_and]
  rw [le_not]
  cases decide (len S ≤ 300) with
  | false => rfl
  | true =>
   simp only [Bool.not_true, cond_false, cond_true]
   rw [spec_wrong_eq hP hC hS, bd_some]
theorem fw_ok {p : Int} {F : Cnf} {S : List PcStep} : (bif (fwV p F S).2 then decide ((fwV p F S).1 < 0) else false) = (algB p F && pcdB p F S) := by
 unfold fwV pcdB
 cases algB p F with
 | false => rfl
 | true =>
  cases decide (len S ≤ 300) with
  | false => rfl
  | true => simp only [Bool.true_and, cond_true, wrong_lt]
noncomputable def dgV (p : Int) (F : Cnf) (S : List PcStep) : Int × Bool := bif algB p F && pcdB p F S then (S.foldl (dgS p F.vars) (-1), true) else (0, false)
theorem poly_dn {p : Int} {F : Cnf} {S : List PcStep} (h : (algB p F && pcdB p F S) = true) : PV p F.vars ∧ ∀ y ∈ S, Dn p (nN F.vars) (dnT p F.vars y.poly) ∧ sp (dnT p F.vars y.poly) = y.poly := by
 rw [Bool.and_eq_true] at h
 obtain ⟨hP, hC⟩ := algB_iff h.1
 refine ⟨hP, fun y hy => ?_⟩
 obtain ⟨i, hi, rfl⟩ := List.getElem_of_mem hy
 have h3 := (pcd_at h.2).2 i _ (List.getElem?_eq_getElem hi)
 unfold pcB at h3
 rw [Bool.and_eq_true] at h3
 exact dnT_ok hP h3.1
theorem spec_PcDegree_eq {p : Int} {F : Cnf} {S : List PcStep} (hF : okCnf F) (hS : okPs S) : spec_PcDegree p F S = some (dgV p F S) := by
 unfold spec_PcDegree dgV
 rw [spec_l20Good_eq hF hS, bd_some]
 cases hg : (algB p F && pcdB p F S) with
 | false => rfl
 | true =>
  obtain ⟨hP, hD⟩ := poly_dn hg
  simp only [Bool.not_true, cond_false, cond_true]
  rw [forL_fold (dgS p F.vars) (fun i y s hy => by
   obtain ⟨d1, d2⟩ := hD y (List.mem_of_getElem? hy)
   have e2 := spec_l18Degree_eq (dn64 hP d1)
   rw [d2] at e2
   rw [e2, bd_some, most_mx]; rfl), bdR_go]
theorem impl_PcDegree_eq {p : Int} {F : Cnf} {S : List PcStep} (hF : okCnf F) (hS : okPs S) : impl_PcDegree p F S = some (dgV p F S) := by
 unfold impl_PcDegree dgV
 rw [impl_algebraOf_eq hF, bd_some]
 cases ha : algB p F with
 | false => rfl
 | true =>
 simp only [cond_true, Bool.not_true, cond_false, bd_some, Bool.true_and]
 rw [impl_pcDerivation_eq ha hS, bd_some, bd_some]
 cases hg : pcdB p F S with
 | false => rfl
 | true =>
  obtain ⟨hP, hD⟩ := poly_dn (p := p) (F := F) (S := S) (by rw [ha, hg]; rfl)
  simp only [Bool.not_true, cond_false, cond_true]
  rw [forL_fold (dgS p F.vars) (fun i y s hy => by
   obtain ⟨d1, d2⟩ := hD y (List.mem_of_getElem? hy)
   have e2 := impl_ring_dense_eq hP d1
   rw [d2] at e2
   rw [show (alg p F).ring = (⟨p, F.vars⟩ : ring) from rfl, e2, bd_some, impl_dense_degree_eq (dn64 hP d1), bd_some]; rfl), bdR_go]
noncomputable def szV (p : Int) (F : Cnf) (S : List PcStep) : Int × Bool := bif algB p F && pcdB p F S then (S.foldl (fun s y => wr (s + len y.poly)) 0, true) else (0, false)
theorem spec_PcSize_eq {p : Int} {F : Cnf} {S : List PcStep} (hF : okCnf F) (hS : okPs S) : spec_PcSize p F S = some (szV p F S) := by
 unfold spec_PcSize szV
 rw [spec_l20Good_eq hF hS, bd_some]
 cases (algB p F && pcdB p F S) with
 | false => rfl
 | true =>
  simp only [Bool.not_true, cond_false, cond_true]
  rw [forL_fold (fun s (y : PcStep) => wr (s + len y.poly)) (fun i y s hy => rfl), bdR_go]
theorem impl_PcSize_eq {p : Int} {F : Cnf} {S : List PcStep} (hF : okCnf F) (hS : okPs S) : impl_PcSize p F S = some (szV p F S) := by
 unfold impl_PcSize szV
 rw [impl_algebraOf_eq hF, bd_some]
 cases ha : algB p F with
 | false => rfl
 | true =>
 simp only [cond_true, Bool.not_true, cond_false, bd_some, Bool.true_and]
 rw [impl_pcDerivation_eq ha hS, bd_some, bd_some]
 cases pcdB p F S with
 | false => rfl
 | true =>
  simp only [Bool.not_true, cond_false, cond_true]
  rw [forL_fold (fun s (y : PcStep) => wr (s + len y.poly)) (fun i y s hy => rfl), bdR_go]
theorem last_ixP {S : List PcStep} (hS : okPs S) (h : 0 < S.length) : ∃ x, ix S (wr (len S - 1)) = some x ∧ S[S.length - 1]? = some x ∧ x ∈ S := by
 have := hS.1
 rw [show wr (len S - 1) = len S - 1 from wr_len (by omega), len_eq]
 obtain ⟨x, hx, hg⟩ := ix_of (xs := S) (i := (S.length : Int) - 1) (by omega) (by omega)
 refine ⟨x, hx, ?_, List.mem_of_getElem? hg⟩
 rwa [show ((S.length : Int) - 1).toNat = S.length - 1 by omega] at hg
open Classical in
noncomputable def oneB (S : List PcStep) : Bool := match S[S.length - 1]? with | some x => decide (x.poly = [Term.mk 0 1]) | none => false
noncomputable def refV (p : Int) (F : Cnf) (S : List PcStep) : Bool × Bool := bif algB p F then (pcdB p F S && oneB S, true) else (false, false)
theorem oneB_nil {S : List PcStep} (h : S.length = 0) : oneB S = false := by
 have : S = [] := List.eq_nil_of_length_eq_zero h
 subst this; rfl
theorem spec_Refutation_eq {p : Int} {F : Cnf} {S : List PcStep} (hF : okCnf F) (hS : okPs S) : spec_IsPcRefutation p F S = some (refV p F S) := by
 unfold spec_IsPcRefutation refV
 rw [spec_l20Asked_eq hF, bd_some]
 cases ha : algB p F with
 | false => rfl
 | true =>
  simp only [Bool.not_true, cond_false, cond_true]
  unfold spec_l20Refutes
  rw [spec_l20Good_eq hF hS, bd_some, ha, Bool.true_and]
  cases pcdB p F S with
  | false => rfl
  | true =>
   simp only [cond_true, Bool.true_and]
   cases hl : decide (0 < len S) with
   | false =>
    have := of_decide_eq_false hl
    rw [len_eq] at this
    rw [oneB_nil (by omega)]; rfl
   | true =>
    have := of_decide_eq_true hl
    rw [len_eq] at this
    obtain ⟨x, hx, hg, _⟩ := last_ixP hS (by omega)
    simp only [cond_true]
    rw [hx, bd_some, spec_l20Same_eq]
    unfold oneB
    rw [hg]
    simp only [bd_some]
    congr
open Classical in
theorem impl_Refutation_eq {p : Int} {F : Cnf} {S : List PcStep} (hF : okCnf F) (hS : okPs S) : impl_IsPcRefutation p F S = some (refV p F S) := by
 unfold impl_IsPcRefutation refV
 rw [impl_algebraOf_eq hF, bd_some]
 cases ha : algB p F with
 | false => rfl
 | true =>
  obtain ⟨hP, hC⟩ := algB_iff ha
  have hN := nN_le hP.v6
  simp only [cond_true, Bool.not_true, cond_false, bd_some]
  cases hl : decide (0 < len S) with
  | false =>
   have := of_decide_eq_false hl
   rw [len_eq] at this
   rw [oneB_nil (by omega), Bool.and_false]; rfl
  | true =>
   have := of_decide_eq_true hl
   rw [len_eq] at this
   obtain ⟨x, hx, hg, hm⟩ := last_ixP hS (by omega)
   simp only [cond_true]
   rw [impl_pcDerivation_eq ha hS, bd_some, bd_some]
   cases hd : pcdB p F S with
   | false => rfl
   | true =>
    obtain ⟨d1, d2⟩ := (poly_dn (p := p) (F := F) (S := S) (by rw [ha, hd]; rfl)).2 x hm
    have e2 := impl_ring_dense_eq hP d1
    rw [d2] at e2
    have hD := eD_Dn (N := nN F.vars) (k := 0) hP.pos.1
    have m0 : impl_ring_mono ⟨p, F.vars⟩ 0 = some (eD (nN F.vars) 0) := impl_mono_eq (r := ⟨p, F.vars⟩) hP (k := 0) (by show 0 < nN F.vars; omega)
    simp only [cond_true, Bool.true_and]
    unfold impl_last_impl_PcStep
    rw [hx, bd_some, bd_some, show (alg p F).ring = (⟨p, F.vars⟩ : ring) from rfl, e2, bd_some]
    unfold impl_algebra_isOne
    rw [show (alg p F).ring = (⟨p, F.vars⟩ : ring) from rfl, m0, bd_some, dense_Equal_eq]
    simp only [bd_some]
    congr 2
    unfold oneB
    rw [hg]
    dsimp only
    have e1 : sp (eD (nN F.vars) 0) = [Term.mk 0 1] := sp_eD (by omega)
    rw [Bool.eq_iff_iff, beq_iff_eq, decide_eq_true_eq, ← e1]
    constructor
    · intro h; rw [← h, d2]
    · intro h; exact sp_inj hP d1 hD (by rw [d2, h])
noncomputable def stV (p : Int) (F : Cnf) (S : List PcStep) (k : Int) : Bool × Bool := bif algB p F && (decide (len S ≤ 300) && inB k 0 (len S - 1)) then ((match S[k.toNat]? with | some s => pcB p F S k.toNat s | none => false), true) else (false, false)
theorem spec_Step_eq {p : Int} {F : Cnf} {S : List PcStep} (hF : okCnf F) (hS : okPs S) (k : Int) : spec_IsPcStep p F S k = some (stV p F S k) := by
 have hl := hS.1
 unfold spec_IsPcStep stV
 rw [spec_l20Asked_eq hF, bd_some]
 cases ha : algB p F with
 | false => rfl
 | true =>
  obtain ⟨hP, hC⟩ := algB_iff ha
  simp only [Bool.not_true, cond_false, Bool.true_and]
  rw [le_not, spec_l1In_eq, show wr (len S - 1) = len S - 1 from wr_len (by omega)]
  cases decide (len S ≤ 300) with
  | false => rfl
  | true =>
  cases hk : inB k 0 (len S - 1) with
  | false => rfl
  | true =>
   have hb := inB_iff.1 hk
   rw [len_eq] at hb
   have hg := List.getElem?_eq_getElem (l := S) (i := k.toNat) (by omega)
   have e := spec_l20Correct_eq hP hC hS hg
   rw [show ((k.toNat : Nat) : Int) = k by omega] at e
   simp only [Bool.not_true, cond_false, cond_true, Bool.true_and]
   rw [e, bd_some, hg]
theorem impl_Step_eq {p : Int} {F : Cnf} {S : List PcStep} (hF : okCnf F) (hS : okPs S) (k : Int) : impl_IsPcStep p F S k = some (stV p F S k) := by
 have hl := hS.1
 unfold impl_IsPcStep stV
 rw [impl_algebraOf_eq hF, bd_some]
 cases ha : algB p F with
 | false => rfl
 | true =>
  obtain ⟨hP, hC⟩ := algB_iff ha
  simp only [cond_true, Bool.not_true, cond_false, Bool.true_and]
  rw [le_not, impl_within_eq, show wr (len S - 1) = len S - 1 from wr_len (by omega)]
  cases decide (len S ≤ 300) with
  | false => rfl
  | true =>
  cases hk : inB k 0 (len S - 1) with
  | false => rfl
  | true =>
   have hb := inB_iff.1 hk
   rw [len_eq] at hb
   have hg := List.getElem?_eq_getElem (l := S) (i := k.toNat) (by omega)
   have e := impl_pcCorrect_eq hP hC hS hg
   rw [show ((k.toNat : Nat) : Int) = k by omega] at e
   simp only [Bool.not_true, cond_false, cond_true, Bool.true_and]
   rw [bd_some, e, bd_some, hg]
theorem draw_trimPc {cs : List Int} (h : okL okU8 cs) : ∃ p F S, spec_DrawTrimPc cs = some (p, F, S) ∧ okCnf F ∧ okPc S := by
 obtain ⟨p, F, c1, e1, h1, _, hF⟩ := dr_cnf20 (n := 100000) ((okC_begin h 0).le (by omega))
 obtain ⟨S, c2, e2, h2, hS⟩ := dr_pc (n := 10) (c := c1) h1.le (p := p) hF.ok
 unfold spec_DrawTrimPc spec_DrawFirstWrongPcStep
 rw [e1, bd_some]
 dsimp only
 rw [e2, bd_some]
 exact ⟨_, _, _, rfl, hF.ok, hS⟩
theorem draw_step {cs : List Int} (h : okL okU8 cs) : ∃ p F S k, spec_DrawIsPcStep cs = some (p, F, S, k) ∧ okCnf F ∧ okPc S := by
 obtain ⟨p, F, c1, e1, h1, _, hF⟩ := dr_cnf20 (n := 100000) ((okC_begin h 0).le (by omega))
 obtain ⟨S, c2, e2, h2, hS⟩ := dr_pc (n := 100) (c := c1) h1.le (p := p) hF.ok
 obtain ⟨k, c3, e3, h3, _⟩ := dr_pick (n := 10) (c := c2) h2.le (wr ((len S) + 1))
 obtain ⟨q, c4, e4, h4, _⟩ := dr_pick (n := 8) (c := c3) h3 24
 unfold spec_DrawIsPcStep
 rw [e1, bd_some]
 dsimp only
 rw [e2, bd_some]
 dsimp only
 rw [e3, bd_some]
 dsimp only
 rw [e4, bd_some]
 exact ⟨_, _, _, _, rfl, hF.ok, hS⟩
def refT : List ByteArray := [(ByteArray.mk #[48, 59, 32, 110, 111, 110, 101]), (ByteArray.mk #[49, 59, 32, 49, 59, 32, 45, 49]), (ByteArray.mk #[50, 59, 32, 110, 111, 110, 101, 59, 32, 49])]
def knownR (t : ByteArray) : Bool := match c_spec_l2Known t with
 | some f => cnfB f && (!(f.vars == 1) || f.clauses.length == 2)
 | none => false
theorem knownR_all : refT.all knownR = true := by decide +kernel
theorem knownR_ok {t : ByteArray} (h : t ∈ refT) : ∃ f, spec_l2Known t = some f ∧ cnfB f = true ∧ (f.vars = 1 → f.clauses.length = 2) := by
 have h1 := List.all_eq_true.1 knownR_all t h
 unfold knownR at h1
 cases hc : c_spec_l2Known t with
 | none => rw [hc] at h1; cases h1
 | some f =>
  rw [hc] at h1
  simp only [Bool.and_eq_true, Bool.or_eq_true, Bool.not_eq_true', beq_eq_false_iff_ne, beq_iff_eq] at h1
  exact ⟨f, (c_spec_l2Known_le t).le _ hc, h1.1, fun e => h1.2.resolve_left fun h => h e⟩
theorem cnfB_ok {F : Cnf} (hF : cnfB F = true) : okCnf F := by
 have hv := cnfB_rng hF; have hC := cnfB_isC hF; have hN := cnfB_len hF
 exact ⟨by unfold okI; omega, ⟨by omega, fun c h => (hC c h).ok⟩⟩
theorem draw_ref {cs : List Int} (h : okL okU8 cs) : ∃ p F S, spec_DrawIsPcRefutation cs = some (p, F, S) ∧ okCnf F ∧ okPc S := by
 obtain ⟨p, F, c1, e1, h1, _, hF⟩ := dr_cnf20 (n := 100000) ((okC_begin h 0).le (by omega))
 obtain ⟨b, c2, e2, h2, _⟩ := dr_one (n := 50000) (c := c1) h1.le 2
 unfold spec_DrawIsPcRefutation
 rw [e1, bd_some]
 dsimp only
 rw [e2, bd_some]
 cases b with
 | false =>
  obtain ⟨S, c3, e3, h3, hS⟩ := dr_pc (n := 10) (c := c2) h2.le (p := p) hF.ok
  simp only [cond_false]
  rw [e3, bd_some]
  exact ⟨_, _, _, rfl, hF.ok, hS⟩
 | true =>
  obtain ⟨t, c3, e3, h3, ht⟩ := dr_of (n := 40000) (c := c2) h2.le (l := refT) (by unfold refT; simp)
  obtain ⟨G, hG, hg, hg2⟩ := knownR_ok ht
  have hGo := cnfB_ok hg
  simp only [cond_true]
  unfold refT at e3
  rw [e3, bd_some]
  dsimp only
  rw [hG, bd_some, spec_l20Asked_eq hGo, bd_some]
  cases hc : (bif algB p G then G.vars == 1 else false) with
  | false =>
   obtain ⟨S, c4, e4, h4, hS⟩ := dr_pc (n := 10) (c := c3) h3.le (p := p) hGo
   simp only [cond_false]
   rw [e4, bd_some]
   exact ⟨_, _, _, rfl, hGo, hS⟩
  | true =>
   have ha : algB p G = true := by cases ha : algB p G with
    | true => rfl
    | false => rw [ha] at hc; cases hc
   rw [ha] at hc
   have hv : G.vars = 1 := eq_of_beq hc
   have hl := hg2 hv
   obtain ⟨hP, hC⟩ := algB_iff ha
   rw [hv] at hP
   have hp := hP.pos
   have hI := cnfB_isC hC
   rw [hv] at hI
   obtain ⟨x0, hx0, hm0⟩ := ix_of (xs := G.clauses) (i := 0) (by omega) (by omega)
   obtain ⟨x1, hx1, hm1⟩ := ix_of (xs := G.clauses) (i := 1) (by omega) (by omega)
   have D0 := clD_Dn (N := nN 1) hp.1 x0
   have D1 := clD_Dn (N := nN 1) hp.1 x1
   have D2 := sumD_Dn (N := nN 1) (x := 1) (y := 1) hp.1 D0 D1
   simp only [cond_true]
   rw [hx0, bd_some, spec_l18Clause_eq hP (hI x0 (List.mem_of_getElem? hm0)), bd_some, hx1, bd_some, spec_l18Clause_eq hP (hI x1 (List.mem_of_getElem? hm1)), bd_some]
   have i0 : ∀ a b : PcStep, ix [a, b] 0 = some a := fun _ _ => rfl
   have i1 : ∀ a b : PcStep, ix [a, b] 1 = some b := fun _ _ => rfl
   rw [i0, bd_some, i1, bd_some, spec_l20Sum_eq hP ⟨by omega, by omega⟩ ⟨by omega, by omega⟩ D0 D1, bd_some, app_ok (by simp; unfold lim; omega), bd_some]
   refine ⟨_, _, _, rfl, hGo, by simp, fun s hs => ?_⟩
   simp only [List.cons_append, List.nil_append, List.mem_cons, List.not_mem_nil, or_false] at hs
   rcases hs with rfl | rfl | rfl
   · exact ⟨okI_sm (by dsimp only; omega), sp_okP1 hP D0, okI_sm (by dsimp only; omega), okI_sm (by dsimp only; omega), okI_sm (by dsimp only; omega), okI_sm (by dsimp only; omega)⟩
   · exact ⟨okI_sm (by dsimp only; omega), sp_okP1 hP D1, okI_sm (by dsimp only; omega), okI_sm (by dsimp only; omega), okI_sm (by dsimp only; omega), okI_sm (by dsimp only; omega)⟩
   · exact ⟨okI_sm (by dsimp only; omega), sp_okP1 hP D2, okI_sm (by dsimp only; omega), okI_sm (by dsimp only; omega), okI_sm (by dsimp only; omega), okI_sm (by dsimp only; omega)⟩
end Go.PF
namespace Go.PF
open Go.Pu Go.La
theorem laws_vPoly_self (a : List Term) : laws_vPoly a a = some true := by
 unfold laws_vPoly
 rw [beq_self_eq_true]
 simp only [Bool.not_true, cond_false]
 have := loop_l (B := Bool) (xs := a) (s0 := ()) (R := fun r => r = true) (lx := fun x : Bool => some x) (k := fun _ : Unit => some true) (body := fun i23 y22 s23 => bd (ix a ((i23 : Nat) : Int)) (fun x72 => (bif (!((y22.mono == x72.mono) && (y22.coeff == x72.coeff))) then some (Lp.rt false) else some (Lp.nx ())))) (fun _ _ => True) trivial
  (fun i x s hx _ => ⟨(), by rw [ix_get, hx, bd_some, beq_self_eq_true, beq_self_eq_true]; rfl, trivial⟩) (fun s _ => ⟨true, rfl, rfl⟩)
 obtain ⟨r, e, rfl⟩ := this
 exact e
theorem laws_vPc_self (a : List PcStep) : laws_vPc a a = some true := by
 unfold laws_vPc
 rw [beq_self_eq_true]
 simp only [Bool.not_true, cond_false]
 refine (congrArg (fun z => bdR z _ _) (forL_fold (fun (s : Unit) (y : PcStep) => s) fun i x s hx => ?_)).trans (by rw [bdR_go])
 simp only [ix_get, hx, bd_some, beq_self_eq_true, Bool.not_true, cond_false, laws_vPoly_self]
theorem bdR_at {S X β : Type} {x : Option (Rs S X)} {s : S} {k : S → Option β} {l : X → Option β} {r : Option β} (h : x = some (.go s)) (hk : k s = r) : bdR x k l = r := by rw [h, bdR_go]; exact hk
theorem bd_at {A B : Type} {x : Option A} {a : A} {k : A → Option B} {r : Option B} (h : x = some a) (hk : k a = r) : bd x k = r := by rw [h, bd_some]; exact hk
theorem trim_okPs {S : List PcStep} (hU : IsU S) : okPs (trimLP S (needP S)) := by
 have hlt : ∀ i ∈ needP S, i < S.length := fun i hi => needTo_ltP (S := S) i hi
 have hle := need_leP S
 have := hU.le
 refine ⟨by rw [trimL_lenP hlt]; omega, fun y hy => ?_⟩
 obtain ⟨j, hj, rfl⟩ := List.getElem_of_mem hy
 obtain ⟨i, x, hx, _, e, _⟩ := trim_of (List.getElem?_eq_getElem hj)
 rw [e, trimX_poly]
 have := hU.poly (List.mem_of_getElem? hx)
 omega
open Classical in
theorem plain_FnPcSteps (a0 : List Int) (o0 : okL okU8 a0) : laws_FnPcSteps a0 = some true := by
 unfold laws_FnPcSteps
 cases laws_vBig a0 with
 | true => rfl
 | false =>
 simp only [cond_false]
 obtain ⟨p, F, S, e, hF, hS0⟩ := draw_trimPc o0
 obtain ⟨q, G, L, e2, hG, hL0⟩ := draw_ref o0
 obtain ⟨r, H, M, k, e3, hH, hM0⟩ := draw_step o0
 have hS := hS0.ok; have hL := hL0.ok; have hM := hM0.ok
 rw [e, bd_some]
 dsimp only
 refine bd_at (impl_trim_eq hF hS) ?_
 rw [spec_TrimPc_eq hF hS, bd_some, laws_vPc_self, bd_some]
 dsimp only
 rw [impl_FirstWrong_eq hF hS, bd_some, spec_FirstWrong_eq hF hS, bd_some, impl_PcDegree_eq hF hS, bd_some, spec_PcDegree_eq hF hS, bd_some, impl_PcSize_eq hF hS, bd_some, spec_PcSize_eq hF hS, bd_some, fw_ok]
 have v1 : (trimVP p F S).2 = (algB p F && pcdB p F S) := by unfold trimVP; cases (algB p F && pcdB p F S) <;> rfl
 have v2 : (dgV p F S).2 = (algB p F && pcdB p F S) := by unfold dgV; cases (algB p F && pcdB p F S) <;> rfl
 have v3 : (szV p F S).2 = (algB p F && pcdB p F S) := by unfold szV; cases (algB p F && pcdB p F S) <;> rfl
 rw [v1, v2, v3]
 simp only [beq_self_eq_true, Bool.not_true, cond_false, bd_some]
 refine bdR_at (s := ()) ?_ ?_
 · cases hg : (algB p F && pcdB p F S) with
   | false => rfl
   | true =>
   cases hl : decide (0 < len S) with
   | false => rfl
   | true =>
    have hl2 : 0 < S.length := by have := of_decide_eq_true hl; rw [len_eq] at this; omega
    have hg2 := hg
    rw [Bool.and_eq_true] at hg2
    obtain ⟨hP, hC⟩ := algB_iff hg2.1
    have hU := pcd_U hP hg2.2
    have hT := trim_right hP hg2.2
    have hTo := trim_okPs hU
    have hv : (trimVP p F S).1 = trimLP S (needP S) := by unfold trimVP; rw [hg]; rfl
    obtain ⟨x, y, hx, t0, t1, hy, hxy⟩ := trim_last hU hl2
    obtain ⟨x', i1, hx', _⟩ := last_ixP hS hl2
    obtain ⟨y', i2, hy', _⟩ := last_ixP hTo t0
    rw [hx] at hx'; cases hx'
    rw [hy] at hy'; cases hy'
    have hfw := fw_ok (p := p) (F := F) (S := trimLP S (needP S))
    rw [hg2.1, hT] at hfw
    have hpoly := (poly_dn hg).2 x (List.mem_of_getElem? hx)
    have hs0 := fun n hm => (pc_sound hg2.1 hg2.2 (n := n) hm _ x hx).2
    have hpB : polyB p F.vars x.poly = true := by
     have h3 := (pcd_at hg2.2).2 _ x hx
     unfold pcB at h3
     exact ((Bool.and_eq_true _ _).mp h3).1
    rw [hv]
    have c1 : (len (trimLP S (needP S)) == 0) = false := by rw [beq_eq_false_iff_ne, len_eq]; omega
    have c2 : decide (len S < len (trimLP S (needP S))) = false := decide_eq_false (by rw [len_eq, len_eq]; omega)
    simp only [c1, c2, cond_true, cond_false]
    rw [i2, bd_some, i1, bd_some, hxy, laws_vPoly_self, bd_some]
    simp only [Bool.not_true, bd_some, cond_false]
    rw [impl_FirstWrong_eq hF hTo, bd_some, same_zero hg2.1 hpB hs0, bd_some]
    cases h2 : (fwV p F (trimLP S (needP S))).2 with
    | false => rw [h2] at hfw; cases hfw
    | true =>
     rw [h2] at hfw
     have h3 : (fwV p F (trimLP S (needP S))).1 < 0 := of_decide_eq_true hfw
     have c3 : decide (0 ≤ (fwV p F (trimLP S (needP S))).1) = false := decide_eq_false (by omega)
     rw [c3]; rfl
 rw [e2, bd_some]
 dsimp only
 rw [impl_Refutation_eq hG hL, bd_some, spec_Refutation_eq hG hL, bd_some]
 simp only [beq_self_eq_true, Bool.not_true, cond_false]
 refine bdR_at (s := ()) ?_ ?_
 · cases hr : (refV q G L).1 with
   | false => rfl
   | true =>
    unfold refV at hr
    cases ha : algB q G with
    | false => rw [ha] at hr; cases hr
    | true =>
    rw [ha] at hr
    have h4 : (pcdB q G L && oneB L) = true := hr
    rw [Bool.and_eq_true] at h4
    have h5 := h4.2
    unfold oneB at h5
    cases hx : L[L.length - 1]? with
    | none => rw [hx] at h5; cases h5
    | some x =>
     rw [hx] at h5
     have hun := refuted ha h4.1 hx (of_decide_eq_true h5)
     simp only [cond_true]
     rw [impl_IsSatisfiable_eq (algB_iff ha).2, bd_some, hun]; rfl
 rw [e3, bd_some]
 dsimp only
 rw [impl_Step_eq hH hM, bd_some, spec_Step_eq hH hM, bd_some]
 simp only [beq_self_eq_true, cond_true]
end Go.PF
