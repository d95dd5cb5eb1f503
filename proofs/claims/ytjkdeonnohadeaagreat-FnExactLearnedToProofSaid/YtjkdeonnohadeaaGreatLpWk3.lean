/- Part of the walks and plain laws behind the claim: it proves helpers, under no condition beyond their own. -/
import Derived.Test.YtjkdeonnohadeaaGreatLpWk2
set_option linter.unusedVariables false
set_option maxRecDepth 100000
namespace Go.Proofs
open Go.Mr Go.Pu Go.PF Go.RowKit Tryz

theorem w_impl_learned {Ha : GH} {wa : World} (hs : Sl Ha wa) (a0 : Cnf) (v0_1 : Value) (p0_1 : RSl Ha (eL eI 1) 1 v0_1 a0.clauses) (v1 : Value) (a1 : List (List Int)) (p1 : RSl Ha (eL eI 1) 1 v1 a1) {r : Bool} (hp : (PF.impl_learned a0 a1) = some r) :
  Calls prog 52 #[vA #[vI a0.vars, v0_1], v1] wa (Sc Ha wa (vB r)) := by
 unfold PF.impl_learned at hp; have S0 := St.init hs; refine calls_go (N := 14) (args := [vA #[vI a0.vars, v0_1], v1]) func52 rfl rfl rfl ?_; refine FW.sr ?_; obtain ⟨b21, w22, run23, S24⟩ := S0.box (P := prog) 28 [vI a0.vars, v0_1] (v := vA #[vI a0.vars, v0_1]) rfl (oC rfl (oC p0_1.one ones_nil)); refine FL.v (E.box rfl run23) ?_; obtain ⟨H25, S26, i27, at28⟩ := S24.sealBox (i := 0) (l' := []) rfl rfl; refine FL.as (v := vB false) rfl ?_; refine FL.nil (FW.sr ?_); refine FL.v (E.load rfl (run_loadA isAgg28 sizeOf28 (at28.now S26.sl) rfl)) ?_; refine FL.mv (v := v1) rfl ?_; obtain ⟨r29, hr30, hp⟩ := bnd hp; refine FL.c (E.call call77 (A2 rfl rfl)) (w_impl_listOk S26.sl a0 v0_1 (p0_1.mono i27) v1 a1 (p1.mono i27) hr30) ?_; rintro e w31 ⟨rfl, r32⟩; refine ⟨_, rfl, ?_⟩; have S33 := S26.call r32; refine FL.mv (v := vB r29) rfl ?_; obtain ⟨t39, hqt39, hp⟩ := bnd hp; refine FL.cut 5 (fun f w => ∃ H : GH, St Ha wa H w [] ∧ Inc H25 H ∧ f 13 = vB t39) ?_ ?_
 ·
  clear hp; have hp := hqt39; clear hqt39; rcases ifB hp with ⟨c45, hp⟩ | ⟨c45, hp⟩
  ·
   refine FL.y (wY c45) (E.load rfl (run_loadA isAgg28 sizeOf28 (at28.now S33.sl) rfl)) ?_; refine FL.y (wY c45) (E.move (v := v1) rfl) ?_; obtain ⟨r46, hr47, hp⟩ := bnd hp; refine FL.call (wY c45) rfl rfl (E.call call78 (A2 rfl rfl)) (w_impl_firstUnfollowed S33.sl a0 v0_1 (p0_1.mono i27) v1 a1 (p1.mono i27) hr47) ?_; rintro e w48 ⟨rfl, r49⟩; refine ⟨_, rfl, ?_⟩; have S50 := S33.call r49; refine FL.y (wY c45) (E.lss rfl rfl) ?_; cases hp; refine FL.v (E.pickT rfl c45 rfl) ?_; exact FL.nil ⟨rfl, _, S50, I0, rfl⟩
  ·
   refine FL.skip (wN c45) rfl ?_; refine FL.skip (wN c45) rfl ?_; refine FL.skip (wN c45) rfl ?_; refine FL.skip (wN c45) rfl ?_; cases hp; refine FL.v (E.pickF rfl c45 rfl) ?_; exact FL.nil ⟨rfl, _, S33, I0, rfl⟩
 rintro f44 w43 ⟨H40, S41, i42, k51⟩; refine FL.as k51 ?_; refine FL.nil (FW.ret ?_); cases hp; exact ⟨.inr rfl, res1 rfl rfl ⟨rfl, S41.back⟩⟩

@[reducible] def p_impl_trail (Ha : GH) (wa : World) (r : ((List (Int × Int)) × Int)) : Ending → World → Prop :=
 fun e w' => ∃ H' : GH, ∃ v0 : Value, ∃ n0 : Nat, ∃ c0 : List Value, e = .returned (Value.tuple #[v0, vI r.2]) ∧ St Ha wa H' w' [.row 99 2 v0 n0 c0] ∧ Els (up wa.heap.size H') eI2 2 c0 r.1
theorem w_impl_trail {Ha : GH} {wa : World} (hs : Sl Ha wa) (a0 : Cnf) (v0_1 : Value) (p0_1 : RSl Ha (eL eI 1) 1 v0_1 a0.clauses) (v1 : Value) (a1 : List (List Int)) (p1 : RSl Ha (eL eI 1) 1 v1 a1) (a2 : Int) {r : ((List (Int × Int)) × Int)} (hp : (PF.impl_trail a0 a1 a2) = some r) :
  Calls prog 87 #[vA #[vI a0.vars, v0_1], v1, vI a2] wa (p_impl_trail Ha wa r) := by
 unfold PF.impl_trail at hp; have S0 := St.init hs; refine calls_go (N := 33) (args := [vA #[vI a0.vars, v0_1], v1, vI a2]) func87 rfl rfl rfl ?_; refine FW.sr ?_; obtain ⟨b21, w22, run23, S24⟩ := S0.box (P := prog) 28 [vI a0.vars, v0_1] (v := vA #[vI a0.vars, v0_1]) rfl (oC rfl (oC p0_1.one ones_nil)); refine FL.v (E.box rfl run23) ?_; obtain ⟨H25, S26, i27, at28⟩ := S24.sealBox (i := 0) (l' := []) rfl rfl; refine FL.as (v := vN) rfl ?_; refine FL.as (v := vI 0) rfl ?_; refine FL.nil (FW.sr ?_); refine FL.v (E.load rfl (run_loadA isAgg28 sizeOf28 (at28.now S26.sl) rfl)) ?_; refine FL.mv (v := v1) rfl ?_; refine FL.mv (v := vI a2) rfl ?_; obtain ⟨r29, hr30, hp⟩ := bnd hp; refine FL.c (E.call call114 (A3 rfl rfl rfl)) (w_impl_before S26.sl a0 v0_1 (p0_1.mono i27) v1 a1 (p1.mono i27) a2 hr30) ?_; rintro e w32 ⟨H31, v35, n36, cs37, rfl, r34, els38⟩; refine ⟨_, rfl, ?_⟩; have S33 := S26.join (l' := [.row 44 1 v35 n36 cs37]) r34 rfl; refine FL.as (v := v35) rfl ?_; refine FL.nil (FW.sr ?_); refine FL.mv (v := v35) rfl ?_; refine FL.mv (v := v1) rfl ?_; refine FL.mv (v := vI a2) rfl ?_; obtain ⟨x45, hx46, hp⟩ := bnd hp; obtain ⟨p39, cs40, pt41, l42, at43, rel44⟩ := p1.at hx46; obtain ⟨v47, rfl, h48⟩ := eL_open rel44; refine FL.v (E.indexAddr te22 rfl rfl pt41) ?_; refine FL.v (E.load rfl (run_load0 isAgg44 ((at43.mono (i27.tr r34.run.inc)).now S33.sl) rfl)) ?_; obtain ⟨r49, hr50, hp⟩ := bnd hp; refine FL.c (E.call call122 (A1 rfl)) (w_impl_negated S33.sl v47 x45 (h48.mono (i27.tr r34.run.inc)) hr50) ?_; rintro e w52 ⟨H51, v55, n56, cs57, rfl, r54, els58⟩; refine ⟨_, rfl, ?_⟩; have els58 := els58.mono (up_le S33.size); have S53 := S33.join (l' := [.row 3 1 v55 n56 cs57, .row 44 1 v35 n36 cs37]) r54 rfl; obtain ⟨H59, S60, i61, h62⟩ := S53.sealRow (i := 1) (l' := [.row 3 1 v55 n56 cs57]) rfl (els38.mono r54.run.inc) (by decide) rfl; obtain ⟨H64, S65, i66, h67, nv68⟩ := S60.sealRowU (i := 0) (l' := []) rfl (els58.mono (up_mono i61)) (by decide) rfl; obtain ⟨r69, hr70, hp⟩ := bnd hp; refine FL.c (E.call call121 (A2 rfl rfl)) (w_impl_propagate S65.sl v35 r29 (h62.mono i66) v55 r49 (h67.mono upI) hr70) ?_; rintro e w72 ⟨H71, v77, v80, n81, cs82, rfl, r74, h78, els83⟩; refine ⟨_, rfl, ?_⟩; obtain ⟨H75, r74, hU76⟩ := St.lendX (i61.tr i66) S53.sl r74; have nv79 : New H51 [v77] := New.of_up S53.sl h78.dom; have h78 := h78.mono (hU76.tr (up_le S53.size)); have els83 := els83.mono (hU76.tr (up_le S53.size)); have S73 := S53.join (l' := [.row 99 2 v80 n81 cs82, .row 3 1 v55 n56 cs57, .row 44 1 v35 n36 cs37]) r74 rfl; refine FL.mv (v := Value.tuple #[v77, v80, vB r69.2.2]) rfl ?_; refine FL.v (E.extract (i := 0) rfl rfl) ?_; refine FL.v (E.extract (i := 1) rfl rfl) ?_; refine FL.v (E.extract (i := 2) rfl rfl) ?_; refine FL.as (v := v77) rfl ?_; refine FL.as (v := v80) rfl ?_; refine FL.as (v := vB r69.2.2) rfl ?_; refine FL.nil (FW.seq ?_); obtain ⟨r90, hr91, hp⟩ := bnd hp; obtain ⟨x108, hx109, hp⟩ := bnd hp; refine FW.drawB (Sl H75) (fun f w => ∃ H : GH, St Ha wa H w [.row 99 2 v80 n81 cs82] ∧ Inc H75 H ∧ f 6 = v80 ∧ f 7 = vI x108) (by kernel_rfl) S73.sl ?_ ?_
 ·
  intro w84 r85; have S86 := S73.call r85; refine FB.T 0 8 1 rfl S86.sl rfl (fun _ z => (E.move (v := v80) rfl)) ?_; refine FB.T 1 8 3 rfl S86.sl rfl (fun _ z => (E.move (v := v35) rfl)) ?_; refine FB.T 2 8 7 rfl S86.sl rfl (fun _ z => (E.move (v := v77) rfl)) ?_; refine FB.all1 (i := 3) (by kernel_rfl) ?_
  ·
   obtain ⟨H63, S87, i88, h89⟩ := S86.sealRow (i := 2) (l' := [.row 99 2 v80 n81 cs82, .row 3 1 v55 n56 cs57]) rfl (els38.mono (r54.run.inc.tr r74.run.inc)) (by decide) rfl; refine FC.call (l' := (bs 8 15)) rfl (by kernel_rfl) rfl rfl rfl (E.call call123 (A2 rfl rfl)) (w_impl_falseClauses S87.sl v35 r29 h89 v77 r69.1 (h78.mono (upI.tr i88)) hr91) ?_; rintro e w93 ⟨H92, v98, n99, cs100, rfl, r95, els101⟩; refine ⟨_, rfl, ?_⟩; obtain ⟨H96, r95, hU97⟩ := St.lendX i88 S86.sl r95; have els101 := els101.mono (hU97.tr (up_le S86.size)); have S94 := S86.join (l' := [.row 3 1 v98 n99 cs100, .row 99 2 v80 n81 cs82, .row 3 1 v55 n56 cs57, .row 44 1 v35 n36 cs37]) r95 rfl; refine ⟨(SP.nil (Sl.of_inc r95.run.inc S94.sl)), ?_⟩; obtain ⟨p102, cs103, pt104, l105, at106, rel107, hall110⟩ := S94.row_atA (i := 0) rfl els101 (by decide) hx109; obtain rfl := eI_open rel107; refine FB.T 4 8 31 rfl (Sl.of_inc r95.run.inc S94.sl) rfl (fun _ z => (E.indexAddr te44 rfl rfl pt104)) ?_; refine FB.phase [] (fun w' => WAt w' p102 [vI x108]) ?_; refine FB.p (i := 5) (bs 8 63) 0 [7] rfl (SP.on (hall110 _ _ _ 0 S94 rfl) (SP.nil (Sl.of_inc r95.run.inc S94.sl))) rfl rfl (fun _ z => (E.load rfl (run_load0 isAgg3 z rfl))) ?_; refine FB.t (i := 6) (bs 8 127) rfl (SP.on (hall110 _ _ _ 0 S94 rfl) (SP.nil (Sl.of_inc r95.run.inc S94.sl))) rfl (fun _ z => (E.assign (v := v80) rfl)) ?_; refine FB.t (i := 7) (bs 8 255) rfl (SP.on (hall110 _ _ _ 0 S94 rfl) (SP.nil (Sl.of_inc r95.run.inc S94.sl))) rfl (fun _ z => (E.assign (v := vI x108) rfl)) ?_; exact FB.done (by kernel_rfl) ⟨_, (S94.sel [1] (by decide) rfl), r95.run.inc, rfl, rfl⟩
 ·
  rintro f115 w114 ⟨H111, S112, i113, k116, k117⟩; refine FW.ret ?_; cases hp; exact ⟨.inr rfl, res2 rfl k116 k117 ⟨_, _, _, _, rfl, S112, (els83.mono (up_mono i113))⟩⟩

@[reducible] def p_back115 (Ha : GH) (wa : World) (v : Value) : Ending → World → Prop :=
  fun e w' => ∃ H' b, e = .returned (.func (.func 142) #[] #[.pointer (some ⟨b, 0, none⟩)]) ∧ Run wa.heap.size Ha wa H' w' ∧ CAt H' ⟨b, 0, none⟩ [v]
theorem w_back115 {Ha : GH} {wa : World} (hs : Sl Ha wa) (v : Value) (xs : List (Int × Int)) (p : RSl Ha eI2 2 v xs) :
    Calls prog 115 #[v] wa (p_back115 Ha wa v) := by
  have S0 := St.init hs
  refine calls_go (N := 4) (args := [v]) Tryz.func115 rfl rfl rfl ?_
  refine FW.seq (FW.region ?_)
  obtain ⟨b, w1, run, S1⟩ := S0.box (P := prog) 95 [v] (v := v) p.cells (ones_cons p.one ones_nil)
  refine FL.v (E.box rfl run) ?_
  refine FL.v (E.assign rfl) ?_
  refine FL.nil (FW.seq (FW.region ?_))
  refine FL.v (E.makeFunc A0 (A1 rfl)) ?_
  refine FL.v (E.assign rfl) ?_
  refine FL.nil ?_
  refine FW.ret ?_
  obtain ⟨H1, S2, i1, at1⟩ := S1.sealBox (i := 0) (l' := []) rfl rfl
  exact ⟨.inr rfl, res1 rfl rfl ⟨H1, b, rfl, S2.run, at1⟩⟩
theorem w_iter142 {Hs : GH} {b : Addr} {v : Value} {xs : List (Int × Int)} (hb : CAt Hs b [v]) (hv : RSl Hs eI2 2 v xs) (L : List (Value × (Int × Int) × Nat)) (hn : L.map Prod.snd = xs.zipIdx.reverse)
    (hA : ∀ j a, L[j]? = some a → a.2.2 + j + 1 = xs.length ∧ ∃ p cs, PtrOf 2 v (a.2.2 : Int) p ∧ cs.length = 2 ∧ CAt Hs p cs ∧ eI2.rel Hs cs a.2.1 ∧ a.1 = (fun cs => Value.agg cs.toArray) cs) :
    IterOk prog Hs 142 #[.pointer (some b)] (fun a => [vI (a.2.2 : Int), a.1]) L := by
  have hL : L.length = xs.length := by simpa using congrArg List.length hn
  have hle := hv.le
  intro l K Kx W hsl hy h0
  refine calls_go (N := 19) (args := [Value.func (.yield l) #[] #[], vP (b)]) Tryz.func142 rfl rfl rfl ?_
  refine FW.seq (FW.region ?_)
  refine FL.v (E.load rfl (run_load0 Tryz.isAgg95 (hb.now (hsl 0 W h0)) rfl)) ?_
  refine FL.v (E.lenP te95 rfl hv) ?_
  refine FL.v (E.sub rfl rfl) ?_
  refine FL.v (E.assign rfl) ?_
  refine FL.nil (FW.block ?_)
  refine FW.loopG (fun m f w => ∃ j, j ≤ xs.length ∧ m = xs.length - j ∧ K j w ∧ f 0 = Value.func (.yield l) #[] #[] ∧ f 1 = vP (b) ∧ f 3 = vI ((xs.length : Int) - 1 - j)) ?_ (m := xs.length) ⟨0, Nat.zero_le _, rfl, h0, rfl, rfl, congrArg (Value.int .i64) (by
    rw [wr_of] <;> simp only [len, maxLen] at * <;> omega)⟩
  rintro m f w ⟨j, hj, rfl, hk, k0, k1, k3⟩
  refine FW.seq (FW.seq (FW.region ?_))
  refine FL.v (E.move k3) ?_
  refine FL.v (E.geq rfl rfl) ?_
  refine FL.nil ?_
  by_cases hlt : j < xs.length
  · refine FW.condT rfl (decide_eq_true (by omega)) ?_
    refine FW.skip (FW.seq (FW.block (FW.seq (FW.region ?_))))
    obtain ⟨a, ha⟩ : ∃ a, L[j]? = some a := ⟨_, List.getElem?_eq_getElem (by omega)⟩
    obtain ⟨hlen, p, cs, hp, hl, hc, hr, hu⟩ := hA j a ha
    have k3' : f 3 = vI ((a.2.2 : Nat) : Int) := by rw [k3]; exact congrArg _ (by omega)
    refine FL.v (E.move k0) ?_
    refine FL.v (E.move k3') ?_
    refine FL.v (E.load k1 (run_load0 Tryz.isAgg95 (hb.now (hsl j w hk)) rfl)) ?_
    refine FL.v (E.move k3') ?_
    refine FL.v (E.indexAddr te95 rfl rfl hp) ?_
    refine FL.v (E.load (v := Value.agg cs.toArray) rfl (run_loadA Tryz.isAgg99 Tryz.sizeOf99 (hc.now (hsl j w hk)) hl)) ?_
    refine FL.yield rfl rfl rfl (E.yield (args := #[vI ((a.2.2 : Nat) : Int), Value.agg cs.toArray]) rfl (A2 rfl rfl)) (args := [vI ((a.2.2 : Nat) : Int), Value.agg cs.toArray]) (fun n => by have h := hy j a w ha hk n; have e : a.1 = Value.agg cs.toArray := hu; rw [← e]; exact h) ?_
    rintro e w' (⟨rfl, hk'⟩ | ⟨rfl, hk'⟩)
    · refine ⟨_, rfl, ?_⟩
      refine FL.v (E.not rfl) ?_
      refine FL.nil ?_
      refine FW.condF rfl rfl ?_
      refine FW.skip (FW.region ?_)
      refine FL.v (E.move k3) ?_
      refine FL.v (E.sub rfl rfl) ?_
      refine FL.v (E.assign rfl) ?_
      refine FL.nil ?_
      refine ⟨xs.length - (j + 1), by omega, j + 1, hlt, rfl, hk', k0, k1, congrArg (Value.int .i64) ?_⟩
      simp only [maxLen] at *
      rw [wr_of] <;> omega
    · refine ⟨_, rfl, ?_⟩
      refine FL.v (E.not rfl) ?_
      refine FL.nil ?_
      refine FW.condT rfl rfl ?_
      refine FW.ret ?_
      exact ⟨.inr rfl, res0 rfl ⟨⟨_, rfl⟩, .inr hk'⟩⟩
  · refine FW.condF rfl (decide_eq_false (by omega)) ?_
    refine FW.exit ?_
    have e : j = L.length := by omega
    exact ⟨.inl rfl, res0 rfl ⟨⟨_, rfl⟩, .inl (e ▸ hk)⟩⟩

@[reducible] def p_slices_Grow_int_int (Ha : GH) (wa : World) (r : List Int) : Ending → World → Prop :=
  fun e w' => ∃ H' : GH, ∃ v0 : Value, ∃ n0 : Nat, ∃ c0 : List Value, e = .returned (v0) ∧ St Ha wa H' w' [.row 3 1 v0 n0 c0] ∧ Els (up wa.heap.size H') eI 1 c0 r
theorem w_slices_Grow_int_int {Ha : GH} {wa : World} (hs : Sl Ha wa) (a1 : Int) {r : List Int} (hp : PF.slices_Grow_int_int a1 = some r) :
    Calls prog 173 #[.slice none 0 0, .int .i64 a1] wa (p_slices_Grow_int_int Ha wa r) := by
  unfold PF.slices_Grow_int_int at hp
  split at hp
  · rename_i h
    cases hp
    refine (growNil (En := eI) te44 hs h.1 h.2 (fun w => Any8.slices_Grow_room (P := prog) Tryz.grow173 none 0 0 0 w (Nat.le_refl _) (by decide) (by decide) (by decide))
      (fun n w h0 hl => ?_)).mono ?_
    · have h := Any8.slices_Grow_grow (P := prog) Tryz.grow173 _ _ Tryz.type3 rfl (by decide) none 0 0 n [] w (Nat.le_refl _) (by omega) ?_ (by unfold lim at hl; omega) (by simp) (fun _ => rfl) (by simp)
      · refine h.mono ?_
        rintro _ _ ⟨rfl, rfl⟩
        refine ⟨by simp; rfl, ?_⟩
        simp
        rfl
      · rw [Nat.zero_add]; refine Nat.le_trans (Nat.mul_le_mul hl (show _ ≤ 4096 by decide)) (by decide)
    · rintro e w' ⟨v, n, c, rfl, h1, h2⟩
      exact ⟨_, _, _, _, rfl, h1, h2 _⟩
  · cases hp

@[reducible] def p_slices_Concat_int_int (Ha : GH) (wa : World) (r : (List Int)) : Ending → World → Prop :=
  fun e w' => ∃ H' : GH, ∃ v0 : Value, ∃ n0 : Nat, ∃ c0 : List Value, e = .returned (v0) ∧ St Ha wa H' w' [.row 3 1 v0 n0 c0] ∧ Els (up wa.heap.size H') eI 1 c0 r
theorem w_slices_Concat_int_int {Ha : GH} {wa : World} (hs : Sl Ha wa) (v0 : Value) (a0 : List (List Int)) (p0 : RSl Ha (eL eI 1) 1 v0 a0) {r : (List Int)} (hp : (PF.slices_Concat_int_int a0) = some r) :
    Calls prog 144 #[v0] wa (p_slices_Concat_int_int Ha wa r) := by
  unfold PF.slices_Concat_int_int at hp
  have S0 := St.init hs
  refine calls_go (N := 36) (args := [v0]) Tryz.func144 rfl rfl rfl ?_
  refine FW.seq (FW.region ?_)
  refine FL.v (E.assign (v := vN) rfl) ?_
  refine FL.nil (FW.seq (FW.region ?_))
  refine FL.v (E.assign (v := vI 0) rfl) ?_
  refine FL.nil (FW.seq (FW.seq (FW.region ?_)))
  refine FL.v (E.move (v := v0) rfl) ?_
  refine FL.v (E.lenP te22 rfl p0) ?_
  refine FL.v (E.move (v := vI 0) rfl) ?_
  refine FL.nil ?_
  obtain ⟨q22, hq, hp⟩ := bndR hp
  refine FW.block ?_
  refine FW.mono (FW.forL (S := Int) (X := Empty) (fun (i22 : Nat) (s22 : Int) f w => ∃ H : GH, St Ha wa H w [] ∧ Inc Ha H ∧ f 11 = vI ((i22 : Nat) : Int) ∧ f 0 = v0 ∧ f 3 = vI s22 ∧ f 9 = v0 ∧ f 10 = vI (len a0)) (fun (q : Rs Int Empty) e f w => match q with | .go s22 => e = Exit.exit 0 ∧ (∃ H : GH, St Ha wa H w [] ∧ Inc Ha H ∧ f 0 = v0 ∧ f 3 = vI s22) | .rt x => x.elim) hq ⟨_, S0, (Inc.rfl _), rfl, rfl, rfl, rfl, rfl⟩ ?_ ?_) ?_
  ·
    clear hp hq
    rintro i22 y21 s22 f46 w45 ⟨H42, S43, i44, k47, k48, k49, k50, k51⟩ hx22 o61 hp
    refine FW.seq (FW.region ?_)
    refine FL.v (E.lssT k47 k51 (lss_len hx22)) ?_
    refine FL.nil (FW.seq ?_)
    refine FW.condT rfl rfl ?_
    refine FW.skip (FW.seq (FW.block (FW.seq (FW.region ?_))))
    obtain ⟨p52, cs53, pt54, l55, at56, rel57⟩ := p0.at (ix_nat hx22)
    obtain ⟨v58, rfl, h59⟩ := eL_open rel57
    refine FL.v (E.indexAddr te22 k50 k47 pt54) ?_
    refine FL.v (E.load rfl (run_load0 Tryz.isAgg44 ((at56.mono i44).now S43.sl) rfl)) ?_
    refine FL.v (E.assign (v := v58) rfl) ?_
    refine FL.nil (FW.seq (FW.region ?_))
    refine FL.v (E.move k49) ?_
    refine FL.v (E.move (v := v58) rfl) ?_
    refine FL.v (E.lenP te44 rfl h59) ?_
    refine FL.v (E.add rfl rfl) ?_
    refine FL.v (E.assign (v := vI (wr (s22 + (len y21)))) rfl) ?_
    refine FL.nil (FW.seq (FW.region ?_))
    refine FL.v (E.move (v := vI (wr (s22 + (len y21)))) rfl) ?_
    refine FL.v (E.lss rfl rfl) ?_
    refine FL.nil ?_
    rcases ifB hp with ⟨c60, hp⟩ | ⟨c60, hp⟩
    ·
      refine FW.condT rfl c60 ?_
      cases hp
    ·
      refine FW.condF rfl c60 ?_
      refine FW.skip (FW.region ?_)
      refine FL.v (E.add k47 rfl) ?_
      refine FL.v (E.move (v := vI (wr (((i22 : Nat) : Int) + 1))) rfl) ?_
      refine FL.nil ?_
      obtain rfl := Option.some.inj hp
      exact ⟨rfl, ⟨_, S43, i44, (nat_succ rfl (lt_of_get hx22) (p0.mono i44).le), k48, rfl, k50, k51⟩⟩
  ·
    clear hp hq
    rintro s22 f159 w158 ⟨H155, S156, i157, k160, k161, k162, k163, k164⟩
    refine FW.seq (FW.region ?_)
    refine FL.v (E.lss k160 k164) ?_
    refine FL.nil (FW.seq ?_)
    refine FW.condF rfl dlt_len ?_
    refine FW.exit ?_
    exact ⟨nofun, rfl, ⟨_, S156, i157, k161, k162⟩⟩
  ·
    clear hq
    intro e f66 w65 hD
    rcases q22 with s22 | x22
    ·
      obtain ⟨rfl, hD⟩ := hD
      obtain ⟨H62, S63, i64, k67, k68⟩ := hD
      replace hp := el_go hp
      refine FW.seq (FW.region ?_)
      refine FL.v (E.move k68) ?_
      obtain ⟨r69, hr70, hp⟩ := bnd hp
      refine FL.call rfl rfl rfl (E.call Tryz.call173 (A2 rfl rfl)) (w_slices_Grow_int_int S63.sl s22 hr70) ?_
      rintro e w72 ⟨H71, v75, n76, cs77, rfl, r74, els78⟩
      refine ⟨_, rfl, ?_⟩
      have els78 := els78.mono (up_le S63.size)
      have S73 := S63.join (l' := [.row 3 1 v75 n76 cs77]) r74 rfl
      refine FL.v (E.assign (v := v75) rfl) ?_
      refine FL.nil (FW.seq (FW.seq (FW.region ?_)))
      refine FL.v (E.move k67) ?_
      refine FL.v (E.lenP te22 rfl p0) ?_
      refine FL.v (E.move (v := vI 0) rfl) ?_
      refine FL.nil ?_
      obtain ⟨q80, hq, hp⟩ := bndR hp
      refine FW.block ?_
      refine FW.mono (FW.forL (S := (List Int)) (X := Empty) (fun (i80 : Nat) (s80 : (List Int)) f w => ∃ H : GH, ∃ v81 : Value, ∃ n82 : Nat, ∃ cs83 : List Value, St Ha wa H w [.row 3 1 v81 n82 cs83] ∧ Inc H71 H ∧ Els (up wa.heap.size H) eI 1 cs83 s80 ∧ f 27 = vI ((i80 : Nat) : Int) ∧ f 6 = v81 ∧ f 25 = v0 ∧ f 26 = vI (len a0)) (fun (q : Rs (List Int) Empty) e f w => match q with | .go s80 => e = Exit.exit 2 ∧ (∃ H : GH, ∃ v81 : Value, ∃ n82 : Nat, ∃ cs83 : List Value, St Ha wa H w [.row 3 1 v81 n82 cs83] ∧ Inc H71 H ∧ Els (up wa.heap.size H) eI 1 cs83 s80 ∧ f 6 = v81) | .rt x => x.elim) hq ⟨_, _, _, _, S73, (Inc.rfl _), els78, rfl, rfl, rfl, rfl⟩ ?_ ?_) ?_
      ·
        clear hp hq
        rintro i80 y79 s80 f116 w115 ⟨H112, v81, n82, cs83, S113, i114, els84, k117, k118, k119, k120⟩ hx80 o139 hp
        refine FW.seq (FW.region ?_)
        refine FL.v (E.lssT k117 k120 (lss_len hx80)) ?_
        refine FL.nil (FW.seq ?_)
        refine FW.condT rfl rfl ?_
        refine FW.skip (FW.seq (FW.block (FW.seq (FW.region ?_))))
        obtain ⟨p121, cs122, pt123, l124, at125, rel126⟩ := p0.at (ix_nat hx80)
        obtain ⟨v127, rfl, h128⟩ := eL_open rel126
        refine FL.v (E.indexAddr te22 k119 k117 pt123) ?_
        refine FL.v (E.load rfl (run_load0 Tryz.isAgg44 ((at125.mono ((i64.tr r74.run.inc).tr i114)).now S113.sl) rfl)) ?_
        refine FL.v (E.assign (v := v127) rfl) ?_
        refine FL.nil (FW.region ?_)
        refine FL.v (E.move k118) ?_
        refine FL.v (E.move (v := v127) rfl) ?_
        obtain ⟨xs129, hz130, hp⟩ := bnd hp
        obtain ⟨v131, w134, n132, cs133, run135, S136, els137⟩ := S113.appendP (P := prog) (Inc.rfl _) te44 (i := 0) rfl (els84.mono upI) (h128.mono ((i64.tr r74.run.inc).tr i114)) hz130
        have S136 : St Ha wa H112 w134 [.row 3 1 v131 n132 cs133] := S136
        have els137 : Els (up wa.heap.size H112) eI 1 cs133 xs129 := els137.any (fun _ _ _ _ h => h)
        refine FL.v (E.append rfl rfl run135) ?_
        refine FL.v (E.assign (v := v131) rfl) ?_
        refine FL.nil (FW.region ?_)
        refine FL.v (E.add k117 rfl) ?_
        refine FL.v (E.move (v := vI (wr (((i80 : Nat) : Int) + 1))) rfl) ?_
        refine FL.nil ?_
        obtain rfl := Option.some.inj hp
        exact ⟨rfl, ⟨_, _, _, _, S136, i114, els137, (nat_succ rfl (lt_of_get hx80) (p0.mono ((i64.tr r74.run.inc).tr i114)).le), rfl, k119, k120⟩⟩
      ·
        clear hp hq
        rintro s80 f150 w149 ⟨H146, v81, n82, cs83, S147, i148, els84, k151, k152, k153, k154⟩
        refine FW.seq (FW.region ?_)
        refine FL.v (E.lss k151 k154) ?_
        refine FL.nil (FW.seq ?_)
        refine FW.condF rfl dlt_len ?_
        refine FW.exit ?_
        exact ⟨nofun, rfl, ⟨_, _, _, _, S147, i148, els84, k152⟩⟩
      ·
        clear hq
        intro e f144 w143 hD
        rcases q80 with s80 | x80
        ·
          obtain ⟨rfl, hD⟩ := hD
          obtain ⟨H140, v81, n82, cs83, S141, i142, els84, k145⟩ := hD
          replace hp := el_go hp
          refine FW.seq (FW.region ?_)
          refine FL.v (E.move k145) ?_
          refine FL.v (E.assign (v := v81) rfl) ?_
          refine FL.nil ?_
          refine FW.ret ?_
          obtain rfl := Option.some.inj hp
          exact ⟨.inr rfl, res1 rfl rfl ⟨_, _, _, _, rfl, S141, els84⟩⟩
        · exact x80.elim
    · exact x22.elim

@[reducible] def p_impl_resolve (Ha : GH) (wa : World) (r : ((List Int) × Bool)) : Ending → World → Prop :=
 fun e w' => ∃ H' : GH, ∃ v0 : Value, ∃ n0 : Nat, ∃ c0 : List Value, e = .returned (Value.tuple #[v0, vB r.2]) ∧ St Ha wa H' w' [.row 3 1 v0 n0 c0] ∧ Els (up wa.heap.size H') eI 1 c0 r.1
theorem w_impl_resolve {Ha : GH} {wa : World} (hs : Sl Ha wa) (v0 : Value) (a0 : List Int) (p0 : RSl Ha eI 1 v0 a0) (v1 : Value) (a1 : List Int) (p1 : RSl Ha eI 1 v1 a1) (a2 : Int) {r : ((List Int) × Bool)} (hp : (PF.impl_resolve a0 a1 a2) = some r) :
  Calls prog 117 #[v0, v1, vI a2] wa (p_impl_resolve Ha wa r) := by
 unfold PF.impl_resolve at hp; have S0 := St.init hs; refine calls_go (N := 30) (args := [v0, v1, vI a2]) func117 rfl rfl rfl ?_; refine FW.sr ?_; refine FL.as (v := vN) rfl ?_; refine FL.as (v := vB false) rfl ?_; refine FL.nil (FW.seq (FW.sr ?_)); refine FL.mv (v := v0) rfl ?_; refine FL.mv (v := vI a2) rfl ?_; obtain ⟨r21, hr22, hp⟩ := bnd hp; refine FL.c (E.call call116 (A2 rfl rfl)) (w_slices_Contains_int_int S0.sl v0 a0 p0 a2 hr22) ?_; rintro e w23 ⟨rfl, r24⟩; refine ⟨_, rfl, ?_⟩; have S25 := S0.call r24; refine FL.v (E.not rfl) ?_; refine FL.mv (v := vB (!r21)) rfl ?_; obtain ⟨t31, hqt31, hp⟩ := bnd hp; refine FL.cut 6 (fun f w => ∃ H : GH, St Ha wa H w [] ∧ Inc Ha H ∧ f 0 = v0 ∧ f 1 = v1 ∧ f 2 = vI a2 ∧ f 18 = vB t31) ?_ ?_
 ·
  clear hp; have hp := hqt31; clear hqt31; rcases ifB hp with ⟨c37, hp⟩ | ⟨c37, hp⟩
  ·
   refine FL.skip (wN c37) rfl ?_; refine FL.skip (wN c37) rfl ?_; refine FL.skip (wN c37) rfl ?_; refine FL.skip (wN c37) rfl ?_; refine FL.skip (wN c37) rfl ?_; cases hp; refine FL.v (E.pickT rfl c37 rfl) ?_; exact FL.nil ⟨rfl, _, S25, I0, rfl, rfl, rfl, rfl⟩
  ·
   refine FL.y (wY c37) (E.move (v := v1) rfl) ?_; refine FL.y (wY c37) (E.move (v := vI a2) rfl) ?_; refine FL.y (wY c37) (E.neg rfl) ?_; obtain ⟨r38, hr39, hp⟩ := bnd hp; refine FL.call (wY c37) rfl rfl (E.call call116 (A2 rfl rfl)) (w_slices_Contains_int_int S25.sl v1 a1 p1 (wr (-a2)) hr39) ?_; rintro e w40 ⟨rfl, r41⟩; refine ⟨_, rfl, ?_⟩; have S42 := S25.call r41; refine FL.y (wY c37) (E.not rfl) ?_; cases hp; refine FL.v (E.pickF rfl c37 rfl) ?_; exact FL.nil ⟨rfl, _, S42, I0, rfl, rfl, rfl, rfl⟩
 rintro f36 w35 ⟨H32, S33, i34, k43, k44, k45, k46⟩; refine FL.nil ?_; rcases ifB hp with ⟨c47, hp⟩ | ⟨c47, hp⟩
 ·
  refine FW.condT k46 c47 ?_; refine FW.sr ?_; refine FL.as (v := vN) rfl ?_; refine FL.as (v := vB false) rfl ?_; refine FL.nil (FW.ret ?_); cases hp; exact ⟨.inr rfl, res2 rfl rfl rfl ⟨_, _, _, _, rfl, (S33.nil 3 1), Els.nil⟩⟩
 ·
  refine FW.condF k46 c47 ?_; refine FW.skip (FW.sr ?_); refine FL.mv k43 ?_; refine FL.mv k45 ?_; obtain ⟨r48, hr49, hp⟩ := bnd hp; refine FL.c (E.call call145 (A2 rfl rfl)) (w_impl_withoutVar S33.sl v0 a0 (p0.mono i34) a2 hr49) ?_; rintro e w51 ⟨H50, v54, n55, cs56, rfl, r53, els57⟩; refine ⟨_, rfl, ?_⟩; have els57 := els57.mono (up_le S33.size); have S52 := S33.join (l' := [.row 3 1 v54 n55 cs56]) r53 rfl; refine FL.mv k44 ?_; refine FL.mv k45 ?_; obtain ⟨r58, hr59, hp⟩ := bnd hp; refine FL.c (E.call call145 (A2 rfl rfl)) (w_impl_withoutVar S52.sl v1 a1 (p1.mono (i34.tr r53.run.inc)) a2 hr59) ?_; rintro e w61 ⟨H60, v64, n65, cs66, rfl, r63, els67⟩; refine ⟨_, rfl, ?_⟩; have els67 := els67.mono (up_le S52.size); have S62 := S52.join (l' := [.row 3 1 v64 n65 cs66, .row 3 1 v54 n55 cs56]) r63 rfl; obtain ⟨H68, S69, i70, h71, nv72⟩ := S62.sealRowU (i := 1) (l' := [.row 3 1 v64 n65 cs66]) rfl (els57.mono (up_mono r63.run.inc)) (by decide) rfl; obtain ⟨H73, S74, i75, h76, nv77⟩ := S69.sealRowU (i := 0) (l' := []) rfl (els67.mono (up_mono i70)) (by decide) rfl; obtain ⟨v78, w79, run80, S81⟩ := S74.buildSlice (P := prog) te22 [v54, v64] (parts := #[(0, v54), (1, v64)]) (cells := [v54, v64]) rfl (szs_cons (cells_size h71.cells) (szs_cons (cells_size h76.cells) szs_nil)) (fc_cons h71.cells (fc_cons h76.cells fc_nil)) (oC h71.one (oC h76.one ones_nil)) (nB rfl); have els82 : Els (up wa.heap.size H73) (eL eI 1) 1 [v54, v64] [r48, r58] := (Els.snoc (H := (up wa.heap.size H73)) (E := (eL eI 1)) (k := 1) (c := [v64]) (x := r58) (Els.snoc (H := (up wa.heap.size H73)) (E := (eL eI 1)) (k := 1) (c := [v54]) (x := r48) Els.nil rfl ⟨_, rfl, (h71.mono (up_mono i75))⟩) rfl ⟨_, rfl, h76⟩); refine FL.v (E.buildSlice (B2 rfl rfl) run80) ?_; obtain ⟨H83, S84, i85, h86, nv87⟩ := S81.sealRowU (i := 0) (l' := []) rfl els82 (by decide) rfl; obtain ⟨r88, hr89, hp⟩ := bnd hp; refine FL.c (E.call call144 (A1 rfl)) (w_slices_Concat_int_int S84.sl v78 [r48, r58] (h86.mono upI) hr89) ?_; rintro e w91 ⟨H90, v96, n97, cs98, rfl, r93, els99⟩; refine ⟨_, rfl, ?_⟩; obtain ⟨H94, r93, hU95⟩ := St.lendX i85 S81.sl r93; have els99 := els99.mono (hU95.tr (up_le S81.size)); have S92 := S81.join (l' := [.row 3 1 v96 n97 cs98, .row 44 1 v78 2 [v54, v64]]) r93 rfl; obtain ⟨H100, S101, i102, h103, nv104⟩ := S92.sealRowU (i := 0) (l' := [.row 44 1 v78 2 [v54, v64]]) rfl els99 (by decide) rfl; obtain ⟨r105, hr106, hp⟩ := bnd hp; refine FL.c (E.call call143 (A1 rfl)) (w_impl_clause S101.sl v96 r88 (h103.mono upI) hr106) ?_; rintro e w108 ⟨H107, v113, n114, cs115, rfl, r110, els116⟩; refine ⟨_, rfl, ?_⟩; obtain ⟨H111, r110, hU112⟩ := St.lendX i102 S92.sl r110; have els116 := els116.mono (hU112.tr (up_le S92.size)); have S109 := S92.join (l' := [.row 3 1 v113 n114 cs115, .row 3 1 v96 n97 cs98, .row 44 1 v78 2 [v54, v64]]) r110 rfl; refine FL.v (E.extract (i := 0) rfl rfl) ?_; refine FL.v (E.extract (i := 1) rfl rfl) ?_; refine FL.as (v := v113) rfl ?_; refine FL.as (v := vB r105.2) rfl ?_; refine FL.nil (FW.ret ?_); cases hp; exact ⟨.inr rfl, res2 rfl rfl rfl ⟨_, _, _, _, rfl, (S109.sel [0] (by decide) rfl), els116⟩⟩

theorem w_slices_Equal_int_int {Ha : GH} {wa : World} (hs : Sl Ha wa) (v0 : Value) (a0 : List Int) (p0 : RSl Ha eI 1 v0 a0) (v1 : Value) (a1 : List Int) (p1 : RSl Ha eI 1 v1 a1) {r : Bool} (hp : (PF.slices_Equal_int_int a0 a1) = some r) :
  Calls prog 92 #[v0, v1] wa (Sc Ha wa (vB r)) := by
 unfold PF.slices_Equal_int_int at hp; have S0 := St.init hs; refine calls_go (N := 26) (args := [v0, v1]) func92 rfl rfl rfl ?_; refine FW.sr ?_; refine FL.as (v := vB false) rfl ?_; refine FL.nil (FW.seq (FW.sr ?_)); refine FL.mv (v := v0) rfl ?_; refine FL.v (E.lenP te44 rfl p0) ?_; refine FL.mv (v := v1) rfl ?_; refine FL.v (E.lenP te44 rfl p1) ?_; refine FL.v (E.neq rfl rfl) ?_; refine FL.nil ?_; rcases ifB hp with ⟨c21, hp⟩ | ⟨c21, hp⟩
 ·
  refine FW.condT rfl c21 ?_; refine FW.sr ?_; refine FL.as (v := vB false) rfl ?_; refine FL.nil (FW.ret ?_); cases hp; exact ⟨.inr rfl, res1 rfl rfl ⟨rfl, S0.back⟩⟩
 ·
  refine FW.condF rfl c21 ?_; refine FW.skip (FW.seq (FW.sr ?_)); refine FL.mv (v := v0) rfl ?_; refine FL.v (E.lenP te44 rfl p0) ?_; refine FL.mv (v := vI 0) rfl ?_; refine FL.nil ?_; obtain ⟨q23, hq, hp⟩ := bndR hp; refine FW.block ?_; refine FW.mono (FW.forL (S := Unit) (X := Bool) (fun (i23 : Nat) (s23 : Unit) f w => ∃ H : GH, St Ha wa H w [] ∧ Inc Ha H ∧ f 13 = vI ((i23 : Nat) : Int) ∧ f 0 = v0 ∧ f 1 = v1 ∧ f 12 = vI (len a0)) (fun q e f w => match q with | .go s23 => e = Exit.exit 0 ∧ (∃ H : GH, St Ha wa H w [] ∧ Inc Ha H) | .rt x => ((e = Exit.ret) ∧ (fun e f w => (e = Exit.normal ∨ e = Exit.ret) ∧ ∀ a, Fr (δ := []) 26 a f → ∃ v, (results Tryz.f92 a.tmps).run prog w = .ok v w ∧ (Sc Ha wa (vB x)) (.returned v) w) e f w)) hq ⟨_, S0, I0, rfl, rfl, rfl, rfl⟩ ?_ ?_) ?_
  ·
   clear hp hq; rintro i23 y22 s23 f56 w55 ⟨H52, S53, i54, k57, k58, k59, k60⟩ hx23 o80 hp; refine FW.sr ?_; refine FL.v (E.lssT k57 k60 (lss_len hx23)) ?_; refine FL.nil (FW.seq ?_); refine FW.condT rfl rfl ?_; refine FW.skip (FW.seq (FW.block (FW.sr ?_))); refine FL.mv k57 ?_; refine FL.as (v := vI ((i23 : Nat) : Int)) rfl ?_; refine FL.nil (FW.seq ?_); refine FW.draw (fun w' => Run w55.heap.size H52 w55 H52 w') (by kernel_rfl) (by kernel_rfl) (run_drew S53.sl) ?_; refine FD.v (fun _ z => (E.move k58)) ?_; refine FD.v (fun _ z => (E.move (v := vI ((i23 : Nat) : Int)) rfl)) ?_; obtain ⟨p62, cs63, pt64, l65, at66, rel67⟩ := p0.at (ix_nat hx23); obtain rfl := eI_open rel67; refine FD.v (fun _ z => (E.indexAddr te44 rfl rfl pt64)) ?_; refine FD.v (fun _ z => (E.load rfl (run_load0 isAgg3 ((at66.mono i54).now (S53.call z).sl) rfl))) ?_; refine FD.v (fun _ z => (E.move k59)) ?_; refine FD.v (fun _ z => (E.move (v := vI ((i23 : Nat) : Int)) rfl)) ?_; obtain ⟨x74, hx75, hp⟩ := bnd hp; obtain ⟨p68, cs69, pt70, l71, at72, rel73⟩ := p1.at hx75; obtain rfl := eI_open rel73; refine FD.v (fun _ z => (E.indexAddr te44 rfl rfl pt70)) ?_; refine FD.v (fun _ z => (E.load rfl (run_load0 isAgg3 ((at72.mono i54).now (S53.call z).sl) rfl))) ?_; refine FD.v (fun _ z => (E.neq rfl rfl)) ?_; refine FD.nil ?_; intro w76 r78; have S77 := S53.call r78; rcases ifB hp with ⟨c79, hp⟩ | ⟨c79, hp⟩
   ·
    refine FW.condT rfl c79 ?_; refine FW.sr ?_; refine FL.as (v := vB false) rfl ?_; refine FL.nil (FW.ret ?_); cases hp; exact ⟨nofun, rfl, ⟨.inr rfl, res1 rfl rfl ⟨rfl, S77.back⟩⟩⟩
   ·
    refine FW.condF rfl c79 ?_; refine FW.skip (FW.region ?_); refine FL.v (E.add k57 rfl) ?_; refine FL.mv (v := vI (wr (((i23 : Nat) : Int) + 1))) rfl ?_; refine FL.nil ?_; cases hp; exact ⟨rfl, ⟨_, S77, i54, (nat_succ rfl (lt_of_get hx23) (p0.mono i54).le), k58, k59, k60⟩⟩
  ·
   clear hp hq; rintro s23 f90 w89 ⟨H86, S87, i88, k91, k92, k93, k94⟩; refine FW.sr ?_; refine FL.v (E.lss k91 k94) ?_; refine FL.nil (FW.seq ?_); refine FW.condF rfl dlt_len ?_; refine FW.exit ?_; exact ⟨nofun, rfl, ⟨_, S87, i88⟩⟩
  ·
   clear hq; intro e f85 w84 hD; rcases q23 with s23 | x23
   ·
    obtain ⟨rfl, hD⟩ := hD; obtain ⟨H81, S82, i83⟩ := hD; replace hp := el_go hp; refine FW.sr ?_; refine FL.as (v := vB true) rfl ?_; refine FL.nil (FW.ret ?_); cases hp; exact ⟨.inr rfl, res1 rfl rfl ⟨rfl, S82.back⟩⟩
   ·
    obtain ⟨he, hL⟩ := hD; replace hp := el_rt hp; cases hp; subst he; exact hL

@[reducible] def p_back124 (Ha : GH) (wa : World) (v : Value) : Ending → World → Prop :=
  fun e w' => ∃ H' b, e = .returned (.func (.func 161) #[] #[.pointer (some ⟨b, 0, none⟩)]) ∧ Run wa.heap.size Ha wa H' w' ∧ CAt H' ⟨b, 0, none⟩ [v]
theorem w_back124 {Ha : GH} {wa : World} (hs : Sl Ha wa) (v : Value) (xs : List ResStep) (p : RSl Ha eResStep 4 v xs) :
    Calls prog 124 #[v] wa (p_back124 Ha wa v) := by
  have S0 := St.init hs
  refine calls_go (N := 4) (args := [v]) Tryz.func124 rfl rfl rfl ?_
  refine FW.seq (FW.region ?_)
  obtain ⟨b, w1, run, S1⟩ := S0.box (P := prog) 29 [v] (v := v) p.cells (ones_cons p.one ones_nil)
  refine FL.v (E.box rfl run) ?_
  refine FL.v (E.assign rfl) ?_
  refine FL.nil (FW.seq (FW.region ?_))
  refine FL.v (E.makeFunc A0 (A1 rfl)) ?_
  refine FL.v (E.assign rfl) ?_
  refine FL.nil ?_
  refine FW.ret ?_
  obtain ⟨H1, S2, i1, at1⟩ := S1.sealBox (i := 0) (l' := []) rfl rfl
  exact ⟨.inr rfl, res1 rfl rfl ⟨H1, b, rfl, S2.run, at1⟩⟩
theorem w_iter161 {Hs : GH} {b : Addr} {v : Value} {xs : List ResStep} (hb : CAt Hs b [v]) (hv : RSl Hs eResStep 4 v xs) (L : List (Value × ResStep × Nat)) (hn : L.map Prod.snd = xs.zipIdx.reverse)
    (hA : ∀ j a, L[j]? = some a → a.2.2 + j + 1 = xs.length ∧ ∃ p cs, PtrOf 4 v (a.2.2 : Int) p ∧ cs.length = 4 ∧ CAt Hs p cs ∧ eResStep.rel Hs cs a.2.1 ∧ a.1 = (fun cs => Value.agg cs.toArray) cs) :
    IterOk prog Hs 161 #[.pointer (some b)] (fun a => [vI (a.2.2 : Int), a.1]) L := by
  have hL : L.length = xs.length := by simpa using congrArg List.length hn
  have hle := hv.le
  intro l K Kx W hsl hy h0
  refine calls_go (N := 19) (args := [Value.func (.yield l) #[] #[], vP (b)]) Tryz.func161 rfl rfl rfl ?_
  refine FW.seq (FW.region ?_)
  refine FL.v (E.load rfl (run_load0 Tryz.isAgg29 (hb.now (hsl 0 W h0)) rfl)) ?_
  refine FL.v (E.lenP te29 rfl hv) ?_
  refine FL.v (E.sub rfl rfl) ?_
  refine FL.v (E.assign rfl) ?_
  refine FL.nil (FW.block ?_)
  refine FW.loopG (fun m f w => ∃ j, j ≤ xs.length ∧ m = xs.length - j ∧ K j w ∧ f 0 = Value.func (.yield l) #[] #[] ∧ f 1 = vP (b) ∧ f 3 = vI ((xs.length : Int) - 1 - j)) ?_ (m := xs.length) ⟨0, Nat.zero_le _, rfl, h0, rfl, rfl, congrArg (Value.int .i64) (by
    rw [wr_of] <;> simp only [len, maxLen] at * <;> omega)⟩
  rintro m f w ⟨j, hj, rfl, hk, k0, k1, k3⟩
  refine FW.seq (FW.seq (FW.region ?_))
  refine FL.v (E.move k3) ?_
  refine FL.v (E.geq rfl rfl) ?_
  refine FL.nil ?_
  by_cases hlt : j < xs.length
  · refine FW.condT rfl (decide_eq_true (by omega)) ?_
    refine FW.skip (FW.seq (FW.block (FW.seq (FW.region ?_))))
    obtain ⟨a, ha⟩ : ∃ a, L[j]? = some a := ⟨_, List.getElem?_eq_getElem (by omega)⟩
    obtain ⟨hlen, p, cs, hp, hl, hc, hr, hu⟩ := hA j a ha
    have k3' : f 3 = vI ((a.2.2 : Nat) : Int) := by rw [k3]; exact congrArg _ (by omega)
    refine FL.v (E.move k0) ?_
    refine FL.v (E.move k3') ?_
    refine FL.v (E.load k1 (run_load0 Tryz.isAgg29 (hb.now (hsl j w hk)) rfl)) ?_
    refine FL.v (E.move k3') ?_
    refine FL.v (E.indexAddr te29 rfl rfl hp) ?_
    refine FL.v (E.load (v := Value.agg cs.toArray) rfl (run_loadA Tryz.isAgg63 Tryz.sizeOf63 (hc.now (hsl j w hk)) hl)) ?_
    refine FL.yield rfl rfl rfl (E.yield (args := #[vI ((a.2.2 : Nat) : Int), Value.agg cs.toArray]) rfl (A2 rfl rfl)) (args := [vI ((a.2.2 : Nat) : Int), Value.agg cs.toArray]) (fun n => by have h := hy j a w ha hk n; have e : a.1 = Value.agg cs.toArray := hu; rw [← e]; exact h) ?_
    rintro e w' (⟨rfl, hk'⟩ | ⟨rfl, hk'⟩)
    · refine ⟨_, rfl, ?_⟩
      refine FL.v (E.not rfl) ?_
      refine FL.nil ?_
      refine FW.condF rfl rfl ?_
      refine FW.skip (FW.region ?_)
      refine FL.v (E.move k3) ?_
      refine FL.v (E.sub rfl rfl) ?_
      refine FL.v (E.assign rfl) ?_
      refine FL.nil ?_
      refine ⟨xs.length - (j + 1), by omega, j + 1, hlt, rfl, hk', k0, k1, congrArg (Value.int .i64) ?_⟩
      simp only [maxLen] at *
      rw [wr_of] <;> omega
    · refine ⟨_, rfl, ?_⟩
      refine FL.v (E.not rfl) ?_
      refine FL.nil ?_
      refine FW.condT rfl rfl ?_
      refine FW.ret ?_
      exact ⟨.inr rfl, res0 rfl ⟨⟨_, rfl⟩, .inr hk'⟩⟩
  · refine FW.condF rfl (decide_eq_false (by omega)) ?_
    refine FW.exit ?_
    have e : j = L.length := by omega
    exact ⟨.inl rfl, res0 rfl ⟨⟨_, rfl⟩, .inl (e ▸ hk)⟩⟩

theorem w_impl_ResStep_isAxiom {Ha : GH} {wa : World} (hs : Sl Ha wa) (a0 : ResStep) (v0_0 : Value) (p0_0 : RSl Ha eI 1 v0_0 a0.clause) :
  Calls prog 128 #[vA #[v0_0, vI a0.left, vI a0.right, vI a0.pivot]] wa (Sc Ha wa (vB (PF.impl_ResStep_isAxiom a0))) := by
 obtain ⟨r, hp⟩ : ∃ r, (PF.impl_ResStep_isAxiom a0) = r := ⟨_, rfl⟩; rw [hp]; unfold PF.impl_ResStep_isAxiom at hp; have S0 := St.init hs; refine calls_go (N := 6) (args := [vA #[v0_0, vI a0.left, vI a0.right, vI a0.pivot]]) func128 rfl rfl rfl ?_; refine FW.sr ?_; obtain ⟨b21, w22, run23, S24⟩ := S0.box (P := prog) 63 [v0_0, vI a0.left, vI a0.right, vI a0.pivot] (v := vA #[v0_0, vI a0.left, vI a0.right, vI a0.pivot]) rfl (oC p0_0.one (oC rfl (oC rfl (oC rfl ones_nil)))); refine FL.v (E.box rfl run23) ?_; obtain ⟨H25, S26, i27, at28⟩ := S24.sealBox (i := 0) (l' := []) rfl rfl; refine FL.as (v := vB false) rfl ?_; refine FL.nil (FW.sr ?_); refine FL.v (E.fieldAddr tf63_1 rfl) ?_; refine FL.v (E.load rfl (run_load1 isAgg3 (at28.now S26.sl) rfl)) ?_; refine FL.v (E.lss rfl rfl) ?_; refine FL.as (v := vB (decide (a0.left < 0))) rfl ?_; refine FL.nil (FW.ret ?_); obtain rfl := hp; exact ⟨.inr rfl, res1 rfl rfl ⟨rfl, S26.back⟩⟩

theorem w_impl_ResStep_isWeakening {Ha : GH} {wa : World} (hs : Sl Ha wa) (a0 : ResStep) (v0_0 : Value) (p0_0 : RSl Ha eI 1 v0_0 a0.clause) :
  Calls prog 162 #[vA #[v0_0, vI a0.left, vI a0.right, vI a0.pivot]] wa (Sc Ha wa (vB (PF.impl_ResStep_isWeakening a0))) := by
 obtain ⟨r, hp⟩ : ∃ r, (PF.impl_ResStep_isWeakening a0) = r := ⟨_, rfl⟩; rw [hp]; unfold PF.impl_ResStep_isWeakening at hp; have S0 := St.init hs; refine calls_go (N := 11) (args := [vA #[v0_0, vI a0.left, vI a0.right, vI a0.pivot]]) func162 rfl rfl rfl ?_; refine FW.sr ?_; obtain ⟨b21, w22, run23, S24⟩ := S0.box (P := prog) 63 [v0_0, vI a0.left, vI a0.right, vI a0.pivot] (v := vA #[v0_0, vI a0.left, vI a0.right, vI a0.pivot]) rfl (oC p0_0.one (oC rfl (oC rfl (oC rfl ones_nil)))); refine FL.v (E.box rfl run23) ?_; obtain ⟨H25, S26, i27, at28⟩ := S24.sealBox (i := 0) (l' := []) rfl rfl; refine FL.as (v := vB false) rfl ?_; refine FL.nil (FW.sr ?_); refine FL.v (E.fieldAddr tf63_1 rfl) ?_; refine FL.v (E.load rfl (run_load1 isAgg3 (at28.now S26.sl) rfl)) ?_; refine FL.v (E.geq rfl rfl) ?_; refine FL.mv (v := vB (decide (0 ≤ a0.left))) rfl ?_; refine FL.cut 4 (fun f w => ∃ H : GH, St Ha wa H w [] ∧ Inc H25 H ∧ f 10 = vB (bif (decide (0 ≤ a0.left)) then (decide (a0.right < 0)) else false)) ?_ ?_
 ·
  rcases bcase (decide (0 ≤ a0.left)) with c35 | c35
  ·
   refine FL.y (wY c35) (E.fieldAddr tf63_2 rfl) ?_; refine FL.y (wY c35) (E.load rfl (run_load1 isAgg3 (at28.now S26.sl) rfl)) ?_; refine FL.y (wY c35) (E.lss rfl rfl) ?_; refine FL.v (E.pickT rfl c35 rfl) ?_; exact FL.nil ⟨rfl, _, S26, I0, (congrArg vB (bifT c35).symm)⟩
  ·
   refine FL.skip (wN c35) rfl ?_; refine FL.skip (wN c35) rfl ?_; refine FL.skip (wN c35) rfl ?_; refine FL.v (E.pickF rfl c35 rfl) ?_; exact FL.nil ⟨rfl, _, S26, I0, (congrArg vB (bifF c35).symm)⟩
 rintro f34 w33 ⟨H30, S31, i32, k36⟩; refine FL.as k36 ?_; refine FL.nil (FW.ret ?_); obtain rfl := hp; exact ⟨.inr rfl, res1 rfl rfl ⟨rfl, S31.back⟩⟩

@[reducible] def p_impl_ResStep_premises (Ha : GH) (wa : World) (r : (List Int)) : Ending → World → Prop :=
 fun e w' => ∃ H' : GH, ∃ v0 : Value, ∃ n0 : Nat, ∃ c0 : List Value, e = .returned (v0) ∧ St Ha wa H' w' [.row 3 1 v0 n0 c0] ∧ Els (up wa.heap.size H') eI 1 c0 r
theorem w_impl_ResStep_premises {Ha : GH} {wa : World} (hs : Sl Ha wa) (a0 : ResStep) (v0_0 : Value) (p0_0 : RSl Ha eI 1 v0_0 a0.clause) :
  Calls prog 125 #[vA #[v0_0, vI a0.left, vI a0.right, vI a0.pivot]] wa (p_impl_ResStep_premises Ha wa (PF.impl_ResStep_premises a0)) := by
 obtain ⟨r, hp⟩ : ∃ r, (PF.impl_ResStep_premises a0) = r := ⟨_, rfl⟩; rw [hp]; unfold PF.impl_ResStep_premises at hp; have S0 := St.init hs; refine calls_go (N := 17) (args := [vA #[v0_0, vI a0.left, vI a0.right, vI a0.pivot]]) func125 rfl rfl rfl ?_; refine FW.sr ?_; obtain ⟨b21, w22, run23, S24⟩ := S0.box (P := prog) 63 [v0_0, vI a0.left, vI a0.right, vI a0.pivot] (v := vA #[v0_0, vI a0.left, vI a0.right, vI a0.pivot]) rfl (oC p0_0.one (oC rfl (oC rfl (oC rfl ones_nil)))); refine FL.v (E.box rfl run23) ?_; obtain ⟨H25, S26, i27, at28⟩ := S24.sealBox (i := 0) (l' := []) rfl rfl; refine FL.as (v := vN) rfl ?_; refine FL.nil (FW.seq (FW.block (FW.sr ?_))); refine FL.v (E.load rfl (run_loadA isAgg63 sizeOf63 (at28.now S26.sl) rfl)) ?_; refine FL.c (E.call call128 (A1 rfl)) (w_impl_ResStep_isAxiom S26.sl a0 v0_0 (p0_0.mono i27)) ?_; rintro e w29 ⟨rfl, r30⟩; refine ⟨_, rfl, ?_⟩; have S31 := S26.call r30; refine FL.as (v := vB (PF.impl_ResStep_isAxiom a0)) rfl ?_; refine FL.nil ?_; rcases ifT hp with ⟨c32, hp⟩ | ⟨c32, hp⟩
 ·
  refine FW.condT rfl c32 ?_; refine FW.sr ?_; refine FL.as (v := vN) rfl ?_; refine FL.nil (FW.ret ?_); obtain rfl := hp; exact ⟨.inr rfl, res1 rfl rfl ⟨_, _, _, _, rfl, (S31.nil 3 1), Els.nil⟩⟩
 ·
  refine FW.condF rfl c32 ?_; refine FW.sr ?_; refine FL.v (E.load rfl (run_loadA isAgg63 sizeOf63 (at28.now S31.sl) rfl)) ?_; refine FL.c (E.call call162 (A1 rfl)) (w_impl_ResStep_isWeakening S31.sl a0 v0_0 (p0_0.mono i27)) ?_; rintro e w33 ⟨rfl, r34⟩; refine ⟨_, rfl, ?_⟩; have S35 := S31.call r34; refine FL.as (v := vB (PF.impl_ResStep_isWeakening a0)) rfl ?_; refine FL.nil ?_; rcases ifT hp with ⟨c36, hp⟩ | ⟨c36, hp⟩
  ·
   refine FW.condT rfl c36 ?_; refine FW.sr ?_; refine FL.v (E.fieldAddr tf63_1 rfl) ?_; refine FL.v (E.load rfl (run_load1 isAgg3 (at28.now S35.sl) rfl)) ?_; obtain ⟨v37, w38, run39, S40⟩ := S35.buildSlice (P := prog) te44 [vI a0.left] (parts := #[(0, vI a0.left)]) (cells := [vI a0.left]) rfl (szs_cons rfl szs_nil) (fc_cons rfl fc_nil) (oC rfl ones_nil) (nB rfl); have els41 : Els (up wa.heap.size H25) eI 1 [vI a0.left] [a0.left] := (Els.snoc (H := (up wa.heap.size H25)) (E := eI) (k := 1) (c := [vI a0.left]) (x := a0.left) Els.nil rfl rfl); refine FL.v (E.buildSlice (B1 rfl) run39) ?_; refine FL.as (v := v37) rfl ?_; refine FL.nil (FW.ret ?_); obtain rfl := hp; exact ⟨.inr rfl, res1 rfl rfl ⟨_, _, _, _, rfl, S40, els41⟩⟩
  ·
   refine FW.condF rfl c36 ?_; refine FW.skip (FW.sr ?_); refine FL.v (E.fieldAddr tf63_1 rfl) ?_; refine FL.v (E.load rfl (run_load1 isAgg3 (at28.now S35.sl) rfl)) ?_; refine FL.v (E.fieldAddr tf63_2 rfl) ?_; refine FL.v (E.load rfl (run_load1 isAgg3 (at28.now S35.sl) rfl)) ?_; obtain ⟨v42, w43, run44, S45⟩ := S35.buildSlice (P := prog) te44 [vI a0.left, vI a0.right] (parts := #[(0, vI a0.left), (1, vI a0.right)]) (cells := [vI a0.left, vI a0.right]) rfl (szs_cons rfl (szs_cons rfl szs_nil)) (fc_cons rfl (fc_cons rfl fc_nil)) (oC rfl (oC rfl ones_nil)) (nB rfl); have els46 : Els (up wa.heap.size H25) eI 1 [vI a0.left, vI a0.right] [a0.left, a0.right] := (Els.snoc (H := (up wa.heap.size H25)) (E := eI) (k := 1) (c := [vI a0.right]) (x := a0.right) (Els.snoc (H := (up wa.heap.size H25)) (E := eI) (k := 1) (c := [vI a0.left]) (x := a0.left) Els.nil rfl rfl) rfl rfl); refine FL.v (E.buildSlice (B2 rfl rfl) run44) ?_; refine FL.as (v := v42) rfl ?_; refine FL.nil (FW.ret ?_); obtain rfl := hp; exact ⟨.inr rfl, res1 rfl rfl ⟨_, _, _, _, rfl, S45, els46⟩⟩

@[reducible] def p_slices_Reverse_int_int (H0 : GH) (w0 : World) (Ha : GH) (L : List MO) (v0 : Value) (n0 : Nat) (r : (List Int)) : Ending → World → Prop :=
  fun e w' => ∃ H' : GH, ∃ c0k : List Value, e = .returned (Value.tuple #[]) ∧ (St H0 w0 H' w' (.row 3 1 v0 n0 c0k :: L) ∧ Inc Ha H') ∧ Els (up w0.heap.size H') eI 1 c0k r
theorem w_slices_Reverse_int_int {H0 Ha : GH} {w0 wa : World} {L : List MO} {v0 : Value} {n0 : Nat} {k0 : List Value} (S0 : St H0 w0 Ha wa (.row 3 1 v0 n0 k0 :: L)) (a0 : List Int) (p0 : Els (up w0.heap.size Ha) eI 1 k0 a0) {r : (List Int)} (hp : (PF.slices_Reverse_int_int a0) = some r) :
    Calls prog 126 #[v0] wa (p_slices_Reverse_int_int H0 w0 Ha L v0 n0 r) := by
  unfold PF.slices_Reverse_int_int at hp
  refine calls_go (N := 28) (args := [v0]) Tryz.func126 rfl rfl rfl ?_
  refine FW.seq (FW.region ?_)
  refine FL.v (E.move (v := v0) rfl) ?_
  refine FL.v (E.lenO te44 rfl S0 (i := 0) rfl p0 (by decide)) ?_
  refine FL.v (E.sub rfl rfl) ?_
  refine FL.v (E.assign (v := vI 0) rfl) ?_
  refine FL.v (E.assign (v := vI (wr ((len a0) - 1))) rfl) ?_
  refine FL.nil ?_
  obtain ⟨q21, hq, hp⟩ := bndR hp
  refine FW.block ?_
  refine FW.mono (FW.iter (S := ((List Int) × Int × Int)) (X := Empty) (fun (s21 : ((List Int) × Int × Int)) f w => ∃ H : GH, ∃ cs22 : List Value, St H0 w0 H w (.row 3 1 v0 n0 cs22 :: L) ∧ Inc Ha H ∧ Els (up w0.heap.size H) eI 1 cs22 s21.1 ∧ f 0 = v0 ∧ f 2 = vI s21.2.1 ∧ f 3 = vI s21.2.2) (fun (q : Rs ((List Int) × Int × Int) Empty) e f w => match q with | .go s21 => e = Exit.exit 0 ∧ (∃ H : GH, ∃ cs22 : List Value, St H0 w0 H w (.row 3 1 v0 n0 cs22 :: L) ∧ Inc Ha H ∧ Els (up w0.heap.size H) eI 1 cs22 s21.1) | .rt x => x.elim) hq ⟨_, _, S0, (Inc.rfl _), p0, rfl, rfl, rfl⟩ ?_) ?_
  ·
    clear hp hq
    rintro s21 f28 w27 ⟨H24, cs22, S25, i26, els23, k29, k30, k31⟩ o99 hp
    refine FW.seq (FW.seq (FW.region ?_))
    refine FL.v (E.move k30) ?_
    refine FL.v (E.move k31) ?_
    refine FL.v (E.lss rfl rfl) ?_
    refine FL.nil ?_
    rcases ifB hp with ⟨c32, hp⟩ | ⟨c32, hp⟩
    ·
      refine FW.condT rfl c32 ?_
      refine FW.skip (FW.seq (FW.block ?_))
      obtain ⟨x42, hx43, hp⟩ := bnd hp
      obtain ⟨x52, hx53, hp⟩ := bnd hp
      obtain ⟨x61, hx62, hp⟩ := bnd hp
      obtain ⟨xs67, hput68, hp⟩ := bnd hp
      obtain ⟨x78, hx79, hp⟩ := bnd hp
      obtain ⟨xs84, hput85, hp⟩ := bnd hp
      refine FW.drawB (Sl H24) (fun f w => ∃ H : GH, ∃ cs89 : List Value, St H0 w0 H w (.row 3 1 v0 n0 cs89 :: L) ∧ Inc H24 H ∧ Els (up w0.heap.size H) eI 1 cs89 xs84 ∧ f 0 = v0 ∧ f 2 = vI s21.2.1 ∧ f 3 = vI s21.2.2) (by kernel_rfl) S25.sl ?_ ?_
      ·
        intro w33 r34
        have S35 := S25.call r34
        refine FB.t (i := 0) (bs 16 1) rfl (SP.nil S35.sl) rfl (fun _ z => (E.move k29)) ?_
        refine FB.t (i := 1) (bs 16 3) rfl (SP.nil S35.sl) rfl (fun _ z => (E.move k30)) ?_
        refine FB.t (i := 2) (bs 16 7) rfl (SP.nil S35.sl) rfl (fun _ z => (E.move k29)) ?_
        refine FB.t (i := 3) (bs 16 15) rfl (SP.nil S35.sl) rfl (fun _ z => (E.move k31)) ?_
        refine FB.t (i := 4) (bs 16 31) rfl (SP.nil S35.sl) rfl (fun _ z => (E.move k29)) ?_
        refine FB.t (i := 5) (bs 16 63) rfl (SP.nil S35.sl) rfl (fun _ z => (E.move k31)) ?_
        obtain ⟨p36, cs37, pt38, l39, at40, rel41, hall45⟩ := S35.row_atA (i := 0) rfl els23 (by decide) hx43
        obtain rfl := eI_open rel41
        refine FB.t (i := 6) (bs 16 127) rfl (SP.nil S35.sl) rfl (fun _ z => (E.indexAddr te44 rfl rfl pt38)) ?_
        refine FB.phase [13, 15] (fun w' => WAt w' p36 [vI x42]) ?_
        refine FB.p (i := 7) (bs 16 255) 0 [12, 13, 14, 15] rfl (SP.on (hall45 _ _ _ 0 S35 rfl) (SP.nil S35.sl)) rfl rfl (fun _ z => (E.load rfl (run_load0 Tryz.isAgg3 z rfl))) ?_
        refine FB.t (i := 8) (bs 16 511) rfl (SP.on (hall45 _ _ _ 0 S35 rfl) (SP.nil S35.sl)) rfl (fun _ z => (E.move k29)) ?_
        refine FB.t (i := 9) (bs 16 1023) rfl (SP.on (hall45 _ _ _ 0 S35 rfl) (SP.nil S35.sl)) rfl (fun _ z => (E.move k30)) ?_
        obtain ⟨p46, cs47, pt48, l49, at50, rel51, hall54⟩ := S35.row_atA (i := 0) rfl els23 (by decide) hx53
        obtain rfl := eI_open rel51
        refine FB.t (i := 10) (bs 16 2047) rfl (SP.on (hall45 _ _ _ 0 S35 rfl) (SP.nil S35.sl)) rfl (fun _ z => (E.indexAddr te44 rfl rfl pt48)) ?_
        refine FB.phase [13, 15] (fun w' => WAt w' p46 [vI x52]) ?_
        refine FB.p (i := 11) (bs 16 4095) 0 [12, 13, 14, 15] rfl (SP.on (hall54 _ _ _ 0 S35 rfl) (SP.on (hall45 _ _ _ 0 S35 rfl) (SP.nil S35.sl))) rfl rfl (fun _ z => (E.load rfl (run_load0 Tryz.isAgg3 z rfl))) ?_
        obtain ⟨p55, cs56, pt57, l58, at59, rel60, hall63⟩ := S35.row_atA (i := 0) rfl els23 (by decide) hx62
        obtain rfl := eI_open rel60
        refine FB.t (i := 12) (bs 16 8191) rfl (SP.on (hall54 _ _ _ 0 S35 rfl) (SP.on (hall45 _ _ _ 0 S35 rfl) (SP.nil S35.sl))) rfl (fun _ z => (E.indexAddr te44 rfl rfl pt57)) ?_
        refine FB.all1 (i := 13) (by kernel_rfl) ?_
        ·
          obtain ⟨w64, cs70, run65, S66, els69, ce71⟩ := S35.putEls (P := prog) (t := 3) (i := 0) rfl els23 hput68 pt57 Tryz.sizeOf3 (u := vI x42) (c := [vI x42]) rfl rfl (ones_cons rfl ones_nil) rfl
          have S66 : St H0 w0 H24 w64 (.row 3 1 v0 n0 cs70 :: L) := S66
          refine FC.act (l' := (bs 16 16383)) rfl (by kernel_rfl) rfl rfl (E.store rfl rfl run65) ?_
          refine ⟨(SP.o (SP.o (SP.nil S66.sl))), ?_⟩
          obtain ⟨p72, cs73, pt74, l75, at76, rel77, hall80⟩ := S66.row_atA (i := 0) rfl els69 (by decide) hx79
          obtain rfl := eI_open rel77
          refine FB.t (i := 14) (bs 16 32767) rfl (SP.o (SP.o (SP.nil S66.sl))) rfl (fun _ z => (E.indexAddr te44 rfl rfl pt74)) ?_
          refine FB.all1 (i := 15) (by kernel_rfl) ?_
          ·
            obtain ⟨w81, cs87, run82, S83, els86, ce88⟩ := S66.putEls (P := prog) (t := 3) (i := 0) rfl els69 hput85 pt74 Tryz.sizeOf3 (u := vI x52) (c := [vI x52]) rfl rfl (ones_cons rfl ones_nil) rfl
            have S83 : St H0 w0 H24 w81 (.row 3 1 v0 n0 cs87 :: L) := S83
            refine FC.act (l' := (bs 16 65535)) rfl (by kernel_rfl) rfl rfl (E.store rfl rfl run82) ?_
            refine ⟨(SP.o (SP.o (SP.nil S83.sl))), ?_⟩
            exact FB.done (by kernel_rfl) ⟨_, _, S83, (Inc.rfl _), els86, k29, k30, k31⟩
      ·
        rintro f95 w94 ⟨H91, cs89, S92, i93, els90, k96, k97, k98⟩
        refine FW.region ?_
        refine FL.v (E.move k97) ?_
        refine FL.v (E.add rfl rfl) ?_
        refine FL.v (E.move k98) ?_
        refine FL.v (E.sub rfl rfl) ?_
        refine FL.v (E.assign (v := vI (wr (s21.2.1 + 1))) rfl) ?_
        refine FL.v (E.assign (v := vI (wr (s21.2.2 - 1))) rfl) ?_
        refine FL.nil ?_
        obtain rfl := Option.some.inj hp
        exact ⟨rfl, ⟨_, _, S92, (i26.tr i93), els90, k96, rfl, rfl⟩⟩
    ·
      refine FW.condF rfl c32 ?_
      refine FW.exit ?_
      obtain rfl := Option.some.inj hp
      exact ⟨nofun, rfl, ⟨_, _, S25, i26, els23⟩⟩
  ·
    clear hq
    intro e f104 w103 hD
    rcases q21 with s21 | x21
    ·
      obtain ⟨rfl, hD⟩ := hD
      obtain ⟨H100, cs22, S101, i102, els23⟩ := hD
      replace hp := el_go hp
      obtain rfl := Option.some.inj hp
      exact ⟨.inl rfl, res0 rfl ⟨_, _, rfl, ⟨S101, i102⟩, els23⟩⟩
    · exact x21.elim

@[reducible] def p_impl_neededSteps (Ha : GH) (wa : World) (r : (List Int)) : Ending → World → Prop :=
  fun e w' => ∃ H' : GH, ∃ v0 : Value, ∃ n0 : Nat, ∃ c0 : List Value, e = .returned (v0) ∧ St Ha wa H' w' [.row 3 1 v0 n0 c0] ∧ Els (up wa.heap.size H') eI 1 c0 r
theorem w_impl_neededSteps {Ha : GH} {wa : World} (hs : Sl Ha wa) (v0 : Value) (a0 : List ResStep) (p0 : RSl Ha eResStep 4 v0 a0) {r : (List Int)} (hp : (PF.impl_neededSteps a0) = some r) :
    Calls prog 93 #[v0] wa (p_impl_neededSteps Ha wa r) := by
  unfold PF.impl_neededSteps at hp
  have S0 := St.init hs
  refine calls_goM (N := 46) (args := [v0]) Tryz.func93 rfl rfl rfl ?_
  refine FT.seq ?_
  refine FW.region ?_
  obtain ⟨b21, w22, run23, S24⟩ := S0.box (P := prog) 29 [v0] (v := v0) p0.cells (ones_cons p0.one ones_nil)
  refine FL.v (E.box rfl run23) ?_
  obtain ⟨H25, S26, i27, at28⟩ := S24.sealBox (i := 0) (l' := []) rfl rfl
  refine FL.v (E.assign (v := vN) rfl) ?_
  refine FL.nil ?_
  refine FT.seq ?_
  refine FW.region ?_
  refine FL.v (E.load rfl (run_load0 Tryz.isAgg29 (at28.now S26.sl) rfl)) ?_
  refine FL.v (E.lenP te29 rfl p0) ?_
  obtain ⟨xs29, hm30, hp⟩ := bnd hp
  obtain ⟨v31, w32, n36, cs37, run33, S34, els35, hbl38⟩ := S26.makeEls (P := prog) te77 (G := (up wa.heap.size H25)) (En := eB) (x0 := (false : Bool)) hm30 rfl (ones_cons rfl ones_nil) .i64 .i64
  refine FL.v (E.makeSlice rfl rfl run33) ?_
  obtain ⟨b39, w40, run41, S42⟩ := S34.alloc (P := prog) 77 [vN] Tryz.zeroValue77 rfl (ones_cons rfl ones_nil)
  refine FL.v (E.alloc run41) ?_
  obtain ⟨w43, run44, S45⟩ := S42.store0 (P := prog) (t := 77) (i := 0) (cs' := [v31]) (l' := [.box b39 77 [v31], .row 4 1 v31 n36 cs37]) (v := v31) (c := [v31]) rfl Tryz.sizeOf77 (Ln.cells (S42.row_ln (i := 1) rfl)) rfl (ones_cons (Ln.one (S42.row_ln (i := 1) rfl)) ones_nil) (Nat.le_of_ble_eq_true rfl) rfl rfl
  refine FL.act rfl rfl (E.store rfl rfl run44) ?_
  refine FL.nil ?_
  refine FT.seq ?_
  refine FW.region ?_
  have S50 := S45.nil 3 1
  have els51 : Els (up wa.heap.size H25) eI 1 [] [] := Els.nil
  obtain ⟨b46, w47, run48, S49⟩ := S50.alloc (P := prog) 44 [vN] Tryz.zeroValue44 rfl (ones_cons rfl ones_nil)
  refine FL.v (E.alloc run48) ?_
  refine FL.nil ?_
  refine FT.seqT ?_
  refine FT.seq ?_
  refine FW.region ?_
  refine FL.v (E.load rfl (run_load0 Tryz.isAgg29 (at28.now S49.sl) rfl)) ?_
  refine FL.call rfl rfl rfl (E.call Tryz.call124 (A1 rfl)) (w_back124 S49.sl v0 a0 (p0.mono i27)) ?_
  rintro e w53 ⟨H52, b55, rfl, r56, at57⟩
  refine ⟨_, rfl, ?_⟩
  have S54 := S49.call r56
  refine FL.nil ?_
  obtain ⟨q58, hq, hp⟩ := bndR hp
  obtain ⟨L58, hL58, hA58⟩ := back_list (p0.mono (i27.tr r56.inc)) (fun cs => Value.agg cs.toArray)
  replace hq := forB_eq hq hL58
  refine FT.range (S := ((List Int) × (List Bool))) (X := Empty) (Hs := H52) (L := L58) (pj := Prod.snd) rfl Tryz.call161 (w_iter161 at57 (p0.mono (i27.tr r56.inc)) L58 hL58 hA58) rfl (fun _ => rfl) (fun (T58 : List MO) (s58 : ((List Int) × (List Bool))) (w : World) => ∃ H : GH, ∃ v227 : Value, ∃ n228 : Nat, ∃ cs229 : List Value, ∃ v231 : Value, ∃ n232 : Nat, ∃ cs233 : List Value, St Ha wa H w (.box b46 44 [v227] :: .row 3 1 v227 n228 cs229 :: .box b39 77 [v231] :: .row 4 1 v231 n232 cs233 :: T58) ∧ Inc H52 H ∧ Els (up wa.heap.size H) eI 1 cs229 s58.1 ∧ Els (up wa.heap.size H) eB 1 cs233 s58.2) (fun _ _ _ => False) (fun s58 T58 w ⟨H, v227, n228, cs229, v231, n232, cs233, S, i0, f0, f1⟩ => ⟨H, [.box b46 44 [v227], .row 3 1 v227 n228 cs229, .box b39 77 [v231], .row 4 1 v231 n232 cs233], S, i0, fun T2 w2 S2 => ⟨H, v227, n228, cs229, v231, n232, cs233, S2, i0, f0, f1⟩⟩) (fun x => x.elim) ⟨_, _, _, _, _, _, _, S54, (Inc.rfl _), (els51.mono (up_mono r56.inc)), (els35.mono (up_mono r56.inc))⟩ hq ?_ ?_ (fun _ x => x.elim)
  ·
    clear hp hq
    rintro l58 i58 T58 T58' ⟨u58, y58, j58⟩ s58 w406 o58 ha58 ⟨H403, v227, n228, cs229, v231, n232, cs233, S404, i405, els230, els234⟩ hp
    replace hp : bd (ix s58.2 ((j58 : Nat) : Int)) (fun x433 => (bif (bif (!x433) then (decide (((j58 : Nat) : Int) < (wr ((len a0) - 1)))) else false) then some (Lp.nx (s58.1, s58.2)) else bd (app s58.1 [((j58 : Nat) : Int)]) (fun xs454 => bd (chk (len (PF.impl_ResStep_premises y58))) (fun m476 => bdR (forR (S := (List Bool)) (X := Empty) 0 m476 (fun i477 s477 => bd (ix (PF.impl_ResStep_premises y58) ((i477 : Nat) : Int)) (fun x569 => bd (ix s477 x569) (fun x577 => bd (put s477 x569 true) (fun xs582 => some (Lp.nx xs582))))) s58.2) (fun s477 => some (Lp.nx (xs454, s477))) (fun x477 => nomatch x477))))) = some o58 := hp
    obtain ⟨l411, _, cs410, _, _, _, rel408, hu409⟩ := hA58 i58 _ ha58
    replace rel408 : eResStep.rel H52 cs410 y58 := rel408
    obtain ⟨v412, rfl, h413⟩ := eResStep_open rel408
    replace hu409 : vA #[v412, vI y58.left, vI y58.right, vI y58.pivot] = u58 := Eq.symm hu409
    subst hu409
    change FW (ρ := some l58) (δ := []) prog 46 _ _ (upd (upd _ 14 (vI ((j58 : Nat) : Int))) 15 (vA #[v412, vI y58.left, vI y58.right, vI y58.pivot])) _
    refine FW.seq (FW.region ?_)
    refine FL.v (E.assign (v := vI ((j58 : Nat) : Int)) rfl) ?_
    refine FL.nil (FW.region ?_)
    obtain ⟨b414, w415, run416, S417⟩ := S404.alloc (P := prog) 63 [vN, vI 0, vI 0, vI 0] Tryz.zeroValue63 rfl (ones_cons rfl (ones_cons rfl (ones_cons rfl (ones_cons rfl ones_nil))))
    refine FL.v (E.alloc run416) ?_
    obtain ⟨w418, run419, S420⟩ := S417.store0 (P := prog) (t := 63) (i := 0) (cs' := [v412, vI y58.left, vI y58.right, vI y58.pivot]) (l' := (.box b414 63 [v412, vI y58.left, vI y58.right, vI y58.pivot] :: .box b46 44 [v227] :: .row 3 1 v227 n228 cs229 :: .box b39 77 [v231] :: .row 4 1 v231 n232 cs233 :: T58)) (v := vA #[v412, vI y58.left, vI y58.right, vI y58.pivot]) (c := [v412, vI y58.left, vI y58.right, vI y58.pivot]) rfl Tryz.sizeOf63 rfl rfl (ones_cons h413.one (ones_cons rfl (ones_cons rfl (ones_cons rfl ones_nil)))) (Nat.le_of_ble_eq_true rfl) rfl rfl
    refine FL.act rfl rfl (E.store rfl rfl run419) ?_
    obtain ⟨H421, S422, i423, at424⟩ := S420.sealBox (i := 0) (l' := (.box b46 44 [v227] :: .row 3 1 v227 n228 cs229 :: .box b39 77 [v231] :: .row 4 1 v231 n232 cs233 :: T58)) rfl rfl
    refine FL.nil ?_
    refine ⟨rfl, _, [.box b46 44 [v227], .row 3 1 v227 n228 cs229, .box b39 77 [v231], .row 4 1 v231 n232 cs233], S422, ?_⟩
    intro w425 S426
    replace S426 : St Ha wa H421 w425 (.box b46 44 [v227] :: .row 3 1 v227 n228 cs229 :: .box b39 77 [v231] :: .row 4 1 v231 n232 cs233 :: T58') := S426
    refine FW.block (FW.seq (FW.seq (FW.region ?_)))
    refine FL.v (E.load rfl (run_load0 Tryz.isAgg77 (S426.box_now (i := 2) rfl) rfl)) ?_
    refine FL.v (E.move (v := vI ((j58 : Nat) : Int)) rfl) ?_
    obtain ⟨x433, hx434, hp⟩ := bnd hp
    obtain ⟨p427, cs428, pt429, l430, at431, rel432⟩ := S426.row_at (i := 3) rfl els234 (by decide) hx434
    obtain rfl := eB_open rel432
    refine FL.v (E.indexAddr te77 rfl rfl pt429) ?_
    refine FL.v (E.load rfl (run_load0 Tryz.isAgg4 at431 rfl)) ?_
    refine FL.v (E.not rfl) ?_
    refine FL.v (E.move (v := vB (!x433)) rfl) ?_
    refine FL.cut 6 (fun f w => ∃ H : GH, St Ha wa H w (.box b46 44 [v227] :: .row 3 1 v227 n228 cs229 :: .box b39 77 [v231] :: .row 4 1 v231 n232 cs233 :: T58') ∧ Inc H421 H ∧ f 1 = vP (⟨b21, 0, none⟩) ∧ f 3 = vP ((⟨b39, 0, none⟩ : Addr)) ∧ f 4 = vP ((⟨b46, 0, none⟩ : Addr)) ∧ f 5 = vI ((j58 : Nat) : Int) ∧ f 6 = vP (⟨b414, 0, none⟩) ∧ f 27 = vB (bif (!x433) then (decide (((j58 : Nat) : Int) < (wr ((len a0) - 1)))) else false)) ?_ ?_
    ·
      rcases bcase (!x433) with c441 | c441
      ·
        refine FL.val (wF_yes rfl rfl rfl c441) rfl rfl (E.move (v := vI ((j58 : Nat) : Int)) rfl) ?_
        refine FL.val (wF_yes rfl rfl rfl c441) rfl rfl (E.load rfl (run_load0 Tryz.isAgg29 ((at28.mono ((r56.inc.tr i405).tr i423)).now S426.sl) rfl)) ?_
        refine FL.val (wF_yes rfl rfl rfl c441) rfl rfl (E.lenP te29 rfl p0) ?_
        refine FL.val (wF_yes rfl rfl rfl c441) rfl rfl (E.sub rfl rfl) ?_
        refine FL.val (wF_yes rfl rfl rfl c441) rfl rfl (E.lss rfl rfl) ?_
        refine FL.v (E.pickT rfl c441 rfl) ?_
        exact FL.nil ⟨rfl, _, S426, (Inc.rfl _), rfl, rfl, rfl, rfl, rfl, (congrArg vB (bifT c441).symm)⟩
      ·
        refine FL.skip (wF_no rfl rfl rfl c441) rfl ?_
        refine FL.skip (wF_no rfl rfl rfl c441) rfl ?_
        refine FL.skip (wF_no rfl rfl rfl c441) rfl ?_
        refine FL.skip (wF_no rfl rfl rfl c441) rfl ?_
        refine FL.skip (wF_no rfl rfl rfl c441) rfl ?_
        refine FL.v (E.pickF rfl c441 rfl) ?_
        exact FL.nil ⟨rfl, _, S426, (Inc.rfl _), rfl, rfl, rfl, rfl, rfl, (congrArg vB (bifF c441).symm)⟩
    rintro f440 w439 ⟨H436, S437, i438, k442, k443, k444, k445, k446, k447⟩
    refine FL.nil ?_
    rcases ifB hp with ⟨c448, hp⟩ | ⟨c448, hp⟩
    ·
      refine FW.condT k447 c448 ?_
      refine FW.exit ?_
      obtain rfl := Option.some.inj hp
      exact ⟨rfl, ⟨_, _, _, _, _, _, _, S437, ((i405.tr i423).tr i438), (els230.mono (up_mono (i423.tr i438))), (els234.mono (up_mono (i423.tr i438)))⟩⟩
    ·
      refine FW.condF k447 c448 ?_
      refine FW.skip (FW.seq (FW.region ?_))
      refine FL.v (E.load k444 (run_load0 Tryz.isAgg44 (S437.box_now (i := 0) rfl) rfl)) ?_
      refine FL.v (E.move k445) ?_
      obtain ⟨v449, w450, run451, S452⟩ := S437.buildSlice (P := prog) te44 [vI ((j58 : Nat) : Int)] (parts := #[(0, vI ((j58 : Nat) : Int))]) (cells := [vI ((j58 : Nat) : Int)]) rfl (szs_cons rfl szs_nil) (fc_cons rfl fc_nil) (ones_cons rfl ones_nil) (Nat.le_of_ble_eq_true rfl)
      have els453 : Els (up wa.heap.size H436) eI 1 [vI ((j58 : Nat) : Int)] [((j58 : Nat) : Int)] := (Els.snoc (H := (up wa.heap.size H436)) (E := eI) (k := 1) (c := [vI ((j58 : Nat) : Int)]) (x := ((j58 : Nat) : Int)) Els.nil rfl rfl)
      refine FL.v (E.buildSlice (B1 rfl) run451) ?_
      obtain ⟨xs454, hz455, hp⟩ := bnd hp
      obtain ⟨v456, w459, n457, cs458, run460, S461, els462, ce463⟩ := S452.appendO (P := prog) te44 (i := 2) (j := 0) rfl (els230.mono (up_mono (i423.tr i438))) rfl els453 hz455
      have S461 : St Ha wa H436 w459 (.row 3 1 v449 1 [vI ((j58 : Nat) : Int)] :: .box b46 44 [v227] :: .row 3 1 v456 n457 cs458 :: .box b39 77 [v231] :: .row 4 1 v231 n232 cs233 :: T58') := S461
      have S464 : St Ha wa H436 w459 (.box b46 44 [v227] :: .row 3 1 v456 n457 cs458 :: .box b39 77 [v231] :: .row 4 1 v231 n232 cs233 :: T58') := S461.drop 0
      refine FL.v (E.append rfl rfl run460) ?_
      obtain ⟨w465, run466, S467⟩ := S464.store0 (P := prog) (t := 44) (i := 0) (cs' := [v456]) (l' := (.box b46 44 [v456] :: .row 3 1 v456 n457 cs458 :: .box b39 77 [v231] :: .row 4 1 v231 n232 cs233 :: T58')) (v := v456) (c := [v456]) rfl Tryz.sizeOf44 (Ln.cells (S464.row_ln (i := 1) rfl)) rfl (ones_cons (Ln.one (S464.row_ln (i := 1) rfl)) ones_nil) (Nat.le_of_ble_eq_true rfl) rfl rfl
      refine FL.act rfl rfl (E.store k444 rfl run466) ?_
      refine FL.nil (FW.seq (FW.region ?_))
      refine FL.v (E.load k446 (run_loadA Tryz.isAgg63 Tryz.sizeOf63 ((at424.mono i438).now S467.sl) rfl)) ?_
      refine FL.call rfl rfl rfl (E.call Tryz.call125 (A1 rfl)) (w_impl_ResStep_premises S467.sl y58 v412 (h413.mono ((i405.tr i423).tr i438))) ?_
      rintro e w469 ⟨H468, v472, n473, cs474, rfl, r471, els475⟩
      refine ⟨_, rfl, ?_⟩
      have els475 := els475.mono (up_le S467.size)
      have S470 := S467.join (l' := (.row 3 1 v472 n473 cs474 :: .box b46 44 [v456] :: .row 3 1 v456 n457 cs458 :: .box b39 77 [v231] :: .row 4 1 v231 n232 cs233 :: T58')) r471 rfl
      refine FL.v (E.lenO te44 rfl S470 (i := 0) rfl els475 (by decide)) ?_
      refine FL.v (E.move (v := vI 0) rfl) ?_
      refine FL.nil ?_
      obtain ⟨m476, hchk477, hp⟩ := bnd hp
      obtain ⟨q477, hq, hp⟩ := bndR hp
      refine FW.block ?_
      refine FW.mono (FW.forR (S := (List Bool)) (X := Empty) (fun (i477 : Nat) (s477 : (List Bool)) f w => ∃ H : GH, ∃ v513 : Value, ∃ n514 : Nat, ∃ cs515 : List Value, St Ha wa H w (.row 3 1 v472 n473 cs474 :: .box b46 44 [v456] :: .row 3 1 v456 n457 cs458 :: .box b39 77 [v513] :: .row 4 1 v513 n514 cs515 :: T58') ∧ Inc H468 H ∧ Els (up wa.heap.size H) eB 1 cs515 s477 ∧ f 35 = vI ((i477 : Nat) : Int) ∧ f 1 = vP (⟨b21, 0, none⟩) ∧ f 3 = vP ((⟨b39, 0, none⟩ : Addr)) ∧ f 4 = vP ((⟨b46, 0, none⟩ : Addr)) ∧ f 33 = v472 ∧ f 34 = vI (len (PF.impl_ResStep_premises y58))) (fun (q : Rs (List Bool) Empty) e f w => match q with | .go s477 => e = Exit.exit 2 ∧ (∃ H : GH, ∃ v513 : Value, ∃ n514 : Nat, ∃ cs515 : List Value, St Ha wa H w (.row 3 1 v472 n473 cs474 :: .box b46 44 [v456] :: .row 3 1 v456 n457 cs458 :: .box b39 77 [v513] :: .row 4 1 v513 n514 cs515 :: T58') ∧ Inc H468 H ∧ Els (up wa.heap.size H) eB 1 cs515 s477 ∧ f 1 = vP (⟨b21, 0, none⟩) ∧ f 3 = vP ((⟨b39, 0, none⟩ : Addr)) ∧ f 4 = vP ((⟨b46, 0, none⟩ : Addr))) | .rt x => x.elim) hq ⟨_, _, _, _, S470, (Inc.rfl _), (els234.mono (up_mono ((i423.tr i438).tr r471.run.inc))), rfl, k442, k443, k444, rfl, rfl⟩ ?_ ?_) ?_
      ·
        clear hp hq
        rintro i477 s477 f556 w555 ⟨H552, v513, n514, cs515, S553, i554, els516, k557, k558, k559, k560, k561, k562⟩ hi477 hj477 o587 hp
        refine FW.seq (FW.region ?_)
        refine FL.v (E.lssT k557 k562 (lss_chk hj477 hchk477)) ?_
        refine FL.nil (FW.seq ?_)
        refine FW.condT rfl rfl ?_
        refine FW.skip (FW.seq (FW.block (FW.seq (FW.region ?_))))
        obtain ⟨x569, hx570, hp⟩ := bnd hp
        obtain ⟨p563, cs564, pt565, l566, at567, rel568⟩ := S553.row_at (i := 0) rfl els475 (by decide) hx570
        obtain rfl := eI_open rel568
        refine FL.v (E.indexAddr te44 k561 k557 pt565) ?_
        refine FL.v (E.load rfl (run_load0 Tryz.isAgg3 at567 rfl)) ?_
        refine FL.v (E.assign (v := vI x569) rfl) ?_
        refine FL.nil (FW.region ?_)
        refine FL.v (E.load k559 (run_load0 Tryz.isAgg77 (S553.box_now (i := 3) rfl) rfl)) ?_
        refine FL.v (E.move (v := vI x569) rfl) ?_
        obtain ⟨x577, hx578, hp⟩ := bnd hp
        obtain ⟨p571, cs572, pt573, l574, at575, rel576⟩ := S553.row_at (i := 4) rfl els516 (by decide) hx578
        obtain rfl := eB_open rel576
        refine FL.v (E.indexAddr te77 rfl rfl pt573) ?_
        obtain ⟨xs582, hput583, hp⟩ := bnd hp
        obtain ⟨w579, cs585, run580, S581, els584, ce586⟩ := S553.putEls (P := prog) (t := 4) (i := 4) rfl els516 hput583 pt573 Tryz.sizeOf4 (u := vB true) (c := [vB true]) rfl rfl (ones_cons rfl ones_nil) rfl
        have S581 : St Ha wa H552 w579 (.row 3 1 v472 n473 cs474 :: .box b46 44 [v456] :: .row 3 1 v456 n457 cs458 :: .box b39 77 [v513] :: .row 4 1 v513 n514 cs585 :: T58') := S581
        refine FL.act rfl rfl (E.store rfl rfl run580) ?_
        refine FL.nil (FW.region ?_)
        refine FL.v (E.add k557 rfl) ?_
        refine FL.v (E.move (v := vI (wr (((i477 : Nat) : Int) + 1))) rfl) ?_
        refine FL.nil ?_
        obtain rfl := Option.some.inj hp
        exact ⟨rfl, ⟨_, _, _, _, S581, i554, els584, (nat_succ rfl hj477 (chk_le hchk477)), k558, k559, k560, k561, k562⟩⟩
      ·
        clear hp hq
        rintro s477 f600 w599 ⟨H596, v513, n514, cs515, S597, i598, els516, k601, k602, k603, k604, k605, k606⟩
        refine FW.seq (FW.region ?_)
        refine FL.v (E.lss k601 k606) ?_
        refine FL.nil (FW.seq ?_)
        refine FW.condF rfl (dlt_maxchk hchk477) ?_
        refine FW.exit ?_
        exact ⟨nofun, rfl, ⟨_, _, _, _, S597, i598, els516, k602, k603, k604⟩⟩
      ·
        clear hq
        intro e f592 w591 hD
        rcases q477 with s477 | x477
        ·
          obtain ⟨rfl, hD⟩ := hD
          obtain ⟨H588, v513, n514, cs515, S589, i590, els516, k593, k594, k595⟩ := hD
          replace hp := el_go hp
          obtain rfl := Option.some.inj hp
          exact ⟨rfl, ⟨_, _, _, _, _, _, _, (S589.selT (a := [.row 3 1 v472 n473 cs474, .box b46 44 [v456], .row 3 1 v456 n457 cs458, .box b39 77 [v513], .row 4 1 v513 n514 cs515]) (l' := [.box b46 44 [v456], .row 3 1 v456 n457 cs458, .box b39 77 [v513], .row 4 1 v513 n514 cs515]) [1, 2, 3, 4] (by decide) rfl), ((((i405.tr i423).tr i438).tr r471.run.inc).tr i590), (els462.mono (up_mono (r471.run.inc.tr i590))), els516⟩⟩
        · exact x477.elim
  ·
    clear hq
    rintro D58 s58 rfl w610 ⟨H607, v227, n228, cs229, v231, n232, cs233, S608, i609, els230, els234⟩
    replace hp := el_go hp
    refine FT.then_ ?_
    refine FT.seq ?_
    refine FW.region ?_
    refine FL.v (E.load rfl (run_load0 Tryz.isAgg44 (S608.box_now (i := 0) rfl) rfl)) ?_
    obtain ⟨r612, hr613, hp⟩ := bnd hp
    have S614 : St Ha wa H607 w610 (.row 3 1 v227 n228 cs229 :: .box b46 44 [v227] :: .box b39 77 [v231] :: .row 4 1 v231 n232 cs233 :: [.raw D58 (.deferred (some []))]) := S608.front 1 rfl rfl
    refine FL.call rfl rfl rfl (E.call Tryz.call126 (A1 rfl)) (w_slices_Reverse_int_int (L := (.box b46 44 [v227] :: .box b39 77 [v231] :: .row 4 1 v231 n232 cs233 :: [.raw D58 (.deferred (some []))])) S614 s58.1 els230 hr613) ?_
    rintro e w616 ⟨H615, cs619, rfl, ⟨S617, i618⟩, els620⟩
    refine ⟨_, rfl, ?_⟩
    have S617 : St Ha wa H615 w616 (.row 3 1 v227 n228 cs619 :: .box b46 44 [v227] :: .box b39 77 [v231] :: .row 4 1 v231 n232 cs233 :: [.raw D58 (.deferred (some []))]) := S617
    refine FL.nil ?_
    refine FT.seq ?_
    refine FW.region ?_
    refine FL.v (E.load rfl (run_load0 Tryz.isAgg44 (S617.box_now (i := 1) rfl) rfl)) ?_
    refine FL.v (E.assign (v := v227) rfl) ?_
    refine FL.nil ?_
    refine FT.last ?_
    refine FW.ret ?_
    have hD621 := St.shutAt (l := [.row 3 1 v227 n228 cs619, .box b46 44 [v227], .box b39 77 [v231], .row 4 1 v231 n232 cs233]) S617
    have S622 := St.shut (l := [.row 3 1 v227 n228 cs619, .box b46 44 [v227], .box b39 77 [v231], .row 4 1 v231 n232 cs233]) S617 (.deferred none)
    obtain rfl := Option.some.inj hp
    exact ends1 hD621 (res1 rfl rfl ⟨_, _, _, _, rfl, (S622.sel [0] (by decide) rfl), els620⟩) (.inr rfl)

theorem w_impl_ResStep_isResolvent {Ha : GH} {wa : World} (hs : Sl Ha wa) (a0 : ResStep) (v0_0 : Value) (p0_0 : RSl Ha eI 1 v0_0 a0.clause) :
  Calls prog 127 #[vA #[v0_0, vI a0.left, vI a0.right, vI a0.pivot]] wa (Sc Ha wa (vB (PF.impl_ResStep_isResolvent a0))) := by
 obtain ⟨r, hp⟩ : ∃ r, (PF.impl_ResStep_isResolvent a0) = r := ⟨_, rfl⟩; rw [hp]; unfold PF.impl_ResStep_isResolvent at hp; have S0 := St.init hs; refine calls_go (N := 11) (args := [vA #[v0_0, vI a0.left, vI a0.right, vI a0.pivot]]) func127 rfl rfl rfl ?_; refine FW.sr ?_; obtain ⟨b21, w22, run23, S24⟩ := S0.box (P := prog) 63 [v0_0, vI a0.left, vI a0.right, vI a0.pivot] (v := vA #[v0_0, vI a0.left, vI a0.right, vI a0.pivot]) rfl (oC p0_0.one (oC rfl (oC rfl (oC rfl ones_nil)))); refine FL.v (E.box rfl run23) ?_; obtain ⟨H25, S26, i27, at28⟩ := S24.sealBox (i := 0) (l' := []) rfl rfl; refine FL.as (v := vB false) rfl ?_; refine FL.nil (FW.sr ?_); refine FL.v (E.fieldAddr tf63_1 rfl) ?_; refine FL.v (E.load rfl (run_load1 isAgg3 (at28.now S26.sl) rfl)) ?_; refine FL.v (E.geq rfl rfl) ?_; refine FL.mv (v := vB (decide (0 ≤ a0.left))) rfl ?_; refine FL.cut 4 (fun f w => ∃ H : GH, St Ha wa H w [] ∧ Inc H25 H ∧ f 10 = vB (bif (decide (0 ≤ a0.left)) then (decide (0 ≤ a0.right)) else false)) ?_ ?_
 ·
  rcases bcase (decide (0 ≤ a0.left)) with c35 | c35
  ·
   refine FL.y (wY c35) (E.fieldAddr tf63_2 rfl) ?_; refine FL.y (wY c35) (E.load rfl (run_load1 isAgg3 (at28.now S26.sl) rfl)) ?_; refine FL.y (wY c35) (E.geq rfl rfl) ?_; refine FL.v (E.pickT rfl c35 rfl) ?_; exact FL.nil ⟨rfl, _, S26, I0, (congrArg vB (bifT c35).symm)⟩
  ·
   refine FL.skip (wN c35) rfl ?_; refine FL.skip (wN c35) rfl ?_; refine FL.skip (wN c35) rfl ?_; refine FL.v (E.pickF rfl c35 rfl) ?_; exact FL.nil ⟨rfl, _, S26, I0, (congrArg vB (bifF c35).symm)⟩
 rintro f34 w33 ⟨H30, S31, i32, k36⟩; refine FL.as k36 ?_; refine FL.nil (FW.ret ?_); obtain rfl := hp; exact ⟨.inr rfl, res1 rfl rfl ⟨rfl, S31.back⟩⟩

@[reducible] def p_impl_ResStep_moved (Ha : GH) (wa : World) (r : ResStep) : Ending → World → Prop :=
 fun e w' => ∃ H' : GH, ∃ v0_0 : Value, e = .returned (vA #[v0_0, vI r.left, vI r.right, vI r.pivot]) ∧ Run wa.heap.size Ha wa H' w' ∧ RSl (up wa.heap.size H') eI 1 v0_0 r.clause
theorem w_impl_ResStep_moved {Ha : GH} {wa : World} (hs : Sl Ha wa) (a0 : ResStep) (v0_0 : Value) (p0_0 : RSl Ha eI 1 v0_0 a0.clause) (v1 : Value) (a1 : Int → Option Int) (p1 : Fn_I_to_I prog Ha v1 a1) {r : ResStep} (hp : (PF.impl_ResStep_moved a0 a1) = some r) :
  Calls prog 94 #[vA #[v0_0, vI a0.left, vI a0.right, vI a0.pivot], v1] wa (p_impl_ResStep_moved Ha wa r) := by
 unfold PF.impl_ResStep_moved at hp; have S0 := St.init hs; refine calls_go (N := 25) (args := [vA #[v0_0, vI a0.left, vI a0.right, vI a0.pivot], v1]) func94 rfl rfl rfl ?_; refine FW.sr ?_; obtain ⟨b21, w22, run23, S24⟩ := S0.box (P := prog) 63 [v0_0, vI a0.left, vI a0.right, vI a0.pivot] (v := vA #[v0_0, vI a0.left, vI a0.right, vI a0.pivot]) rfl (oC p0_0.one (oC rfl (oC rfl (oC rfl ones_nil)))); refine FL.v (E.box rfl run23) ?_; obtain ⟨b25, w26, run27, S28⟩ := S24.alloc (P := prog) 63 [vN, vI 0, vI 0, vI 0] zeroValue63 rfl (oC rfl (oC rfl (oC rfl (oC rfl ones_nil)))); refine FL.v (E.alloc run27) ?_; refine FL.nil (FW.sr ?_); refine FL.v (E.fieldAddr tf63_0 rfl) ?_; refine FL.v (E.load rfl (run_load1 isAgg44 (S28.box_now (i := 1) rfl) rfl)) ?_; obtain ⟨r29, hr30, hp⟩ := bnd hp; refine FL.c (E.call call56 (A1 rfl)) (w_slices_Clone_int_int S28.sl v0_0 a0.clause p0_0 hr30) ?_; rintro e w32 ⟨H31, v35, n36, cs37, rfl, r34, els38⟩; refine ⟨_, rfl, ?_⟩; have els38 := els38.mono (up_le S28.size); have S33 := S28.join (l' := [.row 3 1 v35 n36 cs37, .box b25 63 [vN, vI 0, vI 0, vI 0], .box b21 63 [v0_0, vI a0.left, vI a0.right, vI a0.pivot]]) r34 rfl; refine FL.v (E.fieldAddr tf63_0 rfl) ?_; obtain ⟨w39, run40, S41⟩ := S33.store (P := prog) (t := 44) (i := 2) (j := 0) (cs' := [v35, vI a0.left, vI a0.right, vI a0.pivot]) (l' := [.row 3 1 v35 n36 cs37, .box b25 63 [vN, vI 0, vI 0, vI 0], .box b21 63 [v35, vI a0.left, vI a0.right, vI a0.pivot]]) (v := v35) (c := [v35]) rfl sizeOf44 (Ln.cells (S33.row_ln (i := 0) rfl)) rfl (oC (Ln.one (S33.row_ln (i := 0) rfl)) ones_nil) (nB rfl) rfl rfl; refine FL.act rfl rfl (E.store rfl rfl run40) ?_; refine FL.nil (FW.seq (FW.sr ?_)); refine FL.v (E.load rfl (run_loadA isAgg63 sizeOf63 (S41.box_now (i := 2) rfl) rfl)) ?_; obtain ⟨H42, S43, i44, h45, nv46⟩ := S41.sealRowU (i := 0) (l' := [.box b25 63 [vN, vI 0, vI 0, vI 0], .box b21 63 [v35, vI a0.left, vI a0.right, vI a0.pivot]]) rfl els38 (by decide) rfl; refine FL.c (E.call call127 (A1 rfl)) (w_impl_ResStep_isResolvent S43.sl (ResStep.mk r29 a0.left a0.right a0.pivot) v35 (h45.mono upI)) ?_; rintro e w47 ⟨rfl, r48⟩; refine ⟨_, rfl, ?_⟩; have r48 := Run.lend i44 S41.sl r48; have S49 := S41.call r48; refine FL.nil ?_; obtain ⟨q65, hq, hp⟩ := bndR hp; refine FW.joinE (S := (Int × Int × Int)) (X := Empty) (q := q65) (fun s64 f w => ∃ H : GH, St Ha wa H w [.row 3 1 v35 n36 cs37, .box b25 63 [vN, vI 0, vI 0, vI 0], .box b21 63 [v35, vI s64.1, vI s64.2.1, vI s64.2.2]] ∧ Inc H31 H ∧ f 1 = v1 ∧ f 2 = vP ((⟨b21, 0, none⟩ : Addr)) ∧ f 4 = vP ((⟨b25, 0, none⟩ : Addr))) (fun (_ : Empty) _ _ _ => False) ?_ ?_ ?_
 ·
  clear hp; have hp := hq; clear hq; rcases ifB hp with ⟨c67, hp⟩ | ⟨c67, hp⟩
  ·
   refine FW.condT rfl c67 ?_; refine FW.region ?_; refine FL.mv (v := v1) rfl ?_; refine FL.v (E.fieldAddr tf63_2 rfl) ?_; refine FL.v (E.load rfl (run_load1 isAgg3 (S49.box_now (i := 2) rfl) rfl)) ?_; obtain ⟨r68, hr69, hp⟩ := bnd hp; obtain ⟨fi73, cs74, hv75, he76, hc77⟩ := (p1.mono r34.run.inc) H31 w47 I0 S49.sl a0.right r68 hr69; refine FL.c (E.callV he76 (Eq.trans rfl hv75) (appA (A1 rfl) cs74)) hc77 ?_; rintro e w70 ⟨rfl, r71⟩; refine ⟨_, rfl, ?_⟩; have S72 := S49.call r71; refine FL.v (E.fieldAddr tf63_2 rfl) ?_; obtain ⟨w78, run79, S80⟩ := S72.store (P := prog) (t := 3) (i := 2) (j := 2) (cs' := [v35, vI a0.left, vI r68, vI a0.pivot]) (l' := [.row 3 1 v35 n36 cs37, .box b25 63 [vN, vI 0, vI 0, vI 0], .box b21 63 [v35, vI a0.left, vI r68, vI a0.pivot]]) (v := vI r68) (c := [vI r68]) rfl sizeOf3 rfl rfl (oC rfl ones_nil) (nB rfl) rfl rfl; refine FL.act rfl rfl (E.store rfl rfl run79) ?_; refine FL.nil ?_; cases hp; exact ⟨rfl, ⟨_, S80, I0, rfl, rfl, rfl⟩⟩
  ·
   refine FW.condF rfl c67 ?_; refine FW.skip ?_; cases hp; exact ⟨rfl, ⟨_, S49, I0, rfl, rfl, rfl⟩⟩
 ·
  rintro s64 rfl f85 w84 ⟨H81, S82, i83, k86, k87, k88⟩; replace hp := el_go hp; refine FW.seq (FW.sr ?_); refine FL.v (E.load k87 (run_loadA isAgg63 sizeOf63 (S82.box_now (i := 2) rfl) rfl)) ?_; obtain ⟨H89, S90, i91, h92, nv93⟩ := S82.sealRowU (i := 0) (l' := [.box b25 63 [vN, vI 0, vI 0, vI 0], .box b21 63 [v35, vI s64.1, vI s64.2.1, vI s64.2.2]]) rfl (els38.mono (up_mono i83)) (by decide) rfl; refine FL.c (E.call call128 (A1 rfl)) (w_impl_ResStep_isAxiom S90.sl (ResStep.mk r29 s64.1 s64.2.1 s64.2.2) v35 (h92.mono upI)) ?_; rintro e w94 ⟨rfl, r95⟩; refine ⟨_, rfl, ?_⟩; have r95 := Run.lend i91 S82.sl r95; have S96 := S82.call r95; refine FL.v (E.not rfl) ?_; refine FL.nil ?_; rcases ifB hp with ⟨c97, hp⟩ | ⟨c97, hp⟩
  ·
   refine FW.condT rfl c97 ?_; refine FW.region ?_; refine FL.mv k86 ?_; refine FL.v (E.fieldAddr tf63_1 k87) ?_; refine FL.v (E.load rfl (run_load1 isAgg3 (S96.box_now (i := 2) rfl) rfl)) ?_; obtain ⟨r98, hr99, hp⟩ := bnd hp; obtain ⟨fi103, cs104, hv105, he106, hc107⟩ := (p1.mono (r34.run.inc.tr i83)) H81 w94 I0 S96.sl s64.1 r98 hr99; refine FL.c (E.callV he106 (Eq.trans rfl hv105) (appA (A1 rfl) cs104)) hc107 ?_; rintro e w100 ⟨rfl, r101⟩; refine ⟨_, rfl, ?_⟩; have S102 := S96.call r101; refine FL.v (E.fieldAddr tf63_1 k87) ?_; obtain ⟨w108, run109, S110⟩ := S102.store (P := prog) (t := 3) (i := 2) (j := 1) (cs' := [v35, vI r98, vI s64.2.1, vI s64.2.2]) (l' := [.row 3 1 v35 n36 cs37, .box b25 63 [vN, vI 0, vI 0, vI 0], .box b21 63 [v35, vI r98, vI s64.2.1, vI s64.2.2]]) (v := vI r98) (c := [vI r98]) rfl sizeOf3 rfl rfl (oC rfl ones_nil) (nB rfl) rfl rfl; refine FL.act rfl rfl (E.store rfl rfl run109) ?_; refine FL.nil (FW.sr ?_); refine FL.v (E.load k87 (run_loadA isAgg63 sizeOf63 (S110.box_now (i := 2) rfl) rfl)) ?_; obtain ⟨w111, run112, S113⟩ := S110.store0 (P := prog) (t := 63) (i := 1) (cs' := [v35, vI r98, vI s64.2.1, vI s64.2.2]) (l' := [.row 3 1 v35 n36 cs37, .box b25 63 [v35, vI r98, vI s64.2.1, vI s64.2.2], .box b21 63 [v35, vI r98, vI s64.2.1, vI s64.2.2]]) (v := vA #[v35, vI r98, vI s64.2.1, vI s64.2.2]) (c := [v35, vI r98, vI s64.2.1, vI s64.2.2]) rfl sizeOf63 rfl rfl (oC (Ln.one (S110.row_ln (i := 0) rfl)) (oC rfl (oC rfl (oC rfl ones_nil)))) (nB rfl) rfl rfl; refine FL.act rfl rfl (E.store k88 rfl run112) ?_; obtain ⟨H114, S115, i116, h117, nv118⟩ := S113.sealRowU (i := 0) (l' := [.box b25 63 [v35, vI r98, vI s64.2.1, vI s64.2.2], .box b21 63 [v35, vI r98, vI s64.2.1, vI s64.2.2]]) rfl (els38.mono (up_mono i83)) (by decide) rfl; obtain ⟨H119, S120, i121, at122⟩ := S115.sealBox (i := 0) (l' := [.box b21 63 [v35, vI r98, vI s64.2.1, vI s64.2.2]]) rfl rfl; refine FL.nil (FW.ret ?_); cases hp; exact ⟨.inr rfl, resC rfl k88 (loadVar_A isAgg63 sizeOf63 (at122.now S120.sl) rfl) ⟨_, _, rfl, S120.run, (h117.mono (up_mono i121))⟩⟩
  ·
   refine FW.condF rfl c97 ?_; refine FW.skip (FW.sr ?_); refine FL.v (E.load k87 (run_loadA isAgg63 sizeOf63 (S96.box_now (i := 2) rfl) rfl)) ?_; obtain ⟨w123, run124, S125⟩ := S96.store0 (P := prog) (t := 63) (i := 1) (cs' := [v35, vI s64.1, vI s64.2.1, vI s64.2.2]) (l' := [.row 3 1 v35 n36 cs37, .box b25 63 [v35, vI s64.1, vI s64.2.1, vI s64.2.2], .box b21 63 [v35, vI s64.1, vI s64.2.1, vI s64.2.2]]) (v := vA #[v35, vI s64.1, vI s64.2.1, vI s64.2.2]) (c := [v35, vI s64.1, vI s64.2.1, vI s64.2.2]) rfl sizeOf63 rfl rfl (oC (Ln.one (S96.row_ln (i := 0) rfl)) (oC rfl (oC rfl (oC rfl ones_nil)))) (nB rfl) rfl rfl; refine FL.act rfl rfl (E.store k88 rfl run124) ?_; obtain ⟨H126, S127, i128, h129, nv130⟩ := S125.sealRowU (i := 0) (l' := [.box b25 63 [v35, vI s64.1, vI s64.2.1, vI s64.2.2], .box b21 63 [v35, vI s64.1, vI s64.2.1, vI s64.2.2]]) rfl (els38.mono (up_mono i83)) (by decide) rfl; obtain ⟨H131, S132, i133, at134⟩ := S127.sealBox (i := 0) (l' := [.box b21 63 [v35, vI s64.1, vI s64.2.1, vI s64.2.2]]) rfl rfl; refine FL.nil (FW.ret ?_); cases hp; exact ⟨.inr rfl, resC rfl k88 (loadVar_A isAgg63 sizeOf63 (at134.now S132.sl) rfl) ⟨_, _, rfl, S132.run, (h129.mono (up_mono i133))⟩⟩
 ·
  intro x66; exact x66.elim

theorem w_impl_trimSteps_1 {Ha : GH} {wa : World} (hs : Sl Ha wa) (a0 : Int) (q0 : Addr) (b0 : List Int) (u0_0 : Value) (g0_0 : RSl Ha eI 1 u0_0 b0) (c0 : CAt Ha q0 [u0_0]) {r : Int} (hp : (PF.impl_trimSteps_1 a0 b0) = some r) :
  Calls prog 95 #[vI a0, vP (q0)] wa (Sc Ha wa (vI r)) := by
 unfold PF.impl_trimSteps_1 at hp; have S0 := St.init hs; refine calls_go (N := 7) (args := [vI a0, vP (q0)]) func95 rfl rfl rfl ?_; refine FW.sr ?_; refine FL.as (v := vI 0) rfl ?_; refine FL.nil (FW.sr ?_); refine FL.v (E.load rfl (run_load0 isAgg44 (c0.now S0.sl) rfl)) ?_; refine FL.mv (v := vI a0) rfl ?_; obtain ⟨r21, hr22, hp⟩ := bnd hp; refine FL.c (E.call call96 (A2 rfl rfl)) (w_slices_Index_int_int S0.sl u0_0 b0 g0_0 a0 hr22) ?_; rintro e w23 ⟨rfl, r24⟩; refine ⟨_, rfl, ?_⟩; have S25 := S0.call r24; refine FL.as (v := vI r21) rfl ?_; refine FL.nil (FW.ret ?_); cases hp; exact ⟨.inr rfl, res1 rfl rfl ⟨rfl, S25.back⟩⟩

@[reducible] def p_impl_trimSteps (Ha : GH) (wa : World) (r : (List ResStep)) : Ending → World → Prop :=
  fun e w' => ∃ H' : GH, ∃ v0 : Value, ∃ n0 : Nat, ∃ c0 : List Value, e = .returned (v0) ∧ St Ha wa H' w' [.row 63 4 v0 n0 c0] ∧ Els (up wa.heap.size H') eResStep 4 c0 r ∧ (bl c0).Nodup
theorem w_impl_trimSteps {Ha : GH} {wa : World} (hs : Sl Ha wa) (v0 : Value) (a0 : List ResStep) (p0 : RSl Ha eResStep 4 v0 a0) {r : (List ResStep)} (hp : (PF.impl_trimSteps a0) = some r) :
    Calls prog 61 #[v0] wa (p_impl_trimSteps Ha wa r) := by
  unfold PF.impl_trimSteps at hp
  have S0 := St.init hs
  refine calls_go (N := 26) (args := [v0]) Tryz.func61 rfl rfl rfl ?_
  refine FW.seq (FW.region ?_)
  refine FL.v (E.assign (v := vN) rfl) ?_
  refine FL.nil (FW.seq (FW.region ?_))
  refine FL.v (E.move (v := v0) rfl) ?_
  obtain ⟨r21, hr22, hp⟩ := bnd hp
  refine FL.call rfl rfl rfl (E.call Tryz.call93 (A1 rfl)) (w_impl_neededSteps S0.sl v0 a0 p0 hr22) ?_
  rintro e w24 ⟨H23, v27, n28, cs29, rfl, r26, els30⟩
  refine ⟨_, rfl, ?_⟩
  have els30 := els30.mono (up_le S0.size)
  have S25 := S0.join (l' := [.row 3 1 v27 n28 cs29]) r26 rfl
  have S35 := S25.nil 3 1
  have els36 : Els (up wa.heap.size H23) eI 1 [] [] := Els.nil
  obtain ⟨b31, w32, run33, S34⟩ := S35.alloc (P := prog) 44 [vN] Tryz.zeroValue44 rfl (ones_cons rfl ones_nil)
  refine FL.v (E.alloc run33) ?_
  obtain ⟨w37, run38, S39⟩ := S34.store0 (P := prog) (t := 44) (i := 0) (cs' := [v27]) (l' := [.box b31 44 [v27], .row 3 1 (vN) 0 [], .row 3 1 v27 n28 cs29]) (v := v27) (c := [v27]) rfl Tryz.sizeOf44 (Ln.cells (S34.row_ln (i := 2) rfl)) rfl (ones_cons (Ln.one (S34.row_ln (i := 2) rfl)) ones_nil) (Nat.le_of_ble_eq_true rfl) rfl rfl
  refine FL.act rfl rfl (E.store rfl rfl run38) ?_
  obtain ⟨H40, S41, i42, h43, nv44⟩ := S39.sealRowU (i := 2) (l' := [.box b31 44 [v27], .row 3 1 (vN) 0 []]) rfl els30 (by decide) rfl
  obtain ⟨H45, S46, i47, at48⟩ := S41.sealBox (i := 0) (l' := [.row 3 1 (vN) 0 []]) rfl rfl
  refine FL.nil (FW.seq (FW.region ?_))
  refine FL.v (E.assign (v := vN) rfl) ?_
  refine FL.nil (FW.seq (FW.seq (FW.region ?_)))
  refine FL.v (E.load rfl (run_load0 Tryz.isAgg44 (at48.now S46.sl) rfl)) ?_
  refine FL.v (E.lenP te44 rfl h43) ?_
  refine FL.v (E.move (v := vI 0) rfl) ?_
  refine FL.nil ?_
  obtain ⟨q50, hq, hp⟩ := bndR hp
  refine FW.block ?_
  refine FW.mono (FW.forL (S := (List ResStep)) (X := Empty) (fun (i50 : Nat) (s50 : (List ResStep)) f w => ∃ H : GH, ∃ v51 : Value, ∃ n52 : Nat, ∃ cs53 : List Value, St Ha wa H w [.row 63 4 v51 n52 cs53] ∧ Inc H45 H ∧ Els (up wa.heap.size H) eResStep 4 cs53 s50 ∧ (bl cs53).Nodup ∧ f 11 = vI ((i50 : Nat) : Int) ∧ f 0 = v0 ∧ f 3 = vP (⟨b31, 0, none⟩) ∧ f 4 = v51 ∧ f 9 = v27 ∧ f 10 = vI (len r21)) (fun (q : Rs (List ResStep) Empty) e f w => match q with | .go s50 => e = Exit.exit 0 ∧ (∃ H : GH, ∃ v51 : Value, ∃ n52 : Nat, ∃ cs53 : List Value, St Ha wa H w [.row 63 4 v51 n52 cs53] ∧ Inc H45 H ∧ Els (up wa.heap.size H) eResStep 4 cs53 s50 ∧ (bl cs53).Nodup ∧ f 4 = v51) | .rt x => x.elim) hq ⟨_, _, _, _, ((S46.nil 63 4).sel [0] (by decide) rfl), (Inc.rfl _), Els.nil, List.nodup_nil, rfl, rfl, rfl, rfl, rfl, rfl⟩ ?_ ?_) ?_
  ·
    clear hp hq
    rintro i50 y49 s50 f114 w113 ⟨H110, v51, n52, cs53, S111, i112, els54, nd55, k115, k116, k117, k118, k119, k120⟩ hx50 o164 hp
    refine FW.seq (FW.region ?_)
    refine FL.v (E.lssT k115 k120 (lss_len hx50)) ?_
    refine FL.nil (FW.seq ?_)
    refine FW.condT rfl rfl ?_
    refine FW.skip (FW.seq (FW.block (FW.seq (FW.region ?_))))
    obtain ⟨p121, cs122, pt123, l124, at125, rel126⟩ := h43.at (ix_nat hx50)
    obtain rfl := eI_open rel126
    refine FL.v (E.indexAddr te44 k119 k115 pt123) ?_
    refine FL.v (E.load rfl (run_load0 Tryz.isAgg3 ((at125.mono (upI.tr (i47.tr i112))).now S111.sl) rfl)) ?_
    refine FL.v (E.assign (v := vI y49) rfl) ?_
    refine FL.nil (FW.region ?_)
    refine FL.v (E.move k118) ?_
    refine FL.v (E.move k116) ?_
    refine FL.v (E.move (v := vI y49) rfl) ?_
    obtain ⟨x133, hx134, hp⟩ := bnd hp
    obtain ⟨p127, cs128, pt129, l130, at131, rel132⟩ := p0.at hx134
    obtain ⟨v135, rfl, h136⟩ := eResStep_open rel132
    refine FL.v (E.indexAddr te29 rfl rfl pt129) ?_
    refine FL.v (E.load rfl (run_loadA Tryz.isAgg63 Tryz.sizeOf63 ((at131.mono (((r26.run.inc.tr i42).tr i47).tr i112)).now S111.sl) rfl)) ?_
    refine FL.v (E.makeFunc A0 (A1 k117)) ?_
    obtain ⟨r137, hr138, hp⟩ := bnd hp
    refine FL.call rfl rfl rfl (E.call Tryz.call94 (A2 rfl rfl)) (w_impl_ResStep_moved S111.sl x133 v135 (h136.mono (((r26.run.inc.tr i42).tr i47).tr i112)) (Value.func (.func 95) #[] #[vP (⟨b31, 0, none⟩)]) (fun x0 => PF.impl_trimSteps_1 x0 r21) (fun H2 w2 hi2 hs2 x0 r hr => ⟨95, #[vP (⟨b31, 0, none⟩)], rfl, Tryz.call95, w_impl_trimSteps_1 hs2 x0 ⟨b31, 0, none⟩ r21 v27 ((h43.mono (upI.tr (i47.tr i112))).mono hi2) ((at48.mono i112).mono hi2) hr⟩) hr138) ?_
    rintro e w140 ⟨H139, v143, rfl, r142, h144⟩
    refine ⟨_, rfl, ?_⟩
    have nv145 : New H110 [v143] := New.of_up S111.sl h144.dom
    have h144 := h144.mono (up_le S111.size)
    have S141 := S111.call r142
    obtain ⟨v146, w147, run148, S149⟩ := S141.buildSlice (P := prog) te29 [vA #[v143, vI r137.left, vI r137.right, vI r137.pivot]] (parts := #[(0, vA #[v143, vI r137.left, vI r137.right, vI r137.pivot])]) (cells := [v143, vI r137.left, vI r137.right, vI r137.pivot]) rfl (szs_cons rfl szs_nil) (fc_cons rfl fc_nil) (ones_cons h144.one (ones_cons rfl (ones_cons rfl (ones_cons rfl ones_nil)))) (Nat.le_of_ble_eq_true rfl)
    have els150 : Els (up wa.heap.size H139) eResStep 4 [v143, vI r137.left, vI r137.right, vI r137.pivot] [r137] := (Els.snoc (H := (up wa.heap.size H139)) (E := eResStep) (k := 4) (c := [v143, vI r137.left, vI r137.right, vI r137.pivot]) (x := r137) Els.nil rfl ⟨_, rfl, h144⟩)
    have nd151 : (bl [v143, vI r137.left, vI r137.right, vI r137.pivot]).Nodup := by exact nd_one v143
    refine FL.v (E.buildSlice (B1 rfl) run148) ?_
    obtain ⟨xs152, hz153, hp⟩ := bnd hp
    obtain ⟨v154, w157, n155, cs156, run158, S159, els160, ce161⟩ := S149.appendO (P := prog) te29 (i := 1) (j := 0) rfl (els54.mono (up_mono r142.inc)) rfl els150 hz153
    have S159 : St Ha wa H139 w157 [.row 63 4 v146 1 [v143, vI r137.left, vI r137.right, vI r137.pivot], .row 63 4 v154 n155 cs156] := S159
    have nd162 : (bl cs156).Nodup := by rw [ce161]; exact nd_app nd55 nd151 (Els.dom (els54.mono (upI.tr (Inc.rfl _)))) (by exact nv145)
    have S163 : St Ha wa H139 w157 [.row 63 4 v154 n155 cs156] := S159.drop 0
    refine FL.v (E.append rfl rfl run158) ?_
    refine FL.v (E.assign (v := v154) rfl) ?_
    refine FL.nil (FW.region ?_)
    refine FL.v (E.add k115 rfl) ?_
    refine FL.v (E.move (v := vI (wr (((i50 : Nat) : Int) + 1))) rfl) ?_
    refine FL.nil ?_
    obtain rfl := Option.some.inj hp
    exact ⟨rfl, ⟨_, _, _, _, S163, (i112.tr r142.inc), els160, nd162, (nat_succ rfl (lt_of_get hx50) (h43.mono (upI.tr ((i47.tr i112).tr r142.inc))).le), k116, k117, rfl, k119, k120⟩⟩
  ·
    clear hp hq
    rintro s50 f175 w174 ⟨H171, v51, n52, cs53, S172, i173, els54, nd55, k176, k177, k178, k179, k180, k181⟩
    refine FW.seq (FW.region ?_)
    refine FL.v (E.lss k176 k181) ?_
    refine FL.nil (FW.seq ?_)
    refine FW.condF rfl dlt_len ?_
    refine FW.exit ?_
    exact ⟨nofun, rfl, ⟨_, _, _, _, S172, i173, els54, nd55, k179⟩⟩
  ·
    clear hq
    intro e f169 w168 hD
    rcases q50 with s50 | x50
    ·
      obtain ⟨rfl, hD⟩ := hD
      obtain ⟨H165, v51, n52, cs53, S166, i167, els54, nd55, k170⟩ := hD
      replace hp := el_go hp
      refine FW.seq (FW.region ?_)
      refine FL.v (E.move k170) ?_
      refine FL.v (E.assign (v := v51) rfl) ?_
      refine FL.nil ?_
      refine FW.ret ?_
      obtain rfl := Option.some.inj hp
      exact ⟨.inr rfl, res1 rfl rfl ⟨_, _, _, _, rfl, S166, els54, nd55⟩⟩
    · exact x50.elim

end Go.Proofs
