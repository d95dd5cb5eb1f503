/- Part of the walks and plain laws behind the claim: it proves helpers, under no condition beyond their own. -/
import Derived.Test.YtjkdeonnohadeaaGreatLpWk1
set_option linter.unusedVariables false
set_option maxRecDepth 100000
namespace Go.Proofs
open Go.Mr Go.Pu Go.PF Go.RowKit Tryz

@[reducible] def p_spec_l11Steps (Ha : GH) (wa : World) (r : ((List ResStep) × Int)) : Ending → World → Prop :=
  fun e w' => ∃ H' : GH, ∃ v0 : Value, ∃ n0 : Nat, ∃ c0 : List Value, e = .returned (Value.tuple #[v0, vI r.2]) ∧ St Ha wa H' w' [.row 63 4 v0 n0 c0] ∧ Els (up wa.heap.size H') eResStep 4 c0 r.1 ∧ (bl c0).Nodup
set_option maxHeartbeats 4000000 in
theorem w_spec_l11Steps {Ha : GH} {wa : World} (hs : Sl Ha wa) (a0 : Cnf) (v0_1 : Value) (p0_1 : RSl Ha (eL eI 1) 1 v0_1 a0.clauses) (v1 : Value) (a1 : List (List Int)) (p1 : RSl Ha (eL eI 1) 1 v1 a1) {r : ((List ResStep) × Int)} (hp : (PF.spec_l11Steps a0 a1) = some r) :
    Calls prog 58 #[vA #[vI a0.vars, v0_1], v1] wa (p_spec_l11Steps Ha wa r) := by
  unfold PF.spec_l11Steps at hp
  have S0 := St.init hs
  refine calls_go (N := 168) (args := [vA #[vI a0.vars, v0_1], v1]) Tryz.func58 rfl rfl rfl ?_
  refine FW.seq (FW.region ?_)
  obtain ⟨b21, w22, run23, S24⟩ := S0.box (P := prog) 28 [vI a0.vars, v0_1] (v := vA #[vI a0.vars, v0_1]) rfl (ones_cons rfl (ones_cons p0_1.one ones_nil))
  refine FL.v (E.box rfl run23) ?_
  obtain ⟨H25, S26, i27, at28⟩ := S24.sealBox (i := 0) (l' := []) rfl rfl
  refine FL.v (E.assign (v := vN) rfl) ?_
  refine FL.v (E.assign (v := vI 0) rfl) ?_
  refine FL.nil (FW.seq (FW.region ?_))
  obtain ⟨v29, w30, run31, S32⟩ := S26.buildSlice (P := prog) te29 [] (parts := #[]) (cells := []) rfl szs_nil fc_nil ones_nil (Nat.le_of_ble_eq_true rfl)
  have els33 : Els (up wa.heap.size H25) eResStep 4 [] [] := Els.nil
  refine FL.v (E.buildSlice (B0) run31) ?_
  obtain ⟨v34, w35, run36, S37⟩ := S32.buildSlice (P := prog) te44 [] (parts := #[]) (cells := []) rfl szs_nil fc_nil ones_nil (Nat.le_of_ble_eq_true rfl)
  have els38 : Els (up wa.heap.size H25) eI 1 [] [] := Els.nil
  refine FL.v (E.buildSlice (B0) run36) ?_
  refine FL.v (E.assign (v := v29) rfl) ?_
  refine FL.v (E.assign (v := v34) rfl) ?_
  refine FL.nil (FW.seq (FW.seq (FW.region ?_)))
  refine FL.v (E.assign (v := vI 0) rfl) ?_
  refine FL.nil ?_
  obtain ⟨q39, hq, hp⟩ := bndR hp
  refine FW.block ?_
  refine FW.mono (FW.iter (S := ((List Int) × Int)) (X := Empty) (fun (s39 : ((List Int) × Int)) f w => ∃ H : GH, ∃ v40 : Value, ∃ n41 : Nat, ∃ cs42 : List Value, St Ha wa H w [.row 3 1 v40 n41 cs42, .row 63 4 v29 0 []] ∧ Inc H25 H ∧ Els (up wa.heap.size H) eI 1 cs42 s39.1 ∧ f 1 = v1 ∧ f 2 = vP (⟨b21, 0, none⟩) ∧ f 6 = v29 ∧ f 7 = v40 ∧ f 8 = vI s39.2) (fun (q : Rs ((List Int) × Int) Empty) e f w => match q with | .go s39 => e = Exit.exit 0 ∧ (∃ H : GH, ∃ v40 : Value, ∃ n41 : Nat, ∃ cs42 : List Value, St Ha wa H w [.row 3 1 v40 n41 cs42, .row 63 4 v29 0 []] ∧ Inc H25 H ∧ Els (up wa.heap.size H) eI 1 cs42 s39.1 ∧ f 1 = v1 ∧ f 2 = vP (⟨b21, 0, none⟩) ∧ f 6 = v29 ∧ f 7 = v40) | .rt x => x.elim) hq ⟨_, _, _, _, S37, (Inc.rfl _), els38, rfl, rfl, rfl, rfl, rfl⟩ ?_) ?_
  ·
    clear hp hq
    rintro s39 f75 w74 ⟨H71, v40, n41, cs42, S72, i73, els43, k76, k77, k78, k79, k80⟩ o98 hp
    refine FW.seq (FW.seq (FW.region ?_))
    refine FL.v (E.move k80) ?_
    refine FL.v (E.fieldAddr tf28_1 k77) ?_
    refine FL.v (E.load rfl (run_load1 Tryz.isAgg22 ((at28.mono i73).now S72.sl) rfl)) ?_
    refine FL.v (E.lenP te22 rfl p0_1) ?_
    refine FL.v (E.move k76) ?_
    refine FL.v (E.lenP te22 rfl p1) ?_
    refine FL.v (E.add rfl rfl) ?_
    refine FL.v (E.lss rfl rfl) ?_
    refine FL.nil ?_
    rcases ifB hp with ⟨c81, hp⟩ | ⟨c81, hp⟩
    ·
      refine FW.condT rfl c81 ?_
      refine FW.skip (FW.seq (FW.block (FW.region ?_)))
      refine FL.v (E.move k79) ?_
      obtain ⟨v82, w83, run84, S85⟩ := S72.buildSlice (P := prog) te44 [vI (-1)] (parts := #[(0, vI (-1))]) (cells := [vI (-1)]) rfl (szs_cons rfl szs_nil) (fc_cons rfl fc_nil) (ones_cons rfl ones_nil) (Nat.le_of_ble_eq_true rfl)
      have els86 : Els (up wa.heap.size H71) eI 1 [vI (-1)] [(-1)] := (Els.snoc (H := (up wa.heap.size H71)) (E := eI) (k := 1) (c := [vI (-1)]) (x := (-1)) Els.nil rfl rfl)
      refine FL.v (E.buildSlice (B1 rfl) run84) ?_
      obtain ⟨xs87, hz88, hp⟩ := bnd hp
      obtain ⟨v89, w92, n90, cs91, run93, S94, els95, ce96⟩ := S85.appendO (P := prog) te44 (i := 1) (j := 0) rfl els43 rfl els86 hz88
      have S94 : St Ha wa H71 w92 [.row 3 1 v82 1 [vI (-1)], .row 3 1 v89 n90 cs91, .row 63 4 v29 0 []] := S94
      have S97 : St Ha wa H71 w92 [.row 3 1 v89 n90 cs91, .row 63 4 v29 0 []] := S94.drop 0
      refine FL.v (E.append rfl rfl run93) ?_
      refine FL.v (E.assign (v := v89) rfl) ?_
      refine FL.nil (FW.region ?_)
      refine FL.v (E.move k80) ?_
      refine FL.v (E.add rfl rfl) ?_
      refine FL.v (E.assign (v := vI (wr (s39.2 + 1))) rfl) ?_
      refine FL.nil ?_
      obtain rfl := Option.some.inj hp
      exact ⟨rfl, ⟨_, _, _, _, S97, i73, els95, k76, k77, k78, rfl, rfl⟩⟩
    ·
      refine FW.condF rfl c81 ?_
      refine FW.exit ?_
      obtain rfl := Option.some.inj hp
      exact ⟨nofun, rfl, ⟨_, _, _, _, S72, i73, els43, k76, k77, k78, k79⟩⟩
  ·
    clear hq
    intro e f103 w102 hD
    rcases q39 with s39 | x39
    ·
      obtain ⟨rfl, hD⟩ := hD
      obtain ⟨H99, v40, n41, cs42, S100, i101, els43, k104, k105, k106, k107⟩ := hD
      replace hp := el_go hp
      refine FW.seq (FW.seq (FW.region ?_))
      refine FL.v (E.assign (v := vI 0) rfl) ?_
      refine FL.nil ?_
      obtain ⟨q108, hq, hp⟩ := bndR hp
      refine FW.block ?_
      refine FW.mono (FW.iter (S := ((List Int) × (List ResStep) × Int)) (X := Empty) (fun (s108 : ((List Int) × (List ResStep) × Int)) f w => ∃ H : GH, ∃ v109 : Value, ∃ n110 : Nat, ∃ cs111 : List Value, ∃ v113 : Value, ∃ n114 : Nat, ∃ cs115 : List Value, St Ha wa H w [.row 3 1 v109 n110 cs111, .row 63 4 v113 n114 cs115] ∧ Inc H99 H ∧ Els (up wa.heap.size H) eI 1 cs111 s108.1 ∧ Els (up wa.heap.size H) eResStep 4 cs115 s108.2.1 ∧ (bl cs115).Nodup ∧ f 1 = v1 ∧ f 2 = vP (⟨b21, 0, none⟩) ∧ f 6 = v113 ∧ f 7 = v109 ∧ f 9 = vI s108.2.2) (fun (q : Rs ((List Int) × (List ResStep) × Int) Empty) e f w => match q with | .go s108 => e = Exit.exit 2 ∧ (∃ H : GH, ∃ v109 : Value, ∃ n110 : Nat, ∃ cs111 : List Value, ∃ v113 : Value, ∃ n114 : Nat, ∃ cs115 : List Value, St Ha wa H w [.row 3 1 v109 n110 cs111, .row 63 4 v113 n114 cs115] ∧ Inc H99 H ∧ Els (up wa.heap.size H) eI 1 cs111 s108.1 ∧ Els (up wa.heap.size H) eResStep 4 cs115 s108.2.1 ∧ (bl cs115).Nodup ∧ f 6 = v113 ∧ f 7 = v109) | .rt x => x.elim) hq ⟨_, _, _, _, _, _, _, S100, (Inc.rfl _), els43, (els33.mono (up_mono i101)), (show (bl []).Nodup from List.nodup_nil), k104, k105, k106, k107, rfl⟩ ?_) ?_
      ·
        clear hp hq
        rintro s108 f49 w48 ⟨H45, v109, n110, cs111, v113, n114, cs115, S46, i47, els112, els116, nd117, k50, k51, k52, k53, k54⟩ o509 hp
        refine FW.seq (FW.seq (FW.region ?_))
        refine FL.v (E.move k54) ?_
        refine FL.v (E.move k50) ?_
        refine FL.v (E.lenP te22 rfl p1) ?_
        refine FL.v (E.lss rfl rfl) ?_
        refine FL.v (E.move (v := vB (decide (s108.2.2 < (len a1)))) rfl) ?_
        refine FL.cut 4 (fun f w => ∃ H : GH, St Ha wa H w [.row 3 1 v109 n110 cs111, .row 63 4 v113 n114 cs115] ∧ Inc H45 H ∧ f 1 = v1 ∧ f 2 = vP (⟨b21, 0, none⟩) ∧ f 6 = v113 ∧ f 7 = v109 ∧ f 9 = vI s108.2.2 ∧ f 38 = vB (bif (decide (s108.2.2 < (len a1))) then (decide ((len s108.2.1) ≤ 200)) else false)) ?_ ?_
        ·
          rcases bcase (decide (s108.2.2 < (len a1))) with c60 | c60
          ·
            refine FL.val (wF_yes rfl rfl rfl c60) rfl rfl (E.move k52) ?_
            refine FL.val (wF_yes rfl rfl rfl c60) rfl rfl (E.lenO te29 rfl S46 (i := 1) rfl els116 (by decide)) ?_
            refine FL.val (wF_yes rfl rfl rfl c60) rfl rfl (E.leq rfl rfl) ?_
            refine FL.v (E.pickT rfl c60 rfl) ?_
            exact FL.nil ⟨rfl, _, S46, (Inc.rfl _), k50, k51, k52, k53, k54, (congrArg vB (bifT c60).symm)⟩
          ·
            refine FL.skip (wF_no rfl rfl rfl c60) rfl ?_
            refine FL.skip (wF_no rfl rfl rfl c60) rfl ?_
            refine FL.skip (wF_no rfl rfl rfl c60) rfl ?_
            refine FL.v (E.pickF rfl c60 rfl) ?_
            exact FL.nil ⟨rfl, _, S46, (Inc.rfl _), k50, k51, k52, k53, k54, (congrArg vB (bifF c60).symm)⟩
        rintro f59 w58 ⟨H55, S56, i57, k61, k62, k64, k65, k66, k67⟩
        refine FL.nil ?_
        rcases ifB hp with ⟨c68, hp⟩ | ⟨c68, hp⟩
        ·
          refine FW.condT k67 c68 ?_
          refine FW.skip (FW.seq (FW.block (FW.seq (FW.region ?_))))
          refine FL.v (E.load k62 (run_loadA Tryz.isAgg28 Tryz.sizeOf28 ((at28.mono ((i101.tr i47).tr i57)).now S56.sl) rfl)) ?_
          refine FL.v (E.move k61) ?_
          refine FL.v (E.move k66) ?_
          obtain ⟨r70, hr118, hp⟩ := bnd hp
          refine FL.call rfl rfl rfl (E.call Tryz.call48 (A3 rfl rfl rfl)) (w_spec_l11Analyse S56.sl a0 v0_1 (p0_1.mono (((i27.tr i101).tr i47).tr i57)) v1 a1 (p1.mono (((i27.tr i101).tr i47).tr i57)) s108.2.2 hr118) ?_
          rintro e w120 ⟨H119, v123, n124, cs125, rfl, r122, els126, nd127⟩
          refine ⟨_, rfl, ?_⟩
          have nv128 : New H55 cs125 := New.of_up S56.sl els126.dom
          have els126 := els126.mono (up_le S56.size)
          have S121 := S56.join (l' := [.row 105 3 v123 n124 cs125, .row 3 1 v109 n110 cs111, .row 63 4 v113 n114 cs115]) r122 rfl
          refine FL.v (E.move (v := Value.tuple #[vI r70.1, v123]) rfl) ?_
          refine FL.v (E.extract (i := 0) rfl rfl) ?_
          refine FL.v (E.extract (i := 1) rfl rfl) ?_
          refine FL.v (E.assign (v := vI r70.1) rfl) ?_
          refine FL.v (E.assign (v := v123) rfl) ?_
          refine FL.nil (FW.seq (FW.region ?_))
          refine FL.v (E.load k62 (run_loadA Tryz.isAgg28 Tryz.sizeOf28 ((at28.mono (((i101.tr i47).tr i57).tr r122.run.inc)).now S121.sl) rfl)) ?_
          refine FL.v (E.move (v := vI r70.1) rfl) ?_
          refine FL.v (E.move k64) ?_
          refine FL.v (E.move k65) ?_
          obtain ⟨r129, hr130, hp⟩ := bnd hp
          have S131 : St Ha wa H119 w120 [.row 3 1 v109 n110 cs111, .row 105 3 v123 n124 cs125, .row 63 4 v113 n114 cs115] := S121.front 1 rfl rfl
          have S132 : St Ha wa H119 w120 [.row 63 4 v113 n114 cs115, .row 3 1 v109 n110 cs111, .row 105 3 v123 n124 cs125] := S131.front 2 rfl rfl
          refine FL.call rfl rfl rfl (E.call Tryz.call84 (A4 rfl rfl rfl rfl)) (w_spec_l11Axiom (L := [.row 105 3 v123 n124 cs125]) S132 a0 v0_1 (p0_1.mono ((((i27.tr i101).tr i47).tr i57).tr r122.run.inc)) r70.1 s108.2.1 (els116.mono (up_mono (i57.tr r122.run.inc))) nd117 s108.1 (els112.mono (up_mono (i57.tr r122.run.inc))) hr130) ?_
          rintro e w134 ⟨H133, v137, n138, cs139, v142, n143, cs144, rfl, ⟨S135, i136⟩, els140, nd141, els145⟩
          refine ⟨_, rfl, ?_⟩
          have S135 : St Ha wa H133 w134 [.row 63 4 v137 n138 cs139, .row 3 1 v142 n143 cs144, .row 105 3 v123 n124 cs125] := S135
          refine FL.v (E.move (v := Value.tuple #[v137, v142]) rfl) ?_
          refine FL.v (E.extract (i := 0) rfl rfl) ?_
          refine FL.v (E.extract (i := 1) rfl rfl) ?_
          refine FL.v (E.assign (v := v137) rfl) ?_
          refine FL.v (E.assign (v := v142) rfl) ?_
          refine FL.nil (FW.seq (FW.region ?_))
          refine FL.v (E.move (v := v142) rfl) ?_
          refine FL.v (E.move (v := vI r70.1) rfl) ?_
          obtain ⟨x152, hx153, hp⟩ := bnd hp
          obtain ⟨p146, cs147, pt148, l149, at150, rel151⟩ := S135.row_at (i := 1) rfl els145 (by decide) hx153
          obtain rfl := eI_open rel151
          refine FL.v (E.indexAddr te44 rfl rfl pt148) ?_
          refine FL.v (E.load rfl (run_load0 Tryz.isAgg3 at150 rfl)) ?_
          refine FL.v (E.assign (v := vI x152) rfl) ?_
          refine FL.nil (FW.seq (FW.seq (FW.region ?_)))
          refine FL.v (E.assign (v := vI 0) rfl) ?_
          refine FL.nil ?_
          obtain ⟨q154, hq, hp⟩ := bndR hp
          refine FW.block ?_
          refine FW.mono (FW.iter (S := ((List ResStep) × (List Int) × Int × Int)) (X := Empty) (fun (s154 : ((List ResStep) × (List Int) × Int × Int)) f w => ∃ H : GH, ∃ v155 : Value, ∃ n156 : Nat, ∃ cs157 : List Value, ∃ v160 : Value, ∃ n161 : Nat, ∃ cs162 : List Value, St Ha wa H w [.row 63 4 v155 n156 cs157, .row 3 1 v160 n161 cs162, .row 105 3 v123 n124 cs125] ∧ Inc H133 H ∧ Els (up wa.heap.size H) eResStep 4 cs157 s154.1 ∧ Els (up wa.heap.size H) eI 1 cs162 s154.2.1 ∧ (bl cs157).Nodup ∧ f 1 = v1 ∧ f 2 = vP (⟨b21, 0, none⟩) ∧ f 6 = v155 ∧ f 7 = v160 ∧ f 9 = vI s108.2.2 ∧ f 11 = v123 ∧ f 12 = vI s154.2.2.1 ∧ f 13 = vI s154.2.2.2) (fun (q : Rs ((List ResStep) × (List Int) × Int × Int) Empty) e f w => match q with | .go s154 => e = Exit.exit 4 ∧ (∃ H : GH, ∃ v155 : Value, ∃ n156 : Nat, ∃ cs157 : List Value, ∃ v160 : Value, ∃ n161 : Nat, ∃ cs162 : List Value, St Ha wa H w [.row 63 4 v155 n156 cs157, .row 3 1 v160 n161 cs162, .row 105 3 v123 n124 cs125] ∧ Inc H133 H ∧ Els (up wa.heap.size H) eResStep 4 cs157 s154.1 ∧ Els (up wa.heap.size H) eI 1 cs162 s154.2.1 ∧ (bl cs157).Nodup ∧ f 1 = v1 ∧ f 2 = vP (⟨b21, 0, none⟩) ∧ f 6 = v155 ∧ f 7 = v160 ∧ f 9 = vI s108.2.2 ∧ f 12 = vI s154.2.2.1) | .rt x => x.elim) hq ⟨_, _, _, _, _, _, _, S135, (Inc.rfl _), els140, els145, nd141, k61, k62, rfl, rfl, k66, rfl, rfl, rfl⟩ ?_) ?_
          ·
            clear hp hq
            rintro s154 f168 w167 ⟨H164, v155, n156, cs157, v160, n161, cs162, S165, i166, els158, els163, nd159, k169, k170, k171, k172, k173, k174, k175, k176⟩ o389 hp
            refine FW.seq (FW.seq (FW.region ?_))
            refine FL.v (E.move k176) ?_
            refine FL.v (E.move k174) ?_
            refine FL.v (E.lenO te69 rfl S165 (i := 2) rfl els126 (by decide)) ?_
            refine FL.v (E.lss rfl rfl) ?_
            refine FL.nil ?_
            rcases ifB hp with ⟨c177, hp⟩ | ⟨c177, hp⟩
            ·
              refine FW.condT rfl c177 ?_
              refine FW.skip (FW.seq (FW.block (FW.seq ?_)))
              obtain ⟨x187, hx188, hp⟩ := bnd hp
              obtain ⟨r192, hr193, hp⟩ := bnd hp
              refine FW.drawB (SX Ha wa H164 [.row 105 3 v123 n124 cs125]) (fun f w => ∃ H : GH, ∃ v209 : Value, ∃ n210 : Nat, ∃ cs211 : List Value, ∃ v214 : Value, ∃ n215 : Nat, ∃ cs216 : List Value, St Ha wa H w [.row 63 4 v209 n210 cs211, .row 3 1 v214 n215 cs216, .row 105 3 v123 n124 cs125] ∧ Inc H164 H ∧ Els (up wa.heap.size H) eResStep 4 cs211 r192.1 ∧ Els (up wa.heap.size H) eI 1 cs216 r192.2 ∧ (bl cs211).Nodup ∧ f 1 = v1 ∧ f 2 = vP (⟨b21, 0, none⟩) ∧ f 6 = v209 ∧ f 7 = v214 ∧ f 9 = vI s108.2.2 ∧ f 11 = v123 ∧ f 12 = vI s154.2.2.1 ∧ f 13 = vI s154.2.2.2) (by kernel_rfl) S165.sl ?_ ?_
              ·
                intro w178 r179
                have S180 := S165.call r179
                refine FB.t (i := 0) (bs 14 1) rfl (SP.nil ⟨_, (S180.sel [2] (by decide) rfl), (Inc.rfl _)⟩) rfl (fun _ z => (E.load k170 (run_loadA Tryz.isAgg28 Tryz.sizeOf28 ((at28.mono (((((i101.tr i47).tr i57).tr r122.run.inc).tr i136).tr i166)).now z.sl) rfl))) ?_
                refine FB.t (i := 1) (bs 14 3) rfl (SP.nil ⟨_, (S180.sel [2] (by decide) rfl), (Inc.rfl _)⟩) rfl (fun _ z => (E.move k174)) ?_
                refine FB.t (i := 2) (bs 14 7) rfl (SP.nil ⟨_, (S180.sel [2] (by decide) rfl), (Inc.rfl _)⟩) rfl (fun _ z => (E.move k176)) ?_
                obtain ⟨p181, cs182, pt183, l184, at185, rel186, hall189⟩ := S180.row_atA (i := 2) rfl els126 (by decide) hx188
                obtain ⟨v190, rfl, h191⟩ := el11Use_open rel186
                refine FB.t (i := 3) (bs 14 15) rfl (SP.nil ⟨_, (S180.sel [2] (by decide) rfl), (Inc.rfl _)⟩) rfl (fun _ z => (E.indexAddr te69 rfl rfl pt183)) ?_
                refine FB.t (i := 4) (bs 14 31) rfl (SP.nil ⟨_, (S180.sel [2] (by decide) rfl), (Inc.rfl _)⟩) rfl (fun _ z => (E.fieldAddr tf105_0 rfl)) ?_
                refine FB.t (i := 5) (bs 14 63) rfl (SP.nil ⟨_, (S180.sel [2] (by decide) rfl), (Inc.rfl _)⟩) rfl (fun _ z => (E.load rfl (run_load1 Tryz.isAgg3 (z.use fun _ st => hall189 _ _ _ 0 st rfl) rfl))) ?_
                refine FB.t (i := 6) (bs 14 127) rfl (SP.nil ⟨_, (S180.sel [2] (by decide) rfl), (Inc.rfl _)⟩) rfl (fun _ z => (E.move k171)) ?_
                refine FB.t (i := 7) (bs 14 255) rfl (SP.nil ⟨_, (S180.sel [2] (by decide) rfl), (Inc.rfl _)⟩) rfl (fun _ z => (E.move k172)) ?_
                refine FB.all1 (i := 8) (by kernel_rfl) ?_
                ·
                  have S194 : St Ha wa H164 w178 [.row 3 1 v160 n161 cs162, .row 63 4 v155 n156 cs157, .row 105 3 v123 n124 cs125] := S180.front 1 rfl rfl
                  have S195 : St Ha wa H164 w178 [.row 63 4 v155 n156 cs157, .row 3 1 v160 n161 cs162, .row 105 3 v123 n124 cs125] := S194.front 1 rfl rfl
                  refine FC.call (l' := (bs 14 511)) rfl (by kernel_rfl) rfl rfl rfl (E.call Tryz.call84 (A4 rfl rfl rfl rfl)) (w_spec_l11Axiom (L := [.row 105 3 v123 n124 cs125]) S195 a0 v0_1 (p0_1.mono ((((((i27.tr i101).tr i47).tr i57).tr r122.run.inc).tr i136).tr i166)) x187.reason s154.1 els158 nd159 s154.2.1 els163 hr193) ?_
                  rintro e w197 ⟨H196, v200, n201, cs202, v205, n206, cs207, rfl, ⟨S198, i199⟩, els203, nd204, els208⟩
                  refine ⟨_, rfl, ?_⟩
                  have S198 : St Ha wa H196 w197 [.row 63 4 v200 n201 cs202, .row 3 1 v205 n206 cs207, .row 105 3 v123 n124 cs125] := S198
                  refine ⟨(SP.nil ⟨_, (S198.sel [2] (by decide) rfl), i199⟩), ?_⟩
                  refine FB.t (i := 9) (bs 14 1023) rfl (SP.nil ⟨_, (S198.sel [2] (by decide) rfl), i199⟩) rfl (fun _ z => (E.move (v := Value.tuple #[v200, v205]) rfl)) ?_
                  refine FB.t (i := 10) (bs 14 2047) rfl (SP.nil ⟨_, (S198.sel [2] (by decide) rfl), i199⟩) rfl (fun _ z => (E.extract (i := 0) rfl rfl)) ?_
                  refine FB.t (i := 11) (bs 14 4095) rfl (SP.nil ⟨_, (S198.sel [2] (by decide) rfl), i199⟩) rfl (fun _ z => (E.extract (i := 1) rfl rfl)) ?_
                  refine FB.t (i := 12) (bs 14 8191) rfl (SP.nil ⟨_, (S198.sel [2] (by decide) rfl), i199⟩) rfl (fun _ z => (E.assign (v := v200) rfl)) ?_
                  refine FB.t (i := 13) (bs 14 16383) rfl (SP.nil ⟨_, (S198.sel [2] (by decide) rfl), i199⟩) rfl (fun _ z => (E.assign (v := v205) rfl)) ?_
                  exact FB.done (by kernel_rfl) ⟨_, _, _, _, _, _, _, S198, i199, els203, els208, nd204, k169, k170, rfl, rfl, k173, k174, k175, k176⟩
              ·
                rintro f222 w221 ⟨H218, v209, n210, cs211, v214, n215, cs216, S219, i220, els212, els217, nd213, k223, k224, k225, k226, k227, k228, k229, k230⟩
                refine FW.seq ?_
                obtain ⟨x245, hx246, hp⟩ := bnd hp
                obtain ⟨xs250, hz251, hp⟩ := bnd hp
                obtain ⟨x265, hx266, hp⟩ := bnd hp
                obtain ⟨x276, hx277, hp⟩ := bnd hp
                obtain ⟨x285, hx286, hp⟩ := bnd hp
                refine FW.drawB (SX Ha wa H218 [.row 3 1 v214 n215 cs216, .row 105 3 v123 n124 cs125]) (fun f w => ∃ H : GH, ∃ b302 : Nat, ∃ v303 : Value, St Ha wa H w [.row 63 4 v209 n210 cs211, .row 3 1 v214 n215 cs216, .row 105 3 v123 n124 cs125, .box b302 63 [v303, vI s154.2.2.1, vI x276, vI x285.v]] ∧ Inc H218 H ∧ RSl (up wa.heap.size H) eI 1 v303 xs250 ∧ New H218 [v303] ∧ f 1 = v1 ∧ f 2 = vP (⟨b21, 0, none⟩) ∧ f 6 = v209 ∧ f 7 = v214 ∧ f 9 = vI s108.2.2 ∧ f 11 = v123 ∧ f 12 = vI s154.2.2.1 ∧ f 13 = vI s154.2.2.2 ∧ f 14 = vP ((⟨b302, 0, none⟩ : Addr))) (by kernel_rfl) S219.sl ?_ ?_
                ·
                  intro w231 r232
                  have S233 := S219.call r232
                  refine FB.t (i := 1) (bs 24 2) rfl (SP.nil ⟨_, (S233.sel [1, 2] (by decide) rfl), (Inc.rfl _)⟩) rfl (fun _ z => (E.move k228)) ?_
                  refine FB.t (i := 2) (bs 24 6) rfl (SP.nil ⟨_, (S233.sel [1, 2] (by decide) rfl), (Inc.rfl _)⟩) rfl (fun _ z => (E.move k230)) ?_
                  obtain ⟨p239, cs240, pt241, l242, at243, rel244, hall247⟩ := S233.row_atA (i := 2) rfl els126 (by decide) hx246
                  obtain ⟨v248, rfl, h249⟩ := el11Use_open rel244
                  refine FB.t (i := 3) (bs 24 14) rfl (SP.nil ⟨_, (S233.sel [1, 2] (by decide) rfl), (Inc.rfl _)⟩) rfl (fun _ z => (E.indexAddr te69 rfl rfl pt241)) ?_
                  refine FB.t (i := 4) (bs 24 30) rfl (SP.nil ⟨_, (S233.sel [1, 2] (by decide) rfl), (Inc.rfl _)⟩) rfl (fun _ z => (E.fieldAddr tf105_2 rfl)) ?_
                  refine FB.t (i := 5) (bs 24 62) rfl (SP.nil ⟨_, (S233.sel [1, 2] (by decide) rfl), (Inc.rfl _)⟩) rfl (fun _ z => (E.load rfl (run_load1 Tryz.isAgg44 (z.use fun _ st => hall247 _ _ _ 1 st rfl) rfl))) ?_
                  refine FB.t (i := 7) (bs 24 190) rfl (SP.nil ⟨_, (S233.sel [1, 2] (by decide) rfl), (Inc.rfl _)⟩) rfl (fun _ z => (E.move k229)) ?_
                  refine FB.t (i := 8) (bs 24 446) rfl (SP.nil ⟨_, (S233.sel [1, 2] (by decide) rfl), (Inc.rfl _)⟩) rfl (fun _ z => (E.move k226)) ?_
                  refine FB.t (i := 9) (bs 24 958) rfl (SP.nil ⟨_, (S233.sel [1, 2] (by decide) rfl), (Inc.rfl _)⟩) rfl (fun _ z => (E.move k228)) ?_
                  refine FB.t (i := 10) (bs 24 1982) rfl (SP.nil ⟨_, (S233.sel [1, 2] (by decide) rfl), (Inc.rfl _)⟩) rfl (fun _ z => (E.move k230)) ?_
                  obtain ⟨p259, cs260, pt261, l262, at263, rel264, hall267⟩ := S233.row_atA (i := 2) rfl els126 (by decide) hx266
                  obtain ⟨v268, rfl, h269⟩ := el11Use_open rel264
                  refine FB.t (i := 11) (bs 24 4030) rfl (SP.nil ⟨_, (S233.sel [1, 2] (by decide) rfl), (Inc.rfl _)⟩) rfl (fun _ z => (E.indexAddr te69 rfl rfl pt261)) ?_
                  refine FB.t (i := 12) (bs 24 8126) rfl (SP.nil ⟨_, (S233.sel [1, 2] (by decide) rfl), (Inc.rfl _)⟩) rfl (fun _ z => (E.fieldAddr tf105_0 rfl)) ?_
                  refine FB.t (i := 13) (bs 24 16318) rfl (SP.nil ⟨_, (S233.sel [1, 2] (by decide) rfl), (Inc.rfl _)⟩) rfl (fun _ z => (E.load rfl (run_load1 Tryz.isAgg3 (z.use fun _ st => hall267 _ _ _ 1 st rfl) rfl))) ?_
                  obtain ⟨p270, cs271, pt272, l273, at274, rel275, hall278⟩ := S233.row_atA (i := 1) rfl els217 (by decide) hx277
                  obtain rfl := eI_open rel275
                  refine FB.t (i := 14) (bs 24 32702) rfl (SP.nil ⟨_, (S233.sel [1, 2] (by decide) rfl), (Inc.rfl _)⟩) rfl (fun _ z => (E.indexAddr te44 rfl rfl pt272)) ?_
                  refine FB.t (i := 15) (bs 24 65470) rfl (SP.nil ⟨_, (S233.sel [1, 2] (by decide) rfl), (Inc.rfl _)⟩) rfl (fun _ z => (E.load rfl (run_load0 Tryz.isAgg3 (z.use fun _ st => hall278 _ _ _ 0 st rfl) rfl))) ?_
                  refine FB.t (i := 16) (bs 24 131006) rfl (SP.nil ⟨_, (S233.sel [1, 2] (by decide) rfl), (Inc.rfl _)⟩) rfl (fun _ z => (E.move k228)) ?_
                  refine FB.t (i := 17) (bs 24 262078) rfl (SP.nil ⟨_, (S233.sel [1, 2] (by decide) rfl), (Inc.rfl _)⟩) rfl (fun _ z => (E.move k230)) ?_
                  obtain ⟨p279, cs280, pt281, l282, at283, rel284, hall287⟩ := S233.row_atA (i := 2) rfl els126 (by decide) hx286
                  obtain ⟨v288, rfl, h289⟩ := el11Use_open rel284
                  refine FB.t (i := 18) (bs 24 524222) rfl (SP.nil ⟨_, (S233.sel [1, 2] (by decide) rfl), (Inc.rfl _)⟩) rfl (fun _ z => (E.indexAddr te69 rfl rfl pt281)) ?_
                  refine FB.t (i := 19) (bs 24 1048510) rfl (SP.nil ⟨_, (S233.sel [1, 2] (by decide) rfl), (Inc.rfl _)⟩) rfl (fun _ z => (E.fieldAddr tf105_1 rfl)) ?_
                  refine FB.t (i := 20) (bs 24 2097086) rfl (SP.nil ⟨_, (S233.sel [1, 2] (by decide) rfl), (Inc.rfl _)⟩) rfl (fun _ z => (E.load rfl (run_load1 Tryz.isAgg3 (z.use fun _ st => hall287 _ _ _ 1 st rfl) rfl))) ?_
                  refine FB.all2 (i := 0) (j := 22) (by kernel_rfl) ?_ ?_
                  ·
                    obtain ⟨v234, w235, run236, S237⟩ := S233.buildSlice (P := prog) te44 [] (parts := #[]) (cells := []) rfl szs_nil fc_nil ones_nil (Nat.le_of_ble_eq_true rfl)
                    have els238 : Els (up wa.heap.size H218) eI 1 [] [] := Els.nil
                    refine FC.val (l' := (bs 24 2097087)) rfl (by kernel_rfl) rfl rfl rfl (E.buildSlice (B0) run236) ?_
                    refine ⟨(SP.nil ⟨_, (S237.sel [2, 3] (by decide) rfl), (Inc.rfl _)⟩), ?_⟩
                    refine FB.all2 (i := 6) (j := 22) (by kernel_rfl) ?_ ?_
                    ·
                      obtain ⟨v252, w255, n253, cs254, run256, S257, els258⟩ := S237.appendP (P := prog) upI te44 (i := 0) rfl els238 (h249.mono (up_mono ((i136.tr i166).tr i220))) hz251
                      have S257 : St Ha wa H218 w255 [.row 3 1 v252 n253 cs254, .row 63 4 v209 n210 cs211, .row 3 1 v214 n215 cs216, .row 105 3 v123 n124 cs125] := S257
                      refine FC.val (l' := (bs 24 2097151)) rfl (by kernel_rfl) rfl rfl rfl (E.append rfl rfl run256) ?_
                      refine ⟨(SP.nil ⟨_, (S257.sel [2, 3] (by decide) rfl), (Inc.rfl _)⟩), ?_⟩
                      obtain ⟨H290, S291, i292, h293, nv294⟩ := S257.sealRowU (i := 0) (l' := [.row 63 4 v209 n210 cs211, .row 3 1 v214 n215 cs216, .row 105 3 v123 n124 cs125]) rfl els258 (by decide) rfl
                      refine FB.t (i := 21) (bs 24 4194303) rfl (SP.nil ⟨_, (S257.sel [2, 3] (by decide) rfl), (Inc.rfl _)⟩) rfl (fun _ z => (E.build (B4 rfl rfl rfl rfl) (run_build _ 63 #[(0, v252), (1, vI s154.2.2.1), (2, vI x276), (3, vI x285.v)] #[v252, vI s154.2.2.1, vI x276, vI x285.v] (by obtain ⟨_, _, rfl⟩ := RSl.ln (h293.mono upI); rfl)))) ?_
                      refine FB.all1 (i := 22) (by kernel_rfl) ?_
                      ·
                        obtain ⟨b295, w296, run297, S298⟩ := S291.alloc (P := prog) 63 [vN, vI 0, vI 0, vI 0] Tryz.zeroValue63 rfl (ones_cons rfl (ones_cons rfl (ones_cons rfl (ones_cons rfl ones_nil))))
                        refine FC.val (l' := (bs 24 8388607)) rfl (by kernel_rfl) rfl rfl rfl (E.alloc run297) ?_
                        refine ⟨(SP.nil ⟨_, (S298.sel [2, 3] (by decide) rfl), i292⟩), ?_⟩
                        refine FB.all1 (i := 23) (by kernel_rfl) ?_
                        ·
                          obtain ⟨w299, run300, S301⟩ := S298.store0 (P := prog) (t := 63) (i := 0) (cs' := [v252, vI s154.2.2.1, vI x276, vI x285.v]) (l' := [.box b295 63 [v252, vI s154.2.2.1, vI x276, vI x285.v], .row 63 4 v209 n210 cs211, .row 3 1 v214 n215 cs216, .row 105 3 v123 n124 cs125]) (v := vA #[v252, vI s154.2.2.1, vI x276, vI x285.v]) (c := [v252, vI s154.2.2.1, vI x276, vI x285.v]) rfl Tryz.sizeOf63 rfl rfl (ones_cons h293.one (ones_cons rfl (ones_cons rfl (ones_cons rfl ones_nil)))) (Nat.le_of_ble_eq_true rfl) rfl rfl
                          refine FC.act (l' := (bs 24 16777215)) rfl (by kernel_rfl) rfl rfl (E.store rfl rfl run300) ?_
                          refine ⟨(SP.nil ⟨_, (S301.sel [2, 3] (by decide) rfl), i292⟩), ?_⟩
                          exact FB.done (by kernel_rfl) ⟨_, _, _, (S301.sel [1, 2, 3, 0] (by decide) rfl), i292, h293, (nv294.anti (Inc.rfl _)), k223, k224, k225, k226, k227, k228, k229, k230, rfl⟩
                    ·
                      obtain ⟨b295, w296, run297, S298⟩ := S237.alloc (P := prog) 63 [vN, vI 0, vI 0, vI 0] Tryz.zeroValue63 rfl (ones_cons rfl (ones_cons rfl (ones_cons rfl (ones_cons rfl ones_nil))))
                      refine FC.val (l' := (bs 24 6291391)) rfl (by kernel_rfl) rfl rfl rfl (E.alloc run297) ?_
                      refine ⟨(SP.nil ⟨_, (S298.sel [3, 4] (by decide) rfl), (Inc.rfl _)⟩), ?_⟩
                      refine FB.all1 (i := 6) (by kernel_rfl) ?_
                      ·
                        obtain ⟨v252, w255, n253, cs254, run256, S257, els258⟩ := S298.appendP (P := prog) upI te44 (i := 1) rfl els238 (h249.mono (up_mono ((i136.tr i166).tr i220))) hz251
                        have S257 : St Ha wa H218 w255 [.box b295 63 [vN, vI 0, vI 0, vI 0], .row 3 1 v252 n253 cs254, .row 63 4 v209 n210 cs211, .row 3 1 v214 n215 cs216, .row 105 3 v123 n124 cs125] := S257
                        refine FC.val (l' := (bs 24 6291455)) rfl (by kernel_rfl) rfl rfl rfl (E.append rfl rfl run256) ?_
                        refine ⟨(SP.nil ⟨_, (S257.sel [3, 4] (by decide) rfl), (Inc.rfl _)⟩), ?_⟩
                        obtain ⟨H290, S291, i292, h293, nv294⟩ := S257.sealRowU (i := 1) (l' := [.box b295 63 [vN, vI 0, vI 0, vI 0], .row 63 4 v209 n210 cs211, .row 3 1 v214 n215 cs216, .row 105 3 v123 n124 cs125]) rfl els258 (by decide) rfl
                        refine FB.t (i := 21) (bs 24 8388607) rfl (SP.nil ⟨_, (S257.sel [3, 4] (by decide) rfl), (Inc.rfl _)⟩) rfl (fun _ z => (E.build (B4 rfl rfl rfl rfl) (run_build _ 63 #[(0, v252), (1, vI s154.2.2.1), (2, vI x276), (3, vI x285.v)] #[v252, vI s154.2.2.1, vI x276, vI x285.v] (by obtain ⟨_, _, rfl⟩ := RSl.ln (h293.mono upI); rfl)))) ?_
                        refine FB.all1 (i := 23) (by kernel_rfl) ?_
                        ·
                          obtain ⟨w299, run300, S301⟩ := S291.store0 (P := prog) (t := 63) (i := 0) (cs' := [v252, vI s154.2.2.1, vI x276, vI x285.v]) (l' := [.box b295 63 [v252, vI s154.2.2.1, vI x276, vI x285.v], .row 63 4 v209 n210 cs211, .row 3 1 v214 n215 cs216, .row 105 3 v123 n124 cs125]) (v := vA #[v252, vI s154.2.2.1, vI x276, vI x285.v]) (c := [v252, vI s154.2.2.1, vI x276, vI x285.v]) rfl Tryz.sizeOf63 rfl rfl (ones_cons h293.one (ones_cons rfl (ones_cons rfl (ones_cons rfl ones_nil)))) (Nat.le_of_ble_eq_true rfl) rfl rfl
                          refine FC.act (l' := (bs 24 16777215)) rfl (by kernel_rfl) rfl rfl (E.store rfl rfl run300) ?_
                          refine ⟨(SP.nil ⟨_, (S301.sel [2, 3] (by decide) rfl), i292⟩), ?_⟩
                          exact FB.done (by kernel_rfl) ⟨_, _, _, (S301.sel [1, 2, 3, 0] (by decide) rfl), i292, h293, (nv294.anti (Inc.rfl _)), k223, k224, k225, k226, k227, k228, k229, k230, rfl⟩
                  ·
                    obtain ⟨b295, w296, run297, S298⟩ := S233.alloc (P := prog) 63 [vN, vI 0, vI 0, vI 0] Tryz.zeroValue63 rfl (ones_cons rfl (ones_cons rfl (ones_cons rfl (ones_cons rfl ones_nil))))
                    refine FC.val (l' := (bs 24 6291390)) rfl (by kernel_rfl) rfl rfl rfl (E.alloc run297) ?_
                    refine ⟨(SP.nil ⟨_, (S298.sel [2, 3] (by decide) rfl), (Inc.rfl _)⟩), ?_⟩
                    refine FB.all1 (i := 0) (by kernel_rfl) ?_
                    ·
                      obtain ⟨v234, w235, run236, S237⟩ := S298.buildSlice (P := prog) te44 [] (parts := #[]) (cells := []) rfl szs_nil fc_nil ones_nil (Nat.le_of_ble_eq_true rfl)
                      have els238 : Els (up wa.heap.size H218) eI 1 [] [] := Els.nil
                      refine FC.val (l' := (bs 24 6291391)) rfl (by kernel_rfl) rfl rfl rfl (E.buildSlice (B0) run236) ?_
                      refine ⟨(SP.nil ⟨_, (S237.sel [3, 4] (by decide) rfl), (Inc.rfl _)⟩), ?_⟩
                      refine FB.all1 (i := 6) (by kernel_rfl) ?_
                      ·
                        obtain ⟨v252, w255, n253, cs254, run256, S257, els258⟩ := S237.appendP (P := prog) upI te44 (i := 0) rfl els238 (h249.mono (up_mono ((i136.tr i166).tr i220))) hz251
                        have S257 : St Ha wa H218 w255 [.row 3 1 v252 n253 cs254, .box b295 63 [vN, vI 0, vI 0, vI 0], .row 63 4 v209 n210 cs211, .row 3 1 v214 n215 cs216, .row 105 3 v123 n124 cs125] := S257
                        refine FC.val (l' := (bs 24 6291455)) rfl (by kernel_rfl) rfl rfl rfl (E.append rfl rfl run256) ?_
                        refine ⟨(SP.nil ⟨_, (S257.sel [3, 4] (by decide) rfl), (Inc.rfl _)⟩), ?_⟩
                        obtain ⟨H290, S291, i292, h293, nv294⟩ := S257.sealRowU (i := 0) (l' := [.box b295 63 [vN, vI 0, vI 0, vI 0], .row 63 4 v209 n210 cs211, .row 3 1 v214 n215 cs216, .row 105 3 v123 n124 cs125]) rfl els258 (by decide) rfl
                        refine FB.t (i := 21) (bs 24 8388607) rfl (SP.nil ⟨_, (S257.sel [3, 4] (by decide) rfl), (Inc.rfl _)⟩) rfl (fun _ z => (E.build (B4 rfl rfl rfl rfl) (run_build _ 63 #[(0, v252), (1, vI s154.2.2.1), (2, vI x276), (3, vI x285.v)] #[v252, vI s154.2.2.1, vI x276, vI x285.v] (by obtain ⟨_, _, rfl⟩ := RSl.ln (h293.mono upI); rfl)))) ?_
                        refine FB.all1 (i := 23) (by kernel_rfl) ?_
                        ·
                          obtain ⟨w299, run300, S301⟩ := S291.store0 (P := prog) (t := 63) (i := 0) (cs' := [v252, vI s154.2.2.1, vI x276, vI x285.v]) (l' := [.box b295 63 [v252, vI s154.2.2.1, vI x276, vI x285.v], .row 63 4 v209 n210 cs211, .row 3 1 v214 n215 cs216, .row 105 3 v123 n124 cs125]) (v := vA #[v252, vI s154.2.2.1, vI x276, vI x285.v]) (c := [v252, vI s154.2.2.1, vI x276, vI x285.v]) rfl Tryz.sizeOf63 rfl rfl (ones_cons h293.one (ones_cons rfl (ones_cons rfl (ones_cons rfl ones_nil)))) (Nat.le_of_ble_eq_true rfl) rfl rfl
                          refine FC.act (l' := (bs 24 16777215)) rfl (by kernel_rfl) rfl rfl (E.store rfl rfl run300) ?_
                          refine ⟨(SP.nil ⟨_, (S301.sel [2, 3] (by decide) rfl), i292⟩), ?_⟩
                          exact FB.done (by kernel_rfl) ⟨_, _, _, (S301.sel [1, 2, 3, 0] (by decide) rfl), i292, h293, (nv294.anti (Inc.rfl _)), k223, k224, k225, k226, k227, k228, k229, k230, rfl⟩
                ·
                  rintro f310 w309 ⟨H306, b302, v303, S307, i308, h304, nv305, k311, k312, k313, k314, k315, k316, k317, k318, k319⟩
                  refine FW.seq (FW.seq ?_)
                  refine FW.draw (fun w' => Run w309.heap.size H306 w309 H306 w') (by kernel_rfl) (by kernel_rfl) (run_drew S307.sl) ?_
                  refine FD.val rfl rfl rfl (fun _ z => (E.move k313)) ?_
                  refine FD.val rfl rfl rfl (fun _ z => (E.move k317)) ?_
                  obtain ⟨x326, hx327, hp⟩ := bnd hp
                  obtain ⟨p320, cs321, pt322, l323, at324, rel325⟩ := S307.row_at (i := 0) rfl els212 (by decide) hx327
                  obtain ⟨v328, rfl, h329⟩ := eResStep_open rel325
                  refine FD.val rfl rfl rfl (fun _ z => (E.indexAddr te29 rfl rfl pt322)) ?_
                  refine FD.val rfl rfl rfl (fun _ z => (E.fieldAddr tf63_0 rfl)) ?_
                  refine FD.val rfl rfl rfl (fun _ z => (E.load rfl (run_load1 Tryz.isAgg44 (at324.cls z) rfl))) ?_
                  refine FD.val rfl rfl rfl (fun _ z => (E.move k316)) ?_
                  refine FD.val rfl rfl rfl (fun _ z => (E.move k318)) ?_
                  obtain ⟨x336, hx337, hp⟩ := bnd hp
                  obtain ⟨p330, cs331, pt332, l333, at334, rel335⟩ := S307.row_at (i := 2) rfl els126 (by decide) hx337
                  obtain ⟨v338, rfl, h339⟩ := el11Use_open rel335
                  refine FD.val rfl rfl rfl (fun _ z => (E.indexAddr te69 rfl rfl pt332)) ?_
                  refine FD.val rfl rfl rfl (fun _ z => (E.fieldAddr tf105_1 rfl)) ?_
                  refine FD.val rfl rfl rfl (fun _ z => (E.load rfl (run_load1 Tryz.isAgg3 (at334.cls z) rfl))) ?_
                  obtain ⟨r340, hr341, hp⟩ := bnd hp
                  refine FD.call rfl rfl rfl (fun _ z => (E.call Tryz.call73 (A2 rfl rfl))) (fun _ z => Calls.cls z (w_spec_l2Has (S307.call z).sl v328 x326.clause (h329.mono (upI.tr i308)) x336.v hr341)) ?_
                  refine FD.val rfl rfl rfl (fun _ z => (E.not rfl)) ?_
                  refine FD.nil ?_
                  intro w342 r344
                  have S343 := S307.call r344
                  rcases ifB hp with ⟨c345, hp⟩ | ⟨c345, hp⟩
                  ·
                    refine FW.condT rfl c345 ?_
                    refine FW.region ?_
                    refine FL.v (E.fieldAddr tf63_0 k319) ?_
                    refine FL.v (E.load rfl (run_load1 Tryz.isAgg44 (S343.box_now (i := 3) rfl) rfl)) ?_
                    refine FL.v (E.fieldAddr tf63_2 k319) ?_
                    refine FL.v (E.load rfl (run_load1 Tryz.isAgg3 (S343.box_now (i := 3) rfl) rfl)) ?_
                    refine FL.v (E.fieldAddr tf63_1 k319) ?_
                    refine FL.v (E.load rfl (run_load1 Tryz.isAgg3 (S343.box_now (i := 3) rfl) rfl)) ?_
                    refine FL.v (E.fieldAddr tf63_3 k319) ?_
                    refine FL.v (E.load rfl (run_load1 Tryz.isAgg3 (S343.box_now (i := 3) rfl) rfl)) ?_
                    refine FL.v (E.build (B4 rfl rfl rfl rfl) (run_build _ 63 #[(0, v303), (1, vI x276), (2, vI s154.2.2.1), (3, vI x285.v)] #[v303, vI x276, vI s154.2.2.1, vI x285.v] (by obtain ⟨_, _, rfl⟩ := RSl.ln (h304.mono upI); rfl))) ?_
                    obtain ⟨w346, run347, S348⟩ := S343.store0 (P := prog) (t := 63) (i := 3) (cs' := [v303, vI x276, vI s154.2.2.1, vI x285.v]) (l' := [.row 63 4 v209 n210 cs211, .row 3 1 v214 n215 cs216, .row 105 3 v123 n124 cs125, .box b302 63 [v303, vI x276, vI s154.2.2.1, vI x285.v]]) (v := vA #[v303, vI x276, vI s154.2.2.1, vI x285.v]) (c := [v303, vI x276, vI s154.2.2.1, vI x285.v]) rfl Tryz.sizeOf63 rfl rfl (ones_cons h304.one (ones_cons rfl (ones_cons rfl (ones_cons rfl ones_nil)))) (Nat.le_of_ble_eq_true rfl) rfl rfl
                    refine FL.act rfl rfl (E.store k319 rfl run347) ?_
                    obtain ⟨H349, S350, i351, at352⟩ := S348.sealBox (i := 3) (l' := [.row 63 4 v209 n210 cs211, .row 3 1 v214 n215 cs216, .row 105 3 v123 n124 cs125]) rfl rfl
                    refine FL.nil (FW.seq (FW.region ?_))
                    refine FL.v (E.move k313) ?_
                    refine FL.v (E.load k319 (run_loadA Tryz.isAgg63 Tryz.sizeOf63 (at352.now S350.sl) rfl)) ?_
                    obtain ⟨v353, w354, run355, S356⟩ := S350.buildSlice (P := prog) te29 [vA #[v303, vI x276, vI s154.2.2.1, vI x285.v]] (parts := #[(0, vA #[v303, vI x276, vI s154.2.2.1, vI x285.v])]) (cells := [v303, vI x276, vI s154.2.2.1, vI x285.v]) rfl (szs_cons rfl szs_nil) (fc_cons rfl fc_nil) (ones_cons h304.one (ones_cons rfl (ones_cons rfl (ones_cons rfl ones_nil)))) (Nat.le_of_ble_eq_true rfl)
                    have els357 : Els (up wa.heap.size H349) eResStep 4 [v303, vI x276, vI s154.2.2.1, vI x285.v] [(ResStep.mk xs250 x276 s154.2.2.1 x285.v)] := (Els.snoc (H := (up wa.heap.size H349)) (E := eResStep) (k := 4) (c := [v303, vI x276, vI s154.2.2.1, vI x285.v]) (x := (ResStep.mk xs250 x276 s154.2.2.1 x285.v)) Els.nil rfl ⟨_, rfl, (h304.mono (up_mono i351))⟩)
                    have nd358 : (bl [v303, vI x276, vI s154.2.2.1, vI x285.v]).Nodup := by exact nd_one v303
                    refine FL.v (E.buildSlice (B1 rfl) run355) ?_
                    obtain ⟨xs359, hz360, hp⟩ := bnd hp
                    obtain ⟨v361, w364, n362, cs363, run365, S366, els367, ce368⟩ := S356.appendO (P := prog) te29 (i := 1) (j := 0) rfl (els212.mono (up_mono (i308.tr i351))) rfl els357 hz360
                    have S366 : St Ha wa H349 w364 [.row 63 4 v353 1 [v303, vI x276, vI s154.2.2.1, vI x285.v], .row 63 4 v361 n362 cs363, .row 3 1 v214 n215 cs216, .row 105 3 v123 n124 cs125] := S366
                    have nd369 : (bl cs363).Nodup := by rw [ce368]; exact nd_app nd213 nd358 (Els.dom (els212.mono (upI.tr (Inc.rfl _)))) (by exact nv305)
                    have S370 : St Ha wa H349 w364 [.row 63 4 v361 n362 cs363, .row 3 1 v214 n215 cs216, .row 105 3 v123 n124 cs125] := S366.drop 0
                    refine FL.v (E.append rfl rfl run365) ?_
                    refine FL.v (E.assign (v := v361) rfl) ?_
                    refine FL.nil (FW.region ?_)
                    refine FL.v (E.move (v := v361) rfl) ?_
                    refine FL.v (E.lenO te29 rfl S370 (i := 0) rfl els367 (by decide)) ?_
                    refine FL.v (E.sub rfl rfl) ?_
                    refine FL.v (E.assign (v := vI (wr ((len xs359) - 1))) rfl) ?_
                    refine FL.nil (FW.region ?_)
                    refine FL.v (E.move k318) ?_
                    refine FL.v (E.add rfl rfl) ?_
                    refine FL.v (E.assign (v := vI (wr (s154.2.2.2 + 1))) rfl) ?_
                    refine FL.nil ?_
                    obtain rfl := Option.some.inj hp
                    exact ⟨rfl, ⟨_, _, _, _, _, _, _, S370, (((i166.tr i220).tr i308).tr i351), els367, (els217.mono (up_mono (i308.tr i351))), nd369, k311, k312, rfl, k314, k315, k316, rfl, rfl⟩⟩
                  ·
                    refine FW.condF rfl c345 ?_
                    refine FW.skip (FW.seq (FW.region ?_))
                    refine FL.v (E.move k313) ?_
                    refine FL.v (E.load k319 (run_loadA Tryz.isAgg63 Tryz.sizeOf63 (S343.box_now (i := 3) rfl) rfl)) ?_
                    obtain ⟨v371, w372, run373, S374⟩ := S343.buildSlice (P := prog) te29 [vA #[v303, vI s154.2.2.1, vI x276, vI x285.v]] (parts := #[(0, vA #[v303, vI s154.2.2.1, vI x276, vI x285.v])]) (cells := [v303, vI s154.2.2.1, vI x276, vI x285.v]) rfl (szs_cons rfl szs_nil) (fc_cons rfl fc_nil) (ones_cons h304.one (ones_cons rfl (ones_cons rfl (ones_cons rfl ones_nil)))) (Nat.le_of_ble_eq_true rfl)
                    have els375 : Els (up wa.heap.size H306) eResStep 4 [v303, vI s154.2.2.1, vI x276, vI x285.v] [(ResStep.mk xs250 s154.2.2.1 x276 x285.v)] := (Els.snoc (H := (up wa.heap.size H306)) (E := eResStep) (k := 4) (c := [v303, vI s154.2.2.1, vI x276, vI x285.v]) (x := (ResStep.mk xs250 s154.2.2.1 x276 x285.v)) Els.nil rfl ⟨_, rfl, h304⟩)
                    have nd376 : (bl [v303, vI s154.2.2.1, vI x276, vI x285.v]).Nodup := by exact nd_one v303
                    refine FL.v (E.buildSlice (B1 rfl) run373) ?_
                    obtain ⟨xs377, hz378, hp⟩ := bnd hp
                    obtain ⟨v379, w382, n380, cs381, run383, S384, els385, ce386⟩ := S374.appendO (P := prog) te29 (i := 1) (j := 0) rfl (els212.mono (up_mono i308)) rfl els375 hz378
                    have S384 : St Ha wa H306 w382 [.row 63 4 v371 1 [v303, vI s154.2.2.1, vI x276, vI x285.v], .row 63 4 v379 n380 cs381, .row 3 1 v214 n215 cs216, .row 105 3 v123 n124 cs125, .box b302 63 [v303, vI s154.2.2.1, vI x276, vI x285.v]] := S384
                    have nd387 : (bl cs381).Nodup := by rw [ce386]; exact nd_app nd213 nd376 (Els.dom (els212.mono (upI.tr (Inc.rfl _)))) (by exact nv305)
                    have S388 : St Ha wa H306 w382 [.row 63 4 v379 n380 cs381, .row 3 1 v214 n215 cs216, .row 105 3 v123 n124 cs125, .box b302 63 [v303, vI s154.2.2.1, vI x276, vI x285.v]] := S384.drop 0
                    refine FL.v (E.append rfl rfl run383) ?_
                    refine FL.v (E.assign (v := v379) rfl) ?_
                    refine FL.nil (FW.region ?_)
                    refine FL.v (E.move (v := v379) rfl) ?_
                    refine FL.v (E.lenO te29 rfl S388 (i := 0) rfl els385 (by decide)) ?_
                    refine FL.v (E.sub rfl rfl) ?_
                    refine FL.v (E.assign (v := vI (wr ((len xs377) - 1))) rfl) ?_
                    refine FL.nil (FW.region ?_)
                    refine FL.v (E.move k318) ?_
                    refine FL.v (E.add rfl rfl) ?_
                    refine FL.v (E.assign (v := vI (wr (s154.2.2.2 + 1))) rfl) ?_
                    refine FL.nil ?_
                    obtain rfl := Option.some.inj hp
                    exact ⟨rfl, ⟨_, _, _, _, _, _, _, (S388.sel [0, 1, 2] (by decide) rfl), ((i166.tr i220).tr i308), els385, (els217.mono (up_mono i308)), nd387, k311, k312, rfl, k314, k315, k316, rfl, rfl⟩⟩
            ·
              refine FW.condF rfl c177 ?_
              refine FW.exit ?_
              obtain rfl := Option.some.inj hp
              exact ⟨nofun, rfl, ⟨_, _, _, _, _, _, _, S165, i166, els158, els163, nd159, k169, k170, k171, k172, k173, k175⟩⟩
          ·
            clear hq
            intro e f394 w393 hD
            rcases q154 with s154 | x154
            ·
              obtain ⟨rfl, hD⟩ := hD
              obtain ⟨H390, v155, n156, cs157, v160, n161, cs162, S391, i392, els158, els163, nd159, k395, k396, k397, k398, k399, k400⟩ := hD
              replace hp := el_go hp
              refine FW.seq (FW.seq ?_)
              refine FW.draw (fun w' => Run w393.heap.size H390 w393 H390 w') (by kernel_rfl) (by kernel_rfl) (run_drew S391.sl) ?_
              refine FD.val rfl rfl rfl (fun _ z => (E.move k397)) ?_
              refine FD.val rfl rfl rfl (fun _ z => (E.move k400)) ?_
              obtain ⟨x407, hx408, hp⟩ := bnd hp
              obtain ⟨p401, cs402, pt403, l404, at405, rel406⟩ := S391.row_at (i := 0) rfl els158 (by decide) hx408
              obtain ⟨v409, rfl, h410⟩ := eResStep_open rel406
              refine FD.val rfl rfl rfl (fun _ z => (E.indexAddr te29 rfl rfl pt403)) ?_
              refine FD.val rfl rfl rfl (fun _ z => (E.fieldAddr tf63_0 rfl)) ?_
              refine FD.val rfl rfl rfl (fun _ z => (E.load rfl (run_load1 Tryz.isAgg44 (at405.cls z) rfl))) ?_
              refine FD.val rfl rfl rfl (fun _ z => (E.move k395)) ?_
              refine FD.val rfl rfl rfl (fun _ z => (E.move k399)) ?_
              obtain ⟨x417, hx418, hp⟩ := bnd hp
              obtain ⟨p411, cs412, pt413, l414, at415, rel416⟩ := p1.at hx418
              obtain ⟨v419, rfl, h420⟩ := eL_open rel416
              refine FD.val rfl rfl rfl (fun _ z => (E.indexAddr te22 rfl rfl pt413)) ?_
              refine FD.val rfl rfl rfl (fun _ z => (E.load rfl (run_load0 Tryz.isAgg44 ((at415.mono ((((((i27.tr i101).tr i47).tr i57).tr r122.run.inc).tr i136).tr i392)).now (S391.call z).sl) rfl))) ?_
              obtain ⟨r421, hr422, hp⟩ := bnd hp
              refine FD.call rfl rfl rfl (fun _ z => (E.call Tryz.call85 (A2 rfl rfl))) (fun _ z => Calls.cls z (w_spec_l1Same (S391.call z).sl v409 x407.clause (h410.mono upI) v419 x417 (h420.mono ((((((i27.tr i101).tr i47).tr i57).tr r122.run.inc).tr i136).tr i392)) hr422)) ?_
              refine FD.val rfl rfl rfl (fun _ z => (E.not rfl)) ?_
              refine FD.nil ?_
              intro w423 r425
              have S424 := S391.call r425
              obtain ⟨q427, hq, hp⟩ := bndR hp
              refine FW.joinE (S := ((List ResStep) × Int)) (X := Empty) (q := q427) (fun s426 f w => ∃ H : GH, ∃ v429 : Value, ∃ n430 : Nat, ∃ cs431 : List Value, St Ha wa H w [.row 63 4 v429 n430 cs431, .row 3 1 v160 n161 cs162] ∧ Inc H390 H ∧ Els (up wa.heap.size H) eResStep 4 cs431 s426.1 ∧ (bl cs431).Nodup ∧ f 1 = v1 ∧ f 2 = vP (⟨b21, 0, none⟩) ∧ f 6 = v429 ∧ f 7 = v160 ∧ f 9 = vI s108.2.2 ∧ f 12 = vI s426.2) (fun (_ : Empty) _ _ _ => False) ?_ ?_ ?_
              ·
                clear hp; have hp := hq; clear hq
                rcases ifB hp with ⟨c434, hp⟩ | ⟨c434, hp⟩
                ·
                  refine FW.condT rfl c434 ?_
                  refine FW.seq (FW.region ?_)
                  refine FL.v (E.move k397) ?_
                  obtain ⟨v435, w436, run437, S438⟩ := S424.buildSlice (P := prog) te44 [] (parts := #[]) (cells := []) rfl szs_nil fc_nil ones_nil (Nat.le_of_ble_eq_true rfl)
                  have els439 : Els (up wa.heap.size H390) eI 1 [] [] := Els.nil
                  refine FL.v (E.buildSlice (B0) run437) ?_
                  refine FL.v (E.move k395) ?_
                  refine FL.v (E.move k399) ?_
                  obtain ⟨x446, hx447, hp⟩ := bnd hp
                  obtain ⟨p440, cs441, pt442, l443, at444, rel445⟩ := p1.at hx447
                  obtain ⟨v448, rfl, h449⟩ := eL_open rel445
                  refine FL.v (E.indexAddr te22 rfl rfl pt442) ?_
                  refine FL.v (E.load rfl (run_load0 Tryz.isAgg44 ((at444.mono ((((((i27.tr i101).tr i47).tr i57).tr r122.run.inc).tr i136).tr i392)).now S438.sl) rfl)) ?_
                  obtain ⟨xs450, hz451, hp⟩ := bnd hp
                  obtain ⟨v452, w455, n453, cs454, run456, S457, els458⟩ := S438.appendP (P := prog) (Inc.rfl _) te44 (i := 0) rfl (els439.mono upI) (h449.mono ((((((i27.tr i101).tr i47).tr i57).tr r122.run.inc).tr i136).tr i392)) hz451
                  have S457 : St Ha wa H390 w455 [.row 3 1 v452 n453 cs454, .row 63 4 v155 n156 cs157, .row 3 1 v160 n161 cs162, .row 105 3 v123 n124 cs125] := S457
                  have els458 : Els (up wa.heap.size H390) eI 1 cs454 xs450 := els458.any (fun _ _ _ _ h => h)
                  refine FL.v (E.append rfl rfl run456) ?_
                  refine FL.v (E.move k400) ?_
                  refine FL.v (E.build (B3 rfl rfl rfl) (run_build _ 63 #[(0, v452), (1, vI s154.2.2.1), (2, vI (-1))] #[v452, vI s154.2.2.1, vI (-1), vI 0] (by obtain ⟨_, _, rfl⟩ := S457.row_ln (i := 0) rfl; rfl))) ?_
                  obtain ⟨H459, S460, i461, h462, nv463⟩ := S457.sealRowU (i := 0) (l' := [.row 63 4 v155 n156 cs157, .row 3 1 v160 n161 cs162, .row 105 3 v123 n124 cs125]) rfl els458 (by decide) rfl
                  obtain ⟨v464, w465, run466, S467⟩ := S460.buildSlice (P := prog) te29 [vA #[v452, vI s154.2.2.1, vI (-1), vI 0]] (parts := #[(0, vA #[v452, vI s154.2.2.1, vI (-1), vI 0])]) (cells := [v452, vI s154.2.2.1, vI (-1), vI 0]) rfl (szs_cons rfl szs_nil) (fc_cons rfl fc_nil) (ones_cons h462.one (ones_cons rfl (ones_cons rfl (ones_cons rfl ones_nil)))) (Nat.le_of_ble_eq_true rfl)
                  have els468 : Els (up wa.heap.size H459) eResStep 4 [v452, vI s154.2.2.1, vI (-1), vI 0] [(ResStep.mk xs450 s154.2.2.1 (-1) 0)] := (Els.snoc (H := (up wa.heap.size H459)) (E := eResStep) (k := 4) (c := [v452, vI s154.2.2.1, vI (-1), vI 0]) (x := (ResStep.mk xs450 s154.2.2.1 (-1) 0)) Els.nil rfl ⟨_, rfl, h462⟩)
                  have nd469 : (bl [v452, vI s154.2.2.1, vI (-1), vI 0]).Nodup := by exact nd_one v452
                  refine FL.v (E.buildSlice (B1 rfl) run466) ?_
                  obtain ⟨xs470, hz471, hp⟩ := bnd hp
                  obtain ⟨v472, w475, n473, cs474, run476, S477, els478, ce479⟩ := S467.appendO (P := prog) te29 (i := 1) (j := 0) rfl (els158.mono (up_mono i461)) rfl els468 hz471
                  have S477 : St Ha wa H459 w475 [.row 63 4 v464 1 [v452, vI s154.2.2.1, vI (-1), vI 0], .row 63 4 v472 n473 cs474, .row 3 1 v160 n161 cs162, .row 105 3 v123 n124 cs125] := S477
                  have nd480 : (bl cs474).Nodup := by rw [ce479]; exact nd_app nd159 nd469 (Els.dom (els158.mono (upI.tr (Inc.rfl _)))) (by exact nv463)
                  have S481 : St Ha wa H459 w475 [.row 63 4 v472 n473 cs474, .row 3 1 v160 n161 cs162, .row 105 3 v123 n124 cs125] := S477.drop 0
                  refine FL.v (E.append rfl rfl run476) ?_
                  refine FL.v (E.assign (v := v472) rfl) ?_
                  refine FL.nil (FW.region ?_)
                  refine FL.v (E.move (v := v472) rfl) ?_
                  refine FL.v (E.lenO te29 rfl S481 (i := 0) rfl els478 (by decide)) ?_
                  refine FL.v (E.sub rfl rfl) ?_
                  refine FL.v (E.assign (v := vI (wr ((len xs470) - 1))) rfl) ?_
                  refine FL.nil ?_
                  obtain rfl := Option.some.inj hp
                  exact ⟨rfl, ⟨_, _, _, _, (S481.sel [0, 1] (by decide) rfl), i461, els478, nd480, k395, k396, rfl, k398, k399, rfl⟩⟩
                ·
                  refine FW.condF rfl c434 ?_
                  refine FW.skip ?_
                  obtain rfl := Option.some.inj hp
                  exact ⟨rfl, ⟨_, _, _, _, (S424.sel [0, 1] (by decide) rfl), (Inc.rfl _), els158, nd159, k395, k396, k397, k398, k399, k400⟩⟩
              ·
                rintro s426 rfl f486 w485 ⟨H482, v429, n430, cs431, S483, i484, els432, nd433, k487, k488, k489, k490, k491, k492⟩
                replace hp := el_go hp
                refine FW.region ?_
                refine FL.v (E.move k490) ?_
                refine FL.v (E.fieldAddr tf28_1 k488) ?_
                refine FL.v (E.load rfl (run_load1 Tryz.isAgg22 ((at28.mono ((((((i101.tr i47).tr i57).tr r122.run.inc).tr i136).tr i392).tr i484)).now S483.sl) rfl)) ?_
                refine FL.v (E.lenP te22 rfl p0_1) ?_
                refine FL.v (E.move k491) ?_
                refine FL.v (E.add rfl rfl) ?_
                refine FL.v (E.move k492) ?_
                obtain ⟨x499, hx500, hp⟩ := bnd hp
                obtain ⟨p493, cs494, pt495, l496, at497, rel498⟩ := S483.row_at (i := 1) rfl els163 (by decide) hx500
                obtain rfl := eI_open rel498
                refine FL.v (E.indexAddr te44 rfl rfl pt495) ?_
                obtain ⟨xs504, hput505, hp⟩ := bnd hp
                obtain ⟨w501, cs507, run502, S503, els506, ce508⟩ := S483.putEls (P := prog) (t := 3) (i := 1) rfl (els163.mono (up_mono i484)) hput505 pt495 Tryz.sizeOf3 (u := vI s426.2) (c := [vI s426.2]) rfl rfl (ones_cons rfl ones_nil) rfl
                have S503 : St Ha wa H482 w501 [.row 63 4 v429 n430 cs431, .row 3 1 v160 n161 cs507] := S503
                refine FL.act rfl rfl (E.store rfl rfl run502) ?_
                refine FL.nil (FW.region ?_)
                refine FL.v (E.move k491) ?_
                refine FL.v (E.add rfl rfl) ?_
                refine FL.v (E.assign (v := vI (wr (s108.2.2 + 1))) rfl) ?_
                refine FL.nil ?_
                obtain rfl := Option.some.inj hp
                exact ⟨rfl, ⟨_, _, _, _, _, _, _, (S503.sel [1, 0] (by decide) rfl), (((((i47.tr i57).tr r122.run.inc).tr i136).tr i392).tr i484), els506, els432, nd433, k487, k488, k489, k490, rfl⟩⟩
              ·
                intro x428; exact x428.elim
            · exact x154.elim
        ·
          refine FW.condF k67 c68 ?_
          refine FW.exit ?_
          obtain rfl := Option.some.inj hp
          exact ⟨nofun, rfl, ⟨_, _, _, _, _, _, _, S56, (i47.tr i57), (els112.mono (up_mono i57)), (els116.mono (up_mono i57)), nd117, k64, k65⟩⟩
      ·
        clear hq
        intro e f514 w513 hD
        rcases q108 with s108 | x108
        ·
          obtain ⟨rfl, hD⟩ := hD
          obtain ⟨H510, v109, n110, cs111, v113, n114, cs115, S511, i512, els112, els116, nd117, k515, k516⟩ := hD
          replace hp := el_go hp
          refine FW.seq ?_
          refine FW.draw (fun w' => Run w513.heap.size H510 w513 H510 w') (by kernel_rfl) (by kernel_rfl) (run_drew S511.sl) ?_
          refine FD.val rfl rfl rfl (fun _ z => (E.move k515)) ?_
          refine FD.val rfl rfl rfl (fun _ z => (E.move k516)) ?_
          refine FD.val rfl rfl rfl (fun _ z => (E.move k516)) ?_
          refine FD.val rfl rfl rfl (fun _ z => (E.lenO te44 rfl (S511.call z) (i := 0) rfl els112 (by decide))) ?_
          refine FD.val rfl rfl rfl (fun _ z => (E.sub rfl rfl)) ?_
          obtain ⟨x523, hx524, hp⟩ := bnd hp
          obtain ⟨p517, cs518, pt519, l520, at521, rel522⟩ := S511.row_at (i := 0) rfl els112 (by decide) hx524
          obtain rfl := eI_open rel522
          refine FD.val rfl rfl rfl (fun _ z => (E.indexAddr te44 rfl rfl pt519)) ?_
          refine FD.val rfl rfl rfl (fun _ z => (E.load rfl (run_load0 Tryz.isAgg3 (at521.cls z) rfl))) ?_
          refine FD.val rfl rfl rfl (fun _ z => (E.assign (v := v113) rfl)) ?_
          refine FD.val rfl rfl rfl (fun _ z => (E.assign (v := vI x523) rfl)) ?_
          refine FD.nil ?_
          intro w525 r527
          have S526 := S511.call r527
          refine FW.ret ?_
          obtain rfl := Option.some.inj hp
          exact ⟨.inr rfl, res2 rfl rfl rfl ⟨_, _, _, _, rfl, (S526.sel [1] (by decide) rfl), els116, nd117⟩⟩
        · exact x108.elim
    · exact x39.elim

@[reducible] def p_spec_l7Uses (Ha : GH) (wa : World) (r : (List Int)) : Ending → World → Prop :=
 fun e w' => ∃ H' : GH, ∃ v0 : Value, ∃ n0 : Nat, ∃ c0 : List Value, e = .returned (v0) ∧ St Ha wa H' w' [.row 3 1 v0 n0 c0] ∧ Els (up wa.heap.size H') eI 1 c0 r
theorem w_spec_l7Uses {Ha : GH} {wa : World} (hs : Sl Ha wa) (a0 : ResStep) (v0_0 : Value) (p0_0 : RSl Ha eI 1 v0_0 a0.clause) :
  Calls prog 120 #[vA #[v0_0, vI a0.left, vI a0.right, vI a0.pivot]] wa (p_spec_l7Uses Ha wa (PF.spec_l7Uses a0)) := by
 obtain ⟨r, hp⟩ : ∃ r, (PF.spec_l7Uses a0) = r := ⟨_, rfl⟩; rw [hp]; unfold PF.spec_l7Uses at hp; have S0 := St.init hs; refine calls_go (N := 20) (args := [vA #[v0_0, vI a0.left, vI a0.right, vI a0.pivot]]) func120 rfl rfl rfl ?_; refine FW.sr ?_; obtain ⟨b21, w22, run23, S24⟩ := S0.box (P := prog) 63 [v0_0, vI a0.left, vI a0.right, vI a0.pivot] (v := vA #[v0_0, vI a0.left, vI a0.right, vI a0.pivot]) rfl (oC p0_0.one (oC rfl (oC rfl (oC rfl ones_nil)))); refine FL.v (E.box rfl run23) ?_; obtain ⟨H25, S26, i27, at28⟩ := S24.sealBox (i := 0) (l' := []) rfl rfl; refine FL.as (v := vN) rfl ?_; refine FL.nil (FW.seq (FW.block (FW.sr ?_))); refine FL.v (E.fieldAddr tf63_1 rfl) ?_; refine FL.v (E.load rfl (run_load1 isAgg3 (at28.now S26.sl) rfl)) ?_; refine FL.v (E.eql rfl rfl) ?_; refine FL.as (v := vB (a0.left == (-1))) rfl ?_; refine FL.nil ?_; rcases ifT hp with ⟨c29, hp⟩ | ⟨c29, hp⟩
 ·
  refine FW.condT rfl c29 ?_; refine FW.sr ?_; obtain ⟨v30, w31, run32, S33⟩ := S26.buildSlice (P := prog) te44 [] (parts := #[]) (cells := []) rfl szs_nil fc_nil ones_nil (nB rfl); have els34 : Els (up wa.heap.size H25) eI 1 [] [] := Els.nil; refine FL.v (E.buildSlice (B0) run32) ?_; refine FL.as (v := v30) rfl ?_; refine FL.nil (FW.ret ?_); obtain rfl := hp; exact ⟨.inr rfl, res1 rfl rfl ⟨_, _, _, _, rfl, S33, els34⟩⟩
 ·
  refine FW.condF rfl c29 ?_; refine FW.sr ?_; refine FL.v (E.fieldAddr tf63_2 rfl) ?_; refine FL.v (E.load rfl (run_load1 isAgg3 (at28.now S26.sl) rfl)) ?_; refine FL.v (E.eql rfl rfl) ?_; refine FL.as (v := vB (a0.right == (-1))) rfl ?_; refine FL.nil ?_; rcases ifT hp with ⟨c35, hp⟩ | ⟨c35, hp⟩
  ·
   refine FW.condT rfl c35 ?_; refine FW.sr ?_; refine FL.v (E.fieldAddr tf63_1 rfl) ?_; refine FL.v (E.load rfl (run_load1 isAgg3 (at28.now S26.sl) rfl)) ?_; obtain ⟨v36, w37, run38, S39⟩ := S26.buildSlice (P := prog) te44 [vI a0.left] (parts := #[(0, vI a0.left)]) (cells := [vI a0.left]) rfl (szs_cons rfl szs_nil) (fc_cons rfl fc_nil) (oC rfl ones_nil) (nB rfl); have els40 : Els (up wa.heap.size H25) eI 1 [vI a0.left] [a0.left] := (Els.snoc (H := (up wa.heap.size H25)) (E := eI) (k := 1) (c := [vI a0.left]) (x := a0.left) Els.nil rfl rfl); refine FL.v (E.buildSlice (B1 rfl) run38) ?_; refine FL.as (v := v36) rfl ?_; refine FL.nil (FW.ret ?_); obtain rfl := hp; exact ⟨.inr rfl, res1 rfl rfl ⟨_, _, _, _, rfl, S39, els40⟩⟩
  ·
   refine FW.condF rfl c35 ?_; refine FW.skip (FW.sr ?_); refine FL.v (E.fieldAddr tf63_1 rfl) ?_; refine FL.v (E.load rfl (run_load1 isAgg3 (at28.now S26.sl) rfl)) ?_; refine FL.v (E.fieldAddr tf63_2 rfl) ?_; refine FL.v (E.load rfl (run_load1 isAgg3 (at28.now S26.sl) rfl)) ?_; obtain ⟨v41, w42, run43, S44⟩ := S26.buildSlice (P := prog) te44 [vI a0.left, vI a0.right] (parts := #[(0, vI a0.left), (1, vI a0.right)]) (cells := [vI a0.left, vI a0.right]) rfl (szs_cons rfl (szs_cons rfl szs_nil)) (fc_cons rfl (fc_cons rfl fc_nil)) (oC rfl (oC rfl ones_nil)) (nB rfl); have els45 : Els (up wa.heap.size H25) eI 1 [vI a0.left, vI a0.right] [a0.left, a0.right] := (Els.snoc (H := (up wa.heap.size H25)) (E := eI) (k := 1) (c := [vI a0.right]) (x := a0.right) (Els.snoc (H := (up wa.heap.size H25)) (E := eI) (k := 1) (c := [vI a0.left]) (x := a0.left) Els.nil rfl rfl) rfl rfl); refine FL.v (E.buildSlice (B2 rfl rfl) run43) ?_; refine FL.as (v := v41) rfl ?_; refine FL.nil (FW.ret ?_); obtain rfl := hp; exact ⟨.inr rfl, res1 rfl rfl ⟨_, _, _, _, rfl, S44, els45⟩⟩

@[reducible] def p_spec_l7Needed (Ha : GH) (wa : World) (r : (List Bool)) : Ending → World → Prop :=
  fun e w' => ∃ H' : GH, ∃ v0 : Value, ∃ n0 : Nat, ∃ c0 : List Value, e = .returned (v0) ∧ St Ha wa H' w' [.row 4 1 v0 n0 c0] ∧ Els (up wa.heap.size H') eB 1 c0 r
set_option maxHeartbeats 4000000 in
theorem w_spec_l7Needed {Ha : GH} {wa : World} (hs : Sl Ha wa) (v0 : Value) (a0 : List ResStep) (p0 : RSl Ha eResStep 4 v0 a0) {r : (List Bool)} (hp : (PF.spec_l7Needed a0) = some r) :
    Calls prog 86 #[v0] wa (p_spec_l7Needed Ha wa r) := by
  unfold PF.spec_l7Needed at hp
  have S0 := St.init hs
  refine calls_go (N := 49) (args := [v0]) Tryz.func86 rfl rfl rfl ?_
  refine FW.seq (FW.region ?_)
  refine FL.v (E.assign (v := vN) rfl) ?_
  refine FL.nil (FW.seq (FW.region ?_))
  refine FL.v (E.move (v := v0) rfl) ?_
  refine FL.v (E.lenP te29 rfl p0) ?_
  obtain ⟨xs21, hm22, hp⟩ := bnd hp
  obtain ⟨v23, w24, n28, cs29, run25, S26, els27, hbl30⟩ := S0.makeEls (P := prog) te77 (G := (up wa.heap.size Ha)) (En := eB) (x0 := (false : Bool)) hm22 rfl (ones_cons rfl ones_nil) .i64 .i64
  refine FL.v (E.makeSlice rfl rfl run25) ?_
  refine FL.v (E.assign (v := v23) rfl) ?_
  refine FL.nil (FW.seq (FW.seq (FW.region ?_)))
  refine FL.v (E.move (v := v0) rfl) ?_
  refine FL.v (E.lenP te29 rfl p0) ?_
  refine FL.v (E.sub rfl rfl) ?_
  refine FL.v (E.assign (v := vI (wr ((len a0) - 1))) rfl) ?_
  refine FL.nil ?_
  obtain ⟨q31, hq, hp⟩ := bndR hp
  refine FW.block ?_
  refine FW.mono (FW.iter (S := ((List Bool) × Int)) (X := Empty) (fun (s31 : ((List Bool) × Int)) f w => ∃ H : GH, ∃ v242 : Value, ∃ n243 : Nat, ∃ cs244 : List Value, St Ha wa H w [.row 4 1 v242 n243 cs244] ∧ Inc Ha H ∧ Els (up wa.heap.size H) eB 1 cs244 s31.1 ∧ f 0 = v0 ∧ f 3 = v242 ∧ f 4 = vI s31.2) (fun (q : Rs ((List Bool) × Int) Empty) e f w => match q with | .go s31 => e = Exit.exit 0 ∧ (∃ H : GH, ∃ v242 : Value, ∃ n243 : Nat, ∃ cs244 : List Value, St Ha wa H w [.row 4 1 v242 n243 cs244] ∧ Inc Ha H ∧ Els (up wa.heap.size H) eB 1 cs244 s31.1 ∧ f 3 = v242) | .rt x => x.elim) hq ⟨_, _, _, _, S26, (Inc.rfl _), els27, rfl, rfl, rfl⟩ ?_) ?_
  ·
    clear hp hq
    rintro s31 f614 w613 ⟨H610, v242, n243, cs244, S611, i612, els245, k615, k616, k617⟩ o99 hp
    refine FW.seq (FW.seq (FW.region ?_))
    refine FL.v (E.move k617) ?_
    refine FL.v (E.geq rfl rfl) ?_
    refine FL.nil ?_
    rcases ifB hp with ⟨c618, hp⟩ | ⟨c618, hp⟩
    ·
      refine FW.condT rfl c618 ?_
      refine FW.skip (FW.seq (FW.block (FW.seq (FW.seq (FW.region ?_)))))
      refine FL.v (E.move k617) ?_
      refine FL.v (E.move k615) ?_
      refine FL.v (E.lenP te29 rfl p0) ?_
      refine FL.v (E.sub rfl rfl) ?_
      refine FL.v (E.eql rfl rfl) ?_
      refine FL.nil ?_
      rcases ifB hp with ⟨c619, hp⟩ | ⟨c619, hp⟩
      ·
        refine FW.condT rfl c619 ?_
        refine FW.region ?_
        refine FL.v (E.move k616) ?_
        refine FL.v (E.move k617) ?_
        obtain ⟨x626, hx627, hp⟩ := bnd hp
        obtain ⟨p620, cs621, pt622, l623, at624, rel625⟩ := S611.row_at (i := 0) rfl els245 (by decide) hx627
        obtain rfl := eB_open rel625
        refine FL.v (E.indexAddr te77 rfl rfl pt622) ?_
        obtain ⟨xs631, hput632, hp⟩ := bnd hp
        obtain ⟨w628, cs634, run629, S630, els633, ce635⟩ := S611.putEls (P := prog) (t := 4) (i := 0) rfl els245 hput632 pt622 Tryz.sizeOf4 (u := vB true) (c := [vB true]) rfl rfl (ones_cons rfl ones_nil) rfl
        have S630 : St Ha wa H610 w628 [.row 4 1 v242 n243 cs634] := S630
        refine FL.act rfl rfl (E.store rfl rfl run629) ?_
        refine FL.nil (FW.seq (FW.region ?_))
        refine FL.v (E.move k615) ?_
        refine FL.v (E.move k617) ?_
        obtain ⟨x642, hx643, hp⟩ := bnd hp
        obtain ⟨p636, cs637, pt638, l639, at640, rel641⟩ := p0.at hx643
        obtain ⟨v644, rfl, h645⟩ := eResStep_open rel641
        refine FL.v (E.indexAddr te29 rfl rfl pt638) ?_
        refine FL.v (E.load rfl (run_loadA Tryz.isAgg63 Tryz.sizeOf63 ((at640.mono i612).now S630.sl) rfl)) ?_
        refine FL.call rfl rfl rfl (E.call Tryz.call120 (A1 rfl)) (w_spec_l7Uses S630.sl x642 v644 (h645.mono i612)) ?_
        rintro e w647 ⟨H646, v650, n651, cs652, rfl, r649, els653⟩
        refine ⟨_, rfl, ?_⟩
        have els653 := els653.mono (up_le S630.size)
        have S648 := S630.join (l' := [.row 3 1 v650 n651 cs652, .row 4 1 v242 n243 cs634]) r649 rfl
        refine FL.v (E.assign (v := v650) rfl) ?_
        refine FL.nil (FW.seq (FW.region ?_))
        refine FL.v (E.assign (v := vI 0) rfl) ?_
        refine FL.nil ?_
        obtain ⟨q654, hq, hp⟩ := bndR hp
        refine FW.block ?_
        refine FW.mono (FW.iter (S := ((List Bool) × Int)) (X := Empty) (fun (s654 : ((List Bool) × Int)) f w => ∃ H : GH, ∃ v719 : Value, ∃ n720 : Nat, ∃ cs721 : List Value, St Ha wa H w [.row 3 1 v650 n651 cs652, .row 4 1 v719 n720 cs721] ∧ Inc H646 H ∧ Els (up wa.heap.size H) eB 1 cs721 s654.1 ∧ f 0 = v0 ∧ f 3 = v719 ∧ f 4 = vI s31.2 ∧ f 5 = v650 ∧ f 6 = vI s654.2) (fun (q : Rs ((List Bool) × Int) Empty) e f w => match q with | .go s654 => e = Exit.exit 2 ∧ (∃ H : GH, ∃ v719 : Value, ∃ n720 : Nat, ∃ cs721 : List Value, St Ha wa H w [.row 3 1 v650 n651 cs652, .row 4 1 v719 n720 cs721] ∧ Inc H646 H ∧ Els (up wa.heap.size H) eB 1 cs721 s654.1 ∧ f 0 = v0 ∧ f 3 = v719 ∧ f 4 = vI s31.2) | .rt x => x.elim) hq ⟨_, _, _, _, S648, (Inc.rfl _), (els633.mono (up_mono r649.run.inc)), k615, k616, k617, rfl, rfl⟩ ?_) ?_
        ·
          clear hp hq
          rintro s654 f791 w790 ⟨H787, v719, n720, cs721, S788, i789, els722, k792, k793, k794, k795, k796⟩ o851 hp
          refine FW.seq (FW.seq (FW.region ?_))
          refine FL.v (E.move k796) ?_
          refine FL.v (E.move k795) ?_
          refine FL.v (E.lenO te44 rfl S788 (i := 0) rfl els653 (by decide)) ?_
          refine FL.v (E.lss rfl rfl) ?_
          refine FL.v (E.move (v := vB (decide (s654.2 < (len (PF.spec_l7Uses x642))))) rfl) ?_
          obtain ⟨t805, hqt805, hp⟩ := bnd hp
          refine FL.cut 5 (fun f w => ∃ H : GH, St Ha wa H w [.row 3 1 v650 n651 cs652, .row 4 1 v719 n720 cs721] ∧ Inc H787 H ∧ f 0 = v0 ∧ f 3 = v719 ∧ f 4 = vI s31.2 ∧ f 5 = v650 ∧ f 6 = vI s654.2 ∧ f 39 = vB t805) ?_ ?_
          ·
            clear hp; have hp := hqt805; clear hqt805
            rcases ifB hp with ⟨c811, hp⟩ | ⟨c811, hp⟩
            ·
              refine FL.val (wF_yes rfl rfl rfl c811) rfl rfl (E.move k793) ?_
              refine FL.val (wF_yes rfl rfl rfl c811) rfl rfl (E.move k794) ?_
              obtain ⟨x818, hx819, hp⟩ := bnd hp
              obtain ⟨p812, cs813, pt814, l815, at816, rel817⟩ := S788.row_at (i := 1) rfl els722 (by decide) hx819
              obtain rfl := eB_open rel817
              refine FL.val (wF_yes rfl rfl rfl c811) rfl rfl (E.indexAddr te77 rfl rfl pt814) ?_
              refine FL.val (wF_yes rfl rfl rfl c811) rfl rfl (E.load rfl (run_load0 Tryz.isAgg4 at816 rfl)) ?_
              obtain rfl := Option.some.inj hp
              refine FL.v (E.pickT rfl c811 rfl) ?_
              exact FL.nil ⟨rfl, _, S788, (Inc.rfl _), k792, k793, k794, k795, k796, rfl⟩
            ·
              refine FL.skip (wF_no rfl rfl rfl c811) rfl ?_
              refine FL.skip (wF_no rfl rfl rfl c811) rfl ?_
              refine FL.skip (wF_no rfl rfl rfl c811) rfl ?_
              refine FL.skip (wF_no rfl rfl rfl c811) rfl ?_
              obtain rfl := Option.some.inj hp
              refine FL.v (E.pickF rfl c811 rfl) ?_
              exact FL.nil ⟨rfl, _, S788, (Inc.rfl _), k792, k793, k794, k795, k796, rfl⟩
          rintro f810 w809 ⟨H806, S807, i808, k820, k821, k822, k823, k824, k825⟩
          refine FL.nil ?_
          rcases ifB hp with ⟨c826, hp⟩ | ⟨c826, hp⟩
          ·
            refine FW.condT k825 c826 ?_
            refine FW.skip (FW.seq (FW.block (FW.region ?_)))
            refine FL.v (E.move k821) ?_
            refine FL.v (E.move k823) ?_
            refine FL.v (E.move k824) ?_
            obtain ⟨x833, hx834, hp⟩ := bnd hp
            obtain ⟨p827, cs828, pt829, l830, at831, rel832⟩ := S807.row_at (i := 0) rfl els653 (by decide) hx834
            obtain rfl := eI_open rel832
            refine FL.v (E.indexAddr te44 rfl rfl pt829) ?_
            refine FL.v (E.load rfl (run_load0 Tryz.isAgg3 at831 rfl)) ?_
            obtain ⟨x841, hx842, hp⟩ := bnd hp
            obtain ⟨p835, cs836, pt837, l838, at839, rel840⟩ := S807.row_at (i := 1) rfl els722 (by decide) hx842
            obtain rfl := eB_open rel840
            refine FL.v (E.indexAddr te77 rfl rfl pt837) ?_
            obtain ⟨xs846, hput847, hp⟩ := bnd hp
            obtain ⟨w843, cs849, run844, S845, els848, ce850⟩ := S807.putEls (P := prog) (t := 4) (i := 1) rfl (els722.mono (up_mono i808)) hput847 pt837 Tryz.sizeOf4 (u := vB true) (c := [vB true]) rfl rfl (ones_cons rfl ones_nil) rfl
            have S845 : St Ha wa H806 w843 [.row 3 1 v650 n651 cs652, .row 4 1 v719 n720 cs849] := S845
            refine FL.act rfl rfl (E.store rfl rfl run844) ?_
            refine FL.nil (FW.region ?_)
            refine FL.v (E.move k824) ?_
            refine FL.v (E.add rfl rfl) ?_
            refine FL.v (E.assign (v := vI (wr (s654.2 + 1))) rfl) ?_
            refine FL.nil ?_
            obtain rfl := Option.some.inj hp
            exact ⟨rfl, ⟨_, _, _, _, S845, (i789.tr i808), els848, k820, k821, k822, k823, rfl⟩⟩
          ·
            refine FW.condF k825 c826 ?_
            refine FW.exit ?_
            obtain rfl := Option.some.inj hp
            exact ⟨nofun, rfl, ⟨_, _, _, _, S807, (i789.tr i808), (els722.mono (up_mono i808)), k820, k821, k822⟩⟩
        ·
          clear hq
          intro e f856 w855 hD
          rcases q654 with s654 | x654
          ·
            obtain ⟨rfl, hD⟩ := hD
            obtain ⟨H852, v719, n720, cs721, S853, i854, els722, k857, k858, k859⟩ := hD
            replace hp := el_go hp
            refine FW.region ?_
            refine FL.v (E.move k859) ?_
            refine FL.v (E.sub rfl rfl) ?_
            refine FL.v (E.assign (v := vI (wr (s31.2 - 1))) rfl) ?_
            refine FL.nil ?_
            obtain rfl := Option.some.inj hp
            exact ⟨rfl, ⟨_, _, _, _, (S853.sel [1] (by decide) rfl), ((i612.tr r649.run.inc).tr i854), els722, k857, k858, rfl⟩⟩
          · exact x654.elim
      ·
        refine FW.condF rfl c619 ?_
        refine FW.skip (FW.seq (FW.region ?_))
        refine FL.v (E.move k615) ?_
        refine FL.v (E.move k617) ?_
        obtain ⟨x866, hx867, hp⟩ := bnd hp
        obtain ⟨p860, cs861, pt862, l863, at864, rel865⟩ := p0.at hx867
        obtain ⟨v868, rfl, h869⟩ := eResStep_open rel865
        refine FL.v (E.indexAddr te29 rfl rfl pt862) ?_
        refine FL.v (E.load rfl (run_loadA Tryz.isAgg63 Tryz.sizeOf63 ((at864.mono i612).now S611.sl) rfl)) ?_
        refine FL.call rfl rfl rfl (E.call Tryz.call120 (A1 rfl)) (w_spec_l7Uses S611.sl x866 v868 (h869.mono i612)) ?_
        rintro e w871 ⟨H870, v874, n875, cs876, rfl, r873, els877⟩
        refine ⟨_, rfl, ?_⟩
        have els877 := els877.mono (up_le S611.size)
        have S872 := S611.join (l' := [.row 3 1 v874 n875 cs876, .row 4 1 v242 n243 cs244]) r873 rfl
        refine FL.v (E.assign (v := v874) rfl) ?_
        refine FL.nil (FW.seq (FW.region ?_))
        refine FL.v (E.assign (v := vI 0) rfl) ?_
        refine FL.nil ?_
        obtain ⟨q878, hq, hp⟩ := bndR hp
        refine FW.block ?_
        refine FW.mono (FW.iter (S := ((List Bool) × Int)) (X := Empty) (fun (s878 : ((List Bool) × Int)) f w => ∃ H : GH, ∃ v943 : Value, ∃ n944 : Nat, ∃ cs945 : List Value, St Ha wa H w [.row 3 1 v874 n875 cs876, .row 4 1 v943 n944 cs945] ∧ Inc H870 H ∧ Els (up wa.heap.size H) eB 1 cs945 s878.1 ∧ f 0 = v0 ∧ f 3 = v943 ∧ f 4 = vI s31.2 ∧ f 5 = v874 ∧ f 6 = vI s878.2) (fun (q : Rs ((List Bool) × Int) Empty) e f w => match q with | .go s878 => e = Exit.exit 2 ∧ (∃ H : GH, ∃ v943 : Value, ∃ n944 : Nat, ∃ cs945 : List Value, St Ha wa H w [.row 3 1 v874 n875 cs876, .row 4 1 v943 n944 cs945] ∧ Inc H870 H ∧ Els (up wa.heap.size H) eB 1 cs945 s878.1 ∧ f 0 = v0 ∧ f 3 = v943 ∧ f 4 = vI s31.2) | .rt x => x.elim) hq ⟨_, _, _, _, S872, (Inc.rfl _), (els245.mono (up_mono r873.run.inc)), k615, k616, k617, rfl, rfl⟩ ?_) ?_
        ·
          clear hp hq
          rintro s878 f36 w35 ⟨H32, v943, n944, cs945, S33, i34, els946, k37, k38, k39, k40, k41⟩ o90 hp
          refine FW.seq (FW.seq (FW.region ?_))
          refine FL.v (E.move k41) ?_
          refine FL.v (E.move k40) ?_
          refine FL.v (E.lenO te44 rfl S33 (i := 0) rfl els877 (by decide)) ?_
          refine FL.v (E.lss rfl rfl) ?_
          refine FL.v (E.move (v := vB (decide (s878.2 < (len (PF.spec_l7Uses x866))))) rfl) ?_
          obtain ⟨t42, hqt42, hp⟩ := bnd hp
          refine FL.cut 5 (fun f w => ∃ H : GH, St Ha wa H w [.row 3 1 v874 n875 cs876, .row 4 1 v943 n944 cs945] ∧ Inc H32 H ∧ f 0 = v0 ∧ f 3 = v943 ∧ f 4 = vI s31.2 ∧ f 5 = v874 ∧ f 6 = vI s878.2 ∧ f 39 = vB t42) ?_ ?_
          ·
            clear hp; have hp := hqt42; clear hqt42
            rcases ifB hp with ⟨c49, hp⟩ | ⟨c49, hp⟩
            ·
              refine FL.val (wF_yes rfl rfl rfl c49) rfl rfl (E.move k38) ?_
              refine FL.val (wF_yes rfl rfl rfl c49) rfl rfl (E.move k39) ?_
              obtain ⟨x56, hx57, hp⟩ := bnd hp
              obtain ⟨p50, cs51, pt52, l53, at54, rel55⟩ := S33.row_at (i := 1) rfl els946 (by decide) hx57
              obtain rfl := eB_open rel55
              refine FL.val (wF_yes rfl rfl rfl c49) rfl rfl (E.indexAddr te77 rfl rfl pt52) ?_
              refine FL.val (wF_yes rfl rfl rfl c49) rfl rfl (E.load rfl (run_load0 Tryz.isAgg4 at54 rfl)) ?_
              obtain rfl := Option.some.inj hp
              refine FL.v (E.pickT rfl c49 rfl) ?_
              exact FL.nil ⟨rfl, _, S33, (Inc.rfl _), k37, k38, k39, k40, k41, rfl⟩
            ·
              refine FL.skip (wF_no rfl rfl rfl c49) rfl ?_
              refine FL.skip (wF_no rfl rfl rfl c49) rfl ?_
              refine FL.skip (wF_no rfl rfl rfl c49) rfl ?_
              refine FL.skip (wF_no rfl rfl rfl c49) rfl ?_
              obtain rfl := Option.some.inj hp
              refine FL.v (E.pickF rfl c49 rfl) ?_
              exact FL.nil ⟨rfl, _, S33, (Inc.rfl _), k37, k38, k39, k40, k41, rfl⟩
          rintro f48 w47 ⟨H43, S45, i46, k58, k59, k60, k61, k62, k63⟩
          refine FL.nil ?_
          rcases ifB hp with ⟨c64, hp⟩ | ⟨c64, hp⟩
          ·
            refine FW.condT k63 c64 ?_
            refine FW.skip (FW.seq (FW.block (FW.region ?_)))
            refine FL.v (E.move k59) ?_
            refine FL.v (E.move k61) ?_
            refine FL.v (E.move k62) ?_
            obtain ⟨x71, hx72, hp⟩ := bnd hp
            obtain ⟨p65, cs66, pt67, l68, at69, rel70⟩ := S45.row_at (i := 0) rfl els877 (by decide) hx72
            obtain rfl := eI_open rel70
            refine FL.v (E.indexAddr te44 rfl rfl pt67) ?_
            refine FL.v (E.load rfl (run_load0 Tryz.isAgg3 at69 rfl)) ?_
            obtain ⟨x80, hx81, hp⟩ := bnd hp
            obtain ⟨p73, cs74, pt75, l76, at78, rel79⟩ := S45.row_at (i := 1) rfl els946 (by decide) hx81
            obtain rfl := eB_open rel79
            refine FL.v (E.indexAddr te77 rfl rfl pt75) ?_
            obtain ⟨xs85, hput86, hp⟩ := bnd hp
            obtain ⟨w82, cs88, run83, S84, els87, ce89⟩ := S45.putEls (P := prog) (t := 4) (i := 1) rfl (els946.mono (up_mono i46)) hput86 pt75 Tryz.sizeOf4 (u := vB true) (c := [vB true]) rfl rfl (ones_cons rfl ones_nil) rfl
            have S84 : St Ha wa H43 w82 [.row 3 1 v874 n875 cs876, .row 4 1 v943 n944 cs88] := S84
            refine FL.act rfl rfl (E.store rfl rfl run83) ?_
            refine FL.nil (FW.region ?_)
            refine FL.v (E.move k62) ?_
            refine FL.v (E.add rfl rfl) ?_
            refine FL.v (E.assign (v := vI (wr (s878.2 + 1))) rfl) ?_
            refine FL.nil ?_
            obtain rfl := Option.some.inj hp
            exact ⟨rfl, ⟨_, _, _, _, S84, (i34.tr i46), els87, k58, k59, k60, k61, rfl⟩⟩
          ·
            refine FW.condF k63 c64 ?_
            refine FW.exit ?_
            obtain rfl := Option.some.inj hp
            exact ⟨nofun, rfl, ⟨_, _, _, _, S45, (i34.tr i46), (els946.mono (up_mono i46)), k58, k59, k60⟩⟩
        ·
          clear hq
          intro e f95 w94 hD
          rcases q878 with s878 | x878
          ·
            obtain ⟨rfl, hD⟩ := hD
            obtain ⟨H91, v943, n944, cs945, S92, i93, els946, k96, k97, k98⟩ := hD
            replace hp := el_go hp
            refine FW.region ?_
            refine FL.v (E.move k98) ?_
            refine FL.v (E.sub rfl rfl) ?_
            refine FL.v (E.assign (v := vI (wr (s31.2 - 1))) rfl) ?_
            refine FL.nil ?_
            obtain rfl := Option.some.inj hp
            exact ⟨rfl, ⟨_, _, _, _, (S92.sel [1] (by decide) rfl), ((i612.tr r873.run.inc).tr i93), els946, k96, k97, rfl⟩⟩
          · exact x878.elim
    ·
      refine FW.condF rfl c618 ?_
      refine FW.exit ?_
      obtain rfl := Option.some.inj hp
      exact ⟨nofun, rfl, ⟨_, _, _, _, S611, i612, els245, k616⟩⟩
  ·
    clear hq
    intro e f104 w103 hD
    rcases q31 with s31 | x31
    ·
      obtain ⟨rfl, hD⟩ := hD
      obtain ⟨H100, v242, n243, cs244, S101, i102, els245, k105⟩ := hD
      replace hp := el_go hp
      refine FW.seq (FW.region ?_)
      refine FL.v (E.move k105) ?_
      refine FL.v (E.assign (v := v242) rfl) ?_
      refine FL.nil ?_
      refine FW.ret ?_
      obtain rfl := Option.some.inj hp
      exact ⟨.inr rfl, res1 rfl rfl ⟨_, _, _, _, rfl, S101, els245⟩⟩
    · exact x31.elim

@[reducible] def p_spec_l7Moved (Ha : GH) (wa : World) (r : ResStep) : Ending → World → Prop :=
 fun e w' => ∃ H' : GH, ∃ v0_0 : Value, e = .returned (vA #[v0_0, vI r.left, vI r.right, vI r.pivot]) ∧ Run wa.heap.size Ha wa H' w' ∧ RSl (up wa.heap.size H') eI 1 v0_0 r.clause
theorem w_spec_l7Moved {Ha : GH} {wa : World} (hs : Sl Ha wa) (a0 : ResStep) (v0_0 : Value) (p0_0 : RSl Ha eI 1 v0_0 a0.clause) (v1 : Value) (a1 : List Int) (p1 : RSl Ha eI 1 v1 a1) {r : ResStep} (hp : (PF.spec_l7Moved a0 a1) = some r) :
  Calls prog 65 #[vA #[v0_0, vI a0.left, vI a0.right, vI a0.pivot], v1] wa (p_spec_l7Moved Ha wa r) := by
 unfold PF.spec_l7Moved at hp; have S0 := St.init hs; refine calls_go (N := 35) (args := [vA #[v0_0, vI a0.left, vI a0.right, vI a0.pivot], v1]) func65 rfl rfl rfl ?_; refine FW.sr ?_; obtain ⟨b21, w22, run23, S24⟩ := S0.box (P := prog) 63 [v0_0, vI a0.left, vI a0.right, vI a0.pivot] (v := vA #[v0_0, vI a0.left, vI a0.right, vI a0.pivot]) rfl (oC p0_0.one (oC rfl (oC rfl (oC rfl ones_nil)))); refine FL.v (E.box rfl run23) ?_; obtain ⟨H25, S26, i27, at28⟩ := S24.sealBox (i := 0) (l' := []) rfl rfl; obtain ⟨b29, w30, run31, S32⟩ := S26.alloc (P := prog) 63 [vN, vI 0, vI 0, vI 0] zeroValue63 rfl (oC rfl (oC rfl (oC rfl (oC rfl ones_nil)))); refine FL.v (E.alloc run31) ?_; refine FL.nil (FW.seq ?_); obtain ⟨r36, hr37, hp⟩ := bnd hp; refine FW.drawB (Sl H25) (fun f w => ∃ H : GH, ∃ b59 : Nat, ∃ v60 : Value, St Ha wa H w [.box b29 63 [vN, vI 0, vI 0, vI 0], .box b59 63 [v60, vI a0.left, vI a0.right, vI a0.pivot]] ∧ Inc H25 H ∧ RSl (up wa.heap.size H) eI 1 v60 r36 ∧ New H25 [v60] ∧ f 1 = v1 ∧ f 2 = vP (⟨b21, 0, none⟩) ∧ f 4 = vP ((⟨b29, 0, none⟩ : Addr)) ∧ f 5 = vP ((⟨b59, 0, none⟩ : Addr))) (by kernel_rfl) S32.sl ?_ ?_
 ·
  intro w33 r34; have S35 := S32.call r34; refine FB.T 0 12 1 rfl S35.sl rfl (fun _ z => (E.fieldAddr tf63_0 rfl)) ?_; refine FB.T 1 12 3 rfl S35.sl rfl (fun _ z => (E.load rfl (run_load1 isAgg44 (at28.now z) rfl))) ?_; refine FB.T 3 12 11 rfl S35.sl rfl (fun _ z => (E.fieldAddr tf63_1 rfl)) ?_; refine FB.T 4 12 27 rfl S35.sl rfl (fun _ z => (E.load rfl (run_load1 isAgg3 (at28.now z) rfl))) ?_; refine FB.T 5 12 59 rfl S35.sl rfl (fun _ z => (E.fieldAddr tf63_2 rfl)) ?_; refine FB.T 6 12 123 rfl S35.sl rfl (fun _ z => (E.load rfl (run_load1 isAgg3 (at28.now z) rfl))) ?_; refine FB.T 7 12 251 rfl S35.sl rfl (fun _ z => (E.fieldAddr tf63_3 rfl)) ?_; refine FB.T 8 12 507 rfl S35.sl rfl (fun _ z => (E.load rfl (run_load1 isAgg3 (at28.now z) rfl))) ?_; refine FB.all2 (i := 2) (j := 10) (by kernel_rfl) ?_ ?_
  ·
   refine FC.call (l' := (bs 12 511)) rfl (by kernel_rfl) rfl rfl rfl (E.call call64 (A1 rfl)) (w_spec_l1Own S35.sl v0_0 a0.clause (p0_0.mono i27) hr37) ?_; rintro e w39 ⟨H38, v42, n43, cs45, rfl, r41, els46⟩; refine ⟨_, rfl, ?_⟩; have els46 := els46.mono (up_le S35.size); have S40 := S35.join (l' := [.row 3 1 v42 n43 cs45, .box b29 63 [vN, vI 0, vI 0, vI 0]]) r41 rfl; refine ⟨(SP.nil (Sl.of_inc r41.run.inc S40.sl)), ?_⟩; obtain ⟨H47, S48, i49, h50, nv51⟩ := S40.sealRowU (i := 0) (l' := [.box b29 63 [vN, vI 0, vI 0, vI 0]]) rfl els46 (by decide) rfl; refine FB.T 9 12 1023 rfl (Sl.of_inc r41.run.inc S40.sl) rfl (fun _ z => (E.build (B4 rfl rfl rfl rfl) (run_build _ 63 #[(0, v42), (1, vI a0.left), (2, vI a0.right), (3, vI a0.pivot)] #[v42, vI a0.left, vI a0.right, vI a0.pivot] (by obtain ⟨_, _, rfl⟩ := RSl.ln (h50.mono upI); rfl)))) ?_; refine FB.all1 (i := 10) (by kernel_rfl) ?_
   ·
    obtain ⟨b52, w53, run54, S55⟩ := S48.alloc (P := prog) 63 [vN, vI 0, vI 0, vI 0] zeroValue63 rfl (oC rfl (oC rfl (oC rfl (oC rfl ones_nil)))); refine FC.val (l' := (bs 12 2047)) rfl (by kernel_rfl) rfl rfl rfl (E.alloc run54) ?_; refine ⟨(SP.nil (Sl.of_inc (r41.run.inc.tr i49) S55.sl)), ?_⟩; refine FB.all1 (i := 11) (by kernel_rfl) ?_
    ·
     obtain ⟨w56, run57, S58⟩ := S55.store0 (P := prog) (t := 63) (i := 0) (cs' := [v42, vI a0.left, vI a0.right, vI a0.pivot]) (l' := [.box b52 63 [v42, vI a0.left, vI a0.right, vI a0.pivot], .box b29 63 [vN, vI 0, vI 0, vI 0]]) (v := vA #[v42, vI a0.left, vI a0.right, vI a0.pivot]) (c := [v42, vI a0.left, vI a0.right, vI a0.pivot]) rfl sizeOf63 rfl rfl (oC h50.one (oC rfl (oC rfl (oC rfl ones_nil)))) (nB rfl) rfl rfl; refine FC.act (l' := (bs 12 4095)) rfl (by kernel_rfl) rfl rfl (E.store rfl rfl run57) ?_; refine ⟨(SP.nil (Sl.of_inc (r41.run.inc.tr i49) S58.sl)), ?_⟩; exact FB.done (by kernel_rfl) ⟨_, _, _, (S58.sel [1, 0] (by decide) rfl), (r41.run.inc.tr i49), h50, (nv51.anti r41.run.inc), rfl, rfl, rfl, rfl⟩
  ·
   obtain ⟨b52, w53, run54, S55⟩ := S35.alloc (P := prog) 63 [vN, vI 0, vI 0, vI 0] zeroValue63 rfl (oC rfl (oC rfl (oC rfl (oC rfl ones_nil)))); refine FC.val (l' := (bs 12 1531)) rfl (by kernel_rfl) rfl rfl rfl (E.alloc run54) ?_; refine ⟨(SP.nil S55.sl), ?_⟩; refine FB.all1 (i := 2) (by kernel_rfl) ?_
   ·
    refine FC.call (l' := (bs 12 1535)) rfl (by kernel_rfl) rfl rfl rfl (E.call call64 (A1 rfl)) (w_spec_l1Own S55.sl v0_0 a0.clause (p0_0.mono i27) hr37) ?_; rintro e w39 ⟨H38, v42, n43, cs45, rfl, r41, els46⟩; refine ⟨_, rfl, ?_⟩; have els46 := els46.mono (up_le S55.size); have S40 := S55.join (l' := [.row 3 1 v42 n43 cs45, .box b52 63 [vN, vI 0, vI 0, vI 0], .box b29 63 [vN, vI 0, vI 0, vI 0]]) r41 rfl; refine ⟨(SP.nil (Sl.of_inc r41.run.inc S40.sl)), ?_⟩; obtain ⟨H47, S48, i49, h50, nv51⟩ := S40.sealRowU (i := 0) (l' := [.box b52 63 [vN, vI 0, vI 0, vI 0], .box b29 63 [vN, vI 0, vI 0, vI 0]]) rfl els46 (by decide) rfl; refine FB.T 9 12 2047 rfl (Sl.of_inc r41.run.inc S40.sl) rfl (fun _ z => (E.build (B4 rfl rfl rfl rfl) (run_build _ 63 #[(0, v42), (1, vI a0.left), (2, vI a0.right), (3, vI a0.pivot)] #[v42, vI a0.left, vI a0.right, vI a0.pivot] (by obtain ⟨_, _, rfl⟩ := RSl.ln (h50.mono upI); rfl)))) ?_; refine FB.all1 (i := 11) (by kernel_rfl) ?_
    ·
     obtain ⟨w56, run57, S58⟩ := S48.store0 (P := prog) (t := 63) (i := 0) (cs' := [v42, vI a0.left, vI a0.right, vI a0.pivot]) (l' := [.box b52 63 [v42, vI a0.left, vI a0.right, vI a0.pivot], .box b29 63 [vN, vI 0, vI 0, vI 0]]) (v := vA #[v42, vI a0.left, vI a0.right, vI a0.pivot]) (c := [v42, vI a0.left, vI a0.right, vI a0.pivot]) rfl sizeOf63 rfl rfl (oC h50.one (oC rfl (oC rfl (oC rfl ones_nil)))) (nB rfl) rfl rfl; refine FC.act (l' := (bs 12 4095)) rfl (by kernel_rfl) rfl rfl (E.store rfl rfl run57) ?_; refine ⟨(SP.nil (Sl.of_inc (r41.run.inc.tr i49) S58.sl)), ?_⟩; exact FB.done (by kernel_rfl) ⟨_, _, _, (S58.sel [1, 0] (by decide) rfl), (r41.run.inc.tr i49), h50, (nv51.anti r41.run.inc), rfl, rfl, rfl, rfl⟩
 ·
  rintro f68 w67 ⟨H64, b59, v60, S65, i66, h61, nv62, k69, k70, k71, k72⟩; refine FW.seq (FW.sr ?_); refine FL.v (E.fieldAddr tf63_1 k70) ?_; refine FL.v (E.load rfl (run_load1 isAgg3 ((at28.mono i66).now S65.sl) rfl)) ?_; refine FL.v (E.geq rfl rfl) ?_; refine FL.nil ?_; rcases ifB hp with ⟨c73, hp⟩ | ⟨c73, hp⟩
  ·
   refine FW.condT rfl c73 ?_; refine FW.sr ?_; refine FL.mv k69 ?_; refine FL.v (E.fieldAddr tf63_1 k70) ?_; refine FL.v (E.load rfl (run_load1 isAgg3 ((at28.mono i66).now S65.sl) rfl)) ?_; obtain ⟨x80, hx81, hp⟩ := bnd hp; obtain ⟨p74, cs75, pt76, l77, at78, rel79⟩ := p1.at hx81; obtain rfl := eI_open rel79; refine FL.v (E.indexAddr te44 rfl rfl pt76) ?_; refine FL.v (E.load rfl (run_load0 isAgg3 ((at78.mono (i27.tr i66)).now S65.sl) rfl)) ?_; refine FL.v (E.fieldAddr tf63_1 k72) ?_; obtain ⟨w82, run83, S84⟩ := S65.store (P := prog) (t := 3) (i := 1) (j := 1) (cs' := [v60, vI x80, vI a0.right, vI a0.pivot]) (l' := [.box b29 63 [vN, vI 0, vI 0, vI 0], .box b59 63 [v60, vI x80, vI a0.right, vI a0.pivot]]) (v := vI x80) (c := [vI x80]) rfl sizeOf3 rfl rfl (oC rfl ones_nil) (nB rfl) rfl rfl; refine FL.act rfl rfl (E.store rfl rfl run83) ?_; refine FL.nil (FW.sr ?_); refine FL.v (E.fieldAddr tf63_2 k70) ?_; refine FL.v (E.load rfl (run_load1 isAgg3 ((at28.mono i66).now S84.sl) rfl)) ?_; refine FL.v (E.geq rfl rfl) ?_; refine FL.nil ?_; rcases ifB hp with ⟨c85, hp⟩ | ⟨c85, hp⟩
   ·
    refine FW.condT rfl c85 ?_; refine FW.region ?_; refine FL.mv k69 ?_; refine FL.v (E.fieldAddr tf63_2 k70) ?_; refine FL.v (E.load rfl (run_load1 isAgg3 ((at28.mono i66).now S84.sl) rfl)) ?_; obtain ⟨x92, hx93, hp⟩ := bnd hp; obtain ⟨p86, cs87, pt88, l89, at90, rel91⟩ := p1.at hx93; obtain rfl := eI_open rel91; refine FL.v (E.indexAddr te44 rfl rfl pt88) ?_; refine FL.v (E.load rfl (run_load0 isAgg3 ((at90.mono (i27.tr i66)).now S84.sl) rfl)) ?_; refine FL.v (E.fieldAddr tf63_2 k72) ?_; obtain ⟨w94, run95, S96⟩ := S84.store (P := prog) (t := 3) (i := 1) (j := 2) (cs' := [v60, vI x80, vI x92, vI a0.pivot]) (l' := [.box b29 63 [vN, vI 0, vI 0, vI 0], .box b59 63 [v60, vI x80, vI x92, vI a0.pivot]]) (v := vI x92) (c := [vI x92]) rfl sizeOf3 rfl rfl (oC rfl ones_nil) (nB rfl) rfl rfl; refine FL.act rfl rfl (E.store rfl rfl run95) ?_; obtain ⟨H97, S98, i99, at100⟩ := S96.sealBox (i := 1) (l' := [.box b29 63 [vN, vI 0, vI 0, vI 0]]) rfl rfl; refine FL.nil (FW.sr ?_); refine FL.v (E.load k72 (run_loadA isAgg63 sizeOf63 (at100.now S98.sl) rfl)) ?_; obtain ⟨w101, run102, S103⟩ := S98.store0 (P := prog) (t := 63) (i := 0) (cs' := [v60, vI x80, vI x92, vI a0.pivot]) (l' := [.box b29 63 [v60, vI x80, vI x92, vI a0.pivot]]) (v := vA #[v60, vI x80, vI x92, vI a0.pivot]) (c := [v60, vI x80, vI x92, vI a0.pivot]) rfl sizeOf63 rfl rfl (oC h61.one (oC rfl (oC rfl (oC rfl ones_nil)))) (nB rfl) rfl rfl; refine FL.act rfl rfl (E.store k71 rfl run102) ?_; obtain ⟨H104, S105, i106, at107⟩ := S103.sealBox (i := 0) (l' := []) rfl rfl; refine FL.nil (FW.ret ?_); cases hp; exact ⟨.inr rfl, resC rfl k71 (loadVar_A isAgg63 sizeOf63 (at107.now S105.sl) rfl) ⟨_, _, rfl, S105.run, (h61.mono (up_mono (i99.tr i106)))⟩⟩
   ·
    refine FW.condF rfl c85 ?_; refine FW.skip (FW.sr ?_); refine FL.v (E.load k72 (run_loadA isAgg63 sizeOf63 (S84.box_now (i := 1) rfl) rfl)) ?_; obtain ⟨w108, run109, S110⟩ := S84.store0 (P := prog) (t := 63) (i := 0) (cs' := [v60, vI x80, vI a0.right, vI a0.pivot]) (l' := [.box b29 63 [v60, vI x80, vI a0.right, vI a0.pivot], .box b59 63 [v60, vI x80, vI a0.right, vI a0.pivot]]) (v := vA #[v60, vI x80, vI a0.right, vI a0.pivot]) (c := [v60, vI x80, vI a0.right, vI a0.pivot]) rfl sizeOf63 rfl rfl (oC h61.one (oC rfl (oC rfl (oC rfl ones_nil)))) (nB rfl) rfl rfl; refine FL.act rfl rfl (E.store k71 rfl run109) ?_; obtain ⟨H111, S112, i113, at114⟩ := S110.sealBox (i := 0) (l' := [.box b59 63 [v60, vI x80, vI a0.right, vI a0.pivot]]) rfl rfl; refine FL.nil (FW.ret ?_); cases hp; exact ⟨.inr rfl, resC rfl k71 (loadVar_A isAgg63 sizeOf63 (at114.now S112.sl) rfl) ⟨_, _, rfl, S112.run, (h61.mono (up_mono i113))⟩⟩
  ·
   refine FW.condF rfl c73 ?_; refine FW.skip (FW.sr ?_); refine FL.v (E.load k72 (run_loadA isAgg63 sizeOf63 (S65.box_now (i := 1) rfl) rfl)) ?_; obtain ⟨w115, run116, S117⟩ := S65.store0 (P := prog) (t := 63) (i := 0) (cs' := [v60, vI a0.left, vI a0.right, vI a0.pivot]) (l' := [.box b29 63 [v60, vI a0.left, vI a0.right, vI a0.pivot], .box b59 63 [v60, vI a0.left, vI a0.right, vI a0.pivot]]) (v := vA #[v60, vI a0.left, vI a0.right, vI a0.pivot]) (c := [v60, vI a0.left, vI a0.right, vI a0.pivot]) rfl sizeOf63 rfl rfl (oC h61.one (oC rfl (oC rfl (oC rfl ones_nil)))) (nB rfl) rfl rfl; refine FL.act rfl rfl (E.store k71 rfl run116) ?_; obtain ⟨H118, S119, i120, at121⟩ := S117.sealBox (i := 0) (l' := [.box b59 63 [v60, vI a0.left, vI a0.right, vI a0.pivot]]) rfl rfl; refine FL.nil (FW.ret ?_); cases hp; exact ⟨.inr rfl, resC rfl k71 (loadVar_A isAgg63 sizeOf63 (at121.now S119.sl) rfl) ⟨_, _, rfl, S119.run, (h61.mono (up_mono i120))⟩⟩

@[reducible] def p_spec_l7Trim (Ha : GH) (wa : World) (r : (List ResStep)) : Ending → World → Prop :=
  fun e w' => ∃ H' : GH, ∃ v0 : Value, ∃ n0 : Nat, ∃ c0 : List Value, e = .returned (v0) ∧ St Ha wa H' w' [.row 63 4 v0 n0 c0] ∧ Els (up wa.heap.size H') eResStep 4 c0 r ∧ (bl c0).Nodup
set_option maxHeartbeats 4000000 in
theorem w_spec_l7Trim {Ha : GH} {wa : World} (hs : Sl Ha wa) (v0 : Value) (a0 : List ResStep) (p0 : RSl Ha eResStep 4 v0 a0) {r : (List ResStep)} (hp : (PF.spec_l7Trim a0) = some r) :
    Calls prog 59 #[v0] wa (p_spec_l7Trim Ha wa r) := by
  unfold PF.spec_l7Trim at hp
  have S0 := St.init hs
  refine calls_go (N := 38) (args := [v0]) Tryz.func59 rfl rfl rfl ?_
  refine FW.seq (FW.region ?_)
  refine FL.v (E.assign (v := vN) rfl) ?_
  refine FL.nil (FW.seq ?_)
  obtain ⟨r30, hr31, hp⟩ := bnd hp
  obtain ⟨xs40, hm41, hp⟩ := bnd hp
  refine FW.drawB (Sl Ha) (fun f w => ∃ H : GH, ∃ v51 : Value, ∃ n52 : Nat, ∃ cs53 : List Value, ∃ v56 : Value, ∃ n57 : Nat, ∃ cs58 : List Value, ∃ v60 : Value, ∃ n61 : Nat, ∃ cs62 : List Value, St Ha wa H w [.row 63 4 v51 n52 cs53, .row 4 1 v56 n57 cs58, .row 3 1 v60 n61 cs62] ∧ Inc Ha H ∧ Els (up wa.heap.size H) eResStep 4 cs53 [] ∧ Els (up wa.heap.size H) eB 1 cs58 r30 ∧ Els (up wa.heap.size H) eI 1 cs62 xs40 ∧ (bl cs53).Nodup ∧ f 0 = v0 ∧ f 3 = v51 ∧ f 4 = v56 ∧ f 5 = v60) (by kernel_rfl) S0.sl ?_ ?_
  ·
    intro w21 r22
    have S23 := S0.call r22
    refine FB.t (i := 1) (bs 9 2) rfl (SP.nil S23.sl) rfl (fun _ z => (E.move (v := v0) rfl)) ?_
    refine FB.t (i := 3) (bs 9 10) rfl (SP.nil S23.sl) rfl (fun _ z => (E.move (v := v0) rfl)) ?_
    refine FB.t (i := 4) (bs 9 26) rfl (SP.nil S23.sl) rfl (fun _ z => (E.lenP te29 rfl p0)) ?_
    refine FB.all3 (i := 0) (j := 2) (k := 5) (by kernel_rfl) ?_ ?_ ?_
    ·
      obtain ⟨v24, w25, run26, S27⟩ := S23.buildSlice (P := prog) te29 [] (parts := #[]) (cells := []) rfl szs_nil fc_nil ones_nil (Nat.le_of_ble_eq_true rfl)
      have els28 : Els (up wa.heap.size Ha) eResStep 4 [] [] := Els.nil
      refine FC.val (l' := (bs 9 27)) rfl (by kernel_rfl) rfl rfl rfl (E.buildSlice (B0) run26) ?_
      refine ⟨(SP.nil S27.sl), ?_⟩
      refine FB.all2 (i := 2) (j := 5) (by kernel_rfl) ?_ ?_
      ·
        refine FC.call (l' := (bs 9 31)) rfl (by kernel_rfl) rfl rfl rfl (E.call Tryz.call86 (A1 rfl)) (w_spec_l7Needed S27.sl v0 a0 p0 hr31) ?_
        rintro e w33 ⟨H32, v36, n37, cs38, rfl, r35, els39⟩
        refine ⟨_, rfl, ?_⟩
        have els39 := els39.mono (up_le S27.size)
        have S34 := S27.join (l' := [.row 4 1 v36 n37 cs38, .row 63 4 v24 0 []]) r35 rfl
        refine ⟨(SP.nil (Sl.of_inc r35.run.inc S34.sl)), ?_⟩
        refine FB.t (i := 6) (bs 9 95) rfl (SP.nil (Sl.of_inc r35.run.inc S34.sl)) rfl (fun _ z => (E.assign (v := v24) rfl)) ?_
        refine FB.t (i := 7) (bs 9 223) rfl (SP.nil (Sl.of_inc r35.run.inc S34.sl)) rfl (fun _ z => (E.assign (v := v36) rfl)) ?_
        refine FB.all1 (i := 5) (by kernel_rfl) ?_
        ·
          obtain ⟨v42, w43, n48, cs49, run45, S46, els47, hbl50⟩ := S34.makeEls (P := prog) te44 (G := (up wa.heap.size H32)) (En := eI) (x0 := (0 : Int)) hm41 rfl (ones_cons rfl ones_nil) .i64 .i64
          refine FC.val (l' := (bs 9 255)) rfl (by kernel_rfl) rfl rfl rfl (E.makeSlice rfl rfl run45) ?_
          refine ⟨(SP.nil (Sl.of_inc r35.run.inc S46.sl)), ?_⟩
          refine FB.t (i := 8) (bs 9 511) rfl (SP.nil (Sl.of_inc r35.run.inc S46.sl)) rfl (fun _ z => (E.assign (v := v42) rfl)) ?_
          exact FB.done (by kernel_rfl) ⟨_, _, _, _, _, _, _, _, _, _, (S46.sel [2, 1, 0] (by decide) rfl), r35.run.inc, (els28.mono (up_mono r35.run.inc)), els39, els47, (show (bl []).Nodup from List.nodup_nil), rfl, rfl, rfl, rfl⟩
      ·
        obtain ⟨v42, w43, n48, cs49, run45, S46, els47, hbl50⟩ := S27.makeEls (P := prog) te44 (G := (up wa.heap.size Ha)) (En := eI) (x0 := (0 : Int)) hm41 rfl (ones_cons rfl ones_nil) .i64 .i64
        refine FC.val (l' := (bs 9 59)) rfl (by kernel_rfl) rfl rfl rfl (E.makeSlice rfl rfl run45) ?_
        refine ⟨(SP.nil S46.sl), ?_⟩
        refine FB.all1 (i := 2) (by kernel_rfl) ?_
        ·
          refine FC.call (l' := (bs 9 63)) rfl (by kernel_rfl) rfl rfl rfl (E.call Tryz.call86 (A1 rfl)) (w_spec_l7Needed S46.sl v0 a0 p0 hr31) ?_
          rintro e w33 ⟨H32, v36, n37, cs38, rfl, r35, els39⟩
          refine ⟨_, rfl, ?_⟩
          have els39 := els39.mono (up_le S46.size)
          have S34 := S46.join (l' := [.row 4 1 v36 n37 cs38, .row 3 1 v42 n48 cs49, .row 63 4 v24 0 []]) r35 rfl
          refine ⟨(SP.nil (Sl.of_inc r35.run.inc S34.sl)), ?_⟩
          refine FB.t (i := 6) (bs 9 127) rfl (SP.nil (Sl.of_inc r35.run.inc S34.sl)) rfl (fun _ z => (E.assign (v := v24) rfl)) ?_
          refine FB.t (i := 7) (bs 9 255) rfl (SP.nil (Sl.of_inc r35.run.inc S34.sl)) rfl (fun _ z => (E.assign (v := v36) rfl)) ?_
          refine FB.t (i := 8) (bs 9 511) rfl (SP.nil (Sl.of_inc r35.run.inc S34.sl)) rfl (fun _ z => (E.assign (v := v42) rfl)) ?_
          exact FB.done (by kernel_rfl) ⟨_, _, _, _, _, _, _, _, _, _, (S34.sel [2, 0, 1] (by decide) rfl), r35.run.inc, (els28.mono (up_mono r35.run.inc)), els39, (els47.mono (up_mono r35.run.inc)), (show (bl []).Nodup from List.nodup_nil), rfl, rfl, rfl, rfl⟩
    ·
      refine FC.call (l' := (bs 9 30)) rfl (by kernel_rfl) rfl rfl rfl (E.call Tryz.call86 (A1 rfl)) (w_spec_l7Needed S23.sl v0 a0 p0 hr31) ?_
      rintro e w33 ⟨H32, v36, n37, cs38, rfl, r35, els39⟩
      refine ⟨_, rfl, ?_⟩
      have els39 := els39.mono (up_le S23.size)
      have S34 := S23.join (l' := [.row 4 1 v36 n37 cs38]) r35 rfl
      refine ⟨(SP.nil (Sl.of_inc r35.run.inc S34.sl)), ?_⟩
      refine FB.all2 (i := 0) (j := 5) (by kernel_rfl) ?_ ?_
      ·
        obtain ⟨v24, w25, run26, S27⟩ := S34.buildSlice (P := prog) te29 [] (parts := #[]) (cells := []) rfl szs_nil fc_nil ones_nil (Nat.le_of_ble_eq_true rfl)
        have els28 : Els (up wa.heap.size H32) eResStep 4 [] [] := Els.nil
        refine FC.val (l' := (bs 9 31)) rfl (by kernel_rfl) rfl rfl rfl (E.buildSlice (B0) run26) ?_
        refine ⟨(SP.nil (Sl.of_inc r35.run.inc S27.sl)), ?_⟩
        refine FB.t (i := 6) (bs 9 95) rfl (SP.nil (Sl.of_inc r35.run.inc S27.sl)) rfl (fun _ z => (E.assign (v := v24) rfl)) ?_
        refine FB.t (i := 7) (bs 9 223) rfl (SP.nil (Sl.of_inc r35.run.inc S27.sl)) rfl (fun _ z => (E.assign (v := v36) rfl)) ?_
        refine FB.all1 (i := 5) (by kernel_rfl) ?_
        ·
          obtain ⟨v42, w43, n48, cs49, run45, S46, els47, hbl50⟩ := S27.makeEls (P := prog) te44 (G := (up wa.heap.size H32)) (En := eI) (x0 := (0 : Int)) hm41 rfl (ones_cons rfl ones_nil) .i64 .i64
          refine FC.val (l' := (bs 9 255)) rfl (by kernel_rfl) rfl rfl rfl (E.makeSlice rfl rfl run45) ?_
          refine ⟨(SP.nil (Sl.of_inc r35.run.inc S46.sl)), ?_⟩
          refine FB.t (i := 8) (bs 9 511) rfl (SP.nil (Sl.of_inc r35.run.inc S46.sl)) rfl (fun _ z => (E.assign (v := v42) rfl)) ?_
          exact FB.done (by kernel_rfl) ⟨_, _, _, _, _, _, _, _, _, _, (S46.sel [1, 2, 0] (by decide) rfl), r35.run.inc, els28, els39, els47, (show (bl []).Nodup from List.nodup_nil), rfl, rfl, rfl, rfl⟩
      ·
        obtain ⟨v42, w43, n48, cs49, run45, S46, els47, hbl50⟩ := S34.makeEls (P := prog) te44 (G := (up wa.heap.size H32)) (En := eI) (x0 := (0 : Int)) hm41 rfl (ones_cons rfl ones_nil) .i64 .i64
        refine FC.val (l' := (bs 9 62)) rfl (by kernel_rfl) rfl rfl rfl (E.makeSlice rfl rfl run45) ?_
        refine ⟨(SP.nil (Sl.of_inc r35.run.inc S46.sl)), ?_⟩
        refine FB.all1 (i := 0) (by kernel_rfl) ?_
        ·
          obtain ⟨v24, w25, run26, S27⟩ := S46.buildSlice (P := prog) te29 [] (parts := #[]) (cells := []) rfl szs_nil fc_nil ones_nil (Nat.le_of_ble_eq_true rfl)
          have els28 : Els (up wa.heap.size H32) eResStep 4 [] [] := Els.nil
          refine FC.val (l' := (bs 9 63)) rfl (by kernel_rfl) rfl rfl rfl (E.buildSlice (B0) run26) ?_
          refine ⟨(SP.nil (Sl.of_inc r35.run.inc S27.sl)), ?_⟩
          refine FB.t (i := 6) (bs 9 127) rfl (SP.nil (Sl.of_inc r35.run.inc S27.sl)) rfl (fun _ z => (E.assign (v := v24) rfl)) ?_
          refine FB.t (i := 7) (bs 9 255) rfl (SP.nil (Sl.of_inc r35.run.inc S27.sl)) rfl (fun _ z => (E.assign (v := v36) rfl)) ?_
          refine FB.t (i := 8) (bs 9 511) rfl (SP.nil (Sl.of_inc r35.run.inc S27.sl)) rfl (fun _ z => (E.assign (v := v42) rfl)) ?_
          exact FB.done (by kernel_rfl) ⟨_, _, _, _, _, _, _, _, _, _, (S27.sel [0, 2, 1] (by decide) rfl), r35.run.inc, els28, els39, els47, (show (bl []).Nodup from List.nodup_nil), rfl, rfl, rfl, rfl⟩
    ·
      obtain ⟨v42, w43, n48, cs49, run45, S46, els47, hbl50⟩ := S23.makeEls (P := prog) te44 (G := (up wa.heap.size Ha)) (En := eI) (x0 := (0 : Int)) hm41 rfl (ones_cons rfl ones_nil) .i64 .i64
      refine FC.val (l' := (bs 9 58)) rfl (by kernel_rfl) rfl rfl rfl (E.makeSlice rfl rfl run45) ?_
      refine ⟨(SP.nil S46.sl), ?_⟩
      refine FB.all2 (i := 0) (j := 2) (by kernel_rfl) ?_ ?_
      ·
        obtain ⟨v24, w25, run26, S27⟩ := S46.buildSlice (P := prog) te29 [] (parts := #[]) (cells := []) rfl szs_nil fc_nil ones_nil (Nat.le_of_ble_eq_true rfl)
        have els28 : Els (up wa.heap.size Ha) eResStep 4 [] [] := Els.nil
        refine FC.val (l' := (bs 9 59)) rfl (by kernel_rfl) rfl rfl rfl (E.buildSlice (B0) run26) ?_
        refine ⟨(SP.nil S27.sl), ?_⟩
        refine FB.all1 (i := 2) (by kernel_rfl) ?_
        ·
          refine FC.call (l' := (bs 9 63)) rfl (by kernel_rfl) rfl rfl rfl (E.call Tryz.call86 (A1 rfl)) (w_spec_l7Needed S27.sl v0 a0 p0 hr31) ?_
          rintro e w33 ⟨H32, v36, n37, cs38, rfl, r35, els39⟩
          refine ⟨_, rfl, ?_⟩
          have els39 := els39.mono (up_le S27.size)
          have S34 := S27.join (l' := [.row 4 1 v36 n37 cs38, .row 63 4 v24 0 [], .row 3 1 v42 n48 cs49]) r35 rfl
          refine ⟨(SP.nil (Sl.of_inc r35.run.inc S34.sl)), ?_⟩
          refine FB.t (i := 6) (bs 9 127) rfl (SP.nil (Sl.of_inc r35.run.inc S34.sl)) rfl (fun _ z => (E.assign (v := v24) rfl)) ?_
          refine FB.t (i := 7) (bs 9 255) rfl (SP.nil (Sl.of_inc r35.run.inc S34.sl)) rfl (fun _ z => (E.assign (v := v36) rfl)) ?_
          refine FB.t (i := 8) (bs 9 511) rfl (SP.nil (Sl.of_inc r35.run.inc S34.sl)) rfl (fun _ z => (E.assign (v := v42) rfl)) ?_
          exact FB.done (by kernel_rfl) ⟨_, _, _, _, _, _, _, _, _, _, (S34.sel [1, 0, 2] (by decide) rfl), r35.run.inc, (els28.mono (up_mono r35.run.inc)), els39, (els47.mono (up_mono r35.run.inc)), (show (bl []).Nodup from List.nodup_nil), rfl, rfl, rfl, rfl⟩
      ·
        refine FC.call (l' := (bs 9 62)) rfl (by kernel_rfl) rfl rfl rfl (E.call Tryz.call86 (A1 rfl)) (w_spec_l7Needed S46.sl v0 a0 p0 hr31) ?_
        rintro e w33 ⟨H32, v36, n37, cs38, rfl, r35, els39⟩
        refine ⟨_, rfl, ?_⟩
        have els39 := els39.mono (up_le S46.size)
        have S34 := S46.join (l' := [.row 4 1 v36 n37 cs38, .row 3 1 v42 n48 cs49]) r35 rfl
        refine ⟨(SP.nil (Sl.of_inc r35.run.inc S34.sl)), ?_⟩
        refine FB.all1 (i := 0) (by kernel_rfl) ?_
        ·
          obtain ⟨v24, w25, run26, S27⟩ := S34.buildSlice (P := prog) te29 [] (parts := #[]) (cells := []) rfl szs_nil fc_nil ones_nil (Nat.le_of_ble_eq_true rfl)
          have els28 : Els (up wa.heap.size H32) eResStep 4 [] [] := Els.nil
          refine FC.val (l' := (bs 9 63)) rfl (by kernel_rfl) rfl rfl rfl (E.buildSlice (B0) run26) ?_
          refine ⟨(SP.nil (Sl.of_inc r35.run.inc S27.sl)), ?_⟩
          refine FB.t (i := 6) (bs 9 127) rfl (SP.nil (Sl.of_inc r35.run.inc S27.sl)) rfl (fun _ z => (E.assign (v := v24) rfl)) ?_
          refine FB.t (i := 7) (bs 9 255) rfl (SP.nil (Sl.of_inc r35.run.inc S27.sl)) rfl (fun _ z => (E.assign (v := v36) rfl)) ?_
          refine FB.t (i := 8) (bs 9 511) rfl (SP.nil (Sl.of_inc r35.run.inc S27.sl)) rfl (fun _ z => (E.assign (v := v42) rfl)) ?_
          exact FB.done (by kernel_rfl) ⟨_, _, _, _, _, _, _, _, _, _, S27, r35.run.inc, els28, els39, (els47.mono (up_mono r35.run.inc)), (show (bl []).Nodup from List.nodup_nil), rfl, rfl, rfl, rfl⟩
  ·
    rintro f68 w67 ⟨H64, v51, n52, cs53, v56, n57, cs58, v60, n61, cs62, S65, i66, els54, els59, els63, nd55, k69, k70, k71, k72⟩
    refine FW.seq (FW.seq (FW.region ?_))
    refine FL.v (E.assign (v := vI 0) rfl) ?_
    refine FL.nil ?_
    obtain ⟨q74, hq, hp⟩ := bndR hp
    refine FW.block ?_
    refine FW.mono (FW.forL (S := ((List ResStep) × (List Int))) (X := Empty) (fun (i74 : Nat) (s74 : ((List ResStep) × (List Int))) f w => ∃ H : GH, ∃ v75 : Value, ∃ n76 : Nat, ∃ cs78 : List Value, ∃ v81 : Value, ∃ n82 : Nat, ∃ cs83 : List Value, St Ha wa H w [.row 63 4 v75 n76 cs78, .row 4 1 v56 n57 cs58, .row 3 1 v81 n82 cs83] ∧ Inc H64 H ∧ Els (up wa.heap.size H) eResStep 4 cs78 s74.1 ∧ Els (up wa.heap.size H) eI 1 cs83 s74.2 ∧ (bl cs78).Nodup ∧ f 6 = vI ((i74 : Nat) : Int) ∧ f 0 = v0 ∧ f 3 = v75 ∧ f 4 = v56 ∧ f 5 = v81) (fun (q : Rs ((List ResStep) × (List Int)) Empty) e f w => match q with | .go s74 => e = Exit.exit 0 ∧ (∃ H : GH, ∃ v75 : Value, ∃ n76 : Nat, ∃ cs78 : List Value, ∃ v81 : Value, ∃ n82 : Nat, ∃ cs83 : List Value, St Ha wa H w [.row 63 4 v75 n76 cs78, .row 4 1 v56 n57 cs58, .row 3 1 v81 n82 cs83] ∧ Inc H64 H ∧ Els (up wa.heap.size H) eResStep 4 cs78 s74.1 ∧ Els (up wa.heap.size H) eI 1 cs83 s74.2 ∧ (bl cs78).Nodup ∧ f 3 = v75) | .rt x => x.elim) hq ⟨_, _, _, _, _, _, _, S65, (Inc.rfl _), els54, els63, nd55, rfl, k69, k70, k71, k72⟩ ?_ ?_) ?_
    ·
      clear hp hq
      rintro i74 y73 s74 f89 w88 ⟨H85, v75, n76, cs78, v81, n82, cs83, S86, i87, els79, els84, nd80, k90, k91, k92, k93, k94⟩ hx74 o162 hp
      refine FW.seq (FW.seq (FW.region ?_))
      refine FL.v (E.move k90) ?_
      refine FL.v (E.move k91) ?_
      refine FL.v (E.lenP te29 rfl p0) ?_
      refine FL.v (E.lssT rfl rfl (lss_len hx74)) ?_
      refine FL.nil ?_
      refine FW.condT rfl rfl ?_
      refine FW.skip (FW.seq (FW.block (FW.seq (FW.region ?_))))
      refine FL.v (E.move k93) ?_
      refine FL.v (E.move k90) ?_
      obtain ⟨x101, hx102, hp⟩ := bnd hp
      obtain ⟨p95, cs96, pt97, l98, at99, rel100⟩ := S86.row_at (i := 1) rfl els59 (by decide) hx102
      obtain rfl := eB_open rel100
      refine FL.v (E.indexAddr te77 rfl rfl pt97) ?_
      refine FL.v (E.load rfl (run_load0 Tryz.isAgg4 at99 rfl)) ?_
      refine FL.nil ?_
      rcases ifB hp with ⟨c103, hp⟩ | ⟨c103, hp⟩
      ·
        refine FW.condT rfl c103 ?_
        refine FW.seq (FW.region ?_)
        refine FL.v (E.move k94) ?_
        refine FL.v (E.move k90) ?_
        refine FL.v (E.move k92) ?_
        refine FL.v (E.lenO te29 rfl S86 (i := 0) rfl els79 (by decide)) ?_
        obtain ⟨x110, hx111, hp⟩ := bnd hp
        obtain ⟨p104, cs105, pt106, l107, at108, rel109⟩ := S86.row_at (i := 2) rfl els84 (by decide) hx111
        obtain rfl := eI_open rel109
        refine FL.v (E.indexAddr te44 rfl rfl pt106) ?_
        obtain ⟨xs115, hput116, hp⟩ := bnd hp
        obtain ⟨w112, cs118, run113, S114, els117, ce119⟩ := S86.putEls (P := prog) (t := 3) (i := 2) rfl els84 hput116 pt106 Tryz.sizeOf3 (u := vI (len s74.1)) (c := [vI (len s74.1)]) rfl rfl (ones_cons rfl ones_nil) rfl
        have S114 : St Ha wa H85 w112 [.row 63 4 v75 n76 cs78, .row 4 1 v56 n57 cs58, .row 3 1 v81 n82 cs118] := S114
        refine FL.act rfl rfl (E.store rfl rfl run113) ?_
        refine FL.nil (FW.region ?_)
        refine FL.v (E.move k92) ?_
        refine FL.v (E.move k91) ?_
        refine FL.v (E.move k90) ?_
        obtain ⟨p120, cs121, pt122, l123, at124, rel125⟩ := p0.at (ix_nat hx74)
        obtain ⟨v126, rfl, h127⟩ := eResStep_open rel125
        refine FL.v (E.indexAddr te29 rfl rfl pt122) ?_
        refine FL.v (E.load rfl (run_loadA Tryz.isAgg63 Tryz.sizeOf63 ((at124.mono (i66.tr i87)).now S114.sl) rfl)) ?_
        refine FL.v (E.move k94) ?_
        obtain ⟨H128, S129, i130, h131, nv132⟩ := S114.sealRowU (i := 2) (l' := [.row 63 4 v75 n76 cs78, .row 4 1 v56 n57 cs58]) rfl els117 (by decide) rfl
        obtain ⟨r133, hr134, hp⟩ := bnd hp
        refine FL.call rfl rfl rfl (E.call Tryz.call65 (A2 rfl rfl)) (w_spec_l7Moved S129.sl y73 v126 (h127.mono ((i66.tr i87).tr i130)) v81 xs115 (h131.mono upI) hr134) ?_
        rintro e w136 ⟨H135, v141, rfl, r138, h142⟩
        refine ⟨_, rfl, ?_⟩
        obtain ⟨H139, r138, hU140⟩ := Run.lendX i130 S114.sl r138
        have nv143 : New H85 [v141] := New.of_up S114.sl h142.dom
        have h142 := h142.mono (hU140.tr (up_le S114.size))
        have S137 := S114.call r138
        obtain ⟨v144, w145, run146, S147⟩ := S137.buildSlice (P := prog) te29 [vA #[v141, vI r133.left, vI r133.right, vI r133.pivot]] (parts := #[(0, vA #[v141, vI r133.left, vI r133.right, vI r133.pivot])]) (cells := [v141, vI r133.left, vI r133.right, vI r133.pivot]) rfl (szs_cons rfl szs_nil) (fc_cons rfl fc_nil) (ones_cons h142.one (ones_cons rfl (ones_cons rfl (ones_cons rfl ones_nil)))) (Nat.le_of_ble_eq_true rfl)
        have els148 : Els (up wa.heap.size H139) eResStep 4 [v141, vI r133.left, vI r133.right, vI r133.pivot] [r133] := (Els.snoc (H := (up wa.heap.size H139)) (E := eResStep) (k := 4) (c := [v141, vI r133.left, vI r133.right, vI r133.pivot]) (x := r133) Els.nil rfl ⟨_, rfl, h142⟩)
        have nd149 : (bl [v141, vI r133.left, vI r133.right, vI r133.pivot]).Nodup := by exact nd_one v141
        refine FL.v (E.buildSlice (B1 rfl) run146) ?_
        obtain ⟨xs150, hz151, hp⟩ := bnd hp
        obtain ⟨v152, w155, n153, cs154, run156, S157, els158, ce159⟩ := S147.appendO (P := prog) te29 (i := 1) (j := 0) rfl (els79.mono (up_mono r138.inc)) rfl els148 hz151
        have S157 : St Ha wa H139 w155 [.row 63 4 v144 1 [v141, vI r133.left, vI r133.right, vI r133.pivot], .row 63 4 v152 n153 cs154, .row 4 1 v56 n57 cs58, .row 3 1 v81 n82 cs118] := S157
        have nd160 : (bl cs154).Nodup := by rw [ce159]; exact nd_app nd80 nd149 (Els.dom (els79.mono (upI.tr (Inc.rfl _)))) (by exact nv143)
        have S161 : St Ha wa H139 w155 [.row 63 4 v152 n153 cs154, .row 4 1 v56 n57 cs58, .row 3 1 v81 n82 cs118] := S157.drop 0
        refine FL.v (E.append rfl rfl run156) ?_
        refine FL.v (E.assign (v := v152) rfl) ?_
        refine FL.nil (FW.region ?_)
        refine FL.v (E.move k90) ?_
        refine FL.v (E.add rfl rfl) ?_
        refine FL.v (E.assign (v := vI (wr (((i74 : Nat) : Int) + 1))) rfl) ?_
        refine FL.nil ?_
        obtain rfl := Option.some.inj hp
        exact ⟨rfl, ⟨_, _, _, _, _, _, _, S161, (i87.tr r138.inc), els158, (els117.mono (up_mono r138.inc)), nd160, (nat_succ rfl (lt_of_get hx74) (p0.mono ((i66.tr i87).tr r138.inc)).le), k91, rfl, k93, k94⟩⟩
      ·
        refine FW.condF rfl c103 ?_
        refine FW.skip (FW.region ?_)
        refine FL.v (E.move k90) ?_
        refine FL.v (E.add rfl rfl) ?_
        refine FL.v (E.assign (v := vI (wr (((i74 : Nat) : Int) + 1))) rfl) ?_
        refine FL.nil ?_
        obtain rfl := Option.some.inj hp
        exact ⟨rfl, ⟨_, _, _, _, _, _, _, S86, i87, els79, els84, nd80, (nat_succ rfl (lt_of_get hx74) (p0.mono (i66.tr i87)).le), k91, k92, k93, k94⟩⟩
    ·
      clear hp hq
      rintro s74 f173 w172 ⟨H169, v75, n76, cs78, v81, n82, cs83, S170, i171, els79, els84, nd80, k174, k175, k176, k177, k178⟩
      refine FW.seq (FW.seq (FW.region ?_))
      refine FL.v (E.move k174) ?_
      refine FL.v (E.move k175) ?_
      refine FL.v (E.lenP te29 rfl p0) ?_
      refine FL.v (E.lss rfl rfl) ?_
      refine FL.nil ?_
      refine FW.condF rfl dlt_len ?_
      refine FW.exit ?_
      exact ⟨nofun, rfl, ⟨_, _, _, _, _, _, _, S170, i171, els79, els84, nd80, k176⟩⟩
    ·
      clear hq
      intro e f167 w166 hD
      rcases q74 with s74 | x74
      ·
        obtain ⟨rfl, hD⟩ := hD
        obtain ⟨H163, v75, n76, cs78, v81, n82, cs83, S164, i165, els79, els84, nd80, k168⟩ := hD
        replace hp := el_go hp
        refine FW.seq (FW.region ?_)
        refine FL.v (E.move k168) ?_
        refine FL.v (E.assign (v := v75) rfl) ?_
        refine FL.nil ?_
        refine FW.ret ?_
        obtain rfl := Option.some.inj hp
        exact ⟨.inr rfl, res1 rfl rfl ⟨_, _, _, _, rfl, (S164.sel [0] (by decide) rfl), els79, nd80⟩⟩
      · exact x74.elim

@[reducible] def p_spec_LearnedToProof (Ha : GH) (wa : World) (r : ((List ResStep) × Bool)) : Ending → World → Prop :=
 fun e w' => ∃ H' : GH, ∃ v0 : Value, ∃ n0 : Nat, ∃ c0 : List Value, e = .returned (Value.tuple #[v0, vB r.2]) ∧ St Ha wa H' w' [.row 63 4 v0 n0 c0] ∧ Els (up wa.heap.size H') eResStep 4 c0 r.1 ∧ (bl c0).Nodup
theorem w_spec_LearnedToProof {Ha : GH} {wa : World} (hs : Sl Ha wa) (a0 : Cnf) (v0_1 : Value) (p0_1 : RSl Ha (eL eI 1) 1 v0_1 a0.clauses) (v1 : Value) (a1 : List (List Int)) (p1 : RSl Ha (eL eI 1) 1 v1 a1) {r : ((List ResStep) × Bool)} (hp : (PF.spec_LearnedToProof a0 a1) = some r) :
  Calls prog 32 #[vA #[vI a0.vars, v0_1], v1] wa (p_spec_LearnedToProof Ha wa r) := by
 unfold PF.spec_LearnedToProof at hp; have S0 := St.init hs; refine calls_go (N := 33) (args := [vA #[vI a0.vars, v0_1], v1]) func32 rfl rfl rfl ?_; refine FW.sr ?_; obtain ⟨b21, w22, run23, S24⟩ := S0.box (P := prog) 28 [vI a0.vars, v0_1] (v := vA #[vI a0.vars, v0_1]) rfl (oC rfl (oC p0_1.one ones_nil)); refine FL.v (E.box rfl run23) ?_; obtain ⟨H25, S26, i27, at28⟩ := S24.sealBox (i := 0) (l' := []) rfl rfl; refine FL.as (v := vN) rfl ?_; refine FL.as (v := vB false) rfl ?_; refine FL.nil (FW.seq (FW.sr ?_)); refine FL.v (E.load rfl (run_loadA isAgg28 sizeOf28 (at28.now S26.sl) rfl)) ?_; refine FL.mv (v := v1) rfl ?_; obtain ⟨r29, hr30, hp⟩ := bnd hp; refine FL.c (E.call call46 (A2 rfl rfl)) (w_spec_l11Good S26.sl a0 v0_1 (p0_1.mono i27) v1 a1 (p1.mono i27) hr30) ?_; rintro e w31 ⟨rfl, r32⟩; refine ⟨_, rfl, ?_⟩; have S33 := S26.call r32; refine FL.v (E.not rfl) ?_; refine FL.mv (v := vB (!r29)) rfl ?_; refine FL.cut 4 (fun f w => ∃ H : GH, St Ha wa H w [] ∧ Inc H25 H ∧ f 1 = v1 ∧ f 2 = vP (⟨b21, 0, none⟩) ∧ f 16 = vB (bif (!r29) then true else ((len a1) == 0))) ?_ ?_
 ·
  rcases bcase (!r29) with c40 | c40
  ·
   refine FL.skip (wN c40) rfl ?_; refine FL.skip (wN c40) rfl ?_; refine FL.skip (wN c40) rfl ?_; refine FL.v (E.pickT rfl c40 rfl) ?_; exact FL.nil ⟨rfl, _, S33, I0, rfl, rfl, (congrArg vB (bifT c40).symm)⟩
  ·
   refine FL.y (wY c40) (E.move (v := v1) rfl) ?_; refine FL.y (wY c40) (E.lenP te22 rfl p1) ?_; refine FL.y (wY c40) (E.eql rfl rfl) ?_; refine FL.v (E.pickF rfl c40 rfl) ?_; exact FL.nil ⟨rfl, _, S33, I0, rfl, rfl, (congrArg vB (bifF c40).symm)⟩
 rintro f39 w38 ⟨H35, S36, i37, k41, k42, k43⟩; refine FL.nil ?_; rcases ifB hp with ⟨c44, hp⟩ | ⟨c44, hp⟩
 ·
  refine FW.condT k43 c44 ?_; refine FW.sr ?_; obtain ⟨v45, w46, run47, S48⟩ := S36.buildSlice (P := prog) te29 [] (parts := #[]) (cells := []) rfl szs_nil fc_nil ones_nil (nB rfl); have els49 : Els (up wa.heap.size H35) eResStep 4 [] [] := Els.nil; refine FL.v (E.buildSlice (B0) run47) ?_; refine FL.as (v := v45) rfl ?_; refine FL.as (v := vB false) rfl ?_; refine FL.nil (FW.ret ?_); cases hp; exact ⟨.inr rfl, res2 rfl rfl rfl ⟨_, _, _, _, rfl, S48, els49, (show (bl []).Nodup from List.nodup_nil)⟩⟩
 ·
  refine FW.condF k43 c44 ?_; refine FW.skip (FW.sr ?_); refine FL.v (E.load k42 (run_loadA isAgg28 sizeOf28 ((at28.mono i37).now S36.sl) rfl)) ?_; refine FL.mv k41 ?_; obtain ⟨r50, hr51, hp⟩ := bnd hp; refine FL.c (E.call call58 (A2 rfl rfl)) (w_spec_l11Steps S36.sl a0 v0_1 (p0_1.mono (i27.tr i37)) v1 a1 (p1.mono (i27.tr i37)) hr51) ?_; rintro e w53 ⟨H52, v56, n57, cs58, rfl, r55, els59, nd60⟩; refine ⟨_, rfl, ?_⟩; have nv61 : New H35 cs58 := New.of_up S36.sl els59.dom; have els59 := els59.mono (up_le S36.size); have S54 := S36.join (l' := [.row 63 4 v56 n57 cs58]) r55 rfl; refine FL.mv (v := Value.tuple #[v56, vI r50.2]) rfl ?_; refine FL.v (E.extract (i := 0) rfl rfl) ?_; refine FL.v (E.extract (i := 1) rfl rfl) ?_; refine FL.as (v := v56) rfl ?_; refine FL.as (v := vI r50.2) rfl ?_; refine FL.nil (FW.seq (FW.sr ?_)); refine FL.mv (v := v56) rfl ?_; refine FL.v (E.lenO te29 rfl S54 (i := 0) rfl els59 (by decide)) ?_; refine FL.v (E.gtr rfl rfl) ?_; refine FL.nil ?_; rcases ifB hp with ⟨c62, hp⟩ | ⟨c62, hp⟩
  ·
   refine FW.condT rfl c62 ?_; refine FW.sr ?_; obtain ⟨v63, w64, run65, S66⟩ := S54.buildSlice (P := prog) te29 [] (parts := #[]) (cells := []) rfl szs_nil fc_nil ones_nil (nB rfl); have els67 : Els (up wa.heap.size H52) eResStep 4 [] [] := Els.nil; refine FL.v (E.buildSlice (B0) run65) ?_; refine FL.as (v := v63) rfl ?_; refine FL.as (v := vB false) rfl ?_; refine FL.nil (FW.ret ?_); cases hp; exact ⟨.inr rfl, res2 rfl rfl rfl ⟨_, _, _, _, rfl, (S66.sel [0] (by decide) rfl), els67, (show (bl []).Nodup from List.nodup_nil)⟩⟩
  ·
   refine FW.condF rfl c62 ?_; refine FW.skip (FW.sr ?_); refine FL.mv (v := v56) rfl ?_; refine FL.mv (v := vI r50.2) rfl ?_; refine FL.v (E.add rfl rfl) ?_; obtain ⟨H68, S69, i70, ns73, nv72⟩ := S54.sealRowN (i := 0) (l' := []) rfl els59 nd60 (by decide) rfl; have h71 := ns73.rsl; obtain ⟨xs74, hc75, hp⟩ := bnd hp; obtain ⟨v76, run77, h78⟩ := h71.cut te29 hc75 (lo := none) (hi := some (vI (wr (r50.2 + 1)))) (.inl ⟨rfl, rfl⟩) (.inr ⟨_, rfl⟩); refine FL.v (E.slice te29 rfl rfl (congrArg some rfl) rfl (run77 _)) ?_; obtain ⟨r79, hr80, hp⟩ := bnd hp; refine FL.c (E.call call59 (A1 rfl)) (w_spec_l7Trim S69.sl v76 xs74 (h78.mono upI) hr80) ?_; rintro e w82 ⟨H81, v85, n86, cs87, rfl, r84, els88, nd89⟩; refine ⟨_, rfl, ?_⟩; have nv90 : New H68 cs87 := New.of_up S69.sl els88.dom; have els88 := els88.mono (up_le S69.size); have S83 := S69.join (l' := [.row 63 4 v85 n86 cs87]) r84 rfl; refine FL.as (v := v85) rfl ?_; refine FL.as (v := vB true) rfl ?_; refine FL.nil (FW.ret ?_); cases hp; exact ⟨.inr rfl, res2 rfl rfl rfl ⟨_, _, _, _, rfl, S83, els88, nd89⟩⟩

theorem w_impl_within {Ha : GH} {wa : World} (hs : Sl Ha wa) (a0 : Int) (a1 : Int) (a2 : Int) :
  Calls prog 53 #[vI a0, vI a1, vI a2] wa (Sc Ha wa (vB (PF.impl_within a0 a1 a2))) := by
 obtain ⟨r, hp⟩ : ∃ r, (PF.impl_within a0 a1 a2) = r := ⟨_, rfl⟩; rw [hp]; unfold PF.impl_within at hp; have S0 := St.init hs; refine calls_go (N := 15) (args := [vI a0, vI a1, vI a2]) func53 rfl rfl rfl ?_; refine FW.sr ?_; refine FL.as (v := vB false) rfl ?_; refine FL.nil (FW.sr ?_); refine FL.mv (v := vI a0) rfl ?_; refine FL.mv (v := vI a1) rfl ?_; refine FL.v (E.geq rfl rfl) ?_; refine FL.mv (v := vB (decide (a1 ≤ a0))) rfl ?_; refine FL.cut 4 (fun f w => ∃ H : GH, St Ha wa H w [] ∧ Inc Ha H ∧ f 14 = vB (bif (decide (a1 ≤ a0)) then (decide (a0 ≤ a2)) else false)) ?_ ?_
 ·
  rcases bcase (decide (a1 ≤ a0)) with c27 | c27
  ·
   refine FL.y (wY c27) (E.move (v := vI a0) rfl) ?_; refine FL.y (wY c27) (E.move (v := vI a2) rfl) ?_; refine FL.y (wY c27) (E.leq rfl rfl) ?_; refine FL.v (E.pickT rfl c27 rfl) ?_; exact FL.nil ⟨rfl, _, S0, I0, (congrArg vB (bifT c27).symm)⟩
  ·
   refine FL.skip (wN c27) rfl ?_; refine FL.skip (wN c27) rfl ?_; refine FL.skip (wN c27) rfl ?_; refine FL.v (E.pickF rfl c27 rfl) ?_; exact FL.nil ⟨rfl, _, S0, I0, (congrArg vB (bifF c27).symm)⟩
 rintro f26 w25 ⟨H22, S23, i24, k28⟩; refine FL.as k28 ?_; refine FL.nil (FW.ret ?_); obtain rfl := hp; exact ⟨.inr rfl, res1 rfl rfl ⟨rfl, S23.back⟩⟩

theorem w_impl_isLiteral {Ha : GH} {wa : World} (hs : Sl Ha wa) (a0 : Int) (a1 : Int) :
  Calls prog 140 #[vI a0, vI a1] wa (Sc Ha wa (vB (PF.impl_isLiteral a0 a1))) := by
 obtain ⟨r, hp⟩ : ∃ r, (PF.impl_isLiteral a0 a1) = r := ⟨_, rfl⟩; rw [hp]; unfold PF.impl_isLiteral at hp; have S0 := St.init hs; refine calls_go (N := 14) (args := [vI a0, vI a1]) func140 rfl rfl rfl ?_; refine FW.sr ?_; refine FL.as (v := vB false) rfl ?_; refine FL.nil (FW.sr ?_); refine FL.mv (v := vI a1) rfl ?_; refine FL.v (E.neq rfl rfl) ?_; refine FL.mv (v := vB (!(a1 == 0))) rfl ?_; refine FL.cut 6 (fun f w => ∃ H : GH, St Ha wa H w [] ∧ Inc Ha H ∧ f 13 = vB (bif (!(a1 == 0)) then (PF.impl_within a1 (wr (-a0)) a0) else false)) ?_ ?_
 ·
  rcases bcase (!(a1 == 0)) with c30 | c30
  ·
   refine FL.y (wY c30) (E.move (v := vI a1) rfl) ?_; refine FL.y (wY c30) (E.move (v := vI a0) rfl) ?_; refine FL.y (wY c30) (E.neg rfl) ?_; refine FL.y (wY c30) (E.move (v := vI a0) rfl) ?_; refine FL.call (wY c30) rfl rfl (E.call call53 (A3 rfl rfl rfl)) (w_impl_within S0.sl a1 (wr (-a0)) a0) ?_; rintro e w31 ⟨rfl, r32⟩; refine ⟨_, rfl, ?_⟩; have S33 := S0.call r32; refine FL.v (E.pickT rfl c30 rfl) ?_; exact FL.nil ⟨rfl, _, S33, I0, (congrArg vB (bifT c30).symm)⟩
  ·
   refine FL.skip (wN c30) rfl ?_; refine FL.skip (wN c30) rfl ?_; refine FL.skip (wN c30) rfl ?_; refine FL.skip (wN c30) rfl ?_; refine FL.skip (wN c30) rfl ?_; refine FL.v (E.pickF rfl c30 rfl) ?_; exact FL.nil ⟨rfl, _, S0, I0, (congrArg vB (bifF c30).symm)⟩
 rintro f29 w28 ⟨H25, S26, i27, k34⟩; refine FL.as k34 ?_; refine FL.nil (FW.ret ?_); obtain rfl := hp; exact ⟨.inr rfl, res1 rfl rfl ⟨rfl, S26.back⟩⟩

theorem w_impl_abs {Ha : GH} {wa : World} (hs : Sl Ha wa) (a0 : Int) :
  Calls prog 91 #[vI a0] wa (Sc Ha wa (vI (PF.impl_abs a0))) := by
 obtain ⟨r, hp⟩ : ∃ r, (PF.impl_abs a0) = r := ⟨_, rfl⟩; rw [hp]; unfold PF.impl_abs at hp; have S0 := St.init hs; refine calls_go (N := 7) (args := [vI a0]) func91 rfl rfl rfl ?_; refine FW.sr ?_; refine FL.as (v := vI 0) rfl ?_; refine FL.nil (FW.sr ?_); refine FL.mv (v := vI a0) rfl ?_; refine FL.mv (v := vI a0) rfl ?_; refine FL.v (E.neg rfl) ?_; refine FL.v (E.max2 rfl rfl) ?_; refine FL.as (v := vI (mx a0 (wr (-a0)))) rfl ?_; refine FL.nil (FW.ret ?_); obtain rfl := hp; exact ⟨.inr rfl, res1 rfl rfl ⟨rfl, S0.back⟩⟩

theorem w_impl_varsOk {Ha : GH} {wa : World} (hs : Sl Ha wa) (a0 : Int) :
  Calls prog 130 #[vI a0] wa (Sc Ha wa (vB (PF.impl_varsOk a0))) := by
 obtain ⟨r, hp⟩ : ∃ r, (PF.impl_varsOk a0) = r := ⟨_, rfl⟩; rw [hp]; unfold PF.impl_varsOk at hp; have S0 := St.init hs; refine calls_go (N := 5) (args := [vI a0]) func130 rfl rfl rfl ?_; refine FW.sr ?_; refine FL.as (v := vB false) rfl ?_; refine FL.nil (FW.sr ?_); refine FL.mv (v := vI a0) rfl ?_; refine FL.c (E.call call53 (A3 rfl rfl rfl)) (w_impl_within S0.sl a0 0 12) ?_; rintro e w21 ⟨rfl, r22⟩; refine ⟨_, rfl, ?_⟩; have S23 := S0.call r22; refine FL.as (v := vB (PF.impl_within a0 0 12)) rfl ?_; refine FL.nil (FW.ret ?_); obtain rfl := hp; exact ⟨.inr rfl, res1 rfl rfl ⟨rfl, S23.back⟩⟩

theorem w_impl_IsClause {Ha : GH} {wa : World} (hs : Sl Ha wa) (a0 : Int) (v1 : Value) (a1 : List Int) (p1 : RSl Ha eI 1 v1 a1) {r : Bool} (hp : (PF.impl_IsClause a0 a1) = some r) :
  Calls prog 112 #[vI a0, v1] wa (Sc Ha wa (vB r)) := by
 unfold PF.impl_IsClause at hp; have S0 := St.init hs; refine calls_go (N := 36) (args := [vI a0, v1]) func112 rfl rfl rfl ?_; refine FW.sr ?_; refine FL.as (v := vB false) rfl ?_; refine FL.nil (FW.seq (FW.sr ?_)); refine FL.mv (v := v1) rfl ?_; refine FL.v (E.lenP te44 rfl p1) ?_; refine FL.mv (v := vI 0) rfl ?_; refine FL.nil ?_; obtain ⟨q22, hq, hp⟩ := bndR hp; refine FW.block ?_; refine FW.mono (FW.forL (S := Unit) (X := Bool) (fun (i22 : Nat) (s22 : Unit) f w => ∃ H : GH, St Ha wa H w [] ∧ Inc Ha H ∧ f 9 = vI ((i22 : Nat) : Int) ∧ f 0 = vI a0 ∧ f 1 = v1 ∧ f 7 = v1 ∧ f 8 = vI (len a1)) (fun q e f w => match q with | .go s22 => e = Exit.exit 0 ∧ (∃ H : GH, St Ha wa H w [] ∧ Inc Ha H ∧ f 0 = vI a0) | .rt x => ((e = Exit.ret) ∧ (fun e f w => (e = Exit.normal ∨ e = Exit.ret) ∧ ∀ a, Fr (δ := []) 36 a f → ∃ v, (results Tryz.f112 a.tmps).run prog w = .ok v w ∧ (Sc Ha wa (vB x)) (.returned v) w) e f w)) hq ⟨_, S0, I0, rfl, rfl, rfl, rfl, rfl⟩ ?_ ?_) ?_
 ·
  clear hp hq; rintro i22 y21 s22 f121 w120 ⟨H117, S118, i119, k122, k123, k124, k125, k126⟩ hx22 o211 hp; refine FW.sr ?_; refine FL.v (E.lssT k122 k126 (lss_len hx22)) ?_; refine FL.nil (FW.seq ?_); refine FW.condT rfl rfl ?_; refine FW.skip (FW.seq (FW.block (FW.sr ?_))); refine FL.mv k122 ?_; obtain ⟨p127, cs128, pt129, l130, at131, rel132⟩ := p1.at (ix_nat hx22); obtain rfl := eI_open rel132; refine FL.v (E.indexAddr te44 k125 k122 pt129) ?_; refine FL.v (E.load rfl (run_load0 isAgg3 ((at131.mono i119).now S118.sl) rfl)) ?_; refine FL.as (v := vI ((i22 : Nat) : Int)) rfl ?_; refine FL.as (v := vI y21) rfl ?_; refine FL.nil (FW.seq ?_); refine FW.draw (fun w' => Run w120.heap.size H117 w120 H117 w') (by kernel_rfl) (by kernel_rfl) (run_drew S118.sl) ?_; refine FD.v (fun _ z => (E.move k123)) ?_; refine FD.v (fun _ z => (E.move (v := vI y21) rfl)) ?_; refine FD.call rfl rfl rfl (fun _ z => (E.call call140 (A2 rfl rfl))) (fun _ z => Calls.cls z (w_impl_isLiteral (S118.call z).sl a0 y21)) ?_; refine FD.v (fun _ z => (E.not rfl)) ?_; refine FD.v (fun _ z => (E.move (v := vB (!(PF.impl_isLiteral a0 y21))) rfl)) ?_; obtain ⟨t164, hqt164, hp⟩ := bnd hp; refine FD.cut 14 (fun f => f 0 = vI a0 ∧ f 1 = v1 ∧ f 7 = v1 ∧ f 8 = vI (len a1) ∧ f 9 = vI ((i22 : Nat) : Int) ∧ f 32 = vB t164) ?_ ?_
  ·
   clear hp; have hp := hqt164; clear hqt164; rcases ifB hp with ⟨c170, hp⟩ | ⟨c170, hp⟩
   ·
    refine FD.skip (wN c170) rfl ?_; refine FD.skip (wN c170) rfl ?_; refine FD.skip (wN c170) rfl ?_; refine FD.skip (wF_undef rfl rfl rfl) rfl ?_; refine FD.skip (wF_undef rfl rfl rfl) rfl ?_; refine FD.skip (wF_undef rfl rfl rfl) rfl ?_; refine FD.skip (wF_undef rfl rfl rfl) rfl ?_; refine FD.skip (wF_undef rfl rfl rfl) rfl ?_; refine FD.skip (wF_undef rfl rfl rfl) rfl ?_; refine FD.skip (wF_undef rfl rfl rfl) rfl ?_; refine FD.skip (wF_undef rfl rfl rfl) rfl ?_; refine FD.skip (wF_undef rfl rfl rfl) rfl ?_; refine FD.skip (wN c170) rfl ?_; cases hp; refine FD.v (fun _ z => (E.pickT rfl c170 rfl)) ?_; exact FD.nil ⟨k123, k124, k125, k126, k122, rfl⟩
   ·
    refine FD.y (wY c170) (fun _ z => (E.move (v := vI ((i22 : Nat) : Int)) rfl)) ?_; refine FD.y (wY c170) (fun _ z => (E.gtr rfl rfl)) ?_; refine FD.y (wY c170) (fun _ z => (E.move (v := vB (decide (0 < ((i22 : Nat) : Int)))) rfl)) ?_; obtain ⟨t179, hqt179, hp⟩ := bnd hp; refine FD.cut 10 (fun f => f 0 = vI a0 ∧ f 1 = v1 ∧ f 7 = v1 ∧ f 8 = vI (len a1) ∧ f 9 = vI ((i22 : Nat) : Int) ∧ f 18 = vB (!(PF.impl_isLiteral a0 y21)) ∧ f 31 = vB t179) ?_ ?_
    ·
     clear hp; have hp := hqt179; clear hqt179; rcases ifB hp with ⟨c185, hp⟩ | ⟨c185, hp⟩
     ·
      refine FD.y (wY c185) (fun _ z => (E.move (v := vI y21) rfl)) ?_; refine FD.call (wY c185) rfl rfl (fun _ z => (E.call call91 (A1 rfl))) (fun _ z => Calls.cls z (w_impl_abs (S118.call z).sl y21)) ?_; refine FD.y (wY c185) (fun _ z => (E.move k124)) ?_; refine FD.y (wY c185) (fun _ z => (E.move (v := vI ((i22 : Nat) : Int)) rfl)) ?_; refine FD.y (wY c185) (fun _ z => (E.sub rfl rfl)) ?_; obtain ⟨x192, hx193, hp⟩ := bnd hp; obtain ⟨p186, cs187, pt188, l189, at190, rel191⟩ := p1.at hx193; obtain rfl := eI_open rel191; refine FD.y (wY c185) (fun _ z => (E.indexAddr te44 rfl rfl pt188)) ?_; refine FD.y (wY c185) (fun _ z => (E.load rfl (run_load0 isAgg3 ((at190.mono i119).now (S118.call z).sl) rfl))) ?_; refine FD.call (wY c185) rfl rfl (fun _ z => (E.call call91 (A1 rfl))) (fun _ z => Calls.cls z (w_impl_abs (S118.call z).sl x192)) ?_; refine FD.y (wY c185) (fun _ z => (E.leq rfl rfl)) ?_; cases hp; refine FD.y (wY c170) (fun _ z => (E.pickT rfl c185 rfl)) ?_; exact FD.nil ⟨k123, k124, k125, k126, k122, rfl, rfl⟩
     ·
      refine FD.skip (wN c185) rfl ?_; refine FD.skip (wN c185) rfl ?_; refine FD.skip (wN c185) rfl ?_; refine FD.skip (wN c185) rfl ?_; refine FD.skip (wN c185) rfl ?_; refine FD.skip (wN c185) rfl ?_; refine FD.skip (wN c185) rfl ?_; refine FD.skip (wN c185) rfl ?_; refine FD.skip (wN c185) rfl ?_; cases hp; refine FD.y (wY c170) (fun _ z => (E.pickF rfl c185 rfl)) ?_; exact FD.nil ⟨k123, k124, k125, k126, k122, rfl, rfl⟩
    rintro f184 ⟨k194, k195, k196, k197, k198, k199, k200⟩; cases hp; refine FD.v (fun _ z => (E.pickF k199 c170 k200)) ?_; exact FD.nil ⟨k194, k195, k196, k197, k198, rfl⟩
  rintro f169 ⟨k201, k202, k203, k204, k205, k206⟩; refine FD.nil ?_; intro w207 r209; have S208 := S118.call r209; rcases ifB hp with ⟨c210, hp⟩ | ⟨c210, hp⟩
  ·
   refine FW.condT k206 c210 ?_; refine FW.sr ?_; refine FL.as (v := vB false) rfl ?_; refine FL.nil (FW.ret ?_); cases hp; exact ⟨nofun, rfl, ⟨.inr rfl, res1 rfl rfl ⟨rfl, S208.back⟩⟩⟩
  ·
   refine FW.condF k206 c210 ?_; refine FW.skip (FW.region ?_); refine FL.v (E.add k205 rfl) ?_; refine FL.mv (v := vI (wr (((i22 : Nat) : Int) + 1))) rfl ?_; refine FL.nil ?_; cases hp; exact ⟨rfl, ⟨_, S208, i119, (nat_succ rfl (lt_of_get hx22) (p1.mono i119).le), k201, k202, k203, k204⟩⟩
 ·
  clear hp hq; rintro s22 f225 w224 ⟨H221, S222, i223, k226, k227, k228, k229, k230⟩; refine FW.sr ?_; refine FL.v (E.lss k226 k230) ?_; refine FL.nil (FW.seq ?_); refine FW.condF rfl dlt_len ?_; refine FW.exit ?_; exact ⟨nofun, rfl, ⟨_, S222, i223, k227⟩⟩
 ·
  clear hq; intro e f216 w215 hD; rcases q22 with s22 | x22
  ·
   obtain ⟨rfl, hD⟩ := hD; obtain ⟨H212, S213, i214, k217⟩ := hD; replace hp := el_go hp; refine FW.sr ?_; refine FL.mv k217 ?_; refine FL.c (E.call call130 (A1 rfl)) (w_impl_varsOk S213.sl a0) ?_; rintro e w218 ⟨rfl, r219⟩; refine ⟨_, rfl, ?_⟩; have S220 := S213.call r219; refine FL.as (v := vB (PF.impl_varsOk a0)) rfl ?_; refine FL.nil (FW.ret ?_); cases hp; exact ⟨.inr rfl, res1 rfl rfl ⟨rfl, S220.back⟩⟩
  ·
   obtain ⟨he, hL⟩ := hD; replace hp := el_rt hp; cases hp; subst he; exact hL

theorem w_impl_IsCnf {Ha : GH} {wa : World} (hs : Sl Ha wa) (a0 : Cnf) (v0_1 : Value) (p0_1 : RSl Ha (eL eI 1) 1 v0_1 a0.clauses) {r : Bool} (hp : (PF.impl_IsCnf a0) = some r) :
  Calls prog 99 #[vA #[vI a0.vars, v0_1]] wa (Sc Ha wa (vB r)) := by
 unfold PF.impl_IsCnf at hp; have S0 := St.init hs; refine calls_go (N := 27) (args := [vA #[vI a0.vars, v0_1]]) func99 rfl rfl rfl ?_; refine FW.sr ?_; obtain ⟨b21, w22, run23, S24⟩ := S0.box (P := prog) 28 [vI a0.vars, v0_1] (v := vA #[vI a0.vars, v0_1]) rfl (oC rfl (oC p0_1.one ones_nil)); refine FL.v (E.box rfl run23) ?_; obtain ⟨H25, S26, i27, at28⟩ := S24.sealBox (i := 0) (l' := []) rfl rfl; refine FL.as (v := vB false) rfl ?_; refine FL.nil (FW.seq (FW.sr ?_)); refine FL.v (E.fieldAddr tf28_1 rfl) ?_; refine FL.v (E.load rfl (run_load1 isAgg22 (at28.now S26.sl) rfl)) ?_; refine FL.v (E.lenP te22 rfl p0_1) ?_; refine FL.mv (v := vI 0) rfl ?_; refine FL.nil ?_; obtain ⟨q30, hq, hp⟩ := bndR hp; refine FW.block ?_; refine FW.mono (FW.forL (S := Unit) (X := Bool) (fun (i30 : Nat) (s30 : Unit) f w => ∃ H : GH, St Ha wa H w [] ∧ Inc H25 H ∧ f 8 = vI ((i30 : Nat) : Int) ∧ f 1 = vP (⟨b21, 0, none⟩) ∧ f 6 = v0_1 ∧ f 7 = vI (len a0.clauses)) (fun q e f w => match q with | .go s30 => e = Exit.exit 0 ∧ (∃ H : GH, St Ha wa H w [] ∧ Inc H25 H ∧ f 1 = vP (⟨b21, 0, none⟩)) | .rt x => ((e = Exit.ret) ∧ (fun e f w => (e = Exit.normal ∨ e = Exit.ret) ∧ ∀ a, Fr (δ := []) 27 a f → ∃ v, (results Tryz.f99 a.tmps).run prog w = .ok v w ∧ (Sc Ha wa (vB x)) (.returned v) w) e f w)) hq ⟨_, S26, I0, rfl, rfl, rfl, rfl⟩ ?_ ?_) ?_
 ·
  clear hp hq; rintro i30 y29 s30 f58 w57 ⟨H54, S55, i56, k59, k60, k61, k62⟩ hx30 o77 hp; refine FW.sr ?_; refine FL.v (E.lssT k59 k62 (lss_len hx30)) ?_; refine FL.nil (FW.seq ?_); refine FW.condT rfl rfl ?_; refine FW.skip (FW.seq (FW.block (FW.sr ?_))); obtain ⟨p63, cs64, pt65, l66, at67, rel68⟩ := p0_1.at (ix_nat hx30); obtain ⟨v69, rfl, h70⟩ := eL_open rel68; refine FL.v (E.indexAddr te22 k61 k59 pt65) ?_; refine FL.v (E.load rfl (run_load0 isAgg44 ((at67.mono (i27.tr i56)).now S55.sl) rfl)) ?_; refine FL.as (v := v69) rfl ?_; refine FL.nil (FW.sr ?_); refine FL.v (E.fieldAddr tf28_0 k60) ?_; refine FL.v (E.load rfl (run_load1 isAgg3 ((at28.mono i56).now S55.sl) rfl)) ?_; refine FL.mv (v := v69) rfl ?_; obtain ⟨r71, hr72, hp⟩ := bnd hp; refine FL.c (E.call call112 (A2 rfl rfl)) (w_impl_IsClause S55.sl a0.vars v69 y29 (h70.mono (i27.tr i56)) hr72) ?_; rintro e w73 ⟨rfl, r74⟩; refine ⟨_, rfl, ?_⟩; have S75 := S55.call r74; refine FL.v (E.not rfl) ?_; refine FL.nil ?_; rcases ifB hp with ⟨c76, hp⟩ | ⟨c76, hp⟩
  ·
   refine FW.condT rfl c76 ?_; refine FW.sr ?_; refine FL.as (v := vB false) rfl ?_; refine FL.nil (FW.ret ?_); cases hp; exact ⟨nofun, rfl, ⟨.inr rfl, res1 rfl rfl ⟨rfl, S75.back⟩⟩⟩
  ·
   refine FW.condF rfl c76 ?_; refine FW.skip (FW.region ?_); refine FL.v (E.add k59 rfl) ?_; refine FL.mv (v := vI (wr (((i30 : Nat) : Int) + 1))) rfl ?_; refine FL.nil ?_; cases hp; exact ⟨rfl, ⟨_, S75, i56, (nat_succ rfl (lt_of_get hx30) (p0_1.mono (i27.tr i56)).le), k60, k61, k62⟩⟩
 ·
  clear hp hq; rintro s30 f99 w98 ⟨H95, S96, i97, k100, k101, k102, k103⟩; refine FW.sr ?_; refine FL.v (E.lss k100 k103) ?_; refine FL.nil (FW.seq ?_); refine FW.condF rfl dlt_len ?_; refine FW.exit ?_; exact ⟨nofun, rfl, ⟨_, S96, i97, k101⟩⟩
 ·
  clear hq; intro e f82 w81 hD; rcases q30 with s30 | x30
  ·
   obtain ⟨rfl, hD⟩ := hD; obtain ⟨H78, S79, i80, k83⟩ := hD; replace hp := el_go hp; refine FW.sr ?_; refine FL.v (E.fieldAddr tf28_0 k83) ?_; refine FL.v (E.load rfl (run_load1 isAgg3 ((at28.mono i80).now S79.sl) rfl)) ?_; refine FL.c (E.call call130 (A1 rfl)) (w_impl_varsOk S79.sl a0.vars) ?_; rintro e w84 ⟨rfl, r85⟩; refine ⟨_, rfl, ?_⟩; have S86 := S79.call r85; refine FL.mv (v := vB (PF.impl_varsOk a0.vars)) rfl ?_; refine FL.cut 5 (fun f w => ∃ H : GH, St Ha wa H w [] ∧ Inc H78 H ∧ f 26 = vB (bif (PF.impl_varsOk a0.vars) then (decide ((len a0.clauses) ≤ 60)) else false)) ?_ ?_
   ·
    rcases bcase (PF.impl_varsOk a0.vars) with c93 | c93
    ·
     refine FL.y (wY c93) (E.fieldAddr tf28_1 k83) ?_; refine FL.y (wY c93) (E.load rfl (run_load1 isAgg22 ((at28.mono i80).now S86.sl) rfl)) ?_; refine FL.y (wY c93) (E.lenP te22 rfl p0_1) ?_; refine FL.y (wY c93) (E.leq rfl rfl) ?_; refine FL.v (E.pickT rfl c93 rfl) ?_; exact FL.nil ⟨rfl, _, S86, I0, (congrArg vB (bifT c93).symm)⟩
    ·
     refine FL.skip (wN c93) rfl ?_; refine FL.skip (wN c93) rfl ?_; refine FL.skip (wN c93) rfl ?_; refine FL.skip (wN c93) rfl ?_; refine FL.v (E.pickF rfl c93 rfl) ?_; exact FL.nil ⟨rfl, _, S86, I0, (congrArg vB (bifF c93).symm)⟩
   rintro f92 w91 ⟨H88, S89, i90, k94⟩; refine FL.as k94 ?_; refine FL.nil (FW.ret ?_); cases hp; exact ⟨.inr rfl, res1 rfl rfl ⟨rfl, S89.back⟩⟩
  ·
   obtain ⟨he, hL⟩ := hD; replace hp := el_rt hp; cases hp; subst he; exact hL

theorem w_slices_IndexFunc_LLint_Lint {Ha : GH} {wa : World} (hs : Sl Ha wa) (v0 : Value) (a0 : List (List Int)) (p0 : RSl Ha (eL eI 1) 1 v0 a0) (v1 : Value) (a1 : (List Int) → Option Bool) (p1 : Fn_List_Int_to_B prog Ha v1 a1) {r : Int} (hp : (PF.slices_IndexFunc_LLint_Lint a0 a1) = some r) :
  Calls prog 139 #[v0, v1] wa (Sc Ha wa (vI r)) := by
 unfold PF.slices_IndexFunc_LLint_Lint at hp; have S0 := St.init hs; refine calls_go (N := 19) (args := [v0, v1]) func139 rfl rfl rfl ?_; refine FW.sr ?_; refine FL.as (v := vI 0) rfl ?_; refine FL.nil (FW.seq (FW.sr ?_)); refine FL.mv (v := v0) rfl ?_; refine FL.v (E.lenP te22 rfl p0) ?_; refine FL.mv (v := vI 0) rfl ?_; refine FL.nil ?_; obtain ⟨q22, hq, hp⟩ := bndR hp; refine FW.block ?_; refine FW.mono (FW.forL (S := Unit) (X := Int) (fun (i22 : Nat) (s22 : Unit) f w => ∃ H : GH, St Ha wa H w [] ∧ Inc Ha H ∧ f 8 = vI ((i22 : Nat) : Int) ∧ f 0 = v0 ∧ f 1 = v1 ∧ f 7 = vI (len a0)) (fun q e f w => match q with | .go s22 => e = Exit.exit 0 ∧ (∃ H : GH, St Ha wa H w [] ∧ Inc Ha H) | .rt x => ((e = Exit.ret) ∧ (fun e f w => (e = Exit.normal ∨ e = Exit.ret) ∧ ∀ a, Fr (δ := []) 19 a f → ∃ v, (results Tryz.f139 a.tmps).run prog w = .ok v w ∧ (Sc Ha wa (vI x)) (.returned v) w) e f w)) hq ⟨_, S0, I0, rfl, rfl, rfl, rfl⟩ ?_ ?_) ?_
 ·
  clear hp hq; rintro i22 y21 s22 f55 w54 ⟨H51, S52, i53, k56, k57, k58, k59⟩ hx22 o79 hp; refine FW.sr ?_; refine FL.v (E.lssT k56 k59 (lss_len hx22)) ?_; refine FL.nil (FW.seq ?_); refine FW.condT rfl rfl ?_; refine FW.skip (FW.seq (FW.block (FW.sr ?_))); refine FL.mv k56 ?_; refine FL.as (v := vI ((i22 : Nat) : Int)) rfl ?_; refine FL.nil (FW.sr ?_); refine FL.mv k58 ?_; refine FL.mv k57 ?_; refine FL.mv (v := vI ((i22 : Nat) : Int)) rfl ?_; obtain ⟨p60, cs61, pt62, l63, at64, rel65⟩ := p0.at (ix_nat hx22); obtain ⟨v66, rfl, h67⟩ := eL_open rel65; refine FL.v (E.indexAddr te22 rfl rfl pt62) ?_; refine FL.v (E.load rfl (run_load0 isAgg44 ((at64.mono i53).now S52.sl) rfl)) ?_; obtain ⟨r68, hr69, hp⟩ := bnd hp; obtain ⟨fi73, cs74, hv75, he76, hc77⟩ := (p1.mono i53) H51 w54 I0 S52.sl y21 v66 (h67.mono i53) r68 hr69; refine FL.c (E.callV he76 (Eq.trans rfl hv75) (appA (A1 rfl) cs74)) hc77 ?_; rintro e w70 ⟨rfl, r71⟩; refine ⟨_, rfl, ?_⟩; have S72 := S52.call r71; refine FL.nil ?_; rcases ifB hp with ⟨c78, hp⟩ | ⟨c78, hp⟩
  ·
   refine FW.condT rfl c78 ?_; refine FW.sr ?_; refine FL.mv (v := vI ((i22 : Nat) : Int)) rfl ?_; refine FL.as (v := vI ((i22 : Nat) : Int)) rfl ?_; refine FL.nil (FW.ret ?_); cases hp; exact ⟨nofun, rfl, ⟨.inr rfl, res1 rfl rfl ⟨rfl, S72.back⟩⟩⟩
  ·
   refine FW.condF rfl c78 ?_; refine FW.skip (FW.region ?_); refine FL.v (E.add k56 rfl) ?_; refine FL.mv (v := vI (wr (((i22 : Nat) : Int) + 1))) rfl ?_; refine FL.nil ?_; cases hp; exact ⟨rfl, ⟨_, S72, i53, (nat_succ rfl (lt_of_get hx22) (p0.mono i53).le), k57, k58, k59⟩⟩
 ·
  clear hp hq; rintro s22 f89 w88 ⟨H85, S86, i87, k90, k91, k92, k93⟩; refine FW.sr ?_; refine FL.v (E.lss k90 k93) ?_; refine FL.nil (FW.seq ?_); refine FW.condF rfl dlt_len ?_; refine FW.exit ?_; exact ⟨nofun, rfl, ⟨_, S86, i87⟩⟩
 ·
  clear hq; intro e f84 w83 hD; rcases q22 with s22 | x22
  ·
   obtain ⟨rfl, hD⟩ := hD; obtain ⟨H80, S81, i82⟩ := hD; replace hp := el_go hp; refine FW.sr ?_; refine FL.as (v := vI (-1)) rfl ?_; refine FL.nil (FW.ret ?_); cases hp; exact ⟨.inr rfl, res1 rfl rfl ⟨rfl, S81.back⟩⟩
  ·
   obtain ⟨he, hL⟩ := hD; replace hp := el_rt hp; cases hp; subst he; exact hL

theorem w_slices_ContainsFunc_LLint_Lint {Ha : GH} {wa : World} (hs : Sl Ha wa) (v0 : Value) (a0 : List (List Int)) (p0 : RSl Ha (eL eI 1) 1 v0 a0) (v1 : Value) (a1 : (List Int) → Option Bool) (p1 : Fn_List_Int_to_B prog Ha v1 a1) {r : Bool} (hp : (PF.slices_ContainsFunc_LLint_Lint a0 a1) = some r) :
  Calls prog 110 #[v0, v1] wa (Sc Ha wa (vB r)) := by
 unfold PF.slices_ContainsFunc_LLint_Lint at hp; have S0 := St.init hs; refine calls_go (N := 9) (args := [v0, v1]) func110 rfl rfl rfl ?_; refine FW.sr ?_; refine FL.as (v := vB false) rfl ?_; refine FL.nil (FW.sr ?_); refine FL.mv (v := v0) rfl ?_; refine FL.mv (v := v1) rfl ?_; obtain ⟨r21, hr22, hp⟩ := bnd hp; refine FL.c (E.call call139 (A2 rfl rfl)) (w_slices_IndexFunc_LLint_Lint S0.sl v0 a0 p0 v1 a1 p1 hr22) ?_; rintro e w23 ⟨rfl, r24⟩; refine ⟨_, rfl, ?_⟩; have S25 := S0.call r24; refine FL.v (E.geq rfl rfl) ?_; refine FL.as (v := vB (decide (0 ≤ r21))) rfl ?_; refine FL.nil (FW.ret ?_); cases hp; exact ⟨.inr rfl, res1 rfl rfl ⟨rfl, S25.back⟩⟩

theorem w_impl_listOk_1 {Ha : GH} {wa : World} (hs : Sl Ha wa) (v0 : Value) (a0 : List Int) (p0 : RSl Ha eI 1 v0 a0) (q0 : Addr) (b0 : Cnf) (u0_1 : Value) (g0_1 : RSl Ha (eL eI 1) 1 u0_1 b0.clauses) (c0 : CAt Ha q0 [vI b0.vars, u0_1]) {r : Bool} (hp : (PF.impl_listOk_1 a0 b0) = some r) :
  Calls prog 111 #[v0, vP (q0)] wa (Sc Ha wa (vB r)) := by
 unfold PF.impl_listOk_1 at hp; have S0 := St.init hs; refine calls_go (N := 9) (args := [v0, vP (q0)]) func111 rfl rfl rfl ?_; refine FW.sr ?_; refine FL.as (v := vB false) rfl ?_; refine FL.nil (FW.sr ?_); refine FL.v (E.fieldAddr tf28_0 rfl) ?_; refine FL.v (E.load rfl (run_load1 isAgg3 (c0.now S0.sl) rfl)) ?_; refine FL.mv (v := v0) rfl ?_; obtain ⟨r21, hr22, hp⟩ := bnd hp; refine FL.c (E.call call112 (A2 rfl rfl)) (w_impl_IsClause S0.sl b0.vars v0 a0 p0 hr22) ?_; rintro e w23 ⟨rfl, r24⟩; refine ⟨_, rfl, ?_⟩; have S25 := S0.call r24; refine FL.v (E.not rfl) ?_; refine FL.as (v := vB (!r21)) rfl ?_; refine FL.nil (FW.ret ?_); cases hp; exact ⟨.inr rfl, res1 rfl rfl ⟨rfl, S25.back⟩⟩

theorem w_impl_listOk {Ha : GH} {wa : World} (hs : Sl Ha wa) (a0 : Cnf) (v0_1 : Value) (p0_1 : RSl Ha (eL eI 1) 1 v0_1 a0.clauses) (v1 : Value) (a1 : List (List Int)) (p1 : RSl Ha (eL eI 1) 1 v1 a1) {r : Bool} (hp : (PF.impl_listOk a0 a1) = some r) :
  Calls prog 77 #[vA #[vI a0.vars, v0_1], v1] wa (Sc Ha wa (vB r)) := by
 unfold PF.impl_listOk at hp; have S0 := St.init hs; refine calls_go (N := 18) (args := [vA #[vI a0.vars, v0_1], v1]) func77 rfl rfl rfl ?_; refine FW.sr ?_; obtain ⟨b21, w22, run23, S24⟩ := S0.box (P := prog) 28 [vI a0.vars, v0_1] (v := vA #[vI a0.vars, v0_1]) rfl (oC rfl (oC p0_1.one ones_nil)); refine FL.v (E.box rfl run23) ?_; obtain ⟨H25, S26, i27, at28⟩ := S24.sealBox (i := 0) (l' := []) rfl rfl; refine FL.as (v := vB false) rfl ?_; refine FL.nil (FW.sr ?_); refine FL.v (E.load rfl (run_loadA isAgg28 sizeOf28 (at28.now S26.sl) rfl)) ?_; obtain ⟨r29, hr30, hp⟩ := bnd hp; refine FL.c (E.call call99 (A1 rfl)) (w_impl_IsCnf S26.sl a0 v0_1 (p0_1.mono i27) hr30) ?_; rintro e w31 ⟨rfl, r32⟩; refine ⟨_, rfl, ?_⟩; have S33 := S26.call r32; refine FL.mv (v := vB r29) rfl ?_; refine FL.cut 4 (fun f w => ∃ H : GH, St Ha wa H w [] ∧ Inc H25 H ∧ f 1 = v1 ∧ f 2 = vP (⟨b21, 0, none⟩) ∧ f 11 = vB (bif r29 then (decide ((len a1) ≤ 60)) else false)) ?_ ?_
 ·
  rcases bcase r29 with c40 | c40
  ·
   refine FL.y (wY c40) (E.move (v := v1) rfl) ?_; refine FL.y (wY c40) (E.lenP te22 rfl p1) ?_; refine FL.y (wY c40) (E.leq rfl rfl) ?_; refine FL.v (E.pickT rfl c40 rfl) ?_; exact FL.nil ⟨rfl, _, S33, I0, rfl, rfl, (congrArg vB (bifT c40).symm)⟩
  ·
   refine FL.skip (wN c40) rfl ?_; refine FL.skip (wN c40) rfl ?_; refine FL.skip (wN c40) rfl ?_; refine FL.v (E.pickF rfl c40 rfl) ?_; exact FL.nil ⟨rfl, _, S33, I0, rfl, rfl, (congrArg vB (bifF c40).symm)⟩
 rintro f39 w38 ⟨H35, S36, i37, k41, k42, k43⟩; refine FL.mv k43 ?_; obtain ⟨t49, hqt49, hp⟩ := bnd hp; refine FL.cut 5 (fun f w => ∃ H : GH, St Ha wa H w [] ∧ Inc H35 H ∧ f 17 = vB t49) ?_ ?_
 ·
  clear hp; have hp := hqt49; clear hqt49; rcases ifB hp with ⟨c55, hp⟩ | ⟨c55, hp⟩
  ·
   refine FL.y (wY c55) (E.move k41) ?_; refine FL.y (wY c55) (E.makeFunc A0 (A1 k42)) ?_; obtain ⟨r56, hr57, hp⟩ := bnd hp; refine FL.call (wY c55) rfl rfl (E.call call110 (A2 rfl rfl)) (w_slices_ContainsFunc_LLint_Lint S36.sl v1 a1 (p1.mono (i27.tr i37)) (Value.func (.func 111) #[] #[vP (⟨b21, 0, none⟩)]) (fun x0 => PF.impl_listOk_1 x0 a0) (fun H2 w2 hi2 hs2 x0 y0 z0 r hr => ⟨111, #[vP (⟨b21, 0, none⟩)], rfl, call111, w_impl_listOk_1 hs2 y0 x0 z0 ⟨b21, 0, none⟩ a0 v0_1 ((p0_1.mono (i27.tr i37)).mono hi2) ((at28.mono i37).mono hi2) hr⟩) hr57) ?_; rintro e w58 ⟨rfl, r59⟩; refine ⟨_, rfl, ?_⟩; have S60 := S36.call r59; refine FL.y (wY c55) (E.not rfl) ?_; cases hp; refine FL.v (E.pickT rfl c55 rfl) ?_; exact FL.nil ⟨rfl, _, S60, I0, rfl⟩
  ·
   refine FL.skip (wN c55) rfl ?_; refine FL.skip (wN c55) rfl ?_; refine FL.skip (wN c55) rfl ?_; refine FL.skip (wN c55) rfl ?_; cases hp; refine FL.v (E.pickF rfl c55 rfl) ?_; exact FL.nil ⟨rfl, _, S36, I0, rfl⟩
 rintro f54 w53 ⟨H50, S51, i52, k61⟩; refine FL.as k61 ?_; refine FL.nil (FW.ret ?_); cases hp; exact ⟨.inr rfl, res1 rfl rfl ⟨rfl, S51.back⟩⟩

@[reducible] def p_slices_Grow_LLint_Lint (Ha : GH) (wa : World) (r : List (List Int)) : Ending → World → Prop :=
  fun e w' => ∃ H' : GH, ∃ v0 : Value, ∃ n0 : Nat, ∃ c0 : List Value, e = .returned (v0) ∧ St Ha wa H' w' [.row 44 1 v0 n0 c0] ∧ Els (up wa.heap.size H') (eL eI 1) 1 c0 r ∧ (bl c0).Nodup
theorem w_slices_Grow_LLint_Lint {Ha : GH} {wa : World} (hs : Sl Ha wa) (a1 : Int) {r : List (List Int)} (hp : PF.slices_Grow_LLint_Lint a1 = some r) :
    Calls prog 170 #[.slice none 0 0, .int .i64 a1] wa (p_slices_Grow_LLint_Lint Ha wa r) := by
  unfold PF.slices_Grow_LLint_Lint at hp
  split at hp
  · rename_i h
    cases hp
    refine (growNil (En := (eL eI 1)) te22 hs h.1 h.2 (fun w => Any8.slices_Grow_room (P := prog) Tryz.grow170 none 0 0 0 w (Nat.le_refl _) (by decide) (by decide) (by decide))
      (fun n w h0 hl => ?_)).mono ?_
    · have h := Any8.slices_Grow_grow (P := prog) Tryz.grow170 _ _ Tryz.type44 rfl (by decide) none 0 0 n [] w (Nat.le_refl _) (by omega) ?_ (by unfold lim at hl; omega) (by simp) (fun _ => rfl) (by simp)
      · refine h.mono ?_
        rintro _ _ ⟨rfl, rfl⟩
        refine ⟨by simp; rfl, ?_⟩
        simp
        rfl
      · rw [Nat.zero_add]; refine Nat.le_trans (Nat.mul_le_mul hl (show _ ≤ 4096 by decide)) (by decide)
    · rintro e w' ⟨v, n, c, rfl, h1, h2⟩
      exact ⟨_, _, _, _, rfl, h1, (h2 _), (by have hc := Els.length (h2 (Ha)); simp at hc; rw [hc]; exact List.nodup_nil)⟩
  · cases hp

@[reducible] def p_slices_Concat_LLint_Lint (Ha : GH) (wa : World) (r : (List (List Int))) : Ending → World → Prop :=
  fun e w' => ∃ H' : GH, ∃ v0 : Value, ∃ n0 : Nat, ∃ c0 : List Value, e = .returned (v0) ∧ St Ha wa H' w' [.row 44 1 v0 n0 c0] ∧ Els H' (eL eI 1) 1 c0 r
theorem w_slices_Concat_LLint_Lint {Ha : GH} {wa : World} (hs : Sl Ha wa) (v0 : Value) (a0 : List (List (List Int))) (p0 : RSl Ha (eL (eL eI 1) 1) 1 v0 a0) {r : (List (List Int))} (hp : (PF.slices_Concat_LLint_Lint a0) = some r) :
    Calls prog 141 #[v0] wa (p_slices_Concat_LLint_Lint Ha wa r) := by
  unfold PF.slices_Concat_LLint_Lint at hp
  have S0 := St.init hs
  refine calls_go (N := 36) (args := [v0]) Tryz.func141 rfl rfl rfl ?_
  refine FW.seq (FW.region ?_)
  refine FL.v (E.assign (v := vN) rfl) ?_
  refine FL.nil (FW.seq (FW.region ?_))
  refine FL.v (E.assign (v := vI 0) rfl) ?_
  refine FL.nil (FW.seq (FW.seq (FW.region ?_)))
  refine FL.v (E.move (v := v0) rfl) ?_
  refine FL.v (E.lenP te170 rfl p0) ?_
  refine FL.v (E.move (v := vI 0) rfl) ?_
  refine FL.nil ?_
  obtain ⟨q22, hq, hp⟩ := bndR hp
  refine FW.block ?_
  refine FW.mono (FW.forL (S := Int) (X := Empty) (fun (i22 : Nat) (s22 : Int) f w => ∃ H : GH, St Ha wa H w [] ∧ Inc Ha H ∧ f 11 = vI ((i22 : Nat) : Int) ∧ f 0 = v0 ∧ f 3 = vI s22 ∧ f 9 = v0 ∧ f 10 = vI (len a0)) (fun (q : Rs Int Empty) e f w => match q with | .go s22 => e = Exit.exit 0 ∧ (∃ H : GH, St Ha wa H w [] ∧ Inc Ha H ∧ f 0 = v0 ∧ f 3 = vI s22) | .rt x => x.elim) hq ⟨_, S0, (Inc.rfl _), rfl, rfl, rfl, rfl, rfl⟩ ?_ ?_) ?_
  ·
    clear hp hq
    rintro i22 y21 s22 f46 w45 ⟨H42, S43, i44, k47, k48, k49, k50, k51⟩ hx22 o61 hp
    refine FW.seq (FW.region ?_)
    refine FL.v (E.lssT k47 k51 (lss_len hx22)) ?_
    refine FL.nil (FW.seq ?_)
    refine FW.condT rfl rfl ?_
    refine FW.skip (FW.seq (FW.block (FW.seq (FW.region ?_))))
    obtain ⟨p52, cs53, pt54, l55, at56, rel57⟩ := p0.at (ix_nat hx22)
    obtain ⟨v58, rfl, h59⟩ := eL_open rel57
    refine FL.v (E.indexAddr te170 k50 k47 pt54) ?_
    refine FL.v (E.load rfl (run_load0 Tryz.isAgg22 ((at56.mono i44).now S43.sl) rfl)) ?_
    refine FL.v (E.assign (v := v58) rfl) ?_
    refine FL.nil (FW.seq (FW.region ?_))
    refine FL.v (E.move k49) ?_
    refine FL.v (E.move (v := v58) rfl) ?_
    refine FL.v (E.lenP te22 rfl h59) ?_
    refine FL.v (E.add rfl rfl) ?_
    refine FL.v (E.assign (v := vI (wr (s22 + (len y21)))) rfl) ?_
    refine FL.nil (FW.seq (FW.region ?_))
    refine FL.v (E.move (v := vI (wr (s22 + (len y21)))) rfl) ?_
    refine FL.v (E.lss rfl rfl) ?_
    refine FL.nil ?_
    rcases ifB hp with ⟨c60, hp⟩ | ⟨c60, hp⟩
    ·
      refine FW.condT rfl c60 ?_
      cases hp
    ·
      refine FW.condF rfl c60 ?_
      refine FW.skip (FW.region ?_)
      refine FL.v (E.add k47 rfl) ?_
      refine FL.v (E.move (v := vI (wr (((i22 : Nat) : Int) + 1))) rfl) ?_
      refine FL.nil ?_
      obtain rfl := Option.some.inj hp
      exact ⟨rfl, ⟨_, S43, i44, (nat_succ rfl (lt_of_get hx22) (p0.mono i44).le), k48, rfl, k50, k51⟩⟩
  ·
    clear hp hq
    rintro s22 f161 w160 ⟨H157, S158, i159, k162, k163, k164, k165, k166⟩
    refine FW.seq (FW.region ?_)
    refine FL.v (E.lss k162 k166) ?_
    refine FL.nil (FW.seq ?_)
    refine FW.condF rfl dlt_len ?_
    refine FW.exit ?_
    exact ⟨nofun, rfl, ⟨_, S158, i159, k163, k164⟩⟩
  ·
    clear hq
    intro e f66 w65 hD
    rcases q22 with s22 | x22
    ·
      obtain ⟨rfl, hD⟩ := hD
      obtain ⟨H62, S63, i64, k67, k68⟩ := hD
      replace hp := el_go hp
      refine FW.seq (FW.region ?_)
      refine FL.v (E.move k68) ?_
      obtain ⟨r69, hr70, hp⟩ := bnd hp
      refine FL.call rfl rfl rfl (E.call Tryz.call170 (A2 rfl rfl)) (w_slices_Grow_LLint_Lint S63.sl s22 hr70) ?_
      rintro e w72 ⟨H71, v75, n76, cs77, rfl, r74, els78, nd79⟩
      refine ⟨_, rfl, ?_⟩
      have nv80 : New H62 cs77 := New.of_up S63.sl els78.dom
      have els78 := els78.mono (up_le S63.size)
      have S73 := S63.join (l' := [.row 44 1 v75 n76 cs77]) r74 rfl
      refine FL.v (E.assign (v := v75) rfl) ?_
      refine FL.nil (FW.seq (FW.seq (FW.region ?_)))
      refine FL.v (E.move k67) ?_
      refine FL.v (E.lenP te170 rfl p0) ?_
      refine FL.v (E.move (v := vI 0) rfl) ?_
      refine FL.nil ?_
      obtain ⟨q82, hq, hp⟩ := bndR hp
      refine FW.block ?_
      refine FW.mono (FW.forL (S := (List (List Int))) (X := Empty) (fun (i82 : Nat) (s82 : (List (List Int))) f w => ∃ H : GH, ∃ v83 : Value, ∃ n84 : Nat, ∃ cs85 : List Value, St Ha wa H w [.row 44 1 v83 n84 cs85] ∧ Inc H71 H ∧ Els H (eL eI 1) 1 cs85 s82 ∧ f 27 = vI ((i82 : Nat) : Int) ∧ f 6 = v83 ∧ f 25 = v0 ∧ f 26 = vI (len a0)) (fun (q : Rs (List (List Int)) Empty) e f w => match q with | .go s82 => e = Exit.exit 2 ∧ (∃ H : GH, ∃ v83 : Value, ∃ n84 : Nat, ∃ cs85 : List Value, St Ha wa H w [.row 44 1 v83 n84 cs85] ∧ Inc H71 H ∧ Els H (eL eI 1) 1 cs85 s82 ∧ f 6 = v83) | .rt x => x.elim) hq ⟨_, _, _, _, S73, (Inc.rfl _), (els78.mono upI), rfl, rfl, rfl, rfl⟩ ?_ ?_) ?_
      ·
        clear hp hq
        rintro i82 y81 s82 f118 w117 ⟨H114, v83, n84, cs85, S115, i116, els86, k119, k120, k121, k122⟩ hx82 o141 hp
        refine FW.seq (FW.region ?_)
        refine FL.v (E.lssT k119 k122 (lss_len hx82)) ?_
        refine FL.nil (FW.seq ?_)
        refine FW.condT rfl rfl ?_
        refine FW.skip (FW.seq (FW.block (FW.seq (FW.region ?_))))
        obtain ⟨p123, cs124, pt125, l126, at127, rel128⟩ := p0.at (ix_nat hx82)
        obtain ⟨v129, rfl, h130⟩ := eL_open rel128
        refine FL.v (E.indexAddr te170 k121 k119 pt125) ?_
        refine FL.v (E.load rfl (run_load0 Tryz.isAgg22 ((at127.mono ((i64.tr r74.run.inc).tr i116)).now S115.sl) rfl)) ?_
        refine FL.v (E.assign (v := v129) rfl) ?_
        refine FL.nil (FW.region ?_)
        refine FL.v (E.move k120) ?_
        refine FL.v (E.move (v := v129) rfl) ?_
        obtain ⟨xs131, hz132, hp⟩ := bnd hp
        obtain ⟨v133, w136, n134, cs135, run137, S138, els139⟩ := S115.appendP (P := prog) (Inc.rfl _) te22 (i := 0) rfl els86 (h130.mono ((i64.tr r74.run.inc).tr i116)) hz132
        have S138 : St Ha wa H114 w136 [.row 44 1 v133 n134 cs135] := S138
        refine FL.v (E.append rfl rfl run137) ?_
        refine FL.v (E.assign (v := v133) rfl) ?_
        refine FL.nil (FW.region ?_)
        refine FL.v (E.add k119 rfl) ?_
        refine FL.v (E.move (v := vI (wr (((i82 : Nat) : Int) + 1))) rfl) ?_
        refine FL.nil ?_
        obtain rfl := Option.some.inj hp
        exact ⟨rfl, ⟨_, _, _, _, S138, i116, els139, (nat_succ rfl (lt_of_get hx82) (p0.mono ((i64.tr r74.run.inc).tr i116)).le), rfl, k121, k122⟩⟩
      ·
        clear hp hq
        rintro s82 f152 w151 ⟨H148, v83, n84, cs85, S149, i150, els86, k153, k154, k155, k156⟩
        refine FW.seq (FW.region ?_)
        refine FL.v (E.lss k153 k156) ?_
        refine FL.nil (FW.seq ?_)
        refine FW.condF rfl dlt_len ?_
        refine FW.exit ?_
        exact ⟨nofun, rfl, ⟨_, _, _, _, S149, i150, els86, k154⟩⟩
      ·
        clear hq
        intro e f146 w145 hD
        rcases q82 with s82 | x82
        ·
          obtain ⟨rfl, hD⟩ := hD
          obtain ⟨H142, v83, n84, cs85, S143, i144, els86, k147⟩ := hD
          replace hp := el_go hp
          refine FW.seq (FW.region ?_)
          refine FL.v (E.move k147) ?_
          refine FL.v (E.assign (v := v83) rfl) ?_
          refine FL.nil ?_
          refine FW.ret ?_
          obtain rfl := Option.some.inj hp
          exact ⟨.inr rfl, res1 rfl rfl ⟨_, _, _, _, rfl, S143, els86⟩⟩
        · exact x82.elim
    · exact x22.elim

@[reducible] def p_impl_before (Ha : GH) (wa : World) (r : (List (List Int))) : Ending → World → Prop :=
 fun e w' => ∃ H' : GH, ∃ v0 : Value, ∃ n0 : Nat, ∃ c0 : List Value, e = .returned (v0) ∧ St Ha wa H' w' [.row 44 1 v0 n0 c0] ∧ Els H' (eL eI 1) 1 c0 r
theorem w_impl_before {Ha : GH} {wa : World} (hs : Sl Ha wa) (a0 : Cnf) (v0_1 : Value) (p0_1 : RSl Ha (eL eI 1) 1 v0_1 a0.clauses) (v1 : Value) (a1 : List (List Int)) (p1 : RSl Ha (eL eI 1) 1 v1 a1) (a2 : Int) {r : (List (List Int))} (hp : (PF.impl_before a0 a1 a2) = some r) :
  Calls prog 114 #[vA #[vI a0.vars, v0_1], v1, vI a2] wa (p_impl_before Ha wa r) := by
 unfold PF.impl_before at hp; have S0 := St.init hs; refine calls_go (N := 14) (args := [vA #[vI a0.vars, v0_1], v1, vI a2]) func114 rfl rfl rfl ?_; refine FW.sr ?_; obtain ⟨b21, w22, run23, S24⟩ := S0.box (P := prog) 28 [vI a0.vars, v0_1] (v := vA #[vI a0.vars, v0_1]) rfl (oC rfl (oC p0_1.one ones_nil)); refine FL.v (E.box rfl run23) ?_; obtain ⟨H25, S26, i27, at28⟩ := S24.sealBox (i := 0) (l' := []) rfl rfl; refine FL.as (v := vN) rfl ?_; refine FL.nil (FW.seq ?_); obtain ⟨xs32, hc33, hp⟩ := bnd hp; obtain ⟨r46, hr47, hp⟩ := bnd hp; refine FW.drawB (Sl H25) (fun f w => ∃ H : GH, ∃ v56 : Value, ∃ n57 : Nat, ∃ cs58 : List Value, St Ha wa H w [.row 44 1 v56 n57 cs58] ∧ Inc H25 H ∧ Els H (eL eI 1) 1 cs58 r46 ∧ f 6 = v56) (by kernel_rfl) S26.sl ?_ ?_
 ·
  intro w29 r30; have S31 := S26.call r30; refine FB.T 0 8 1 rfl S31.sl rfl (fun _ z => (E.fieldAddr tf28_1 rfl)) ?_; refine FB.T 1 8 3 rfl S31.sl rfl (fun _ z => (E.load rfl (run_load1 isAgg22 (at28.now z) rfl))) ?_; refine FB.T 2 8 7 rfl S31.sl rfl (fun _ z => (E.move (v := v1) rfl)) ?_; refine FB.T 3 8 15 rfl S31.sl rfl (fun _ z => (E.move (v := vI a2) rfl)) ?_; obtain ⟨v34, run35, h36⟩ := p1.cut te22 hc33 (lo := none) (hi := some (vI a2)) (.inl ⟨rfl, rfl⟩) (.inr ⟨_, rfl⟩); refine FB.T 4 8 31 rfl S31.sl rfl (fun _ z => (E.slice te22 rfl rfl (congrArg some rfl) rfl (run35 _))) ?_; refine FB.all1 (i := 5) (by kernel_rfl) ?_
  ·
   obtain ⟨v37, w38, run39, S40⟩ := S31.buildSlice (P := prog) te170 [v0_1, v34] (parts := #[(0, v0_1), (1, v34)]) (cells := [v0_1, v34]) rfl (szs_cons (cells_size p0_1.cells) (szs_cons (cells_size h36.cells) szs_nil)) (fc_cons p0_1.cells (fc_cons h36.cells fc_nil)) (oC p0_1.one (oC h36.one ones_nil)) (nB rfl); have els41 : Els H25 (eL (eL eI 1) 1) 1 [v0_1, v34] [a0.clauses, xs32] := (Els.snoc (H := H25) (E := (eL (eL eI 1) 1)) (k := 1) (c := [v34]) (x := xs32) (Els.snoc (H := H25) (E := (eL (eL eI 1) 1)) (k := 1) (c := [v0_1]) (x := a0.clauses) Els.nil rfl ⟨_, rfl, (p0_1.mono i27)⟩) rfl ⟨_, rfl, (h36.mono i27)⟩); refine FC.val (l' := (bs 8 63)) rfl (by kernel_rfl) rfl rfl rfl (E.buildSlice (B2 rfl rfl) run39) ?_; refine ⟨(SP.nil S40.sl), ?_⟩; refine FB.all1 (i := 6) (by kernel_rfl) ?_
   ·
    obtain ⟨H42, S43, i44, h45⟩ := S40.sealRow (i := 0) (l' := []) rfl els41 (by decide) rfl; refine FC.call (l' := (bs 8 127)) rfl (by kernel_rfl) rfl rfl rfl (E.call call141 (A1 rfl)) (w_slices_Concat_LLint_Lint S43.sl v37 [a0.clauses, xs32] h45 hr47) ?_; rintro e w49 ⟨H48, v52, n53, cs54, rfl, r51, els55⟩; refine ⟨_, rfl, ?_⟩; have S50 := S43.join (l' := [.row 44 1 v52 n53 cs54]) r51 rfl; refine ⟨(SP.nil (Sl.of_inc (i44.tr r51.run.inc) S50.sl)), ?_⟩; refine FB.T 7 8 255 rfl (Sl.of_inc (i44.tr r51.run.inc) S50.sl) rfl (fun _ z => (E.assign (v := v52) rfl)) ?_; exact FB.done (by kernel_rfl) ⟨_, _, _, _, S50, (i44.tr r51.run.inc), els55, rfl⟩
 ·
  rintro f64 w63 ⟨H60, v56, n57, cs58, S61, i62, els59, k65⟩; refine FW.ret ?_; cases hp; exact ⟨.inr rfl, res1 rfl k65 ⟨_, _, _, _, rfl, S61, els59⟩⟩

@[reducible] def p_impl_negated (Ha : GH) (wa : World) (r : (List Int)) : Ending → World → Prop :=
  fun e w' => ∃ H' : GH, ∃ v0 : Value, ∃ n0 : Nat, ∃ c0 : List Value, e = .returned (v0) ∧ St Ha wa H' w' [.row 3 1 v0 n0 c0] ∧ Els (up wa.heap.size H') eI 1 c0 r
theorem w_impl_negated {Ha : GH} {wa : World} (hs : Sl Ha wa) (v0 : Value) (a0 : List Int) (p0 : RSl Ha eI 1 v0 a0) {r : (List Int)} (hp : (PF.impl_negated a0) = some r) :
    Calls prog 122 #[v0] wa (p_impl_negated Ha wa r) := by
  unfold PF.impl_negated at hp
  have S0 := St.init hs
  refine calls_go (N := 19) (args := [v0]) Tryz.func122 rfl rfl rfl ?_
  refine FW.seq (FW.region ?_)
  refine FL.v (E.assign (v := vN) rfl) ?_
  refine FL.nil (FW.seq (FW.region ?_))
  refine FL.v (E.assign (v := vN) rfl) ?_
  refine FL.nil (FW.seq (FW.seq (FW.region ?_)))
  refine FL.v (E.move (v := v0) rfl) ?_
  refine FL.v (E.lenP te44 rfl p0) ?_
  refine FL.v (E.move (v := vI 0) rfl) ?_
  refine FL.nil ?_
  obtain ⟨q22, hq, hp⟩ := bndR hp
  refine FW.block ?_
  refine FW.mono (FW.forL (S := (List Int)) (X := Empty) (fun (i22 : Nat) (s22 : (List Int)) f w => ∃ H : GH, ∃ v23 : Value, ∃ n24 : Nat, ∃ cs25 : List Value, St Ha wa H w [.row 3 1 v23 n24 cs25] ∧ Inc Ha H ∧ Els (up wa.heap.size H) eI 1 cs25 s22 ∧ f 8 = vI ((i22 : Nat) : Int) ∧ f 3 = v23 ∧ f 6 = v0 ∧ f 7 = vI (len a0)) (fun (q : Rs (List Int) Empty) e f w => match q with | .go s22 => e = Exit.exit 0 ∧ (∃ H : GH, ∃ v23 : Value, ∃ n24 : Nat, ∃ cs25 : List Value, St Ha wa H w [.row 3 1 v23 n24 cs25] ∧ Inc Ha H ∧ Els (up wa.heap.size H) eI 1 cs25 s22 ∧ f 3 = v23) | .rt x => x.elim) hq ⟨_, _, _, _, (S0.nil 3 1), (Inc.rfl _), Els.nil, rfl, rfl, rfl, rfl⟩ ?_ ?_) ?_
  ·
    clear hp hq
    rintro i22 y21 s22 f62 w61 ⟨H58, v23, n24, cs25, S59, i60, els26, k63, k64, k65, k66⟩ hx22 o89 hp
    refine FW.seq (FW.region ?_)
    refine FL.v (E.lssT k63 k66 (lss_len hx22)) ?_
    refine FL.nil (FW.seq ?_)
    refine FW.condT rfl rfl ?_
    refine FW.skip (FW.seq (FW.block (FW.seq (FW.region ?_))))
    obtain ⟨p67, cs68, pt69, l70, at71, rel72⟩ := p0.at (ix_nat hx22)
    obtain rfl := eI_open rel72
    refine FL.v (E.indexAddr te44 k65 k63 pt69) ?_
    refine FL.v (E.load rfl (run_load0 Tryz.isAgg3 ((at71.mono i60).now S59.sl) rfl)) ?_
    refine FL.v (E.assign (v := vI y21) rfl) ?_
    refine FL.nil (FW.region ?_)
    refine FL.v (E.move k64) ?_
    refine FL.v (E.move (v := vI y21) rfl) ?_
    refine FL.v (E.neg rfl) ?_
    obtain ⟨v73, w74, run75, S76⟩ := S59.buildSlice (P := prog) te44 [vI (wr (-y21))] (parts := #[(0, vI (wr (-y21)))]) (cells := [vI (wr (-y21))]) rfl (szs_cons rfl szs_nil) (fc_cons rfl fc_nil) (ones_cons rfl ones_nil) (Nat.le_of_ble_eq_true rfl)
    have els77 : Els (up wa.heap.size H58) eI 1 [vI (wr (-y21))] [(wr (-y21))] := (Els.snoc (H := (up wa.heap.size H58)) (E := eI) (k := 1) (c := [vI (wr (-y21))]) (x := (wr (-y21))) Els.nil rfl rfl)
    refine FL.v (E.buildSlice (B1 rfl) run75) ?_
    obtain ⟨xs78, hz79, hp⟩ := bnd hp
    obtain ⟨v80, w83, n81, cs82, run84, S85, els86, ce87⟩ := S76.appendO (P := prog) te44 (i := 1) (j := 0) rfl els26 rfl els77 hz79
    have S85 : St Ha wa H58 w83 [.row 3 1 v73 1 [vI (wr (-y21))], .row 3 1 v80 n81 cs82] := S85
    have S88 : St Ha wa H58 w83 [.row 3 1 v80 n81 cs82] := S85.drop 0
    refine FL.v (E.append rfl rfl run84) ?_
    refine FL.v (E.assign (v := v80) rfl) ?_
    refine FL.nil (FW.region ?_)
    refine FL.v (E.add k63 rfl) ?_
    refine FL.v (E.move (v := vI (wr (((i22 : Nat) : Int) + 1))) rfl) ?_
    refine FL.nil ?_
    obtain rfl := Option.some.inj hp
    exact ⟨rfl, ⟨_, _, _, _, S88, i60, els86, (nat_succ rfl (lt_of_get hx22) (p0.mono i60).le), rfl, k65, k66⟩⟩
  ·
    clear hp hq
    rintro s22 f100 w99 ⟨H96, v23, n24, cs25, S97, i98, els26, k101, k102, k103, k104⟩
    refine FW.seq (FW.region ?_)
    refine FL.v (E.lss k101 k104) ?_
    refine FL.nil (FW.seq ?_)
    refine FW.condF rfl dlt_len ?_
    refine FW.exit ?_
    exact ⟨nofun, rfl, ⟨_, _, _, _, S97, i98, els26, k102⟩⟩
  ·
    clear hq
    intro e f94 w93 hD
    rcases q22 with s22 | x22
    ·
      obtain ⟨rfl, hD⟩ := hD
      obtain ⟨H90, v23, n24, cs25, S91, i92, els26, k95⟩ := hD
      replace hp := el_go hp
      refine FW.seq (FW.region ?_)
      refine FL.v (E.move k95) ?_
      refine FL.v (E.assign (v := v23) rfl) ?_
      refine FL.nil ?_
      refine FW.ret ?_
      obtain rfl := Option.some.inj hp
      exact ⟨.inr rfl, res1 rfl rfl ⟨_, _, _, _, rfl, S91, els26⟩⟩
    · exact x22.elim

@[reducible] def p_slices_Clone_int_int (Ha : GH) (wa : World) (r : (List Int)) : Ending → World → Prop :=
 fun e w' => ∃ H' : GH, ∃ v0 : Value, ∃ n0 : Nat, ∃ c0 : List Value, e = .returned (v0) ∧ St Ha wa H' w' [.row 3 1 v0 n0 c0] ∧ Els (up wa.heap.size H') eI 1 c0 r
theorem w_slices_Clone_int_int {Ha : GH} {wa : World} (hs : Sl Ha wa) (v0 : Value) (a0 : List Int) (p0 : RSl Ha eI 1 v0 a0) {r : (List Int)} (hp : (PF.slices_Clone_int_int a0) = some r) :
  Calls prog 56 #[v0] wa (p_slices_Clone_int_int Ha wa r) := by
 unfold PF.slices_Clone_int_int at hp; have S0 := St.init hs; refine calls_go (N := 8) (args := [v0]) func56 rfl rfl rfl ?_; refine FW.sr ?_; refine FL.as (v := vN) rfl ?_; refine FL.nil (FW.seq (FW.sr ?_)); refine FL.mv (v := v0) rfl ?_; obtain ⟨nb21, run22, hn23⟩ := RSl.nilTest te44 p0; refine FL.v (run22 _ _ _ _ _ _ _ _ _ _ _ _ rfl rfl) ?_; refine FL.nil ?_; rcases bcase nb21 with c24 | c24
 ·
  refine FW.condT (b := nb21) rfl c24 ?_; rw [hn23 c24, app_nil2] at hp; refine FW.sr ?_; refine FL.as (v := vN) rfl ?_; refine FL.nil (FW.ret ?_); cases hp; exact ⟨.inr rfl, res1 rfl rfl ⟨_, _, _, _, rfl, (S0.nil 3 1), Els.nil⟩⟩
 ·
  refine FW.condF (b := nb21) rfl c24 ?_; refine FW.skip (FW.sr ?_); obtain ⟨v25, w26, run27, S28⟩ := S0.buildSlice (P := prog) te44 [] (parts := #[]) (cells := []) rfl szs_nil fc_nil ones_nil (nB rfl); have els29 : Els (up wa.heap.size Ha) eI 1 [] [] := Els.nil; refine FL.v (E.buildSlice (B0) run27) ?_; refine FL.mv (v := v0) rfl ?_; obtain ⟨xs30, hz31, hp⟩ := bnd hp; obtain ⟨v32, w35, n33, cs34, run36, S37, els38⟩ := S28.appendP (P := prog) I0 te44 (i := 0) rfl (els29.mono upI) p0 hz31; have S37 : St Ha wa Ha w35 [.row 3 1 v32 n33 cs34] := S37; have els38 : Els (up wa.heap.size Ha) eI 1 cs34 xs30 := els38.any (fun _ _ _ _ h => h); refine FL.v (E.append rfl rfl run36) ?_; refine FL.as (v := v32) rfl ?_; refine FL.nil (FW.ret ?_); cases hp; exact ⟨.inr rfl, res1 rfl rfl ⟨_, _, _, _, rfl, S37, els38⟩⟩

theorem w_slices_Index_int_int {Ha : GH} {wa : World} (hs : Sl Ha wa) (v0 : Value) (a0 : List Int) (p0 : RSl Ha eI 1 v0 a0) (a1 : Int) {r : Int} (hp : (PF.slices_Index_int_int a0 a1) = some r) :
  Calls prog 96 #[v0, vI a1] wa (Sc Ha wa (vI r)) := by
 unfold PF.slices_Index_int_int at hp; have S0 := St.init hs; refine calls_go (N := 19) (args := [v0, vI a1]) func96 rfl rfl rfl ?_; refine FW.sr ?_; refine FL.as (v := vI 0) rfl ?_; refine FL.nil (FW.seq (FW.sr ?_)); refine FL.mv (v := v0) rfl ?_; refine FL.v (E.lenP te44 rfl p0) ?_; refine FL.mv (v := vI 0) rfl ?_; refine FL.nil ?_; obtain ⟨q22, hq, hp⟩ := bndR hp; refine FW.block ?_; refine FW.mono (FW.forL (S := Unit) (X := Int) (fun (i22 : Nat) (s22 : Unit) f w => ∃ H : GH, St Ha wa H w [] ∧ Inc Ha H ∧ f 8 = vI ((i22 : Nat) : Int) ∧ f 0 = v0 ∧ f 1 = vI a1 ∧ f 7 = vI (len a0)) (fun q e f w => match q with | .go s22 => e = Exit.exit 0 ∧ (∃ H : GH, St Ha wa H w [] ∧ Inc Ha H) | .rt x => ((e = Exit.ret) ∧ (fun e f w => (e = Exit.normal ∨ e = Exit.ret) ∧ ∀ a, Fr (δ := []) 19 a f → ∃ v, (results Tryz.f96 a.tmps).run prog w = .ok v w ∧ (Sc Ha wa (vI x)) (.returned v) w) e f w)) hq ⟨_, S0, I0, rfl, rfl, rfl, rfl⟩ ?_ ?_) ?_
 ·
  clear hp hq; rintro i22 y21 s22 f43 w42 ⟨H39, S40, i41, k44, k45, k46, k47⟩ hx22 o55 hp; refine FW.sr ?_; refine FL.v (E.lssT k44 k47 (lss_len hx22)) ?_; refine FL.nil (FW.seq ?_); refine FW.condT rfl rfl ?_; refine FW.skip (FW.seq (FW.block (FW.sr ?_))); refine FL.mv k44 ?_; refine FL.as (v := vI ((i22 : Nat) : Int)) rfl ?_; refine FL.nil (FW.sr ?_); refine FL.mv k46 ?_; refine FL.mv k45 ?_; refine FL.mv (v := vI ((i22 : Nat) : Int)) rfl ?_; obtain ⟨p48, cs49, pt50, l51, at52, rel53⟩ := p0.at (ix_nat hx22); obtain rfl := eI_open rel53; refine FL.v (E.indexAddr te44 rfl rfl pt50) ?_; refine FL.v (E.load rfl (run_load0 isAgg3 ((at52.mono i41).now S40.sl) rfl)) ?_; refine FL.v (E.eql rfl rfl) ?_; refine FL.nil ?_; rcases ifB hp with ⟨c54, hp⟩ | ⟨c54, hp⟩
  ·
   refine FW.condT rfl c54 ?_; refine FW.sr ?_; refine FL.mv (v := vI ((i22 : Nat) : Int)) rfl ?_; refine FL.as (v := vI ((i22 : Nat) : Int)) rfl ?_; refine FL.nil (FW.ret ?_); cases hp; exact ⟨nofun, rfl, ⟨.inr rfl, res1 rfl rfl ⟨rfl, S40.back⟩⟩⟩
  ·
   refine FW.condF rfl c54 ?_; refine FW.skip (FW.region ?_); refine FL.v (E.add k44 rfl) ?_; refine FL.mv (v := vI (wr (((i22 : Nat) : Int) + 1))) rfl ?_; refine FL.nil ?_; cases hp; exact ⟨rfl, ⟨_, S40, i41, (nat_succ rfl (lt_of_get hx22) (p0.mono i41).le), k45, k46, k47⟩⟩
 ·
  clear hp hq; rintro s22 f65 w64 ⟨H61, S62, i63, k66, k67, k68, k69⟩; refine FW.sr ?_; refine FL.v (E.lss k66 k69) ?_; refine FL.nil (FW.seq ?_); refine FW.condF rfl dlt_len ?_; refine FW.exit ?_; exact ⟨nofun, rfl, ⟨_, S62, i63⟩⟩
 ·
  clear hq; intro e f60 w59 hD; rcases q22 with s22 | x22
  ·
   obtain ⟨rfl, hD⟩ := hD; obtain ⟨H56, S57, i58⟩ := hD; replace hp := el_go hp; refine FW.sr ?_; refine FL.as (v := vI (-1)) rfl ?_; refine FL.nil (FW.ret ?_); cases hp; exact ⟨.inr rfl, res1 rfl rfl ⟨rfl, S57.back⟩⟩
  ·
   obtain ⟨he, hL⟩ := hD; replace hp := el_rt hp; cases hp; subst he; exact hL

theorem w_slices_Contains_int_int {Ha : GH} {wa : World} (hs : Sl Ha wa) (v0 : Value) (a0 : List Int) (p0 : RSl Ha eI 1 v0 a0) (a1 : Int) {r : Bool} (hp : (PF.slices_Contains_int_int a0 a1) = some r) :
  Calls prog 116 #[v0, vI a1] wa (Sc Ha wa (vB r)) := by
 unfold PF.slices_Contains_int_int at hp; have S0 := St.init hs; refine calls_go (N := 9) (args := [v0, vI a1]) func116 rfl rfl rfl ?_; refine FW.sr ?_; refine FL.as (v := vB false) rfl ?_; refine FL.nil (FW.sr ?_); refine FL.mv (v := v0) rfl ?_; refine FL.mv (v := vI a1) rfl ?_; obtain ⟨r21, hr22, hp⟩ := bnd hp; refine FL.c (E.call call96 (A2 rfl rfl)) (w_slices_Index_int_int S0.sl v0 a0 p0 a1 hr22) ?_; rintro e w23 ⟨rfl, r24⟩; refine ⟨_, rfl, ?_⟩; have S25 := S0.call r24; refine FL.v (E.geq rfl rfl) ?_; refine FL.as (v := vB (decide (0 ≤ r21))) rfl ?_; refine FL.nil (FW.ret ?_); cases hp; exact ⟨.inr rfl, res1 rfl rfl ⟨rfl, S25.back⟩⟩

theorem w_impl_clauseValue {Ha : GH} {wa : World} (hs : Sl Ha wa) (v0 : Value) (a0 : List Int) (p0 : RSl Ha eI 1 v0 a0) (v1 : Value) (a1 : List Int) (p1 : RSl Ha eI 1 v1 a1) {r : Int} (hp : (PF.impl_clauseValue a0 a1) = some r) :
  Calls prog 160 #[v0, v1] wa (Sc Ha wa (vI r)) := by
 unfold PF.impl_clauseValue at hp; have S0 := St.init hs; refine calls_go (N := 26) (args := [v0, v1]) func160 rfl rfl rfl ?_; refine FW.sr ?_; refine FL.as (v := vI 0) rfl ?_; refine FL.nil (FW.sr ?_); refine FL.as (v := vI (-1)) rfl ?_; refine FL.nil (FW.seq (FW.sr ?_)); refine FL.mv (v := v0) rfl ?_; refine FL.v (E.lenP te44 rfl p0) ?_; refine FL.mv (v := vI 0) rfl ?_; refine FL.nil ?_; obtain ⟨q22, hq, hp⟩ := bndR hp; refine FW.block ?_; refine FW.mono (FW.forL (S := Int) (X := Int) (fun (i22 : Nat) (s22 : Int) f w => ∃ H : GH, St Ha wa H w [] ∧ Inc Ha H ∧ f 10 = vI ((i22 : Nat) : Int) ∧ f 1 = v1 ∧ f 5 = vI s22 ∧ f 8 = v0 ∧ f 9 = vI (len a0)) (fun q e f w => match q with | .go s22 => e = Exit.exit 0 ∧ (∃ H : GH, St Ha wa H w [] ∧ Inc Ha H ∧ f 5 = vI s22) | .rt x => ((e = Exit.ret) ∧ (fun e f w => (e = Exit.normal ∨ e = Exit.ret) ∧ ∀ a, Fr (δ := []) 26 a f → ∃ v, (results Tryz.f160 a.tmps).run prog w = .ok v w ∧ (Sc Ha wa (vI x)) (.returned v) w) e f w)) hq ⟨_, S0, I0, rfl, rfl, rfl, rfl, rfl⟩ ?_ ?_) ?_
 ·
  clear hp hq; rintro i22 y21 s22 f55 w54 ⟨H51, S52, i53, k56, k57, k58, k59, k60⟩ hx22 o79 hp; refine FW.sr ?_; refine FL.v (E.lssT k56 k60 (lss_len hx22)) ?_; refine FL.nil (FW.seq ?_); refine FW.condT rfl rfl ?_; refine FW.skip (FW.seq (FW.block (FW.sr ?_))); obtain ⟨p61, cs62, pt63, l64, at65, rel66⟩ := p0.at (ix_nat hx22); obtain rfl := eI_open rel66; refine FL.v (E.indexAddr te44 k59 k56 pt63) ?_; refine FL.v (E.load rfl (run_load0 isAgg3 ((at65.mono i53).now S52.sl) rfl)) ?_; refine FL.as (v := vI y21) rfl ?_; refine FL.nil (FW.block (FW.sr ?_)); refine FL.mv k57 ?_; refine FL.mv (v := vI y21) rfl ?_; obtain ⟨r67, hr68, hp⟩ := bnd hp; refine FL.c (E.call call116 (A2 rfl rfl)) (w_slices_Contains_int_int S52.sl v1 a1 (p1.mono i53) y21 hr68) ?_; rintro e w69 ⟨rfl, r70⟩; refine ⟨_, rfl, ?_⟩; have S71 := S52.call r70; refine FL.as (v := vB r67) rfl ?_; refine FL.nil ?_; rcases ifB hp with ⟨c72, hp⟩ | ⟨c72, hp⟩
  ·
   refine FW.condT rfl c72 ?_; refine FW.sr ?_; refine FL.as (v := vI 1) rfl ?_; refine FL.nil (FW.ret ?_); cases hp; exact ⟨nofun, rfl, ⟨.inr rfl, res1 rfl rfl ⟨rfl, S71.back⟩⟩⟩
  ·
   refine FW.condF rfl c72 ?_; refine FW.sr ?_; refine FL.mv k57 ?_; refine FL.mv (v := vI y21) rfl ?_; refine FL.v (E.neg rfl) ?_; obtain ⟨r73, hr74, hp⟩ := bnd hp; refine FL.c (E.call call116 (A2 rfl rfl)) (w_slices_Contains_int_int S71.sl v1 a1 (p1.mono i53) (wr (-y21)) hr74) ?_; rintro e w75 ⟨rfl, r76⟩; refine ⟨_, rfl, ?_⟩; have S77 := S71.call r76; refine FL.v (E.not rfl) ?_; refine FL.as (v := vB (!r73)) rfl ?_; refine FL.nil ?_; rcases ifB hp with ⟨c78, hp⟩ | ⟨c78, hp⟩
   ·
    refine FW.condT rfl c78 ?_; refine FW.region ?_; refine FL.as (v := vI 0) rfl ?_; refine FL.nil (FW.region ?_); refine FL.v (E.add k56 rfl) ?_; refine FL.mv (v := vI (wr (((i22 : Nat) : Int) + 1))) rfl ?_; refine FL.nil ?_; cases hp; exact ⟨rfl, ⟨_, S77, i53, (nat_succ rfl (lt_of_get hx22) (p0.mono i53).le), k57, rfl, k59, k60⟩⟩
   ·
    refine FW.condF rfl c78 ?_; refine FW.skip (FW.region ?_); refine FL.v (E.add k56 rfl) ?_; refine FL.mv (v := vI (wr (((i22 : Nat) : Int) + 1))) rfl ?_; refine FL.nil ?_; cases hp; exact ⟨rfl, ⟨_, S77, i53, (nat_succ rfl (lt_of_get hx22) (p0.mono i53).le), k57, k58, k59, k60⟩⟩
 ·
  clear hp hq; rintro s22 f90 w89 ⟨H86, S87, i88, k91, k92, k93, k94, k95⟩; refine FW.sr ?_; refine FL.v (E.lss k91 k95) ?_; refine FL.nil (FW.seq ?_); refine FW.condF rfl dlt_len ?_; refine FW.exit ?_; exact ⟨nofun, rfl, ⟨_, S87, i88, k93⟩⟩
 ·
  clear hq; intro e f84 w83 hD; rcases q22 with s22 | x22
  ·
   obtain ⟨rfl, hD⟩ := hD; obtain ⟨H80, S81, i82, k85⟩ := hD; replace hp := el_go hp; refine FW.sr ?_; refine FL.mv k85 ?_; refine FL.as (v := vI s22) rfl ?_; refine FL.nil (FW.ret ?_); cases hp; exact ⟨.inr rfl, res1 rfl rfl ⟨rfl, S81.back⟩⟩
  ·
   obtain ⟨he, hL⟩ := hD; replace hp := el_rt hp; cases hp; subst he; exact hL

@[reducible] def p_impl_falseClauses (Ha : GH) (wa : World) (r : (List Int)) : Ending → World → Prop :=
  fun e w' => ∃ H' : GH, ∃ v0 : Value, ∃ n0 : Nat, ∃ c0 : List Value, e = .returned (v0) ∧ St Ha wa H' w' [.row 3 1 v0 n0 c0] ∧ Els (up wa.heap.size H') eI 1 c0 r
theorem w_impl_falseClauses {Ha : GH} {wa : World} (hs : Sl Ha wa) (v0 : Value) (a0 : List (List Int)) (p0 : RSl Ha (eL eI 1) 1 v0 a0) (v1 : Value) (a1 : List Int) (p1 : RSl Ha eI 1 v1 a1) {r : (List Int)} (hp : (PF.impl_falseClauses a0 a1) = some r) :
    Calls prog 123 #[v0, v1] wa (p_impl_falseClauses Ha wa r) := by
  unfold PF.impl_falseClauses at hp
  have S0 := St.init hs
  refine calls_go (N := 25) (args := [v0, v1]) Tryz.func123 rfl rfl rfl ?_
  refine FW.seq (FW.region ?_)
  refine FL.v (E.assign (v := vN) rfl) ?_
  refine FL.nil (FW.seq (FW.region ?_))
  refine FL.v (E.assign (v := vN) rfl) ?_
  refine FL.nil (FW.seq (FW.seq (FW.region ?_)))
  refine FL.v (E.move (v := v0) rfl) ?_
  refine FL.v (E.lenP te22 rfl p0) ?_
  refine FL.v (E.move (v := vI 0) rfl) ?_
  refine FL.nil ?_
  obtain ⟨q22, hq, hp⟩ := bndR hp
  refine FW.block ?_
  refine FW.mono (FW.forL (S := (List Int)) (X := Empty) (fun (i22 : Nat) (s22 : (List Int)) f w => ∃ H : GH, ∃ v23 : Value, ∃ n24 : Nat, ∃ cs25 : List Value, St Ha wa H w [.row 3 1 v23 n24 cs25] ∧ Inc Ha H ∧ Els (up wa.heap.size H) eI 1 cs25 s22 ∧ f 10 = vI ((i22 : Nat) : Int) ∧ f 1 = v1 ∧ f 5 = v23 ∧ f 8 = v0 ∧ f 9 = vI (len a0)) (fun (q : Rs (List Int) Empty) e f w => match q with | .go s22 => e = Exit.exit 0 ∧ (∃ H : GH, ∃ v23 : Value, ∃ n24 : Nat, ∃ cs25 : List Value, St Ha wa H w [.row 3 1 v23 n24 cs25] ∧ Inc Ha H ∧ Els (up wa.heap.size H) eI 1 cs25 s22 ∧ f 5 = v23) | .rt x => x.elim) hq ⟨_, _, _, _, (S0.nil 3 1), (Inc.rfl _), Els.nil, rfl, rfl, rfl, rfl, rfl⟩ ?_ ?_) ?_
  ·
    clear hp hq
    rintro i22 y21 s22 f71 w70 ⟨H67, v23, n24, cs25, S68, i69, els26, k72, k73, k74, k75, k76⟩ hx22 o107 hp
    refine FW.seq (FW.region ?_)
    refine FL.v (E.lssT k72 k76 (lss_len hx22)) ?_
    refine FL.nil (FW.seq ?_)
    refine FW.condT rfl rfl ?_
    refine FW.skip (FW.seq (FW.block (FW.seq (FW.region ?_))))
    refine FL.v (E.move k72) ?_
    obtain ⟨p77, cs78, pt79, l80, at81, rel82⟩ := p0.at (ix_nat hx22)
    obtain ⟨v83, rfl, h84⟩ := eL_open rel82
    refine FL.v (E.indexAddr te22 k75 k72 pt79) ?_
    refine FL.v (E.load rfl (run_load0 Tryz.isAgg44 ((at81.mono i69).now S68.sl) rfl)) ?_
    refine FL.v (E.assign (v := vI ((i22 : Nat) : Int)) rfl) ?_
    refine FL.v (E.assign (v := v83) rfl) ?_
    refine FL.nil (FW.seq (FW.region ?_))
    refine FL.v (E.move (v := v83) rfl) ?_
    refine FL.v (E.move k73) ?_
    obtain ⟨r85, hr86, hp⟩ := bnd hp
    refine FL.call rfl rfl rfl (E.call Tryz.call160 (A2 rfl rfl)) (w_impl_clauseValue S68.sl v83 y21 (h84.mono i69) v1 a1 (p1.mono i69) hr86) ?_
    rintro e w87 ⟨rfl, r88⟩
    refine ⟨_, rfl, ?_⟩
    have S89 := S68.call r88
    refine FL.v (E.lss rfl rfl) ?_
    refine FL.nil ?_
    rcases ifB hp with ⟨c90, hp⟩ | ⟨c90, hp⟩
    ·
      refine FW.condT rfl c90 ?_
      refine FW.region ?_
      refine FL.v (E.move k74) ?_
      refine FL.v (E.move (v := vI ((i22 : Nat) : Int)) rfl) ?_
      obtain ⟨v91, w92, run93, S94⟩ := S89.buildSlice (P := prog) te44 [vI ((i22 : Nat) : Int)] (parts := #[(0, vI ((i22 : Nat) : Int))]) (cells := [vI ((i22 : Nat) : Int)]) rfl (szs_cons rfl szs_nil) (fc_cons rfl fc_nil) (ones_cons rfl ones_nil) (Nat.le_of_ble_eq_true rfl)
      have els95 : Els (up wa.heap.size H67) eI 1 [vI ((i22 : Nat) : Int)] [((i22 : Nat) : Int)] := (Els.snoc (H := (up wa.heap.size H67)) (E := eI) (k := 1) (c := [vI ((i22 : Nat) : Int)]) (x := ((i22 : Nat) : Int)) Els.nil rfl rfl)
      refine FL.v (E.buildSlice (B1 rfl) run93) ?_
      obtain ⟨xs96, hz97, hp⟩ := bnd hp
      obtain ⟨v98, w101, n99, cs100, run102, S103, els104, ce105⟩ := S94.appendO (P := prog) te44 (i := 1) (j := 0) rfl els26 rfl els95 hz97
      have S103 : St Ha wa H67 w101 [.row 3 1 v91 1 [vI ((i22 : Nat) : Int)], .row 3 1 v98 n99 cs100] := S103
      have S106 : St Ha wa H67 w101 [.row 3 1 v98 n99 cs100] := S103.drop 0
      refine FL.v (E.append rfl rfl run102) ?_
      refine FL.v (E.assign (v := v98) rfl) ?_
      refine FL.nil (FW.region ?_)
      refine FL.v (E.add k72 rfl) ?_
      refine FL.v (E.move (v := vI (wr (((i22 : Nat) : Int) + 1))) rfl) ?_
      refine FL.nil ?_
      obtain rfl := Option.some.inj hp
      exact ⟨rfl, ⟨_, _, _, _, S106, i69, els104, (nat_succ rfl (lt_of_get hx22) (p0.mono i69).le), k73, rfl, k75, k76⟩⟩
    ·
      refine FW.condF rfl c90 ?_
      refine FW.skip (FW.region ?_)
      refine FL.v (E.add k72 rfl) ?_
      refine FL.v (E.move (v := vI (wr (((i22 : Nat) : Int) + 1))) rfl) ?_
      refine FL.nil ?_
      obtain rfl := Option.some.inj hp
      exact ⟨rfl, ⟨_, _, _, _, S89, i69, els26, (nat_succ rfl (lt_of_get hx22) (p0.mono i69).le), k73, k74, k75, k76⟩⟩
  ·
    clear hp hq
    rintro s22 f118 w117 ⟨H114, v23, n24, cs25, S115, i116, els26, k119, k120, k121, k122, k123⟩
    refine FW.seq (FW.region ?_)
    refine FL.v (E.lss k119 k123) ?_
    refine FL.nil (FW.seq ?_)
    refine FW.condF rfl dlt_len ?_
    refine FW.exit ?_
    exact ⟨nofun, rfl, ⟨_, _, _, _, S115, i116, els26, k121⟩⟩
  ·
    clear hq
    intro e f112 w111 hD
    rcases q22 with s22 | x22
    ·
      obtain ⟨rfl, hD⟩ := hD
      obtain ⟨H108, v23, n24, cs25, S109, i110, els26, k113⟩ := hD
      replace hp := el_go hp
      refine FW.seq (FW.region ?_)
      refine FL.v (E.move k113) ?_
      refine FL.v (E.assign (v := v23) rfl) ?_
      refine FL.nil ?_
      refine FW.ret ?_
      obtain rfl := Option.some.inj hp
      exact ⟨.inr rfl, res1 rfl rfl ⟨_, _, _, _, rfl, S109, els26⟩⟩
    · exact x22.elim

theorem w_slices_IndexFunc_int_int {Ha : GH} {wa : World} (hs : Sl Ha wa) (v0 : Value) (a0 : List Int) (p0 : RSl Ha eI 1 v0 a0) (v1 : Value) (a1 : Int → Option Bool) (p1 : Fn_I_to_B prog Ha v1 a1) {r : Int} (hp : (PF.slices_IndexFunc_int_int a0 a1) = some r) :
  Calls prog 189 #[v0, v1] wa (Sc Ha wa (vI r)) := by
 unfold PF.slices_IndexFunc_int_int at hp; have S0 := St.init hs; refine calls_go (N := 19) (args := [v0, v1]) func189 rfl rfl rfl ?_; refine FW.sr ?_; refine FL.as (v := vI 0) rfl ?_; refine FL.nil (FW.seq (FW.sr ?_)); refine FL.mv (v := v0) rfl ?_; refine FL.v (E.lenP te44 rfl p0) ?_; refine FL.mv (v := vI 0) rfl ?_; refine FL.nil ?_; obtain ⟨q22, hq, hp⟩ := bndR hp; refine FW.block ?_; refine FW.mono (FW.forL (S := Unit) (X := Int) (fun (i22 : Nat) (s22 : Unit) f w => ∃ H : GH, St Ha wa H w [] ∧ Inc Ha H ∧ f 8 = vI ((i22 : Nat) : Int) ∧ f 0 = v0 ∧ f 1 = v1 ∧ f 7 = vI (len a0)) (fun q e f w => match q with | .go s22 => e = Exit.exit 0 ∧ (∃ H : GH, St Ha wa H w [] ∧ Inc Ha H) | .rt x => ((e = Exit.ret) ∧ (fun e f w => (e = Exit.normal ∨ e = Exit.ret) ∧ ∀ a, Fr (δ := []) 19 a f → ∃ v, (results Tryz.f189 a.tmps).run prog w = .ok v w ∧ (Sc Ha wa (vI x)) (.returned v) w) e f w)) hq ⟨_, S0, I0, rfl, rfl, rfl, rfl⟩ ?_ ?_) ?_
 ·
  clear hp hq; rintro i22 y21 s22 f53 w52 ⟨H49, S50, i51, k54, k55, k56, k57⟩ hx22 o75 hp; refine FW.sr ?_; refine FL.v (E.lssT k54 k57 (lss_len hx22)) ?_; refine FL.nil (FW.seq ?_); refine FW.condT rfl rfl ?_; refine FW.skip (FW.seq (FW.block (FW.sr ?_))); refine FL.mv k54 ?_; refine FL.as (v := vI ((i22 : Nat) : Int)) rfl ?_; refine FL.nil (FW.sr ?_); refine FL.mv k56 ?_; refine FL.mv k55 ?_; refine FL.mv (v := vI ((i22 : Nat) : Int)) rfl ?_; obtain ⟨p58, cs59, pt60, l61, at62, rel63⟩ := p0.at (ix_nat hx22); obtain rfl := eI_open rel63; refine FL.v (E.indexAddr te44 rfl rfl pt60) ?_; refine FL.v (E.load rfl (run_load0 isAgg3 ((at62.mono i51).now S50.sl) rfl)) ?_; obtain ⟨r64, hr65, hp⟩ := bnd hp; obtain ⟨fi69, cs70, hv71, he72, hc73⟩ := (p1.mono i51) H49 w52 I0 S50.sl y21 r64 hr65; refine FL.c (E.callV he72 (Eq.trans rfl hv71) (appA (A1 rfl) cs70)) hc73 ?_; rintro e w66 ⟨rfl, r67⟩; refine ⟨_, rfl, ?_⟩; have S68 := S50.call r67; refine FL.nil ?_; rcases ifB hp with ⟨c74, hp⟩ | ⟨c74, hp⟩
  ·
   refine FW.condT rfl c74 ?_; refine FW.sr ?_; refine FL.mv (v := vI ((i22 : Nat) : Int)) rfl ?_; refine FL.as (v := vI ((i22 : Nat) : Int)) rfl ?_; refine FL.nil (FW.ret ?_); cases hp; exact ⟨nofun, rfl, ⟨.inr rfl, res1 rfl rfl ⟨rfl, S68.back⟩⟩⟩
  ·
   refine FW.condF rfl c74 ?_; refine FW.skip (FW.region ?_); refine FL.v (E.add k54 rfl) ?_; refine FL.mv (v := vI (wr (((i22 : Nat) : Int) + 1))) rfl ?_; refine FL.nil ?_; cases hp; exact ⟨rfl, ⟨_, S68, i51, (nat_succ rfl (lt_of_get hx22) (p0.mono i51).le), k55, k56, k57⟩⟩
 ·
  clear hp hq; rintro s22 f85 w84 ⟨H81, S82, i83, k86, k87, k88, k89⟩; refine FW.sr ?_; refine FL.v (E.lss k86 k89) ?_; refine FL.nil (FW.seq ?_); refine FW.condF rfl dlt_len ?_; refine FW.exit ?_; exact ⟨nofun, rfl, ⟨_, S82, i83⟩⟩
 ·
  clear hq; intro e f80 w79 hD; rcases q22 with s22 | x22
  ·
   obtain ⟨rfl, hD⟩ := hD; obtain ⟨H76, S77, i78⟩ := hD; replace hp := el_go hp; refine FW.sr ?_; refine FL.as (v := vI (-1)) rfl ?_; refine FL.nil (FW.ret ?_); cases hp; exact ⟨.inr rfl, res1 rfl rfl ⟨rfl, S77.back⟩⟩
  ·
   obtain ⟨he, hL⟩ := hD; replace hp := el_rt hp; cases hp; subst he; exact hL

@[reducible] def p_slices_DeleteFunc_int_int (H0 : GH) (w0 : World) (Ha : GH) (L : List MO) (r : (List Int)) : Ending → World → Prop :=
  fun e w' => ∃ H' : GH, ∃ v0r : Value, ∃ n0r : Nat, ∃ c0r : List Value, e = .returned (v0r) ∧ (St H0 w0 H' w' (.row 3 1 v0r n0r c0r :: L) ∧ Inc Ha H') ∧ Els (up w0.heap.size H') eI 1 c0r r
theorem w_slices_DeleteFunc_int_int {H0 Ha : GH} {w0 wa : World} {L : List MO} {v0 : Value} {n0 : Nat} {k0 : List Value} (S0 : St H0 w0 Ha wa (.row 3 1 v0 n0 k0 :: L)) (a0 : List Int) (p0 : Els (up w0.heap.size Ha) eI 1 k0 a0) (v1 : Value) (a1 : Int → Option Bool) (p1 : Fn_I_to_B prog Ha v1 a1) {r : (List Int)} (hp : (PF.slices_DeleteFunc_int_int a0 a1) = some r) :
    Calls prog 174 #[v0, v1] wa (p_slices_DeleteFunc_int_int H0 w0 Ha L r) := by
  unfold PF.slices_DeleteFunc_int_int at hp
  refine calls_go (N := 42) (args := [v0, v1]) Tryz.func174 rfl rfl rfl ?_
  refine FW.seq (FW.region ?_)
  refine FL.v (E.assign (v := vN) rfl) ?_
  refine FL.nil (FW.seq (FW.region ?_))
  refine FL.v (E.move (v := v0) rfl) ?_
  refine FL.v (E.move (v := v1) rfl) ?_
  obtain ⟨H21, S22, i23, h24, nv25⟩ := S0.sealRowU (i := 0) (l' := L) rfl p0 (by decide) rfl
  obtain ⟨r26, hr27, hp⟩ := bnd hp
  refine FL.call rfl rfl rfl (E.call Tryz.call189 (A2 rfl rfl)) (w_slices_IndexFunc_int_int S22.sl v0 a0 (h24.mono upI) v1 a1 (p1.mono i23) hr27) ?_
  rintro e w28 ⟨rfl, r29⟩
  refine ⟨_, rfl, ?_⟩
  have r29 := Run.lend i23 S0.sl r29
  have S30 := S0.call r29
  refine FL.v (E.assign (v := vI r26) rfl) ?_
  refine FL.nil (FW.seq (FW.seq (FW.region ?_)))
  refine FL.v (E.move (v := vI r26) rfl) ?_
  refine FL.v (E.eql rfl rfl) ?_
  refine FL.nil ?_
  rcases ifB hp with ⟨c31, hp⟩ | ⟨c31, hp⟩
  ·
    refine FW.condT rfl c31 ?_
    refine FW.seq (FW.region ?_)
    refine FL.v (E.move (v := v0) rfl) ?_
    refine FL.v (E.assign (v := v0) rfl) ?_
    refine FL.nil ?_
    refine FW.ret ?_
    obtain rfl := Option.some.inj hp
    exact ⟨.inr rfl, res1 rfl rfl ⟨_, _, _, _, rfl, ⟨S30, (Inc.rfl _)⟩, p0⟩⟩
  ·
    refine FW.condF rfl c31 ?_
    refine FW.skip (FW.seq (FW.seq (FW.region ?_)))
    refine FL.v (E.move (v := vI r26) rfl) ?_
    refine FL.v (E.add rfl rfl) ?_
    refine FL.v (E.assign (v := vI (wr (r26 + 1))) rfl) ?_
    refine FL.nil ?_
    obtain ⟨q32, hq, hp⟩ := bndR hp
    refine FW.block ?_
    refine FW.mono (FW.iter (S := ((List Int) × Int × Int)) (X := Empty) (fun (s32 : ((List Int) × Int × Int)) f w => ∃ H : GH, ∃ cs78 : List Value, St H0 w0 H w (.row 3 1 v0 n0 cs78 :: L) ∧ Inc Ha H ∧ Els (up w0.heap.size H) eI 1 cs78 s32.1 ∧ f 0 = v0 ∧ f 1 = v1 ∧ f 5 = vI s32.2.1 ∧ f 6 = vI s32.2.2) (fun (q : Rs ((List Int) × Int × Int) Empty) e f w => match q with | .go s32 => e = Exit.exit 0 ∧ (∃ H : GH, ∃ cs78 : List Value, St H0 w0 H w (.row 3 1 v0 n0 cs78 :: L) ∧ Inc Ha H ∧ Els (up w0.heap.size H) eI 1 cs78 s32.1 ∧ f 0 = v0 ∧ f 5 = vI s32.2.1) | .rt x => x.elim) hq ⟨_, _, S30, (Inc.rfl _), p0, rfl, rfl, rfl, rfl⟩ ?_) ?_
    ·
      clear hp hq
      rintro s32 f129 w128 ⟨H125, cs78, S126, i127, els79, k130, k131, k132, k133⟩ o170 hp
      refine FW.seq (FW.seq (FW.region ?_))
      refine FL.v (E.move k133) ?_
      refine FL.v (E.move k130) ?_
      refine FL.v (E.lenO te44 rfl S126 (i := 0) rfl els79 (by decide)) ?_
      refine FL.v (E.lss rfl rfl) ?_
      refine FL.nil ?_
      rcases ifB hp with ⟨c134, hp⟩ | ⟨c134, hp⟩
      ·
        refine FW.condT rfl c134 ?_
        refine FW.skip (FW.seq (FW.block (FW.seq (FW.region ?_))))
        refine FL.v (E.move k130) ?_
        refine FL.v (E.move k133) ?_
        obtain ⟨x141, hx142, hp⟩ := bnd hp
        obtain ⟨p135, cs136, pt137, l138, at139, rel140⟩ := S126.row_at (i := 0) rfl els79 (by decide) hx142
        obtain rfl := eI_open rel140
        refine FL.v (E.indexAddr te44 rfl rfl pt137) ?_
        refine FL.v (E.load rfl (run_load0 Tryz.isAgg3 at139 rfl)) ?_
        refine FL.v (E.assign (v := vI x141) rfl) ?_
        refine FL.nil (FW.seq (FW.region ?_))
        refine FL.v (E.move k131) ?_
        refine FL.v (E.move (v := vI x141) rfl) ?_
        obtain ⟨r143, hr144, hp⟩ := bnd hp
        obtain ⟨fi148, cs149, hv150, he151, hc152⟩ := (p1.mono i127) H125 w128 (Inc.rfl _) S126.sl x141 r143 hr144
        refine FL.call rfl rfl rfl (E.callV he151 (Eq.trans rfl hv150) (appA (A1 rfl) cs149)) hc152 ?_
        rintro e w145 ⟨rfl, r146⟩
        refine ⟨_, rfl, ?_⟩
        have S147 := S126.call r146
        refine FL.v (E.not rfl) ?_
        refine FL.nil ?_
        rcases ifB hp with ⟨c153, hp⟩ | ⟨c153, hp⟩
        ·
          refine FW.condT rfl c153 ?_
          refine FW.seq (FW.region ?_)
          refine FL.v (E.move k130) ?_
          refine FL.v (E.move k132) ?_
          refine FL.v (E.move (v := vI x141) rfl) ?_
          obtain ⟨x160, hx161, hp⟩ := bnd hp
          obtain ⟨p154, cs155, pt156, l157, at158, rel159⟩ := S147.row_at (i := 0) rfl els79 (by decide) hx161
          obtain rfl := eI_open rel159
          refine FL.v (E.indexAddr te44 rfl rfl pt156) ?_
          obtain ⟨xs165, hput166, hp⟩ := bnd hp
          obtain ⟨w162, cs168, run163, S164, els167, ce169⟩ := S147.putEls (P := prog) (t := 3) (i := 0) rfl els79 hput166 pt156 Tryz.sizeOf3 (u := vI x141) (c := [vI x141]) rfl rfl (ones_cons rfl ones_nil) rfl
          have S164 : St H0 w0 H125 w162 (.row 3 1 v0 n0 cs168 :: L) := S164
          refine FL.act rfl rfl (E.store rfl rfl run163) ?_
          refine FL.nil (FW.region ?_)
          refine FL.v (E.move k132) ?_
          refine FL.v (E.add rfl rfl) ?_
          refine FL.v (E.assign (v := vI (wr (s32.2.1 + 1))) rfl) ?_
          refine FL.nil (FW.region ?_)
          refine FL.v (E.move k133) ?_
          refine FL.v (E.add rfl rfl) ?_
          refine FL.v (E.assign (v := vI (wr (s32.2.2 + 1))) rfl) ?_
          refine FL.nil ?_
          obtain rfl := Option.some.inj hp
          exact ⟨rfl, ⟨_, _, S164, i127, els167, k130, k131, rfl, rfl⟩⟩
        ·
          refine FW.condF rfl c153 ?_
          refine FW.skip (FW.region ?_)
          refine FL.v (E.move k133) ?_
          refine FL.v (E.add rfl rfl) ?_
          refine FL.v (E.assign (v := vI (wr (s32.2.2 + 1))) rfl) ?_
          refine FL.nil ?_
          obtain rfl := Option.some.inj hp
          exact ⟨rfl, ⟨_, _, S147, i127, els79, k130, k131, k132, rfl⟩⟩
      ·
        refine FW.condF rfl c134 ?_
        refine FW.exit ?_
        obtain rfl := Option.some.inj hp
        exact ⟨nofun, rfl, ⟨_, _, S126, i127, els79, k130, k132⟩⟩
    ·
      clear hq
      intro e f175 w174 hD
      rcases q32 with s32 | x32
      ·
        obtain ⟨rfl, hD⟩ := hD
        obtain ⟨H171, cs78, S172, i173, els79, k176, k177⟩ := hD
        replace hp := el_go hp
        refine FW.seq (FW.region ?_)
        refine FL.v (E.move k176) ?_
        refine FL.v (E.move k177) ?_
        obtain ⟨xs178, hc179, hp⟩ := bnd hp
        obtain ⟨v180, run181, h182⟩ := S172.tail te44 (kk := .i64) (i := 0) rfl els79 hc179
        refine FL.v (E.slice te44 rfl (congrArg some rfl) rfl rfl (run181 _)) ?_
        obtain ⟨w183, cs184, run185, S186, els187⟩ := S172.clearTail (P := prog) te44 (i := 0) rfl els79 h182 rfl (ones_cons rfl ones_nil)
        have S186 : St H0 w0 H171 w183 (.row 3 1 v0 n0 cs184 :: L) := S186
        refine FL.val0 rfl rfl (E.clear rfl run185) ?_
        refine FL.nil (FW.seq (FW.region ?_))
        refine FL.v (E.move k176) ?_
        refine FL.v (E.move k177) ?_
        obtain ⟨xs188, hc189, hp⟩ := bnd hp
        obtain ⟨v190, n191, cs192, run193, S194, els195, nd196⟩ := S186.cutRow te44 (kk := .i64) (i := 0) rfl els187 hc189
        have S194 : St H0 w0 H171 w183 (.row 3 1 v190 n191 cs192 :: L) := S194
        refine FL.v (E.slice te44 rfl rfl (congrArg some rfl) rfl (run193 _)) ?_
        refine FL.v (E.assign (v := v190) rfl) ?_
        refine FL.nil ?_
        refine FW.ret ?_
        obtain rfl := Option.some.inj hp
        exact ⟨.inr rfl, res1 rfl rfl ⟨_, _, _, _, rfl, ⟨S194, i173⟩, els195⟩⟩
      · exact x32.elim

theorem w_impl_openPart_1 {Ha : GH} {wa : World} (hs : Sl Ha wa) (a0 : Int) (q0 : Addr) (b0 : List Int) (u0_0 : Value) (g0_0 : RSl Ha eI 1 u0_0 b0) (c0 : CAt Ha q0 [u0_0]) {r : Bool} (hp : (PF.impl_openPart_1 a0 b0) = some r) :
  Calls prog 191 #[vI a0, vP (q0)] wa (Sc Ha wa (vB r)) := by
 unfold PF.impl_openPart_1 at hp; have S0 := St.init hs; refine calls_go (N := 8) (args := [vI a0, vP (q0)]) func191 rfl rfl rfl ?_; refine FW.sr ?_; refine FL.as (v := vB false) rfl ?_; refine FL.nil (FW.sr ?_); refine FL.v (E.load rfl (run_load0 isAgg44 (c0.now S0.sl) rfl)) ?_; refine FL.mv (v := vI a0) rfl ?_; refine FL.v (E.neg rfl) ?_; obtain ⟨r21, hr22, hp⟩ := bnd hp; refine FL.c (E.call call116 (A2 rfl rfl)) (w_slices_Contains_int_int S0.sl u0_0 b0 g0_0 (wr (-a0)) hr22) ?_; rintro e w23 ⟨rfl, r24⟩; refine ⟨_, rfl, ?_⟩; have S25 := S0.call r24; refine FL.as (v := vB r21) rfl ?_; refine FL.nil (FW.ret ?_); cases hp; exact ⟨.inr rfl, res1 rfl rfl ⟨rfl, S25.back⟩⟩

@[reducible] def p_impl_openPart (Ha : GH) (wa : World) (r : (List Int)) : Ending → World → Prop :=
 fun e w' => ∃ H' : GH, ∃ v0 : Value, ∃ n0 : Nat, ∃ c0 : List Value, e = .returned (v0) ∧ St Ha wa H' w' [.row 3 1 v0 n0 c0] ∧ Els (up wa.heap.size H') eI 1 c0 r
theorem w_impl_openPart {Ha : GH} {wa : World} (hs : Sl Ha wa) (v0 : Value) (a0 : List Int) (p0 : RSl Ha eI 1 v0 a0) (v1 : Value) (a1 : List Int) (p1 : RSl Ha eI 1 v1 a1) {r : (List Int)} (hp : (PF.impl_openPart a0 a1) = some r) :
  Calls prog 182 #[v0, v1] wa (p_impl_openPart Ha wa r) := by
 unfold PF.impl_openPart at hp; have S0 := St.init hs; refine calls_go (N := 9) (args := [v0, v1]) func182 rfl rfl rfl ?_; refine FW.sr ?_; obtain ⟨b21, w22, run23, S24⟩ := S0.box (P := prog) 44 [v1] (v := v1) p1.cells (oC p1.one ones_nil); refine FL.v (E.box rfl run23) ?_; obtain ⟨H25, S26, i27, at28⟩ := S24.sealBox (i := 0) (l' := []) rfl rfl; refine FL.as (v := vN) rfl ?_; refine FL.nil (FW.sr ?_); refine FL.mv (v := v0) rfl ?_; obtain ⟨r29, hr30, hp⟩ := bnd hp; refine FL.c (E.call call56 (A1 rfl)) (w_slices_Clone_int_int S26.sl v0 a0 (p0.mono i27) hr30) ?_; rintro e w32 ⟨H31, v35, n36, cs37, rfl, r34, els38⟩; refine ⟨_, rfl, ?_⟩; have els38 := els38.mono (up_le S26.size); have S33 := S26.join (l' := [.row 3 1 v35 n36 cs37]) r34 rfl; refine FL.v (E.makeFunc A0 (A1 rfl)) ?_; obtain ⟨r39, hr40, hp⟩ := bnd hp; refine FL.c (E.call call174 (A2 rfl rfl)) (w_slices_DeleteFunc_int_int (L := []) S33 r29 els38 (Value.func (.func 191) #[] #[vP (⟨b21, 0, none⟩)]) (fun x0 => PF.impl_openPart_1 x0 a1) (fun H2 w2 hi2 hs2 x0 r hr => ⟨191, #[vP (⟨b21, 0, none⟩)], rfl, call191, w_impl_openPart_1 hs2 x0 ⟨b21, 0, none⟩ a1 v1 ((p1.mono (i27.tr r34.run.inc)).mono hi2) ((at28.mono r34.run.inc).mono hi2) hr⟩) hr40) ?_; rintro e w42 ⟨H41, v45, n46, cs47, rfl, ⟨S43, i44⟩, els48⟩; refine ⟨_, rfl, ?_⟩; have S43 : St Ha wa H41 w42 [.row 3 1 v45 n46 cs47] := S43; refine FL.as (v := v45) rfl ?_; refine FL.nil (FW.ret ?_); cases hp; exact ⟨.inr rfl, res1 rfl rfl ⟨_, _, _, _, rfl, S43, els48⟩⟩

theorem w_impl_unit {Ha : GH} {wa : World} (hs : Sl Ha wa) (v0 : Value) (a0 : List Int) (p0 : RSl Ha eI 1 v0 a0) (v1 : Value) (a1 : List Int) (p1 : RSl Ha eI 1 v1 a1) {r : Int} (hp : (PF.impl_unit a0 a1) = some r) :
  Calls prog 158 #[v0, v1] wa (Sc Ha wa (vI r)) := by
 unfold PF.impl_unit at hp; have S0 := St.init hs; refine calls_go (N := 19) (args := [v0, v1]) func158 rfl rfl rfl ?_; refine FW.sr ?_; refine FL.as (v := vI 0) rfl ?_; refine FL.nil (FW.seq (FW.sr ?_)); refine FL.mv (v := v0) rfl ?_; refine FL.mv (v := v1) rfl ?_; obtain ⟨r21, hr22, hp⟩ := bnd hp; refine FL.c (E.call call160 (A2 rfl rfl)) (w_impl_clauseValue S0.sl v0 a0 p0 v1 a1 p1 hr22) ?_; rintro e w23 ⟨rfl, r24⟩; refine ⟨_, rfl, ?_⟩; have S25 := S0.call r24; refine FL.v (E.neq rfl rfl) ?_; refine FL.nil ?_; rcases ifB hp with ⟨c26, hp⟩ | ⟨c26, hp⟩
 ·
  refine FW.condT rfl c26 ?_; refine FW.sr ?_; refine FL.as (v := vI 0) rfl ?_; refine FL.nil (FW.ret ?_); cases hp; exact ⟨.inr rfl, res1 rfl rfl ⟨rfl, S25.back⟩⟩
 ·
  refine FW.condF rfl c26 ?_; refine FW.skip (FW.seq (FW.sr ?_)); refine FL.mv (v := v0) rfl ?_; refine FL.mv (v := v1) rfl ?_; obtain ⟨r27, hr28, hp⟩ := bnd hp; refine FL.c (E.call call182 (A2 rfl rfl)) (w_impl_openPart S25.sl v0 a0 p0 v1 a1 p1 hr28) ?_; rintro e w30 ⟨H29, v33, n34, cs35, rfl, r32, els36⟩; refine ⟨_, rfl, ?_⟩; have els36 := els36.mono (up_le S25.size); have S31 := S25.join (l' := [.row 3 1 v33 n34 cs35]) r32 rfl; refine FL.as (v := v33) rfl ?_; refine FL.nil (FW.sr ?_); refine FL.mv (v := v33) rfl ?_; refine FL.v (E.lenO te44 rfl S31 (i := 0) rfl els36 (by decide)) ?_; refine FL.v (E.eql rfl rfl) ?_; refine FL.nil ?_; rcases ifB hp with ⟨c37, hp⟩ | ⟨c37, hp⟩
  ·
   refine FW.condT rfl c37 ?_; refine FW.sr ?_; refine FL.mv (v := v33) rfl ?_; obtain ⟨x44, hx45, hp⟩ := bnd hp; obtain ⟨p38, cs39, pt40, l41, at42, rel43⟩ := S31.row_at (i := 0) rfl els36 (by decide) hx45; obtain rfl := eI_open rel43; refine FL.v (E.indexAddr te44 rfl rfl pt40) ?_; refine FL.v (E.load rfl (run_load0 isAgg3 at42 rfl)) ?_; refine FL.as (v := vI x44) rfl ?_; refine FL.nil (FW.ret ?_); cases hp; exact ⟨.inr rfl, res1 rfl rfl ⟨rfl, S31.back⟩⟩
  ·
   refine FW.condF rfl c37 ?_; refine FW.skip (FW.sr ?_); refine FL.as (v := vI 0) rfl ?_; refine FL.nil (FW.ret ?_); cases hp; exact ⟨.inr rfl, res1 rfl rfl ⟨rfl, S31.back⟩⟩

theorem w_impl_withoutVar_1 {Ha : GH} {wa : World} (hs : Sl Ha wa) (a0 : Int) (q0 : Addr) (b0 : Int) (c0 : CAt Ha q0 [vI b0]) :
  Calls prog 175 #[vI a0, vP (q0)] wa (Sc Ha wa (vB (PF.impl_withoutVar_1 a0 b0))) := by
 obtain ⟨r, hp⟩ : ∃ r, (PF.impl_withoutVar_1 a0 b0) = r := ⟨_, rfl⟩; rw [hp]; unfold PF.impl_withoutVar_1 at hp; have S0 := St.init hs; refine calls_go (N := 8) (args := [vI a0, vP (q0)]) func175 rfl rfl rfl ?_; refine FW.sr ?_; refine FL.as (v := vB false) rfl ?_; refine FL.nil (FW.seq ?_); refine FW.draw (fun w' => Run wa.heap.size Ha wa Ha w') (by kernel_rfl) (by kernel_rfl) (run_drew S0.sl) ?_; refine FD.v (fun _ z => (E.move (v := vI a0) rfl)) ?_; refine FD.call rfl rfl rfl (fun _ z => (E.call call91 (A1 rfl))) (fun _ z => Calls.cls z (w_impl_abs (S0.call z).sl a0)) ?_; refine FD.v (fun _ z => (E.load rfl (run_load0 isAgg3 (c0.now (S0.call z).sl) rfl))) ?_; refine FD.v (fun _ z => (E.eql rfl rfl)) ?_; refine FD.v (fun _ z => (E.assign (v := vB ((PF.impl_abs a0) == b0)) rfl)) ?_; refine FD.nil ?_; intro w22 r24; have S23 := S0.call r24; refine FW.ret ?_; obtain rfl := hp; exact ⟨.inr rfl, res1 rfl rfl ⟨rfl, S23.back⟩⟩

@[reducible] def p_impl_withoutVar (Ha : GH) (wa : World) (r : (List Int)) : Ending → World → Prop :=
 fun e w' => ∃ H' : GH, ∃ v0 : Value, ∃ n0 : Nat, ∃ c0 : List Value, e = .returned (v0) ∧ St Ha wa H' w' [.row 3 1 v0 n0 c0] ∧ Els (up wa.heap.size H') eI 1 c0 r
theorem w_impl_withoutVar {Ha : GH} {wa : World} (hs : Sl Ha wa) (v0 : Value) (a0 : List Int) (p0 : RSl Ha eI 1 v0 a0) (a1 : Int) {r : (List Int)} (hp : (PF.impl_withoutVar a0 a1) = some r) :
  Calls prog 145 #[v0, vI a1] wa (p_impl_withoutVar Ha wa r) := by
 unfold PF.impl_withoutVar at hp; have S0 := St.init hs; refine calls_go (N := 9) (args := [v0, vI a1]) func145 rfl rfl rfl ?_; refine FW.sr ?_; obtain ⟨b21, w22, run23, S24⟩ := S0.box (P := prog) 3 [vI a1] (v := vI a1) rfl (oC rfl ones_nil); refine FL.v (E.box rfl run23) ?_; obtain ⟨H25, S26, i27, at28⟩ := S24.sealBox (i := 0) (l' := []) rfl rfl; refine FL.as (v := vN) rfl ?_; refine FL.nil (FW.sr ?_); refine FL.mv (v := v0) rfl ?_; obtain ⟨r29, hr30, hp⟩ := bnd hp; refine FL.c (E.call call56 (A1 rfl)) (w_slices_Clone_int_int S26.sl v0 a0 (p0.mono i27) hr30) ?_; rintro e w32 ⟨H31, v35, n36, cs37, rfl, r34, els38⟩; refine ⟨_, rfl, ?_⟩; have els38 := els38.mono (up_le S26.size); have S33 := S26.join (l' := [.row 3 1 v35 n36 cs37]) r34 rfl; refine FL.v (E.makeFunc A0 (A1 rfl)) ?_; obtain ⟨r39, hr40, hp⟩ := bnd hp; refine FL.c (E.call call174 (A2 rfl rfl)) (w_slices_DeleteFunc_int_int (L := []) S33 r29 els38 (Value.func (.func 175) #[] #[vP (⟨b21, 0, none⟩)]) (fun x0 => some (PF.impl_withoutVar_1 x0 a1)) (fun H2 w2 hi2 hs2 x0 r hr => ⟨175, #[vP (⟨b21, 0, none⟩)], rfl, call175, by cases hr; exact w_impl_withoutVar_1 hs2 x0 ⟨b21, 0, none⟩ a1 ((at28.mono r34.run.inc).mono hi2)⟩) hr40) ?_; rintro e w42 ⟨H41, v45, n46, cs47, rfl, ⟨S43, i44⟩, els48⟩; refine ⟨_, rfl, ?_⟩; have S43 : St Ha wa H41 w42 [.row 3 1 v45 n46 cs47] := S43; refine FL.as (v := v45) rfl ?_; refine FL.nil (FW.ret ?_); cases hp; exact ⟨.inr rfl, res1 rfl rfl ⟨_, _, _, _, rfl, S43, els48⟩⟩

@[reducible] def p_slices_SortFunc_int_int (H0 : GH) (w0 : World) (Ha : GH) (L : List MO) (v0 : Value) (n0 : Nat) (r : (List Int)) : Ending → World → Prop :=
 fun e w' => ∃ H' : GH, ∃ c0k : List Value, e = .returned (Value.tuple #[]) ∧ (St H0 w0 H' w' (.row 3 1 v0 n0 c0k :: L) ∧ Inc Ha H') ∧ Els (up w0.heap.size H') eI 1 c0k r
theorem w_slices_SortFunc_int_int {H0 Ha : GH} {w0 wa : World} {L : List MO} {v0 : Value} {n0 : Nat} {k0 : List Value} (S0 : St H0 w0 Ha wa (.row 3 1 v0 n0 k0 :: L)) (a0 : List Int) (p0 : Els (up w0.heap.size Ha) eI 1 k0 a0) (v1 : Value) (a1 : Int → Int → Option Int) (p1 : Fn_I_I_to_I prog Ha v1 a1) {r : (List Int)} (hp : (PF.slices_SortFunc_int_int a0 a1) = some r) :
  Calls prog 171 #[v0, v1] wa (p_slices_SortFunc_int_int H0 w0 Ha L v0 n0 r) := by
 refine (St.sortF (l := .row 3 1 v0 n0 k0 :: L) (i := 0) upI S0 rfl p0 (fun H2 w2 hi hs2 c x hc d y hd r hr => by cases eI_open hc; cases eI_open hd; exact p1 H2 w2 hi hs2 x y r hr) (fun p cap fv w => AnyF.slices_SortFunc_none (P := prog) (ρ := Tryz.sort171_ren) { Tryz.sort171 with } p cap fv w) (fun α _ enc h1 cf hO g cb blk off cap d w eg hc hH hb hs => Any.slices_SortFunc Tryz.sort171 enc h1 cf hO g cb blk off cap d w eg hc hH hb hs) hp).mono ?_; rintro e w' ⟨rfl, c', h1, h2⟩; exact ⟨_, _, rfl, ⟨h1, Inc.rfl _⟩, h2⟩

theorem w_cmp_isNaN_int {Ha : GH} {wa : World} (hs : Sl Ha wa) (a0 : Int) :
  Calls prog 181 #[vI a0] wa (Sc Ha wa (vB (PF.cmp_isNaN_int a0))) := by
 obtain ⟨r, hp⟩ : ∃ r, (PF.cmp_isNaN_int a0) = r := ⟨_, rfl⟩; rw [hp]; unfold PF.cmp_isNaN_int at hp; have S0 := St.init hs; refine calls_go (N := 6) (args := [vI a0]) func181 rfl rfl rfl ?_; refine FW.sr ?_; refine FL.as (v := vB false) rfl ?_; refine FL.nil (FW.sr ?_); refine FL.mv (v := vI a0) rfl ?_; refine FL.mv (v := vI a0) rfl ?_; refine FL.v (E.neq rfl rfl) ?_; refine FL.as (v := vB (!(a0 == a0))) rfl ?_; refine FL.nil (FW.ret ?_); obtain rfl := hp; exact ⟨.inr rfl, res1 rfl rfl ⟨rfl, S0.back⟩⟩

theorem w_cmp_Compare_int {Ha : GH} {wa : World} (hs : Sl Ha wa) (a0 : Int) (a1 : Int) :
  Calls prog 188 #[vI a0, vI a1] wa (Sc Ha wa (vI (PF.cmp_Compare_int a0 a1))) := by
 obtain ⟨r, hp⟩ : ∃ r, (PF.cmp_Compare_int a0 a1) = r := ⟨_, rfl⟩; rw [hp]; unfold PF.cmp_Compare_int at hp; have S0 := St.init hs; refine calls_go (N := 20) (args := [vI a0, vI a1]) func188 rfl rfl rfl ?_; refine FW.sr ?_; refine FL.as (v := vI 0) rfl ?_; refine FL.nil (FW.sr ?_); refine FL.mv (v := vI a0) rfl ?_; refine FL.c (E.call call181 (A1 rfl)) (w_cmp_isNaN_int S0.sl a0) ?_; rintro e w21 ⟨rfl, r22⟩; refine ⟨_, rfl, ?_⟩; have S23 := S0.call r22; refine FL.as (v := vB (PF.cmp_isNaN_int a0)) rfl ?_; refine FL.nil (FW.sr ?_); refine FL.mv (v := vI a1) rfl ?_; refine FL.c (E.call call181 (A1 rfl)) (w_cmp_isNaN_int S23.sl a1) ?_; rintro e w24 ⟨rfl, r25⟩; refine ⟨_, rfl, ?_⟩; have S26 := S23.call r25; refine FL.as (v := vB (PF.cmp_isNaN_int a1)) rfl ?_; refine FL.nil (FW.seq (FW.sr ?_)); refine FL.mv (v := vB (PF.cmp_isNaN_int a0)) rfl ?_; refine FL.nil ?_; rcases ifT hp with ⟨c27, hp⟩ | ⟨c27, hp⟩
 ·
  refine FW.condT rfl c27 ?_; refine FW.seq (FW.sr ?_); refine FL.mv (v := vB (PF.cmp_isNaN_int a1)) rfl ?_; refine FL.nil ?_; rcases ifT hp with ⟨c28, hp⟩ | ⟨c28, hp⟩
  ·
   refine FW.condT rfl c28 ?_; refine FW.sr ?_; refine FL.as (v := vI 0) rfl ?_; refine FL.nil (FW.ret ?_); obtain rfl := hp; exact ⟨.inr rfl, res1 rfl rfl ⟨rfl, S26.back⟩⟩
  ·
   refine FW.condF rfl c28 ?_; refine FW.skip (FW.sr ?_); refine FL.as (v := vI (-1)) rfl ?_; refine FL.nil (FW.ret ?_); obtain rfl := hp; exact ⟨.inr rfl, res1 rfl rfl ⟨rfl, S26.back⟩⟩
 ·
  refine FW.condF rfl c27 ?_; refine FW.skip (FW.seq (FW.sr ?_)); refine FL.mv (v := vB (PF.cmp_isNaN_int a1)) rfl ?_; refine FL.nil ?_; rcases ifT hp with ⟨c29, hp⟩ | ⟨c29, hp⟩
  ·
   refine FW.condT rfl c29 ?_; refine FW.sr ?_; refine FL.as (v := vI 1) rfl ?_; refine FL.nil (FW.ret ?_); obtain rfl := hp; exact ⟨.inr rfl, res1 rfl rfl ⟨rfl, S26.back⟩⟩
  ·
   refine FW.condF rfl c29 ?_; refine FW.skip (FW.seq (FW.sr ?_)); refine FL.mv (v := vI a0) rfl ?_; refine FL.mv (v := vI a1) rfl ?_; refine FL.v (E.lss rfl rfl) ?_; refine FL.nil ?_; rcases ifT hp with ⟨c30, hp⟩ | ⟨c30, hp⟩
   ·
    refine FW.condT rfl c30 ?_; refine FW.sr ?_; refine FL.as (v := vI (-1)) rfl ?_; refine FL.nil (FW.ret ?_); obtain rfl := hp; exact ⟨.inr rfl, res1 rfl rfl ⟨rfl, S26.back⟩⟩
   ·
    refine FW.condF rfl c30 ?_; refine FW.skip (FW.seq (FW.sr ?_)); refine FL.mv (v := vI a0) rfl ?_; refine FL.mv (v := vI a1) rfl ?_; refine FL.v (E.gtr rfl rfl) ?_; refine FL.nil ?_; rcases ifT hp with ⟨c31, hp⟩ | ⟨c31, hp⟩
    ·
     refine FW.condT rfl c31 ?_; refine FW.sr ?_; refine FL.as (v := vI 1) rfl ?_; refine FL.nil (FW.ret ?_); obtain rfl := hp; exact ⟨.inr rfl, res1 rfl rfl ⟨rfl, S26.back⟩⟩
    ·
     refine FW.condF rfl c31 ?_; refine FW.skip (FW.sr ?_); refine FL.as (v := vI 0) rfl ?_; refine FL.nil (FW.ret ?_); obtain rfl := hp; exact ⟨.inr rfl, res1 rfl rfl ⟨rfl, S26.back⟩⟩

theorem w_cmp_Or_int {Ha : GH} {wa : World} (hs : Sl Ha wa) (v0 : Value) (a0 : List Int) (p0 : RSl Ha eI 1 v0 a0) {r : Int} (hp : (PF.cmp_Or_int a0) = some r) :
  Calls prog 187 #[v0] wa (Sc Ha wa (vI r)) := by
 unfold PF.cmp_Or_int at hp; have S0 := St.init hs; refine calls_go (N := 18) (args := [v0]) func187 rfl rfl rfl ?_; refine FW.sr ?_; refine FL.as (v := vI 0) rfl ?_; refine FL.nil (FW.sr ?_); refine FL.as (v := vI 0) rfl ?_; refine FL.nil (FW.seq (FW.sr ?_)); refine FL.mv (v := v0) rfl ?_; refine FL.v (E.lenP te44 rfl p0) ?_; refine FL.mv (v := vI 0) rfl ?_; refine FL.nil ?_; obtain ⟨q22, hq, hp⟩ := bndR hp; refine FW.block ?_; refine FW.mono (FW.forL (S := Unit) (X := Int) (fun (i22 : Nat) (s22 : Unit) f w => ∃ H : GH, St Ha wa H w [] ∧ Inc Ha H ∧ f 8 = vI ((i22 : Nat) : Int) ∧ f 3 = vI 0 ∧ f 6 = v0 ∧ f 7 = vI (len a0)) (fun q e f w => match q with | .go s22 => e = Exit.exit 0 ∧ (∃ H : GH, St Ha wa H w [] ∧ Inc Ha H ∧ f 3 = vI 0) | .rt x => ((e = Exit.ret) ∧ (fun e f w => (e = Exit.normal ∨ e = Exit.ret) ∧ ∀ a, Fr (δ := []) 18 a f → ∃ v, (results Tryz.f187 a.tmps).run prog w = .ok v w ∧ (Sc Ha wa (vI x)) (.returned v) w) e f w)) hq ⟨_, S0, I0, rfl, rfl, rfl, rfl⟩ ?_ ?_) ?_
 ·
  clear hp hq; rintro i22 y21 s22 f43 w42 ⟨H39, S40, i41, k44, k45, k46, k47⟩ hx22 o55 hp; refine FW.sr ?_; refine FL.v (E.lssT k44 k47 (lss_len hx22)) ?_; refine FL.nil (FW.seq ?_); refine FW.condT rfl rfl ?_; refine FW.skip (FW.seq (FW.block (FW.sr ?_))); obtain ⟨p48, cs49, pt50, l51, at52, rel53⟩ := p0.at (ix_nat hx22); obtain rfl := eI_open rel53; refine FL.v (E.indexAddr te44 k46 k44 pt50) ?_; refine FL.v (E.load rfl (run_load0 isAgg3 ((at52.mono i41).now S40.sl) rfl)) ?_; refine FL.as (v := vI y21) rfl ?_; refine FL.nil (FW.sr ?_); refine FL.mv (v := vI y21) rfl ?_; refine FL.mv k45 ?_; refine FL.v (E.neq rfl rfl) ?_; refine FL.nil ?_; rcases ifB hp with ⟨c54, hp⟩ | ⟨c54, hp⟩
  ·
   refine FW.condT rfl c54 ?_; refine FW.sr ?_; refine FL.mv (v := vI y21) rfl ?_; refine FL.as (v := vI y21) rfl ?_; refine FL.nil (FW.ret ?_); cases hp; exact ⟨nofun, rfl, ⟨.inr rfl, res1 rfl rfl ⟨rfl, S40.back⟩⟩⟩
  ·
   refine FW.condF rfl c54 ?_; refine FW.skip (FW.region ?_); refine FL.v (E.add k44 rfl) ?_; refine FL.mv (v := vI (wr (((i22 : Nat) : Int) + 1))) rfl ?_; refine FL.nil ?_; cases hp; exact ⟨rfl, ⟨_, S40, i41, (nat_succ rfl (lt_of_get hx22) (p0.mono i41).le), k45, k46, k47⟩⟩
 ·
  clear hp hq; rintro s22 f66 w65 ⟨H62, S63, i64, k67, k68, k69, k70⟩; refine FW.sr ?_; refine FL.v (E.lss k67 k70) ?_; refine FL.nil (FW.seq ?_); refine FW.condF rfl dlt_len ?_; refine FW.exit ?_; exact ⟨nofun, rfl, ⟨_, S63, i64, k68⟩⟩
 ·
  clear hq; intro e f60 w59 hD; rcases q22 with s22 | x22
  ·
   obtain ⟨rfl, hD⟩ := hD; obtain ⟨H56, S57, i58, k61⟩ := hD; replace hp := el_go hp; refine FW.sr ?_; refine FL.mv k61 ?_; refine FL.as (v := vI 0) rfl ?_; refine FL.nil (FW.ret ?_); cases hp; exact ⟨.inr rfl, res1 rfl rfl ⟨rfl, S57.back⟩⟩
  ·
   obtain ⟨he, hL⟩ := hD; replace hp := el_rt hp; cases hp; subst he; exact hL

theorem w_impl_compareLiterals {Ha : GH} {wa : World} (hs : Sl Ha wa) (a0 : Int) (a1 : Int) {r : Int} (hp : (PF.impl_compareLiterals a0 a1) = some r) :
  Calls prog 172 #[vI a0, vI a1] wa (Sc Ha wa (vI r)) := by
 unfold PF.impl_compareLiterals at hp; have S0 := St.init hs; refine calls_go (N := 15) (args := [vI a0, vI a1]) func172 rfl rfl rfl ?_; refine FW.sr ?_; refine FL.as (v := vI 0) rfl ?_; refine FL.nil (FW.sr ?_); refine FL.mv (v := vI a0) rfl ?_; refine FL.c (E.call call91 (A1 rfl)) (w_impl_abs S0.sl a0) ?_; rintro e w21 ⟨rfl, r22⟩; refine ⟨_, rfl, ?_⟩; have S23 := S0.call r22; refine FL.mv (v := vI a1) rfl ?_; refine FL.c (E.call call91 (A1 rfl)) (w_impl_abs S23.sl a1) ?_; rintro e w24 ⟨rfl, r25⟩; refine ⟨_, rfl, ?_⟩; have S26 := S23.call r25; refine FL.c (E.call call188 (A2 rfl rfl)) (w_cmp_Compare_int S26.sl (PF.impl_abs a0) (PF.impl_abs a1)) ?_; rintro e w27 ⟨rfl, r28⟩; refine ⟨_, rfl, ?_⟩; have S29 := S26.call r28; refine FL.mv (v := vI a1) rfl ?_; refine FL.mv (v := vI a0) rfl ?_; refine FL.c (E.call call188 (A2 rfl rfl)) (w_cmp_Compare_int S29.sl a1 a0) ?_; rintro e w30 ⟨rfl, r31⟩; refine ⟨_, rfl, ?_⟩; have S32 := S29.call r31; obtain ⟨v33, w34, run35, S36⟩ := S32.buildSlice (P := prog) te44 [vI (PF.cmp_Compare_int (PF.impl_abs a0) (PF.impl_abs a1)), vI (PF.cmp_Compare_int a1 a0)] (parts := #[(0, vI (PF.cmp_Compare_int (PF.impl_abs a0) (PF.impl_abs a1))), (1, vI (PF.cmp_Compare_int a1 a0))]) (cells := [vI (PF.cmp_Compare_int (PF.impl_abs a0) (PF.impl_abs a1)), vI (PF.cmp_Compare_int a1 a0)]) rfl (szs_cons rfl (szs_cons rfl szs_nil)) (fc_cons rfl (fc_cons rfl fc_nil)) (oC rfl (oC rfl ones_nil)) (nB rfl); have els37 : Els (up wa.heap.size Ha) eI 1 [vI (PF.cmp_Compare_int (PF.impl_abs a0) (PF.impl_abs a1)), vI (PF.cmp_Compare_int a1 a0)] [(PF.cmp_Compare_int (PF.impl_abs a0) (PF.impl_abs a1)), (PF.cmp_Compare_int a1 a0)] := (Els.snoc (H := (up wa.heap.size Ha)) (E := eI) (k := 1) (c := [vI (PF.cmp_Compare_int a1 a0)]) (x := (PF.cmp_Compare_int a1 a0)) (Els.snoc (H := (up wa.heap.size Ha)) (E := eI) (k := 1) (c := [vI (PF.cmp_Compare_int (PF.impl_abs a0) (PF.impl_abs a1))]) (x := (PF.cmp_Compare_int (PF.impl_abs a0) (PF.impl_abs a1))) Els.nil rfl rfl) rfl rfl); refine FL.v (E.buildSlice (B2 rfl rfl) run35) ?_; obtain ⟨H38, S39, i40, h41, nv42⟩ := S36.sealRowU (i := 0) (l' := []) rfl els37 (by decide) rfl; obtain ⟨r43, hr44, hp⟩ := bnd hp; refine FL.c (E.call call187 (A1 rfl)) (w_cmp_Or_int S39.sl v33 [(PF.cmp_Compare_int (PF.impl_abs a0) (PF.impl_abs a1)), (PF.cmp_Compare_int a1 a0)] (h41.mono upI) hr44) ?_; rintro e w45 ⟨rfl, r46⟩; refine ⟨_, rfl, ?_⟩; have r46 := Run.lend i40 S36.sl r46; have S47 := S36.call r46; refine FL.as (v := vI r43) rfl ?_; refine FL.nil (FW.ret ?_); cases hp; exact ⟨.inr rfl, res1 rfl rfl ⟨rfl, S47.back⟩⟩

@[reducible] def p_slices_Compact_int_int (H0 : GH) (w0 : World) (Ha : GH) (L : List MO) (r : (List Int)) : Ending → World → Prop :=
 fun e w' => ∃ H' : GH, ∃ v0r : Value, ∃ n0r : Nat, ∃ c0r : List Value, e = .returned (v0r) ∧ (St H0 w0 H' w' (.row 3 1 v0r n0r c0r :: L) ∧ Inc Ha H') ∧ Els (up w0.heap.size H') eI 1 c0r r
theorem w_slices_Compact_int_int {H0 Ha : GH} {w0 wa : World} {L : List MO} {v0 : Value} {n0 : Nat} {k0 : List Value} (S0 : St H0 w0 Ha wa (.row 3 1 v0 n0 k0 :: L)) (a0 : List Int) (p0 : Els (up w0.heap.size Ha) eI 1 k0 a0) {r : (List Int)} (hp : (PF.slices_Compact_int_int a0) = some r) :
  Calls prog 82 #[v0] wa (p_slices_Compact_int_int H0 w0 Ha L r) := by
 cases hp; refine (St.compactF (l := .row 3 1 v0 n0 k0 :: L) (i := 0) S0 rfl p0 (enc := Value.int .i64) (fun _ => rfl) (fun _ _ _ h => by cases eI_open h; rfl) (fun _ _ => rfl) 0 (fun w => compact_none Tryz.comp82 w) (fun blk off cap d w hH hs hc => AnyE.slices_Compact Tryz.comp82 (Value.int .i64) (fun _ => rfl) (EqlAt.intD _ _ _) (NeqAt.intD _ _ _) 0 (fun w => zeroValue3 w) blk off cap d w hH hs hc)).mono ?_; rintro e w' ⟨v', n', c', rfl, h1, h2⟩; exact ⟨_, _, _, _, rfl, ⟨h1, Inc.rfl _⟩, h2⟩

@[reducible] def p_impl_clause (Ha : GH) (wa : World) (r : ((List Int) × Bool)) : Ending → World → Prop :=
 fun e w' => ∃ H' : GH, ∃ v0 : Value, ∃ n0 : Nat, ∃ c0 : List Value, e = .returned (Value.tuple #[v0, vB r.2]) ∧ St Ha wa H' w' [.row 3 1 v0 n0 c0] ∧ Els (up wa.heap.size H') eI 1 c0 r.1
theorem w_impl_clause {Ha : GH} {wa : World} (hs : Sl Ha wa) (v0 : Value) (a0 : List Int) (p0 : RSl Ha eI 1 v0 a0) {r : ((List Int) × Bool)} (hp : (PF.impl_clause a0) = some r) :
  Calls prog 143 #[v0] wa (p_impl_clause Ha wa r) := by
 unfold PF.impl_clause at hp; have S0 := St.init hs; refine calls_go (N := 30) (args := [v0]) func143 rfl rfl rfl ?_; refine FW.sr ?_; refine FL.as (v := vN) rfl ?_; refine FL.as (v := vB false) rfl ?_; refine FL.nil (FW.sr ?_); refine FL.mv (v := v0) rfl ?_; obtain ⟨r21, hr22, hp⟩ := bnd hp; refine FL.c (E.call call56 (A1 rfl)) (w_slices_Clone_int_int S0.sl v0 a0 p0 hr22) ?_; rintro e w24 ⟨H23, v27, n28, cs29, rfl, r26, els30⟩; refine ⟨_, rfl, ?_⟩; have els30 := els30.mono (up_le S0.size); have S25 := S0.join (l' := [.row 3 1 v27 n28 cs29]) r26 rfl; refine FL.as (v := v27) rfl ?_; refine FL.nil (FW.sr ?_); refine FL.mv (v := v27) rfl ?_; obtain ⟨r31, hr32, hp⟩ := bnd hp; refine FL.c (E.call call171 (A2 rfl rfl)) (w_slices_SortFunc_int_int (L := []) S25 r21 els30 (Value.func (.func 172) #[] #[]) (fun x0 x1 => PF.impl_compareLiterals x0 x1) (fun H2 w2 hi2 hs2 x0 x1 r hr => ⟨172, #[], rfl, call172, w_impl_compareLiterals hs2 x0 x1  hr⟩) hr32) ?_; rintro e w34 ⟨H33, cs37, rfl, ⟨S35, i36⟩, els38⟩; refine ⟨_, rfl, ?_⟩; have S35 : St Ha wa H33 w34 [.row 3 1 v27 n28 cs37] := S35; refine FL.nil (FW.sr ?_); refine FL.mv (v := v27) rfl ?_; obtain ⟨r39, hr40, hp⟩ := bnd hp; refine FL.c (E.call call82 (A1 rfl)) (w_slices_Compact_int_int (L := []) S35 r31 els38 hr40) ?_; rintro e w42 ⟨H41, v45, n46, cs47, rfl, ⟨S43, i44⟩, els48⟩; refine ⟨_, rfl, ?_⟩; have S43 : St Ha wa H41 w42 [.row 3 1 v45 n46 cs47] := S43; refine FL.as (v := v45) rfl ?_; refine FL.nil (FW.seq (FW.sr ?_)); refine FL.as (v := vI 1) rfl ?_; refine FL.nil ?_; obtain ⟨q49, hq, hp⟩ := bndR hp; refine FW.block ?_; refine FW.mono (FW.iter (S := Int) (X := ((List Int) × Bool)) (fun (s49 : Int) f w => ∃ H : GH, St Ha wa H w [.row 3 1 v45 n46 cs47] ∧ Inc H41 H ∧ f 4 = v45 ∧ f 5 = vI s49) (fun q e f w => match q with | .go s49 => e = Exit.exit 0 ∧ (∃ H : GH, St Ha wa H w [.row 3 1 v45 n46 cs47] ∧ Inc H41 H ∧ f 4 = v45) | .rt x => ((e = Exit.ret) ∧ (fun e f w => (e = Exit.normal ∨ e = Exit.ret) ∧ ∀ a, Fr (δ := []) 30 a f → ∃ v, (results Tryz.f143 a.tmps).run prog w = .ok v w ∧ (p_impl_clause Ha wa x) (.returned v) w) e f w)) hq ⟨_, S43, I0, rfl, rfl⟩ ?_) ?_
 ·
  clear hp hq; rintro s49 f83 w82 ⟨H79, S80, i81, k84, k85⟩ o108 hp; refine FW.seq (FW.sr ?_); refine FL.mv k85 ?_; refine FL.mv k84 ?_; refine FL.v (E.lenO te44 rfl S80 (i := 0) rfl els48 (by decide)) ?_; refine FL.v (E.lss rfl rfl) ?_; refine FL.nil ?_; rcases ifB hp with ⟨c86, hp⟩ | ⟨c86, hp⟩
  ·
   refine FW.condT rfl c86 ?_; refine FW.skip (FW.seq (FW.block (FW.seq ?_))); refine FW.draw (fun w' => Run w82.heap.size H79 w82 H79 w') (by kernel_rfl) (by kernel_rfl) (run_drew S80.sl) ?_; refine FD.v (fun _ z => (E.move k84)) ?_; refine FD.v (fun _ z => (E.move k85)) ?_; obtain ⟨x94, hx95, hp⟩ := bnd hp; obtain ⟨p88, cs89, pt90, l91, at92, rel93⟩ := S80.row_at (i := 0) rfl els48 (by decide) hx95; obtain rfl := eI_open rel93; refine FD.v (fun _ z => (E.indexAddr te44 rfl rfl pt90)) ?_; refine FD.v (fun _ z => (E.load rfl (run_load0 isAgg3 (at92.cls z) rfl))) ?_; refine FD.v (fun _ z => (E.move k84)) ?_; refine FD.v (fun _ z => (E.move k85)) ?_; refine FD.v (fun _ z => (E.sub rfl rfl)) ?_; obtain ⟨x102, hx103, hp⟩ := bnd hp; obtain ⟨p96, cs97, pt98, l99, at100, rel101⟩ := S80.row_at (i := 0) rfl els48 (by decide) hx103; obtain rfl := eI_open rel101; refine FD.v (fun _ z => (E.indexAddr te44 rfl rfl pt98)) ?_; refine FD.v (fun _ z => (E.load rfl (run_load0 isAgg3 (at100.cls z) rfl))) ?_; refine FD.v (fun _ z => (E.neg rfl)) ?_; refine FD.v (fun _ z => (E.eql rfl rfl)) ?_; refine FD.nil ?_; intro w104 r106; have S105 := S80.call r106; rcases ifB hp with ⟨c107, hp⟩ | ⟨c107, hp⟩
   ·
    refine FW.condT rfl c107 ?_; refine FW.sr ?_; refine FL.as (v := vN) rfl ?_; refine FL.as (v := vB false) rfl ?_; refine FL.nil (FW.ret ?_); cases hp; exact ⟨nofun, rfl, ⟨.inr rfl, res2 rfl rfl rfl ⟨_, _, _, _, rfl, ((S105.nil 3 1).sel [0] (by decide) rfl), Els.nil⟩⟩⟩
   ·
    refine FW.condF rfl c107 ?_; refine FW.skip (FW.region ?_); refine FL.mv k85 ?_; refine FL.v (E.add rfl rfl) ?_; refine FL.as (v := vI (wr (s49 + 1))) rfl ?_; refine FL.nil ?_; cases hp; exact ⟨rfl, ⟨_, S105, i81, k84, rfl⟩⟩
  ·
   refine FW.condF rfl c86 ?_; refine FW.exit ?_; cases hp; exact ⟨nofun, rfl, ⟨_, S80, i81, k84⟩⟩
 ·
  clear hq; intro e f113 w112 hD; rcases q49 with s49 | x49
  ·
   obtain ⟨rfl, hD⟩ := hD; obtain ⟨H109, S110, i111, k114⟩ := hD; replace hp := el_go hp; refine FW.sr ?_; refine FL.mv k114 ?_; refine FL.as (v := v45) rfl ?_; refine FL.as (v := vB true) rfl ?_; refine FL.nil (FW.ret ?_); cases hp; exact ⟨.inr rfl, res2 rfl rfl rfl ⟨_, _, _, _, rfl, S110, (els48.mono (up_mono i111))⟩⟩
  ·
   obtain ⟨he, hL⟩ := hD; replace hp := el_rt hp; cases hp; subst he; exact hL

@[reducible] def p_impl_mustClause (Ha : GH) (wa : World) (r : (List Int)) : Ending → World → Prop :=
 fun e w' => ∃ H' : GH, ∃ v0 : Value, ∃ n0 : Nat, ∃ c0 : List Value, e = .returned (v0) ∧ St Ha wa H' w' [.row 3 1 v0 n0 c0] ∧ Els (up wa.heap.size H') eI 1 c0 r
theorem w_impl_mustClause {Ha : GH} {wa : World} (hs : Sl Ha wa) (v0 : Value) (a0 : List Int) (p0 : RSl Ha eI 1 v0 a0) {r : (List Int)} (hp : (PF.impl_mustClause a0) = some r) :
  Calls prog 183 #[v0] wa (p_impl_mustClause Ha wa r) := by
 unfold PF.impl_mustClause at hp; have S0 := St.init hs; refine calls_go (N := 11) (args := [v0]) func183 rfl rfl rfl ?_; refine FW.sr ?_; refine FL.as (v := vN) rfl ?_; refine FL.nil (FW.sr ?_); refine FL.mv (v := v0) rfl ?_; obtain ⟨r21, hr22, hp⟩ := bnd hp; refine FL.c (E.call call143 (A1 rfl)) (w_impl_clause S0.sl v0 a0 p0 hr22) ?_; rintro e w24 ⟨H23, v27, n28, cs29, rfl, r26, els30⟩; refine ⟨_, rfl, ?_⟩; have els30 := els30.mono (up_le S0.size); have S25 := S0.join (l' := [.row 3 1 v27 n28 cs29]) r26 rfl; refine FL.mv (v := Value.tuple #[v27, vB r21.2]) rfl ?_; refine FL.v (E.extract (i := 0) rfl rfl) ?_; refine FL.v (E.extract (i := 1) rfl rfl) ?_; refine FL.as (v := v27) rfl ?_; refine FL.as (v := vB r21.2) rfl ?_; refine FL.nil (FW.sr ?_); refine FL.mv (v := v27) rfl ?_; refine FL.as (v := v27) rfl ?_; refine FL.nil (FW.ret ?_); cases hp; exact ⟨.inr rfl, res1 rfl rfl ⟨_, _, _, _, rfl, S25, els30⟩⟩

@[reducible] def p_impl_set (Ha : GH) (wa : World) (r : (List Int)) : Ending → World → Prop :=
 fun e w' => ∃ H' : GH, ∃ v0 : Value, ∃ n0 : Nat, ∃ c0 : List Value, e = .returned (v0) ∧ St Ha wa H' w' [.row 3 1 v0 n0 c0] ∧ Els (up wa.heap.size H') eI 1 c0 r
theorem w_impl_set {Ha : GH} {wa : World} (hs : Sl Ha wa) (v0 : Value) (a0 : List Int) (p0 : RSl Ha eI 1 v0 a0) (a1 : Int) {r : (List Int)} (hp : (PF.impl_set a0 a1) = some r) :
  Calls prog 159 #[v0, vI a1] wa (p_impl_set Ha wa r) := by
 unfold PF.impl_set at hp; have S0 := St.init hs; refine calls_go (N := 13) (args := [v0, vI a1]) func159 rfl rfl rfl ?_; refine FW.sr ?_; refine FL.as (v := vN) rfl ?_; refine FL.nil (FW.sr ?_); refine FL.mv (v := v0) rfl ?_; refine FL.mv (v := vI a1) rfl ?_; refine FL.c (E.call call91 (A1 rfl)) (w_impl_abs S0.sl a1) ?_; rintro e w21 ⟨rfl, r22⟩; refine ⟨_, rfl, ?_⟩; have S23 := S0.call r22; obtain ⟨r24, hr25, hp⟩ := bnd hp; refine FL.c (E.call call145 (A2 rfl rfl)) (w_impl_withoutVar S23.sl v0 a0 p0 (PF.impl_abs a1) hr25) ?_; rintro e w27 ⟨H26, v30, n31, cs32, rfl, r29, els33⟩; refine ⟨_, rfl, ?_⟩; have els33 := els33.mono (up_le S23.size); have S28 := S23.join (l' := [.row 3 1 v30 n31 cs32]) r29 rfl; refine FL.mv (v := vI a1) rfl ?_; obtain ⟨v34, w35, run36, S37⟩ := S28.buildSlice (P := prog) te44 [vI a1] (parts := #[(0, vI a1)]) (cells := [vI a1]) rfl (szs_cons rfl szs_nil) (fc_cons rfl fc_nil) (oC rfl ones_nil) (nB rfl); have els38 : Els (up wa.heap.size H26) eI 1 [vI a1] [a1] := (Els.snoc (H := (up wa.heap.size H26)) (E := eI) (k := 1) (c := [vI a1]) (x := a1) Els.nil rfl rfl); refine FL.v (E.buildSlice (B1 rfl) run36) ?_; obtain ⟨xs39, hz40, hp⟩ := bnd hp; obtain ⟨v41, w44, n42, cs43, run45, S46, els47, ce48⟩ := S37.appendO (P := prog) te44 (i := 1) (j := 0) rfl els33 rfl els38 hz40; have S46 : St Ha wa H26 w44 [.row 3 1 v34 1 [vI a1], .row 3 1 v41 n42 cs43] := S46; have S49 : St Ha wa H26 w44 [.row 3 1 v41 n42 cs43] := S46.drop 0; refine FL.v (E.append rfl rfl run45) ?_; obtain ⟨H50, S51, i52, h53, nv54⟩ := S49.sealRowU (i := 0) (l' := []) rfl els47 (by decide) rfl; obtain ⟨r55, hr56, hp⟩ := bnd hp; refine FL.c (E.call call183 (A1 rfl)) (w_impl_mustClause S51.sl v41 xs39 (h53.mono upI) hr56) ?_; rintro e w58 ⟨H57, v63, n64, cs65, rfl, r60, els66⟩; refine ⟨_, rfl, ?_⟩; obtain ⟨H61, r60, hU62⟩ := St.lendX i52 S49.sl r60; have els66 := els66.mono (hU62.tr (up_le S49.size)); have S59 := S49.join (l' := [.row 3 1 v63 n64 cs65, .row 3 1 v41 n42 cs43]) r60 rfl; refine FL.as (v := v63) rfl ?_; refine FL.nil (FW.ret ?_); cases hp; exact ⟨.inr rfl, res1 rfl rfl ⟨_, _, _, _, rfl, (S59.sel [0] (by decide) rfl), els66⟩⟩

@[reducible] def p_impl_propagate (Ha : GH) (wa : World) (r : ((List Int) × (List (Int × Int)) × Bool)) : Ending → World → Prop :=
 fun e w' => ∃ H' : GH, ∃ v0 : Value, ∃ v1 : Value, ∃ n1 : Nat, ∃ c1 : List Value, e = .returned (Value.tuple #[v0, v1, vB r.2.2]) ∧ St Ha wa H' w' [.row 99 2 v1 n1 c1] ∧ RSl (up wa.heap.size H') eI 1 v0 r.1 ∧ Els (up wa.heap.size H') eI2 2 c1 r.2.1
set_option maxHeartbeats 4000000 in
theorem w_impl_propagate {Ha : GH} {wa : World} (hs : Sl Ha wa) (v0 : Value) (a0 : List (List Int)) (p0 : RSl Ha (eL eI 1) 1 v0 a0) (v1 : Value) (a1 : List Int) (p1 : RSl Ha eI 1 v1 a1) {r : ((List Int) × (List (Int × Int)) × Bool)} (hp : (PF.impl_propagate a0 a1) = some r) :
  Calls prog 121 #[v0, v1] wa (p_impl_propagate Ha wa r) := by
 unfold PF.impl_propagate at hp; have S0 := St.init hs; refine calls_go (N := 41) (args := [v0, v1]) func121 rfl rfl rfl ?_; refine FW.sr ?_; obtain ⟨b21, w22, run23, S24⟩ := S0.box (P := prog) 44 [v1] (v := v1) p1.cells (oC p1.one ones_nil); refine FL.v (E.box rfl run23) ?_; refine FL.as (v := vN) rfl ?_; refine FL.as (v := vN) rfl ?_; refine FL.as (v := vB false) rfl ?_; refine FL.nil (FW.sr ?_); refine FL.v (E.load rfl (run_load0 isAgg44 (S24.box_now (i := 0) rfl) rfl)) ?_; obtain ⟨r25, hr26, hp⟩ := bnd hp; refine FL.c (E.call call56 (A1 rfl)) (w_slices_Clone_int_int S24.sl v1 a1 p1 hr26) ?_; rintro e w28 ⟨H27, v31, n32, cs33, rfl, r30, els34⟩; refine ⟨_, rfl, ?_⟩; have els34 := els34.mono (up_le S24.size); have S29 := S24.join (l' := [.row 3 1 v31 n32 cs33, .box b21 44 [v1]]) r30 rfl; obtain ⟨w35, run36, S37⟩ := S29.store0 (P := prog) (t := 44) (i := 1) (cs' := [v31]) (l' := [.row 3 1 v31 n32 cs33, .box b21 44 [v31]]) (v := v31) (c := [v31]) rfl sizeOf44 (Ln.cells (S29.row_ln (i := 0) rfl)) rfl (oC (Ln.one (S29.row_ln (i := 0) rfl)) ones_nil) (nB rfl) rfl rfl; refine FL.act rfl rfl (E.store rfl rfl run36) ?_; refine FL.nil (FW.sr ?_); refine FL.as (v := vN) rfl ?_; refine FL.nil ?_; obtain ⟨H38, S39, i40, h41, nv42⟩ := S37.sealRowU (i := 0) (l' := [.box b21 44 [v31]]) rfl els34 (by decide) rfl; obtain ⟨q43, hq, hp⟩ := bndR hp; refine FW.block ?_; refine FW.mono (FW.iter (S := ((List Int) × (List (Int × Int)))) (X := ((List Int) × (List (Int × Int)) × Bool)) (fun (s43 : ((List Int) × (List (Int × Int)))) f w => ∃ H : GH, ∃ v169 : Value, ∃ v171 : Value, ∃ n172 : Nat, ∃ cs173 : List Value, St Ha wa H w [.box b21 44 [v169], .row 99 2 v171 n172 cs173] ∧ Inc H38 H ∧ RSl (up wa.heap.size H) eI 1 v169 s43.1 ∧ Els (up wa.heap.size H) eI2 2 cs173 s43.2 ∧ f 0 = v0 ∧ f 3 = vP ((⟨b21, 0, none⟩ : Addr)) ∧ f 7 = v171) (fun q e f w => match q with | .go s43 => e = Exit.exit 0 ∧ (∃ H : GH, ∃ v169 : Value, ∃ v171 : Value, ∃ n172 : Nat, ∃ cs173 : List Value, St Ha wa H w [.box b21 44 [v169], .row 99 2 v171 n172 cs173] ∧ Inc H38 H ∧ RSl (up wa.heap.size H) eI 1 v169 s43.1 ∧ Els (up wa.heap.size H) eI2 2 cs173 s43.2 ∧ f 4 = vN ∧ f 5 = vN ∧ f 6 = vB false) | .rt x => ((e = Exit.ret) ∧ (fun e f w => (e = Exit.normal ∨ e = Exit.ret) ∧ ∀ a, Fr (δ := []) 41 a f → ∃ v, (results Tryz.f121 a.tmps).run prog w = .ok v w ∧ (p_impl_propagate Ha wa x) (.returned v) w) e f w)) hq ⟨_, _, _, _, _, ((S39.nil 99 2).sel [1, 0] (by decide) rfl), I0, h41, Els.nil, rfl, rfl, rfl⟩ ?_) ?_
 ·
  clear hp hq; rintro s43 f300 w299 ⟨H296, v169, v171, n172, cs173, S297, i298, h170, els174, k301, k302, k303⟩ o497 hp; refine FW.block (FW.seq (FW.sr ?_)); refine FL.mv k301 ?_; refine FL.v (E.load k302 (run_load0 isAgg44 (S297.box_now (i := 0) rfl) rfl)) ?_; obtain ⟨r304, hr305, hp⟩ := bnd hp; refine FL.c (E.call call123 (A2 rfl rfl)) (w_impl_falseClauses S297.sl v0 a0 (p0.mono ((r30.run.inc.tr i40).tr i298)) v169 s43.1 (h170.mono upI) hr305) ?_; rintro e w307 ⟨H306, v310, n311, cs312, rfl, r309, els313⟩; refine ⟨_, rfl, ?_⟩; have els313 := els313.mono (up_le S297.size); have S308 := S297.join (l' := [.row 3 1 v310 n311 cs312, .box b21 44 [v169], .row 99 2 v171 n172 cs173]) r309 rfl; refine FL.v (E.lenO te44 rfl S308 (i := 0) rfl els313 (by decide)) ?_; refine FL.v (E.gtr rfl rfl) ?_; refine FL.nil ?_; rcases ifB hp with ⟨c314, hp⟩ | ⟨c314, hp⟩
  ·
   refine FW.condT rfl c314 ?_; refine FW.sr ?_; refine FL.v (E.load k302 (run_load0 isAgg44 (S308.box_now (i := 1) rfl) rfl)) ?_; refine FL.mv k303 ?_; refine FL.as (v := v169) rfl ?_; refine FL.as (v := v171) rfl ?_; refine FL.as (v := vB true) rfl ?_; refine FL.nil (FW.ret ?_); cases hp; exact ⟨nofun, rfl, ⟨.inr rfl, res3 rfl rfl rfl rfl ⟨_, _, _, _, _, rfl, (S308.sel [2] (by decide) rfl), (h170.mono (up_mono r309.run.inc)), (els174.mono (up_mono r309.run.inc))⟩⟩⟩
  ·
   refine FW.condF rfl c314 ?_; refine FW.skip (FW.sr ?_); refine FL.mv k301 ?_; refine FL.v (E.makeFunc A0 (A1 k302)) ?_; obtain ⟨s360, hq360, hp⟩ := bnd hp; obtain ⟨R360, hR360⟩ : ∃ R360 : Int → Ending → World → Prop, R360 = (fun s360 e w => ∃ H : GH, e = Ending.returned (vI s360) ∧ St Ha wa H w [.row 3 1 v310 n311 cs312, .box b21 44 [v169], .row 99 2 v171 n172 cs173] ∧ Inc H306 H) := ⟨_, rfl⟩; have hc360 : Calls prog 139 #[v0, Value.func (.func 157) #[] #[vP ((⟨b21, 0, none⟩ : Addr))]] w307 (R360 s360) := by
    clear hp; have hp := hq360; clear hq360; refine calls_go (N := 19) (args := [v0, Value.func (.func 157) #[] #[vP ((⟨b21, 0, none⟩ : Addr))]]) func139 rfl rfl rfl ?_; refine FW.sr ?_; refine FL.as (v := vI 0) rfl ?_; refine FL.nil (FW.seq (FW.sr ?_)); refine FL.mv (v := v0) rfl ?_; refine FL.v (E.lenP te22 rfl p0) ?_; refine FL.mv (v := vI 0) rfl ?_; refine FL.nil ?_; obtain ⟨q362, hq, hp⟩ := bndR hp; refine FW.block ?_; refine FW.mono (FW.forL (S := Unit) (X := Int) (fun (i362 : Nat) (s362 : Unit) f w => ∃ H : GH, St Ha wa H w [.row 3 1 v310 n311 cs312, .box b21 44 [v169], .row 99 2 v171 n172 cs173] ∧ Inc H306 H ∧ f 8 = vI ((i362 : Nat) : Int) ∧ f 0 = v0 ∧ f 1 = Value.func (.func 157) #[] #[vP ((⟨b21, 0, none⟩ : Addr))] ∧ f 7 = vI (len a0)) (fun q e f w => match q with | .go s362 => e = Exit.exit 0 ∧ (∃ H : GH, St Ha wa H w [.row 3 1 v310 n311 cs312, .box b21 44 [v169], .row 99 2 v171 n172 cs173] ∧ Inc H306 H) | .rt x => ((e = Exit.ret) ∧ (fun e f w => (e = Exit.normal ∨ e = Exit.ret) ∧ ∀ a, Fr (δ := []) 19 a f → ∃ v, (results Tryz.f139 a.tmps).run prog w = .ok v w ∧ R360 x (.returned v) w) e f w)) hq ⟨_, S308, I0, rfl, rfl, rfl, rfl⟩ ?_ ?_) ?_
    ·
     clear hp hq; rintro i362 y361 s362 f396 w395 ⟨H392, S393, i394, k397, k398, k399, k400⟩ hx362 o426 hp; refine FW.sr ?_; refine FL.v (E.lssT k397 k400 (lss_len hx362)) ?_; refine FL.nil (FW.seq ?_); refine FW.condT rfl rfl ?_; refine FW.skip (FW.seq (FW.block (FW.sr ?_))); refine FL.mv k397 ?_; refine FL.as (v := vI ((i362 : Nat) : Int)) rfl ?_; refine FL.nil (FW.sr ?_); refine FL.mv k399 ?_; refine FL.mv k398 ?_; refine FL.mv (v := vI ((i362 : Nat) : Int)) rfl ?_; obtain ⟨p401, cs402, pt403, l404, at405, rel406⟩ := p0.at (ix_nat hx362); obtain ⟨v407, rfl, h408⟩ := eL_open rel406; refine FL.v (E.indexAddr te22 rfl rfl pt403) ?_; refine FL.v (E.load rfl (run_load0 isAgg44 ((at405.mono ((((r30.run.inc.tr i40).tr i298).tr r309.run.inc).tr i394)).now S393.sl) rfl)) ?_; obtain ⟨s414, hq414, hp⟩ := bnd hp; obtain ⟨R414, hR414⟩ : ∃ R414 : Bool → Ending → World → Prop, R414 = (fun s414 e w => ∃ H : GH, e = Ending.returned (vB s414) ∧ St Ha wa H w [.row 3 1 v310 n311 cs312, .box b21 44 [v169], .row 99 2 v171 n172 cs173] ∧ Inc H392 H) := ⟨_, rfl⟩; have hc414 : Calls prog 157 #[v407, vP ((⟨b21, 0, none⟩ : Addr))] w395 (R414 s414) := by
      clear hp; have hp := hq414; clear hq414; refine calls_go (N := 8) (args := [v407, vP ((⟨b21, 0, none⟩ : Addr))]) func157 rfl rfl rfl ?_; refine FW.sr ?_; refine FL.as (v := vB false) rfl ?_; refine FL.nil (FW.sr ?_); refine FL.mv (v := v407) rfl ?_; refine FL.v (E.load rfl (run_load0 isAgg44 (S393.box_now (i := 1) rfl) rfl)) ?_; obtain ⟨r415, hr416, hp⟩ := bnd hp; refine FL.c (E.call call158 (A2 rfl rfl)) (w_impl_unit S393.sl v407 y361 (h408.mono ((((r30.run.inc.tr i40).tr i298).tr r309.run.inc).tr i394)) v169 s43.1 (h170.mono (upI.tr (r309.run.inc.tr i394))) hr416) ?_; rintro e w417 ⟨rfl, r418⟩; refine ⟨_, rfl, ?_⟩; have S419 := S393.call r418; refine FL.v (E.neq rfl rfl) ?_; refine FL.as (v := vB (!(r415 == 0))) rfl ?_; refine FL.nil (FW.ret ?_); cases hp; exact ⟨.inr rfl, res1 rfl rfl (by rw [hR414]; exact ⟨_, rfl, S419, I0⟩)⟩
     clear hq414; refine FL.c (E.callV call157 rfl (appA (A1 rfl) #[vP ((⟨b21, 0, none⟩ : Addr))])) hc414 ?_; intro e w423 hQ414; rw [hR414] at hQ414; obtain ⟨H420, rfl, S421, i422⟩ := hQ414; refine ⟨_, rfl, ?_⟩; refine FL.nil ?_; rcases ifB hp with ⟨c425, hp⟩ | ⟨c425, hp⟩
     ·
      refine FW.condT rfl c425 ?_; refine FW.sr ?_; refine FL.mv (v := vI ((i362 : Nat) : Int)) rfl ?_; refine FL.as (v := vI ((i362 : Nat) : Int)) rfl ?_; refine FL.nil (FW.ret ?_); cases hp; exact ⟨nofun, rfl, ⟨.inr rfl, res1 rfl rfl (by rw [hR360]; exact ⟨_, rfl, S421, (i394.tr i422)⟩)⟩⟩
     ·
      refine FW.condF rfl c425 ?_; refine FW.skip (FW.region ?_); refine FL.v (E.add k397 rfl) ?_; refine FL.mv (v := vI (wr (((i362 : Nat) : Int) + 1))) rfl ?_; refine FL.nil ?_; cases hp; exact ⟨rfl, ⟨_, S421, (i394.tr i422), (nat_succ rfl (lt_of_get hx362) (p0.mono (((((r30.run.inc.tr i40).tr i298).tr r309.run.inc).tr i394).tr i422)).le), k398, k399, k400⟩⟩
    ·
     clear hp hq; rintro s362 f436 w435 ⟨H432, S433, i434, k437, k438, k439, k440⟩; refine FW.sr ?_; refine FL.v (E.lss k437 k440) ?_; refine FL.nil (FW.seq ?_); refine FW.condF rfl dlt_len ?_; refine FW.exit ?_; exact ⟨nofun, rfl, ⟨_, S433, i434⟩⟩
    ·
     clear hq; intro e f431 w430 hD; rcases q362 with s362 | x362
     ·
      obtain ⟨rfl, hD⟩ := hD; obtain ⟨H427, S428, i429⟩ := hD; replace hp := el_go hp; refine FW.sr ?_; refine FL.as (v := vI (-1)) rfl ?_; refine FL.nil (FW.ret ?_); cases hp; exact ⟨.inr rfl, res1 rfl rfl (by rw [hR360]; exact ⟨_, rfl, S428, i429⟩)⟩
     ·
      obtain ⟨he, hL⟩ := hD; replace hp := el_rt hp; cases hp; subst he; exact hL
   clear hq360; refine FL.c (E.call call139 (A2 rfl rfl)) hc360 ?_; intro e w444 hQ360; rw [hR360] at hQ360; obtain ⟨H441, rfl, S442, i443⟩ := hQ360; refine ⟨_, rfl, ?_⟩; refine FL.as (v := vI s360) rfl ?_; refine FL.nil (FW.seq (FW.sr ?_)); refine FL.mv (v := vI s360) rfl ?_; refine FL.v (E.lss rfl rfl) ?_; refine FL.nil ?_; rcases ifB hp with ⟨c446, hp⟩ | ⟨c446, hp⟩
   ·
    refine FW.condT rfl c446 ?_; refine FW.sr ?_; refine FL.v (E.load k302 (run_load0 isAgg44 (S442.box_now (i := 1) rfl) rfl)) ?_; refine FL.mv k303 ?_; refine FL.as (v := v169) rfl ?_; refine FL.as (v := v171) rfl ?_; refine FL.as (v := vB false) rfl ?_; refine FL.nil (FW.ret ?_); cases hp; exact ⟨nofun, rfl, ⟨.inr rfl, res3 rfl rfl rfl rfl ⟨_, _, _, _, _, rfl, (S442.sel [2] (by decide) rfl), (h170.mono (up_mono (r309.run.inc.tr i443))), (els174.mono (up_mono (r309.run.inc.tr i443)))⟩⟩⟩
   ·
    refine FW.condF rfl c446 ?_; refine FW.skip (FW.seq ?_); refine FW.draw (fun w' => Run w444.heap.size H441 w444 H441 w') (by kernel_rfl) (by kernel_rfl) (run_drew S442.sl) ?_; refine FD.v (fun _ z => (E.move k301)) ?_; refine FD.v (fun _ z => (E.move (v := vI s360) rfl)) ?_; obtain ⟨x454, hx455, hp⟩ := bnd hp; obtain ⟨p448, cs449, pt450, l451, at452, rel453⟩ := p0.at hx455; obtain ⟨v456, rfl, h457⟩ := eL_open rel453; refine FD.v (fun _ z => (E.indexAddr te22 rfl rfl pt450)) ?_; refine FD.v (fun _ z => (E.load rfl (run_load0 isAgg44 ((at452.mono ((((r30.run.inc.tr i40).tr i298).tr r309.run.inc).tr i443)).now (S442.call z).sl) rfl))) ?_; refine FD.v (fun _ z => (E.load k302 (run_load0 isAgg44 ((S442.call z).box_now (i := 1) rfl) rfl))) ?_; obtain ⟨r458, hr459, hp⟩ := bnd hp; refine FD.call rfl rfl rfl (fun _ z => (E.call call158 (A2 rfl rfl))) (fun _ z => Calls.cls z (w_impl_unit (S442.call z).sl v456 x454 (h457.mono ((((r30.run.inc.tr i40).tr i298).tr r309.run.inc).tr i443)) v169 s43.1 (h170.mono (upI.tr (r309.run.inc.tr i443))) hr459)) ?_; refine FD.v (fun _ z => (E.assign (v := vI r458) rfl)) ?_; refine FD.nil ?_; intro w460 r462; have S461 := S442.call r462; refine FW.sr ?_; refine FL.v (E.load k302 (run_load0 isAgg44 (S461.box_now (i := 1) rfl) rfl)) ?_; refine FL.mv (v := vI r458) rfl ?_; obtain ⟨r463, hr464, hp⟩ := bnd hp; refine FL.c (E.call call159 (A2 rfl rfl)) (w_impl_set S461.sl v169 s43.1 (h170.mono (upI.tr (r309.run.inc.tr i443))) r458 hr464) ?_; rintro e w466 ⟨H465, v469, n470, cs471, rfl, r468, els472⟩; refine ⟨_, rfl, ?_⟩; have els472 := els472.mono (up_le S461.size); have S467 := S461.join (l' := [.row 3 1 v469 n470 cs471, .row 3 1 v310 n311 cs312, .box b21 44 [v169], .row 99 2 v171 n172 cs173]) r468 rfl; obtain ⟨w473, run474, S475⟩ := S467.store0 (P := prog) (t := 44) (i := 2) (cs' := [v469]) (l' := [.row 3 1 v469 n470 cs471, .row 3 1 v310 n311 cs312, .box b21 44 [v469], .row 99 2 v171 n172 cs173]) (v := v469) (c := [v469]) rfl sizeOf44 (Ln.cells (S467.row_ln (i := 0) rfl)) rfl (oC (Ln.one (S467.row_ln (i := 0) rfl)) ones_nil) (nB rfl) rfl rfl; refine FL.act rfl rfl (E.store k302 rfl run474) ?_; refine FL.nil (FW.region ?_); refine FL.mv k303 ?_; refine FL.mv (v := vI r458) rfl ?_; refine FL.mv (v := vI s360) rfl ?_; refine FL.v (E.build (B2 rfl rfl) (run_build _ 99 #[(0, vI r458), (1, vI s360)] #[vI r458, vI s360] (by rfl))) ?_; obtain ⟨v476, w477, run478, S479⟩ := S475.buildSlice (P := prog) te95 [vA #[vI r458, vI s360]] (parts := #[(0, vA #[vI r458, vI s360])]) (cells := [vI r458, vI s360]) rfl (szs_cons rfl szs_nil) (fc_cons rfl fc_nil) (oC rfl (oC rfl ones_nil)) (nB rfl); have els480 : Els (up wa.heap.size H465) eI2 2 [vI r458, vI s360] [(r458, s360)] := (Els.snoc (H := (up wa.heap.size H465)) (E := eI2) (k := 2) (c := [vI r458, vI s360]) (x := (r458, s360)) Els.nil rfl rfl); refine FL.v (E.buildSlice (B1 rfl) run478) ?_; obtain ⟨xs481, hz482, hp⟩ := bnd hp; obtain ⟨v483, w486, n484, cs485, run487, S488, els489, ce490⟩ := S479.appendO (P := prog) te95 (i := 4) (j := 0) rfl (els174.mono (up_mono ((r309.run.inc.tr i443).tr r468.run.inc))) rfl els480 hz482; have S488 : St Ha wa H465 w486 [.row 99 2 v476 1 [vI r458, vI s360], .row 3 1 v469 n470 cs471, .row 3 1 v310 n311 cs312, .box b21 44 [v469], .row 99 2 v483 n484 cs485] := S488; have S491 : St Ha wa H465 w486 [.row 3 1 v469 n470 cs471, .row 3 1 v310 n311 cs312, .box b21 44 [v469], .row 99 2 v483 n484 cs485] := S488.drop 0; refine FL.v (E.append rfl rfl run487) ?_; refine FL.as (v := v483) rfl ?_; refine FL.nil ?_; obtain ⟨H492, S493, i494, h495, nv496⟩ := S491.sealRowU (i := 0) (l' := [.row 3 1 v310 n311 cs312, .box b21 44 [v469], .row 99 2 v483 n484 cs485]) rfl els472 (by decide) rfl; cases hp; exact ⟨rfl, ⟨_, _, _, _, _, (S493.sel [1, 2] (by decide) rfl), ((((i298.tr r309.run.inc).tr i443).tr r468.run.inc).tr i494), h495, (els489.mono (up_mono i494)), k301, k302, rfl⟩⟩
 ·
  clear hq; intro e f502 w501 hD; rcases q43 with s43 | x43
  ·
   obtain ⟨rfl, hD⟩ := hD; obtain ⟨H498, v169, v171, n172, cs173, S499, i500, h170, els174, k503, k504, k505⟩ := hD; replace hp := el_go hp; cases hp; exact ⟨.inl rfl, res3 rfl k503 k504 k505 ⟨_, _, _, _, _, rfl, ((S499.nil 99 2).sel [0] (by decide) rfl), (RSl.nil _ _ _), Els.nil⟩⟩
  ·
   obtain ⟨he, hL⟩ := hD; replace hp := el_rt hp; cases hp; subst he; exact hL

theorem w_impl_follows {Ha : GH} {wa : World} (hs : Sl Ha wa) (v0 : Value) (a0 : List (List Int)) (p0 : RSl Ha (eL eI 1) 1 v0 a0) (v1 : Value) (a1 : List Int) (p1 : RSl Ha eI 1 v1 a1) {r : Bool} (hp : (PF.impl_follows a0 a1) = some r) :
  Calls prog 113 #[v0, v1] wa (Sc Ha wa (vB r)) := by
 unfold PF.impl_follows at hp; have S0 := St.init hs; refine calls_go (N := 17) (args := [v0, v1]) func113 rfl rfl rfl ?_; refine FW.sr ?_; refine FL.as (v := vB false) rfl ?_; refine FL.nil (FW.sr ?_); refine FL.mv (v := v0) rfl ?_; refine FL.mv (v := v1) rfl ?_; obtain ⟨r21, hr22, hp⟩ := bnd hp; refine FL.c (E.call call122 (A1 rfl)) (w_impl_negated S0.sl v1 a1 p1 hr22) ?_; rintro e w24 ⟨H23, v27, n28, cs29, rfl, r26, els30⟩; refine ⟨_, rfl, ?_⟩; have els30 := els30.mono (up_le S0.size); have S25 := S0.join (l' := [.row 3 1 v27 n28 cs29]) r26 rfl; obtain ⟨H31, S32, i33, h34, nv35⟩ := S25.sealRowU (i := 0) (l' := []) rfl els30 (by decide) rfl; obtain ⟨r36, hr37, hp⟩ := bnd hp; refine FL.c (E.call call121 (A2 rfl rfl)) (w_impl_propagate S32.sl v0 a0 (p0.mono (r26.run.inc.tr i33)) v27 r21 (h34.mono upI) hr37) ?_; rintro e w39 ⟨H38, v44, v47, n48, cs49, rfl, r41, h45, els50⟩; refine ⟨_, rfl, ?_⟩; obtain ⟨H42, r41, hU43⟩ := St.lendX i33 S25.sl r41; have nv46 : New H23 [v44] := New.of_up S25.sl h45.dom; have h45 := h45.mono (hU43.tr (up_le S25.size)); have els50 := els50.mono (hU43.tr (up_le S25.size)); have S40 := S25.join (l' := [.row 99 2 v47 n48 cs49, .row 3 1 v27 n28 cs29]) r41 rfl; refine FL.mv (v := Value.tuple #[v44, v47, vB r36.2.2]) rfl ?_; refine FL.v (E.extract (i := 0) rfl rfl) ?_; refine FL.v (E.extract (i := 1) rfl rfl) ?_; refine FL.v (E.extract (i := 2) rfl rfl) ?_; refine FL.as (v := v44) rfl ?_; refine FL.as (v := v47) rfl ?_; refine FL.as (v := vB r36.2.2) rfl ?_; refine FL.nil (FW.sr ?_); refine FL.mv (v := vB r36.2.2) rfl ?_; refine FL.as (v := vB r36.2.2) rfl ?_; refine FL.nil (FW.ret ?_); cases hp; exact ⟨.inr rfl, res1 rfl rfl ⟨rfl, S40.back⟩⟩

theorem w_impl_firstUnfollowed {Ha : GH} {wa : World} (hs : Sl Ha wa) (a0 : Cnf) (v0_1 : Value) (p0_1 : RSl Ha (eL eI 1) 1 v0_1 a0.clauses) (v1 : Value) (a1 : List (List Int)) (p1 : RSl Ha (eL eI 1) 1 v1 a1) {r : Int} (hp : (PF.impl_firstUnfollowed a0 a1) = some r) :
  Calls prog 78 #[vA #[vI a0.vars, v0_1], v1] wa (Sc Ha wa (vI r)) := by
 unfold PF.impl_firstUnfollowed at hp; have S0 := St.init hs; refine calls_go (N := 23) (args := [vA #[vI a0.vars, v0_1], v1]) func78 rfl rfl rfl ?_; refine FW.sr ?_; obtain ⟨b21, w22, run23, S24⟩ := S0.box (P := prog) 28 [vI a0.vars, v0_1] (v := vA #[vI a0.vars, v0_1]) rfl (oC rfl (oC p0_1.one ones_nil)); refine FL.v (E.box rfl run23) ?_; obtain ⟨H25, S26, i27, at28⟩ := S24.sealBox (i := 0) (l' := []) rfl rfl; refine FL.as (v := vI 0) rfl ?_; refine FL.nil (FW.seq (FW.sr ?_)); refine FL.mv (v := v1) rfl ?_; refine FL.v (E.lenP te22 rfl p1) ?_; refine FL.mv (v := vI 0) rfl ?_; refine FL.nil ?_; obtain ⟨q30, hq, hp⟩ := bndR hp; refine FW.block ?_; refine FW.mono (FW.forL (S := Unit) (X := Int) (fun (i30 : Nat) (s30 : Unit) f w => ∃ H : GH, St Ha wa H w [] ∧ Inc H25 H ∧ f 9 = vI ((i30 : Nat) : Int) ∧ f 1 = v1 ∧ f 2 = vP (⟨b21, 0, none⟩) ∧ f 7 = v1 ∧ f 8 = vI (len a1)) (fun q e f w => match q with | .go s30 => e = Exit.exit 0 ∧ (∃ H : GH, St Ha wa H w [] ∧ Inc H25 H) | .rt x => ((e = Exit.ret) ∧ (fun e f w => (e = Exit.normal ∨ e = Exit.ret) ∧ ∀ a, Fr (δ := []) 23 a f → ∃ v, (results Tryz.f78 a.tmps).run prog w = .ok v w ∧ (Sc Ha wa (vI x)) (.returned v) w) e f w)) hq ⟨_, S26, I0, rfl, rfl, rfl, rfl, rfl⟩ ?_ ?_) ?_
 ·
  clear hp hq; rintro i30 y29 s30 f74 w73 ⟨H70, S71, i72, k75, k76, k77, k78, k79⟩ hx30 o109 hp; refine FW.sr ?_; refine FL.v (E.lssT k75 k79 (lss_len hx30)) ?_; refine FL.nil (FW.seq ?_); refine FW.condT rfl rfl ?_; refine FW.skip (FW.seq (FW.block (FW.sr ?_))); refine FL.mv k75 ?_; obtain ⟨p80, cs81, pt82, l83, at84, rel85⟩ := p1.at (ix_nat hx30); obtain ⟨v86, rfl, h87⟩ := eL_open rel85; refine FL.v (E.indexAddr te22 k78 k75 pt82) ?_; refine FL.v (E.load rfl (run_load0 isAgg44 ((at84.mono (i27.tr i72)).now S71.sl) rfl)) ?_; refine FL.as (v := vI ((i30 : Nat) : Int)) rfl ?_; refine FL.as (v := v86) rfl ?_; refine FL.nil (FW.sr ?_); refine FL.v (E.load k77 (run_loadA isAgg28 sizeOf28 ((at28.mono i72).now S71.sl) rfl)) ?_; refine FL.mv k76 ?_; refine FL.mv (v := vI ((i30 : Nat) : Int)) rfl ?_; obtain ⟨r88, hr89, hp⟩ := bnd hp; refine FL.c (E.call call114 (A3 rfl rfl rfl)) (w_impl_before S71.sl a0 v0_1 (p0_1.mono (i27.tr i72)) v1 a1 (p1.mono (i27.tr i72)) ((i30 : Nat) : Int) hr89) ?_; rintro e w91 ⟨H90, v94, n95, cs96, rfl, r93, els97⟩; refine ⟨_, rfl, ?_⟩; have S92 := S71.join (l' := [.row 44 1 v94 n95 cs96]) r93 rfl; refine FL.mv (v := v86) rfl ?_; obtain ⟨H98, S99, i100, h101⟩ := S92.sealRow (i := 0) (l' := []) rfl els97 (by decide) rfl; obtain ⟨r103, hr104, hp⟩ := bnd hp; refine FL.c (E.call call113 (A2 rfl rfl)) (w_impl_follows S99.sl v94 r88 h101 v86 y29 (h87.mono (((i27.tr i72).tr r93.run.inc).tr i100)) hr104) ?_; rintro e w105 ⟨rfl, r106⟩; refine ⟨_, rfl, ?_⟩; have r106 := Run.lend i100 S92.sl r106; have S107 := S92.call r106; refine FL.v (E.not rfl) ?_; refine FL.nil ?_; rcases ifB hp with ⟨c108, hp⟩ | ⟨c108, hp⟩
  ·
   refine FW.condT rfl c108 ?_; refine FW.sr ?_; refine FL.mv (v := vI ((i30 : Nat) : Int)) rfl ?_; refine FL.as (v := vI ((i30 : Nat) : Int)) rfl ?_; refine FL.nil (FW.ret ?_); cases hp; exact ⟨nofun, rfl, ⟨.inr rfl, res1 rfl rfl ⟨rfl, S107.back⟩⟩⟩
  ·
   refine FW.condF rfl c108 ?_; refine FW.skip (FW.region ?_); refine FL.v (E.add k75 rfl) ?_; refine FL.mv (v := vI (wr (((i30 : Nat) : Int) + 1))) rfl ?_; refine FL.nil ?_; cases hp; exact ⟨rfl, ⟨_, (S107.sel [] (by decide) rfl), (i72.tr r93.run.inc), (nat_succ rfl (lt_of_get hx30) (p1.mono ((i27.tr i72).tr r93.run.inc)).le), k76, k77, k78, k79⟩⟩
 ·
  clear hp hq; rintro s30 f119 w118 ⟨H115, S116, i117, k120, k121, k122, k123, k124⟩; refine FW.sr ?_; refine FL.v (E.lss k120 k124) ?_; refine FL.nil (FW.seq ?_); refine FW.condF rfl dlt_len ?_; refine FW.exit ?_; exact ⟨nofun, rfl, ⟨_, S116, i117⟩⟩
 ·
  clear hq; intro e f114 w113 hD; rcases q30 with s30 | x30
  ·
   obtain ⟨rfl, hD⟩ := hD; obtain ⟨H110, S111, i112⟩ := hD; replace hp := el_go hp; refine FW.sr ?_; refine FL.as (v := vI (-1)) rfl ?_; refine FL.nil (FW.ret ?_); cases hp; exact ⟨.inr rfl, res1 rfl rfl ⟨rfl, S111.back⟩⟩
  ·
   obtain ⟨he, hL⟩ := hD; replace hp := el_rt hp; cases hp; subst he; exact hL

end Go.Proofs
