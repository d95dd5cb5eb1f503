/- Part of the walks and plain laws behind the claim: it proves helpers, under no condition beyond their own. -/
import Derived.Test.YtjpjbfbloplacaaGreatTdWk1
set_option linter.unusedVariables false
set_option maxRecDepth 100000
namespace Go.Proofs
open Go.Mr Go.Pu Go.PF Go.RowKit Tryz

@[reducible] def p_spec_l21Translate (Ha : GH) (wa : World) (r : l21Work) : Ending → World → Prop :=
  fun e w' => ∃ H' : GH, ∃ v0_0 : Value, ∃ v0_1 : Value, e = .returned (vA #[v0_0, v0_1]) ∧ Run wa.heap.size Ha wa H' w' ∧ (∃ c, Nest (up wa.heap.size H') ePcStep 6 v0_0 r.pc c) ∧ RSl (up wa.heap.size H') eI 1 v0_1 r.to
set_option maxHeartbeats 4000000 in
theorem w_spec_l21Translate {Ha : GH} {wa : World} (hs : Sl Ha wa) (a0 : Int) (a1 : Cnf) (v1_1 : Value) (p1_1 : RSl Ha (eL eI 1) 1 v1_1 a1.clauses) (v2 : Value) (a2 : List ResStep) (p2 : RSl Ha eResStep 4 v2 a2) {r : l21Work} (hp : (PF.spec_l21Translate a0 a1 a2) = some r) :
    Calls prog 126 #[vI a0, vA #[vI a1.vars, v1_1], v2] wa (p_spec_l21Translate Ha wa r) := by
  unfold PF.spec_l21Translate at hp
  have S0 := St.init hs
  refine calls_go (N := 186) (args := [vI a0, vA #[vI a1.vars, v1_1], v2]) Tryz.func126 rfl rfl rfl ?_
  refine FW.seq (FW.region ?_)
  obtain ⟨b21, w22, run23, S24⟩ := S0.box (P := prog) 32 [vI a1.vars, v1_1] (v := vA #[vI a1.vars, v1_1]) rfl (ones_cons rfl (ones_cons p1_1.one ones_nil))
  refine FL.v (E.box rfl run23) ?_
  obtain ⟨H25, S26, i27, at28⟩ := S24.sealBox (i := 0) (l' := []) rfl rfl
  obtain ⟨b29, w30, run31, S32⟩ := S26.alloc (P := prog) 168 [vN, vN] Tryz.zeroValue168 rfl (ones_cons rfl (ones_cons rfl ones_nil))
  refine FL.v (E.alloc run31) ?_
  refine FL.nil (FW.seq (FW.region ?_))
  obtain ⟨v33, w34, run35, S36⟩ := S32.buildSlice (P := prog) te36 [] (parts := #[]) (cells := []) rfl szs_nil fc_nil ones_nil (Nat.le_of_ble_eq_true rfl)
  have els37 : Els (up wa.heap.size H25) ePcStep 6 [] [] := Els.nil
  refine FL.v (E.buildSlice (B0) run35) ?_
  obtain ⟨v38, w39, run40, S41⟩ := S36.buildSlice (P := prog) te73 [] (parts := #[]) (cells := []) rfl szs_nil fc_nil ones_nil (Nat.le_of_ble_eq_true rfl)
  have els42 : Els (up wa.heap.size H25) eI 1 [] [] := Els.nil
  refine FL.v (E.buildSlice (B0) run40) ?_
  refine FL.v (E.build (B2 rfl rfl) (run_build _ 168 #[(0, v33), (1, v38)] #[v33, v38] (by obtain ⟨_, _, rfl⟩ := S41.row_ln (i := 1) rfl; obtain ⟨_, _, rfl⟩ := S41.row_ln (i := 0) rfl; rfl))) ?_
  obtain ⟨b43, w44, run45, S46⟩ := S41.alloc (P := prog) 168 [vN, vN] Tryz.zeroValue168 rfl (ones_cons rfl (ones_cons rfl ones_nil))
  refine FL.v (E.alloc run45) ?_
  obtain ⟨w47, run48, S49⟩ := S46.store0 (P := prog) (t := 168) (i := 0) (cs' := [v33, v38]) (l' := [.box b43 168 [v33, v38], .row 3 1 v38 0 [], .row 90 6 v33 0 [], .box b29 168 [vN, vN]]) (v := vA #[v33, v38]) (c := [v33, v38]) rfl Tryz.sizeOf168 rfl rfl (ones_cons (Ln.one (S46.row_ln (i := 2) rfl)) (ones_cons (Ln.one (S46.row_ln (i := 1) rfl)) ones_nil)) (Nat.le_of_ble_eq_true rfl) rfl rfl
  refine FL.act rfl rfl (E.store rfl rfl run48) ?_
  refine FL.nil (FW.seq (FW.seq (FW.region ?_)))
  refine FL.v (E.assign (v := vI 0) rfl) ?_
  refine FL.nil ?_
  obtain ⟨q51, hq, hp⟩ := bndR hp
  refine FW.block ?_
  refine FW.mono (FW.forL (S := ((List Int) × (List PcStep))) (X := Empty) (fun (i51 : Nat) (s51 : ((List Int) × (List PcStep))) f w => ∃ H : GH, ∃ v52 : Value, ∃ n53 : Nat, ∃ cs54 : List Value, ∃ v56 : Value, ∃ n57 : Nat, ∃ cs58 : List Value, St Ha wa H w [.box b43 168 [v56, v52], .row 3 1 v52 n53 cs54, .row 90 6 v56 n57 cs58, .box b29 168 [vN, vN]] ∧ Inc H25 H ∧ Els (up wa.heap.size H) eI 1 cs54 s51.1 ∧ Els (up wa.heap.size H) ePcStep 6 cs58 s51.2 ∧ (bl cs58).Nodup ∧ f 8 = vI ((i51 : Nat) : Int) ∧ f 0 = vI a0 ∧ f 2 = v2 ∧ f 4 = vP (⟨b21, 0, none⟩) ∧ f 6 = vP ((⟨b29, 0, none⟩ : Addr)) ∧ f 7 = vP ((⟨b43, 0, none⟩ : Addr))) (fun (q : Rs ((List Int) × (List PcStep)) Empty) e f w => match q with | .go s51 => e = Exit.exit 0 ∧ (∃ H : GH, ∃ v52 : Value, ∃ n53 : Nat, ∃ cs54 : List Value, ∃ v56 : Value, ∃ n57 : Nat, ∃ cs58 : List Value, St Ha wa H w [.box b43 168 [v56, v52], .row 3 1 v52 n53 cs54, .row 90 6 v56 n57 cs58, .box b29 168 [vN, vN]] ∧ Inc H25 H ∧ Els (up wa.heap.size H) eI 1 cs54 s51.1 ∧ Els (up wa.heap.size H) ePcStep 6 cs58 s51.2 ∧ (bl cs58).Nodup ∧ f 6 = vP ((⟨b29, 0, none⟩ : Addr)) ∧ f 7 = vP ((⟨b43, 0, none⟩ : Addr))) | .rt x => x.elim) hq ⟨_, _, _, _, _, _, _, S49, (Inc.rfl _), els42, els37, (show (bl []).Nodup from List.nodup_nil), rfl, rfl, rfl, rfl, rfl, rfl⟩ ?_ ?_) ?_
  ·
    clear hp hq
    rintro i51 y50 s51 f65 w64 ⟨H61, v52, n53, cs54, v56, n57, cs58, S62, i63, els55, els59, nd60, k66, k67, k68, k69, k70, k71⟩ hx51 o667 hp
    refine FW.seq (FW.seq (FW.region ?_))
    refine FL.v (E.move k66) ?_
    refine FL.v (E.move k68) ?_
    refine FL.v (E.lenP te34 rfl p2) ?_
    refine FL.v (E.lssT rfl rfl (lss_len hx51)) ?_
    refine FL.nil ?_
    refine FW.condT rfl rfl ?_
    refine FW.skip (FW.seq (FW.block (FW.seq (FW.region ?_))))
    refine FL.v (E.move k68) ?_
    refine FL.v (E.move k66) ?_
    obtain ⟨p72, cs74, pt75, l76, at77, rel78⟩ := p2.at (ix_nat hx51)
    obtain ⟨v79, rfl, h80⟩ := eResStep_open rel78
    refine FL.v (E.indexAddr te34 rfl rfl pt75) ?_
    refine FL.v (E.load rfl (run_loadA Tryz.isAgg88 Tryz.sizeOf88 ((at77.mono (i27.tr i63)).now S62.sl) rfl)) ?_
    obtain ⟨b81, w82, run83, S84⟩ := S62.alloc (P := prog) 88 [vN, vI 0, vI 0, vI 0] Tryz.zeroValue88 rfl (ones_cons rfl (ones_cons rfl (ones_cons rfl (ones_cons rfl ones_nil))))
    refine FL.v (E.alloc run83) ?_
    obtain ⟨w85, run86, S87⟩ := S84.store0 (P := prog) (t := 88) (i := 0) (cs' := [v79, vI y50.left, vI y50.right, vI y50.pivot]) (l' := [.box b81 88 [v79, vI y50.left, vI y50.right, vI y50.pivot], .box b43 168 [v56, v52], .row 3 1 v52 n53 cs54, .row 90 6 v56 n57 cs58, .box b29 168 [vN, vN]]) (v := vA #[v79, vI y50.left, vI y50.right, vI y50.pivot]) (c := [v79, vI y50.left, vI y50.right, vI y50.pivot]) rfl Tryz.sizeOf88 rfl rfl (ones_cons h80.one (ones_cons rfl (ones_cons rfl (ones_cons rfl ones_nil)))) (Nat.le_of_ble_eq_true rfl) rfl rfl
    refine FL.act rfl rfl (E.store rfl rfl run86) ?_
    obtain ⟨H89, S91, i92, at93⟩ := S87.sealBox (i := 0) (l' := [.box b43 168 [v56, v52], .row 3 1 v52 n53 cs54, .row 90 6 v56 n57 cs58, .box b29 168 [vN, vN]]) rfl rfl
    refine FL.v (E.assign (v := vI 0) rfl) ?_
    refine FL.nil (FW.seq (FW.block (FW.seq (FW.region ?_))))
    refine FL.v (E.fieldAddr tf88_1 rfl) ?_
    refine FL.v (E.load rfl (run_load1 Tryz.isAgg3 (at93.now S91.sl) rfl)) ?_
    refine FL.v (E.eql rfl rfl) ?_
    refine FL.v (E.assign (v := vB (y50.left == (-1))) rfl) ?_
    refine FL.nil ?_
    rcases ifB hp with ⟨c94, hp⟩ | ⟨c94, hp⟩
    ·
      refine FW.condT rfl c94 ?_
      refine FW.seq ?_
      obtain ⟨r98, hr99, hp⟩ := bnd hp
      obtain ⟨xs119, hz120, hp⟩ := bnd hp
      refine FW.drawB (Sl H89) (fun f w => ∃ H : GH, ∃ v134 : Value, ∃ n135 : Nat, ∃ cs136 : List Value, St Ha wa H w [.box b43 168 [v134, v52], .row 3 1 v52 n53 cs54, .row 90 6 v134 n135 cs136, .box b29 168 [vN, vN]] ∧ Inc H89 H ∧ Els (up wa.heap.size H) ePcStep 6 cs136 xs119 ∧ (bl cs136).Nodup ∧ f 0 = vI a0 ∧ f 2 = v2 ∧ f 4 = vP (⟨b21, 0, none⟩) ∧ f 6 = vP ((⟨b29, 0, none⟩ : Addr)) ∧ f 7 = vP ((⟨b43, 0, none⟩ : Addr)) ∧ f 8 = vI ((i51 : Nat) : Int)) (by kernel_rfl) S91.sl ?_ ?_
      ·
        intro w95 r96
        have S97 := S91.call r96
        refine FB.phase [14] (fun w => WAt w (Addr.add ⟨b43, 0, none⟩ 0) [v56]) ?_
        refine FB.t (i := 0) (bs 15 1) rfl (SP.on ((S97.box_now (i := 0) rfl).sub (j := 0) (n := 1) (c := [v56]) rfl) (SP.nil S97.sl)) rfl (fun _ z => (E.fieldAddr tf168_0 k71)) ?_
        refine FB.p (i := 1) (bs 15 3) 0 [12, 13, 14] rfl (SP.on ((S97.box_now (i := 0) rfl).sub (j := 0) (n := 1) (c := [v56]) rfl) (SP.nil S97.sl)) rfl rfl (fun _ z => (E.load rfl (run_load0 Tryz.isAgg36 z rfl))) ?_
        refine FB.t (i := 2) (bs 15 7) rfl (SP.on ((S97.box_now (i := 0) rfl).sub (j := 0) (n := 1) (c := [v56]) rfl) (SP.nil S97.sl)) rfl (fun _ z => (E.move k67)) ?_
        refine FB.t (i := 3) (bs 15 15) rfl (SP.on ((S97.box_now (i := 0) rfl).sub (j := 0) (n := 1) (c := [v56]) rfl) (SP.nil S97.sl)) rfl (fun _ z => (E.fieldAddr tf32_0 k69)) ?_
        refine FB.t (i := 4) (bs 15 31) rfl (SP.on ((S97.box_now (i := 0) rfl).sub (j := 0) (n := 1) (c := [v56]) rfl) (SP.nil S97.sl)) rfl (fun _ z => (E.load rfl (run_load1 Tryz.isAgg3 ((at28.mono (i63.tr i92)).now z) rfl))) ?_
        refine FB.t (i := 5) (bs 15 63) rfl (SP.on ((S97.box_now (i := 0) rfl).sub (j := 0) (n := 1) (c := [v56]) rfl) (SP.nil S97.sl)) rfl (fun _ z => (E.fieldAddr tf88_0 rfl)) ?_
        refine FB.t (i := 6) (bs 15 127) rfl (SP.on ((S97.box_now (i := 0) rfl).sub (j := 0) (n := 1) (c := [v56]) rfl) (SP.nil S97.sl)) rfl (fun _ z => (E.load rfl (run_load1 Tryz.isAgg73 (at93.now z) rfl))) ?_
        refine FB.t (i := 8) (bs 15 383) rfl (SP.on ((S97.box_now (i := 0) rfl).sub (j := 0) (n := 1) (c := [v56]) rfl) (SP.nil S97.sl)) rfl (fun _ z => (E.fieldAddr tf88_2 rfl)) ?_
        refine FB.t (i := 9) (bs 15 895) rfl (SP.on ((S97.box_now (i := 0) rfl).sub (j := 0) (n := 1) (c := [v56]) rfl) (SP.nil S97.sl)) rfl (fun _ z => (E.load rfl (run_load1 Tryz.isAgg3 (at93.now z) rfl))) ?_
        refine FB.all1 (i := 7) (by kernel_rfl) ?_
        ·
          refine FC.call (l' := (bs 15 1023)) rfl (by kernel_rfl) rfl rfl rfl (E.call Tryz.call60 (A3 rfl rfl rfl)) (w_spec_l18Clause S97.sl a0 a1.vars v79 y50.clause (h80.mono ((i27.tr i63).tr i92)) hr99) ?_
          rintro e w101 ⟨H100, v104, n105, cs106, rfl, r103, els107⟩
          refine ⟨_, rfl, ?_⟩
          have els107 := els107.mono (up_le S97.size)
          have S102 := S97.join (l' := [.row 108 2 v104 n105 cs106, .box b43 168 [v56, v52], .row 3 1 v52 n53 cs54, .row 90 6 v56 n57 cs58, .box b29 168 [vN, vN]]) r103 rfl
          refine ⟨(SP.on ((S102.box_now (i := 1) rfl).sub (j := 0) (n := 1) (c := [v56]) rfl) (SP.nil (Sl.of_inc r103.run.inc S102.sl))), ?_⟩
          obtain ⟨H108, S109, i110, h111, nv112⟩ := S102.sealRowU (i := 0) (l' := [.box b43 168 [v56, v52], .row 3 1 v52 n53 cs54, .row 90 6 v56 n57 cs58, .box b29 168 [vN, vN]]) rfl els107 (by decide) rfl
          refine FB.t (i := 10) (bs 15 2047) rfl (SP.on ((S102.box_now (i := 1) rfl).sub (j := 0) (n := 1) (c := [v56]) rfl) (SP.nil (Sl.of_inc r103.run.inc S102.sl))) rfl (fun _ z => (E.build (B3 rfl rfl rfl) (run_build _ 90 #[(0, vI 1), (1, v104), (2, vI y50.right)] #[vI 1, v104, vI y50.right, vI 0, vI 0, vI 0] (by obtain ⟨_, _, rfl⟩ := RSl.ln (h111.mono upI); rfl)))) ?_
          refine FB.all1 (i := 11) (by kernel_rfl) ?_
          ·
            obtain ⟨v113, w114, run115, S116⟩ := S109.buildSlice (P := prog) te36 [vA #[vI 1, v104, vI y50.right, vI 0, vI 0, vI 0]] (parts := #[(0, vA #[vI 1, v104, vI y50.right, vI 0, vI 0, vI 0])]) (cells := [vI 1, v104, vI y50.right, vI 0, vI 0, vI 0]) rfl (szs_cons rfl szs_nil) (fc_cons rfl fc_nil) (ones_cons rfl (ones_cons h111.one (ones_cons rfl (ones_cons rfl (ones_cons rfl (ones_cons rfl ones_nil)))))) (Nat.le_of_ble_eq_true rfl)
            have els117 : Els (up wa.heap.size H108) ePcStep 6 [vI 1, v104, vI y50.right, vI 0, vI 0, vI 0] [(PcStep.mk 1 r98 y50.right 0 0 0)] := (Els.snoc (H := (up wa.heap.size H108)) (E := ePcStep) (k := 6) (c := [vI 1, v104, vI y50.right, vI 0, vI 0, vI 0]) (x := (PcStep.mk 1 r98 y50.right 0 0 0)) Els.nil rfl ⟨_, rfl, h111⟩)
            have nd118 : (bl [vI 1, v104, vI y50.right, vI 0, vI 0, vI 0]).Nodup := by exact nd_one v104
            refine FC.val (l' := (bs 15 4095)) rfl (by kernel_rfl) rfl rfl rfl (E.buildSlice (B1 rfl) run115) ?_
            refine ⟨(SP.on ((S116.box_now (i := 1) rfl).sub (j := 0) (n := 1) (c := [v56]) rfl) (SP.nil (Sl.of_inc (r103.run.inc.tr i110) S116.sl))), ?_⟩
            refine FB.all1 (i := 12) (by kernel_rfl) ?_
            ·
              obtain ⟨v121, w124, n122, cs123, run125, S126, els127, ce128⟩ := S116.appendO (P := prog) te36 (i := 3) (j := 0) rfl (els59.mono (up_mono ((i92.tr r103.run.inc).tr i110))) rfl els117 hz120
              have S126 : St Ha wa H108 w124 [.row 90 6 v113 1 [vI 1, v104, vI y50.right, vI 0, vI 0, vI 0], .box b43 168 [v56, v52], .row 3 1 v52 n53 cs54, .row 90 6 v121 n122 cs123, .box b29 168 [vN, vN]] := S126
              have nd129 : (bl cs123).Nodup := by rw [ce128]; exact nd_app nd60 nd118 (Els.dom (els59.mono (upI.tr (i92.tr r103.run.inc)))) (by exact nv112)
              have S130 : St Ha wa H108 w124 [.box b43 168 [v56, v52], .row 3 1 v52 n53 cs54, .row 90 6 v121 n122 cs123, .box b29 168 [vN, vN]] := S126.drop 0
              refine FC.val (l' := (bs 15 8191)) rfl (by kernel_rfl) rfl rfl rfl (E.append rfl rfl run125) ?_
              refine ⟨(SP.on ((S130.box_now (i := 0) rfl).sub (j := 0) (n := 1) (c := [v56]) rfl) (SP.nil (Sl.of_inc (r103.run.inc.tr i110) S130.sl))), ?_⟩
              refine FB.t (i := 13) (bs 15 16383) rfl (SP.on ((S130.box_now (i := 0) rfl).sub (j := 0) (n := 1) (c := [v56]) rfl) (SP.nil (Sl.of_inc (r103.run.inc.tr i110) S130.sl))) rfl (fun _ z => (E.fieldAddr tf168_0 k71)) ?_
              refine FB.all1 (i := 14) (by kernel_rfl) ?_
              ·
                obtain ⟨w131, run132, S133⟩ := S130.store (P := prog) (t := 36) (i := 0) (j := 0) (cs' := [v121, v52]) (l' := [.box b43 168 [v121, v52], .row 3 1 v52 n53 cs54, .row 90 6 v121 n122 cs123, .box b29 168 [vN, vN]]) (v := v121) (c := [v121]) rfl Tryz.sizeOf36 (Ln.cells (S130.row_ln (i := 2) rfl)) rfl (ones_cons (Ln.one (S130.row_ln (i := 2) rfl)) ones_nil) (Nat.le_of_ble_eq_true rfl) rfl rfl
                refine FC.act (l' := (bs 15 32767)) rfl (by kernel_rfl) rfl rfl (E.store rfl rfl run132) ?_
                refine ⟨(SP.o (SP.nil (Sl.of_inc (r103.run.inc.tr i110) S133.sl))), ?_⟩
                exact FB.done (by kernel_rfl) ⟨_, _, _, _, S133, (r103.run.inc.tr i110), els127, nd129, k67, k68, k69, k70, k71, k66⟩
      ·
        rintro f143 w142 ⟨H139, v134, n135, cs136, S140, i141, els137, nd138, k144, k145, k146, k147, k148, k149⟩
        refine FW.region ?_
        refine FL.v (E.fieldAddr tf168_0 k148) ?_
        refine FL.v (E.load rfl (run_load1 Tryz.isAgg36 (S140.box_now (i := 0) rfl) rfl)) ?_
        refine FL.v (E.lenO te36 rfl S140 (i := 2) rfl els137 (by decide)) ?_
        refine FL.v (E.sub rfl rfl) ?_
        refine FL.v (E.assign (v := vI (wr ((len xs119) - 1))) rfl) ?_
        refine FL.nil (FW.region ?_)
        refine FL.v (E.fieldAddr tf168_1 k148) ?_
        refine FL.v (E.load rfl (run_load1 Tryz.isAgg73 (S140.box_now (i := 0) rfl) rfl)) ?_
        refine FL.v (E.move (v := vI (wr ((len xs119) - 1))) rfl) ?_
        obtain ⟨v150, w151, run152, S153⟩ := S140.buildSlice (P := prog) te73 [vI (wr ((len xs119) - 1))] (parts := #[(0, vI (wr ((len xs119) - 1)))]) (cells := [vI (wr ((len xs119) - 1))]) rfl (szs_cons rfl szs_nil) (fc_cons rfl fc_nil) (ones_cons rfl ones_nil) (Nat.le_of_ble_eq_true rfl)
        have els154 : Els (up wa.heap.size H139) eI 1 [vI (wr ((len xs119) - 1))] [(wr ((len xs119) - 1))] := (Els.snoc (H := (up wa.heap.size H139)) (E := eI) (k := 1) (c := [vI (wr ((len xs119) - 1))]) (x := (wr ((len xs119) - 1))) Els.nil rfl rfl)
        refine FL.v (E.buildSlice (B1 rfl) run152) ?_
        obtain ⟨xs155, hz156, hp⟩ := bnd hp
        obtain ⟨v157, w160, n158, cs159, run161, S162, els163, ce164⟩ := S153.appendO (P := prog) te73 (i := 2) (j := 0) rfl (els55.mono (up_mono (i92.tr i141))) rfl els154 hz156
        have S162 : St Ha wa H139 w160 [.row 3 1 v150 1 [vI (wr ((len xs119) - 1))], .box b43 168 [v134, v52], .row 3 1 v157 n158 cs159, .row 90 6 v134 n135 cs136, .box b29 168 [vN, vN]] := S162
        have S165 : St Ha wa H139 w160 [.box b43 168 [v134, v52], .row 3 1 v157 n158 cs159, .row 90 6 v134 n135 cs136, .box b29 168 [vN, vN]] := S162.drop 0
        refine FL.v (E.append rfl rfl run161) ?_
        refine FL.v (E.fieldAddr tf168_1 k148) ?_
        obtain ⟨w166, run167, S169⟩ := S165.store (P := prog) (t := 73) (i := 0) (j := 1) (cs' := [v134, v157]) (l' := [.box b43 168 [v134, v157], .row 3 1 v157 n158 cs159, .row 90 6 v134 n135 cs136, .box b29 168 [vN, vN]]) (v := v157) (c := [v157]) rfl Tryz.sizeOf73 (Ln.cells (S165.row_ln (i := 1) rfl)) rfl (ones_cons (Ln.one (S165.row_ln (i := 1) rfl)) ones_nil) (Nat.le_of_ble_eq_true rfl) rfl rfl
        refine FL.act rfl rfl (E.store rfl rfl run167) ?_
        refine FL.nil (FW.region ?_)
        refine FL.v (E.move k149) ?_
        refine FL.v (E.add rfl rfl) ?_
        refine FL.v (E.assign (v := vI (wr (((i51 : Nat) : Int) + 1))) rfl) ?_
        refine FL.nil ?_
        obtain rfl := Option.some.inj hp
        exact ⟨rfl, ⟨_, _, _, _, _, _, _, S169, ((i63.tr i92).tr i141), els163, els137, nd138, (nat_succ rfl (lt_of_get hx51) (p2.mono (((i27.tr i63).tr i92).tr i141)).le), k144, k145, k146, k147, k148⟩⟩
    ·
      refine FW.condF rfl c94 ?_
      refine FW.seq (FW.region ?_)
      refine FL.v (E.fieldAddr tf88_2 rfl) ?_
      refine FL.v (E.load rfl (run_load1 Tryz.isAgg3 (at93.now S91.sl) rfl)) ?_
      refine FL.v (E.eql rfl rfl) ?_
      refine FL.v (E.assign (v := vB (y50.right == (-1))) rfl) ?_
      refine FL.nil ?_
      rcases ifB hp with ⟨c170, hp⟩ | ⟨c170, hp⟩
      ·
        refine FW.condT rfl c170 ?_
        refine FW.seq ?_
        obtain ⟨x180, hx181, hp⟩ := bnd hp
        obtain ⟨x189, hx190, hp⟩ := bnd hp
        obtain ⟨s365, hq365, hp⟩ := bnd hp
        refine FW.drawB (SX Ha wa H89 [.row 3 1 v52 n53 cs54]) (fun f w => ∃ H : GH, ∃ v196 : Value, ∃ n197 : Nat, ∃ cs198 : List Value, St Ha wa H w [.box b43 168 [v196, v52], .row 3 1 v52 n53 cs54, .row 90 6 v196 n197 cs198, .box b29 168 [vN, vN]] ∧ Inc H89 H ∧ Els (up wa.heap.size H) ePcStep 6 cs198 s365.1 ∧ (bl cs198).Nodup ∧ f 0 = vI a0 ∧ f 2 = v2 ∧ f 4 = vP (⟨b21, 0, none⟩) ∧ f 6 = vP ((⟨b29, 0, none⟩ : Addr)) ∧ f 7 = vP ((⟨b43, 0, none⟩ : Addr)) ∧ f 8 = vI ((i51 : Nat) : Int) ∧ f 9 = vP (⟨b81, 0, none⟩) ∧ f 10 = vI s365.2) (by kernel_rfl) S91.sl ?_ ?_
        ·
          intro w171 r172
          have S173 := S91.call r172
          refine FB.phase [] (fun w => WAt w (Addr.add ⟨b43, 0, none⟩ 1) [v52]) ?_
          refine FB.phase [22] (fun w => WAt w (⟨b43, 0, none⟩ : Addr) [v56, v52]) ?_
          refine FB.t (i := 0) (bs 24 1) rfl (SP.on (S173.box_now (i := 0) rfl) (SP.on ((S173.box_now (i := 0) rfl).sub (j := 1) (n := 1) (c := [v52]) rfl) (SP.nil ⟨_, (S173.sel [1] (by decide) rfl), (Inc.rfl _)⟩))) rfl (fun _ z => (E.move k67)) ?_
          refine FB.t (i := 1) (bs 24 3) rfl (SP.on (S173.box_now (i := 0) rfl) (SP.on ((S173.box_now (i := 0) rfl).sub (j := 1) (n := 1) (c := [v52]) rfl) (SP.nil ⟨_, (S173.sel [1] (by decide) rfl), (Inc.rfl _)⟩))) rfl (fun _ z => (E.fieldAddr tf32_0 k69)) ?_
          refine FB.t (i := 2) (bs 24 7) rfl (SP.on (S173.box_now (i := 0) rfl) (SP.on ((S173.box_now (i := 0) rfl).sub (j := 1) (n := 1) (c := [v52]) rfl) (SP.nil ⟨_, (S173.sel [1] (by decide) rfl), (Inc.rfl _)⟩))) rfl (fun _ z => (E.load rfl (run_load1 Tryz.isAgg3 ((at28.mono (i63.tr i92)).now z.sl) rfl))) ?_
          refine FB.p (i := 3) (bs 24 15) 0 [18, 19, 20, 21, 22, 23] rfl (SP.on (S173.box_now (i := 0) rfl) (SP.on ((S173.box_now (i := 0) rfl).sub (j := 1) (n := 1) (c := [v52]) rfl) (SP.nil ⟨_, (S173.sel [1] (by decide) rfl), (Inc.rfl _)⟩))) rfl rfl (fun _ z => (E.load k71 (run_loadA Tryz.isAgg168 Tryz.sizeOf168 z rfl))) ?_
          refine FB.t (i := 4) (bs 24 31) rfl (SP.on (S173.box_now (i := 0) rfl) (SP.on ((S173.box_now (i := 0) rfl).sub (j := 1) (n := 1) (c := [v52]) rfl) (SP.nil ⟨_, (S173.sel [1] (by decide) rfl), (Inc.rfl _)⟩))) rfl (fun _ z => (E.fieldAddr tf168_1 k71)) ?_
          refine FB.p (i := 5) (bs 24 63) 1 [8, 9, 18, 19, 20, 21, 22, 23] rfl (SP.on (S173.box_now (i := 0) rfl) (SP.on ((S173.box_now (i := 0) rfl).sub (j := 1) (n := 1) (c := [v52]) rfl) (SP.nil ⟨_, (S173.sel [1] (by decide) rfl), (Inc.rfl _)⟩))) rfl rfl (fun _ z => (E.load rfl (run_load0 Tryz.isAgg73 z rfl))) ?_
          refine FB.t (i := 6) (bs 24 127) rfl (SP.on (S173.box_now (i := 0) rfl) (SP.on ((S173.box_now (i := 0) rfl).sub (j := 1) (n := 1) (c := [v52]) rfl) (SP.nil ⟨_, (S173.sel [1] (by decide) rfl), (Inc.rfl _)⟩))) rfl (fun _ z => (E.fieldAddr tf88_1 rfl)) ?_
          refine FB.t (i := 7) (bs 24 255) rfl (SP.on (S173.box_now (i := 0) rfl) (SP.on ((S173.box_now (i := 0) rfl).sub (j := 1) (n := 1) (c := [v52]) rfl) (SP.nil ⟨_, (S173.sel [1] (by decide) rfl), (Inc.rfl _)⟩))) rfl (fun _ z => (E.load rfl (run_load1 Tryz.isAgg3 (at93.now z.sl) rfl))) ?_
          obtain ⟨p174, cs175, pt176, l177, at178, rel179, hall182⟩ := S173.row_atA (i := 1) rfl els55 (by decide) hx181
          obtain rfl := eI_open rel179
          refine FB.t (i := 8) (bs 24 511) rfl (SP.on (S173.box_now (i := 0) rfl) (SP.on ((S173.box_now (i := 0) rfl).sub (j := 1) (n := 1) (c := [v52]) rfl) (SP.nil ⟨_, (S173.sel [1] (by decide) rfl), (Inc.rfl _)⟩))) rfl (fun _ z => (E.indexAddr te73 rfl rfl pt176)) ?_
          refine FB.t (i := 9) (bs 24 1023) rfl (SP.on (S173.box_now (i := 0) rfl) (SP.on ((S173.box_now (i := 0) rfl).sub (j := 1) (n := 1) (c := [v52]) rfl) (SP.nil ⟨_, (S173.sel [1] (by decide) rfl), (Inc.rfl _)⟩))) rfl (fun _ z => (E.load rfl (run_load0 Tryz.isAgg3 (z.use fun _ st => hall182 _ _ _ 0 st rfl) rfl))) ?_
          refine FB.t (i := 10) (bs 24 2047) rfl (SP.on (S173.box_now (i := 0) rfl) (SP.on ((S173.box_now (i := 0) rfl).sub (j := 1) (n := 1) (c := [v52]) rfl) (SP.nil ⟨_, (S173.sel [1] (by decide) rfl), (Inc.rfl _)⟩))) rfl (fun _ z => (E.move k68)) ?_
          refine FB.t (i := 11) (bs 24 4095) rfl (SP.on (S173.box_now (i := 0) rfl) (SP.on ((S173.box_now (i := 0) rfl).sub (j := 1) (n := 1) (c := [v52]) rfl) (SP.nil ⟨_, (S173.sel [1] (by decide) rfl), (Inc.rfl _)⟩))) rfl (fun _ z => (E.fieldAddr tf88_1 rfl)) ?_
          refine FB.t (i := 12) (bs 24 8191) rfl (SP.on (S173.box_now (i := 0) rfl) (SP.on ((S173.box_now (i := 0) rfl).sub (j := 1) (n := 1) (c := [v52]) rfl) (SP.nil ⟨_, (S173.sel [1] (by decide) rfl), (Inc.rfl _)⟩))) rfl (fun _ z => (E.load rfl (run_load1 Tryz.isAgg3 (at93.now z.sl) rfl))) ?_
          obtain ⟨p183, cs184, pt185, l186, at187, rel188⟩ := p2.at hx190
          obtain ⟨v191, rfl, h192⟩ := eResStep_open rel188
          refine FB.t (i := 13) (bs 24 16383) rfl (SP.on (S173.box_now (i := 0) rfl) (SP.on ((S173.box_now (i := 0) rfl).sub (j := 1) (n := 1) (c := [v52]) rfl) (SP.nil ⟨_, (S173.sel [1] (by decide) rfl), (Inc.rfl _)⟩))) rfl (fun _ z => (E.indexAddr te34 rfl rfl pt185)) ?_
          refine FB.t (i := 14) (bs 24 32767) rfl (SP.on (S173.box_now (i := 0) rfl) (SP.on ((S173.box_now (i := 0) rfl).sub (j := 1) (n := 1) (c := [v52]) rfl) (SP.nil ⟨_, (S173.sel [1] (by decide) rfl), (Inc.rfl _)⟩))) rfl (fun _ z => (E.fieldAddr tf88_0 rfl)) ?_
          refine FB.t (i := 15) (bs 24 65535) rfl (SP.on (S173.box_now (i := 0) rfl) (SP.on ((S173.box_now (i := 0) rfl).sub (j := 1) (n := 1) (c := [v52]) rfl) (SP.nil ⟨_, (S173.sel [1] (by decide) rfl), (Inc.rfl _)⟩))) rfl (fun _ z => (E.load rfl (run_load1 Tryz.isAgg73 ((at187.mono ((i27.tr i63).tr i92)).now z.sl) rfl))) ?_
          refine FB.t (i := 16) (bs 24 131071) rfl (SP.on (S173.box_now (i := 0) rfl) (SP.on ((S173.box_now (i := 0) rfl).sub (j := 1) (n := 1) (c := [v52]) rfl) (SP.nil ⟨_, (S173.sel [1] (by decide) rfl), (Inc.rfl _)⟩))) rfl (fun _ z => (E.fieldAddr tf88_0 rfl)) ?_
          refine FB.t (i := 17) (bs 24 262143) rfl (SP.on (S173.box_now (i := 0) rfl) (SP.on ((S173.box_now (i := 0) rfl).sub (j := 1) (n := 1) (c := [v52]) rfl) (SP.nil ⟨_, (S173.sel [1] (by decide) rfl), (Inc.rfl _)⟩))) rfl (fun _ z => (E.load rfl (run_load1 Tryz.isAgg73 (at93.now z.sl) rfl))) ?_
          refine FB.all1 (i := 18) (by kernel_rfl) ?_
          ·
            obtain ⟨R365, hR365⟩ : ∃ R365 : ((List PcStep) × Int) → Ending → World → Prop, R365 = (fun s365 e w => ∃ H : GH, ∃ v366 : Value, ∃ n367 : Nat, ∃ cs368 : List Value, e = Ending.returned (Value.tuple #[vA #[v366, v52], vI s365.2]) ∧ St Ha wa H w [.box b43 168 [v56, v52], .row 3 1 v52 n53 cs54, .row 90 6 v366 n367 cs368, .box b29 168 [vN, vN]] ∧ Inc H89 H ∧ Els (up wa.heap.size H) ePcStep 6 cs368 s365.1 ∧ (bl cs368).Nodup) := ⟨_, rfl⟩
            have hc365 : Calls prog 184 #[vI a0, vI a1.vars, vA #[v56, v52], vI x180, v191, v79, vI 0] w171 (R365 s365) := by
              clear hp; have hp := hq365; clear hq365
              refine calls_go (N := 97) (args := [vI a0, vI a1.vars, vA #[v56, v52], vI x180, v191, v79, vI 0]) Tryz.func184 rfl rfl rfl ?_
              refine FW.seq (FW.region ?_)
              obtain ⟨b371, w372, run373, S374⟩ := S173.box (P := prog) 168 [v56, v52] (v := vA #[v56, v52]) rfl (ones_cons (Ln.one (S173.row_ln (i := 2) rfl)) (ones_cons (Ln.one (S173.row_ln (i := 1) rfl)) ones_nil))
              refine FL.v (E.box rfl run373) ?_
              obtain ⟨b375, w376, run377, S378⟩ := S374.alloc (P := prog) 168 [vN, vN] Tryz.zeroValue168 rfl (ones_cons rfl (ones_cons rfl ones_nil))
              refine FL.v (E.alloc run377) ?_
              refine FL.v (E.assign (v := vI 0) rfl) ?_
              refine FL.nil (FW.seq (FW.seq (FW.region ?_)))
              refine FL.v (E.assign (v := vI 0) rfl) ?_
              refine FL.nil ?_
              obtain ⟨q380, hq, hp⟩ := bndR hp
              refine FW.block ?_
              refine FW.mono (FW.forL (S := ((List PcStep) × Int)) (X := Empty) (fun (i380 : Nat) (s380 : ((List PcStep) × Int)) f w => ∃ H : GH, ∃ v437 : Value, ∃ n438 : Nat, ∃ cs439 : List Value, St Ha wa H w [.box b375 168 [vN, vN], .box b371 168 [v437, v52], .box b43 168 [v56, v52], .row 3 1 v52 n53 cs54, .row 90 6 v437 n438 cs439, .box b29 168 [vN, vN]] ∧ Inc H89 H ∧ Els (up wa.heap.size H) ePcStep 6 cs439 s380.1 ∧ (bl cs439).Nodup ∧ f 16 = vI ((i380 : Nat) : Int) ∧ f 0 = vI a0 ∧ f 1 = vI a1.vars ∧ f 3 = vI s380.2 ∧ f 4 = v191 ∧ f 5 = v79 ∧ f 6 = vI 0 ∧ f 9 = vP ((⟨b371, 0, none⟩ : Addr)) ∧ f 14 = vP ((⟨b375, 0, none⟩ : Addr))) (fun (q : Rs ((List PcStep) × Int) Empty) e f w => match q with | .go s380 => e = Exit.exit 0 ∧ (∃ H : GH, ∃ v437 : Value, ∃ n438 : Nat, ∃ cs439 : List Value, St Ha wa H w [.box b375 168 [vN, vN], .box b371 168 [v437, v52], .box b43 168 [v56, v52], .row 3 1 v52 n53 cs54, .row 90 6 v437 n438 cs439, .box b29 168 [vN, vN]] ∧ Inc H89 H ∧ Els (up wa.heap.size H) ePcStep 6 cs439 s380.1 ∧ (bl cs439).Nodup ∧ f 3 = vI s380.2 ∧ f 9 = vP ((⟨b371, 0, none⟩ : Addr)) ∧ f 14 = vP ((⟨b375, 0, none⟩ : Addr))) | .rt x => x.elim) hq ⟨_, _, _, _, S378, (Inc.rfl _), (els59.mono (up_mono i92)), nd60, rfl, rfl, rfl, rfl, rfl, rfl, rfl, rfl, rfl⟩ ?_ ?_) ?_
              ·
                clear hp hq
                rintro i380 y379 s380 f517 w516 ⟨H513, v437, n438, cs439, S514, i515, els440, nd441, k518, k519, k520, k521, k522, k523, k524, k525, k526⟩ hx380 o779 hp
                refine FW.seq (FW.seq (FW.region ?_))
                refine FL.v (E.move k518) ?_
                refine FL.v (E.move k523) ?_
                refine FL.v (E.lenP te73 rfl h80) ?_
                refine FL.v (E.lssT rfl rfl (lss_len hx380)) ?_
                refine FL.nil ?_
                refine FW.condT rfl rfl ?_
                refine FW.skip (FW.seq (FW.block (FW.seq (FW.seq (FW.region ?_)))))
                refine FL.v (E.move k522) ?_
                refine FL.v (E.move k523) ?_
                refine FL.v (E.move k518) ?_
                obtain ⟨p527, cs528, pt529, l530, at531, rel532⟩ := h80.at (ix_nat hx380)
                obtain rfl := eI_open rel532
                refine FL.v (E.indexAddr te73 rfl rfl pt529) ?_
                refine FL.v (E.load rfl (run_load0 Tryz.isAgg3 ((at531.mono (((i27.tr i63).tr i92).tr i515)).now S514.sl) rfl)) ?_
                obtain ⟨r533, hr534, hp⟩ := bnd hp
                refine FL.call rfl rfl rfl (E.call Tryz.call190 (A2 rfl rfl)) (w_spec_l2Has S514.sl v191 x189.clause (h192.mono (((i27.tr i63).tr i92).tr i515)) y379 hr534) ?_
                rintro e w535 ⟨rfl, r536⟩
                refine ⟨_, rfl, ?_⟩
                have S537 := S514.call r536
                refine FL.v (E.move (v := vB r533) rfl) ?_
                refine FL.cut 8 (fun f w => ∃ H : GH, St Ha wa H w [.box b375 168 [vN, vN], .box b371 168 [v437, v52], .box b43 168 [v56, v52], .row 3 1 v52 n53 cs54, .row 90 6 v437 n438 cs439, .box b29 168 [vN, vN]] ∧ Inc H513 H ∧ f 0 = vI a0 ∧ f 1 = vI a1.vars ∧ f 3 = vI s380.2 ∧ f 4 = v191 ∧ f 5 = v79 ∧ f 6 = vI 0 ∧ f 9 = vP ((⟨b371, 0, none⟩ : Addr)) ∧ f 14 = vP ((⟨b375, 0, none⟩ : Addr)) ∧ f 16 = vI ((i380 : Nat) : Int) ∧ f 40 = vB (bif r533 then true else ((PF.spec_l2Var y379) == 0))) ?_ ?_
                ·
                  rcases bcase r533 with c543 | c543
                  ·
                    refine FL.skip (wF_no rfl rfl rfl c543) rfl ?_
                    refine FL.skip (wF_no rfl rfl rfl c543) rfl ?_
                    refine FL.skip (wF_no rfl rfl rfl c543) rfl ?_
                    refine FL.skip (wF_no rfl rfl rfl c543) rfl ?_
                    refine FL.skip (wF_no rfl rfl rfl c543) rfl ?_
                    refine FL.skip (wF_no rfl rfl rfl c543) rfl ?_
                    refine FL.skip (wF_no rfl rfl rfl c543) rfl ?_
                    refine FL.v (E.pickT rfl c543 rfl) ?_
                    exact FL.nil ⟨rfl, _, S537, (Inc.rfl _), k519, k520, k521, k522, k523, k524, k525, k526, k518, (congrArg vB (bifT c543).symm)⟩
                  ·
                    refine FL.val (wF_yes rfl rfl rfl c543) rfl rfl (E.move k523) ?_
                    refine FL.val (wF_yes rfl rfl rfl c543) rfl rfl (E.move k518) ?_
                    obtain ⟨p544, cs545, pt546, l547, at548, rel549⟩ := h80.at (ix_nat hx380)
                    obtain rfl := eI_open rel549
                    refine FL.val (wF_yes rfl rfl rfl c543) rfl rfl (E.indexAddr te73 rfl rfl pt546) ?_
                    refine FL.val (wF_yes rfl rfl rfl c543) rfl rfl (E.load rfl (run_load0 Tryz.isAgg3 ((at548.mono (((i27.tr i63).tr i92).tr i515)).now S537.sl) rfl)) ?_
                    refine FL.call (wF_yes rfl rfl rfl c543) rfl rfl (E.call Tryz.call116 (A1 rfl)) (w_spec_l2Var S537.sl y379) ?_
                    rintro e w550 ⟨rfl, r551⟩
                    refine ⟨_, rfl, ?_⟩
                    have S552 := S537.call r551
                    refine FL.val (wF_yes rfl rfl rfl c543) rfl rfl (E.move k524) ?_
                    refine FL.val (wF_yes rfl rfl rfl c543) rfl rfl (E.eql rfl rfl) ?_
                    refine FL.v (E.pickF rfl c543 rfl) ?_
                    exact FL.nil ⟨rfl, _, S552, (Inc.rfl _), k519, k520, k521, k522, k523, k524, k525, k526, k518, (congrArg vB (bifF c543).symm)⟩
                rintro f542 w541 ⟨H538, S539, i540, k553, k554, k555, k556, k557, k558, k559, k560, k561, k562⟩
                refine FL.nil ?_
                rcases ifB hp with ⟨c563, hp⟩ | ⟨c563, hp⟩
                ·
                  refine FW.condT k562 c563 ?_
                  refine FW.exit ?_
                  refine FW.region ?_
                  refine FL.v (E.move k561) ?_
                  refine FL.v (E.add rfl rfl) ?_
                  refine FL.v (E.assign (v := vI (wr (((i380 : Nat) : Int) + 1))) rfl) ?_
                  refine FL.nil ?_
                  obtain rfl := Option.some.inj hp
                  exact ⟨rfl, ⟨_, _, _, _, S539, (i515.tr i540), (els440.mono (up_mono i540)), nd441, (nat_succ rfl (lt_of_get hx380) (h80.mono ((((i27.tr i63).tr i92).tr i515).tr i540)).le), k553, k554, k555, k556, k557, k558, k559, k560⟩⟩
                ·
                  refine FW.condF k562 c563 ?_
                  refine FW.skip (FW.seq ?_)
                  refine FW.draw (fun w' => Run w541.heap.size H538 w541 H538 w') (by kernel_rfl) (by kernel_rfl) (run_drew S539.sl) ?_
                  refine FD.val rfl rfl rfl (fun _ z => (E.move k557)) ?_
                  refine FD.val rfl rfl rfl (fun _ z => (E.move k561)) ?_
                  obtain ⟨p564, cs565, pt566, l567, at568, rel569⟩ := h80.at (ix_nat hx380)
                  obtain rfl := eI_open rel569
                  refine FD.val rfl rfl rfl (fun _ z => (E.indexAddr te73 rfl rfl pt566)) ?_
                  refine FD.val rfl rfl rfl (fun _ z => (E.load rfl (run_load0 Tryz.isAgg3 ((at568.mono ((((i27.tr i63).tr i92).tr i515).tr i540)).now (S539.call z).sl) rfl))) ?_
                  refine FD.call rfl rfl rfl (fun _ z => (E.call Tryz.call116 (A1 rfl))) (fun _ z => Calls.cls z (w_spec_l2Var (S539.call z).sl y379)) ?_
                  refine FD.val rfl rfl rfl (fun _ z => (E.fieldAddr tf168_0 k559)) ?_
                  refine FD.val rfl rfl rfl (fun _ z => (E.load rfl (run_load1 Tryz.isAgg36 ((S539.call z).box_now (i := 1) rfl) rfl))) ?_
                  refine FD.val rfl rfl rfl (fun _ z => (E.move k555)) ?_
                  obtain ⟨x576, hx577, hp⟩ := bnd hp
                  obtain ⟨p570, cs571, pt572, l573, at574, rel575⟩ := S539.row_at (i := 4) rfl els440 (by decide) hx577
                  obtain ⟨v578, rfl, h579⟩ := ePcStep_open rel575
                  refine FD.val rfl rfl rfl (fun _ z => (E.indexAddr te36 rfl rfl pt572)) ?_
                  refine FD.val rfl rfl rfl (fun _ z => (E.fieldAddr tf90_1 rfl)) ?_
                  refine FD.val rfl rfl rfl (fun _ z => (E.load rfl (run_load1 Tryz.isAgg55 (at574.cls z) rfl))) ?_
                  refine FD.val rfl rfl rfl (fun _ z => (E.assign (v := vI (PF.spec_l2Var y379)) rfl)) ?_
                  refine FD.val rfl rfl rfl (fun _ z => (E.assign (v := v578) rfl)) ?_
                  refine FD.nil ?_
                  intro w580 r582
                  have S581 := S539.call r582
                  refine FW.seq (FW.region ?_)
                  refine FL.v (E.move k553) ?_
                  refine FL.v (E.move k554) ?_
                  refine FL.v (E.move (v := v578) rfl) ?_
                  refine FL.v (E.move (v := vI (PF.spec_l2Var y379)) rfl) ?_
                  obtain ⟨r583, hr584, hp⟩ := bnd hp
                  refine FL.call rfl rfl rfl (E.call Tryz.call158 (A4 rfl rfl rfl rfl)) (w_spec_l20Times S581.sl a0 a1.vars v578 x576.poly (h579.mono (upI.tr i540)) (PF.spec_l2Var y379) hr584) ?_
                  rintro e w586 ⟨H585, v589, n590, cs591, rfl, r588, els592⟩
                  refine ⟨_, rfl, ?_⟩
                  have els592 := els592.mono (up_le S581.size)
                  have S587 := S581.join (l' := [.row 108 2 v589 n590 cs591, .box b375 168 [vN, vN], .box b371 168 [v437, v52], .box b43 168 [v56, v52], .row 3 1 v52 n53 cs54, .row 90 6 v437 n438 cs439, .box b29 168 [vN, vN]]) r588 rfl
                  refine FL.v (E.assign (v := v589) rfl) ?_
                  refine FL.nil (FW.seq (FW.region ?_))
                  refine FL.v (E.fieldAddr tf168_0 k559) ?_
                  refine FL.v (E.load rfl (run_load1 Tryz.isAgg36 (S587.box_now (i := 2) rfl) rfl)) ?_
                  refine FL.v (E.move (v := v589) rfl) ?_
                  refine FL.v (E.move k555) ?_
                  refine FL.v (E.move (v := vI (PF.spec_l2Var y379)) rfl) ?_
                  refine FL.v (E.build (B4 rfl rfl rfl rfl) (run_build _ 90 #[(0, vI 3), (1, v589), (2, vI s380.2), (4, vI (PF.spec_l2Var y379))] #[vI 3, v589, vI s380.2, vI 0, vI (PF.spec_l2Var y379), vI 0] (by obtain ⟨_, _, rfl⟩ := S587.row_ln (i := 0) rfl; rfl))) ?_
                  obtain ⟨H593, S594, i595, h596, nv597⟩ := S587.sealRowU (i := 0) (l' := [.box b375 168 [vN, vN], .box b371 168 [v437, v52], .box b43 168 [v56, v52], .row 3 1 v52 n53 cs54, .row 90 6 v437 n438 cs439, .box b29 168 [vN, vN]]) rfl els592 (by decide) rfl
                  obtain ⟨v598, w599, run600, S601⟩ := S594.buildSlice (P := prog) te36 [vA #[vI 3, v589, vI s380.2, vI 0, vI (PF.spec_l2Var y379), vI 0]] (parts := #[(0, vA #[vI 3, v589, vI s380.2, vI 0, vI (PF.spec_l2Var y379), vI 0])]) (cells := [vI 3, v589, vI s380.2, vI 0, vI (PF.spec_l2Var y379), vI 0]) rfl (szs_cons rfl szs_nil) (fc_cons rfl fc_nil) (ones_cons rfl (ones_cons h596.one (ones_cons rfl (ones_cons rfl (ones_cons rfl (ones_cons rfl ones_nil)))))) (Nat.le_of_ble_eq_true rfl)
                  have els602 : Els (up wa.heap.size H593) ePcStep 6 [vI 3, v589, vI s380.2, vI 0, vI (PF.spec_l2Var y379), vI 0] [(PcStep.mk 3 r583 s380.2 0 (PF.spec_l2Var y379) 0)] := (Els.snoc (H := (up wa.heap.size H593)) (E := ePcStep) (k := 6) (c := [vI 3, v589, vI s380.2, vI 0, vI (PF.spec_l2Var y379), vI 0]) (x := (PcStep.mk 3 r583 s380.2 0 (PF.spec_l2Var y379) 0)) Els.nil rfl ⟨_, rfl, h596⟩)
                  have nd603 : (bl [vI 3, v589, vI s380.2, vI 0, vI (PF.spec_l2Var y379), vI 0]).Nodup := by exact nd_one v589
                  refine FL.v (E.buildSlice (B1 rfl) run600) ?_
                  obtain ⟨xs604, hz605, hp⟩ := bnd hp
                  obtain ⟨v606, w609, n607, cs608, run610, S611, els612, ce613⟩ := S601.appendO (P := prog) te36 (i := 5) (j := 0) rfl (els440.mono (up_mono ((i540.tr r588.run.inc).tr i595))) rfl els602 hz605
                  have S611 : St Ha wa H593 w609 [.row 90 6 v598 1 [vI 3, v589, vI s380.2, vI 0, vI (PF.spec_l2Var y379), vI 0], .box b375 168 [vN, vN], .box b371 168 [v437, v52], .box b43 168 [v56, v52], .row 3 1 v52 n53 cs54, .row 90 6 v606 n607 cs608, .box b29 168 [vN, vN]] := S611
                  have nd614 : (bl cs608).Nodup := by rw [ce613]; exact nd_app nd441 nd603 (Els.dom (els440.mono (upI.tr (i540.tr r588.run.inc)))) (by exact nv597)
                  have S615 : St Ha wa H593 w609 [.box b375 168 [vN, vN], .box b371 168 [v437, v52], .box b43 168 [v56, v52], .row 3 1 v52 n53 cs54, .row 90 6 v606 n607 cs608, .box b29 168 [vN, vN]] := S611.drop 0
                  refine FL.v (E.append rfl rfl run610) ?_
                  refine FL.v (E.fieldAddr tf168_0 k559) ?_
                  obtain ⟨w616, run617, S618⟩ := S615.store (P := prog) (t := 36) (i := 1) (j := 0) (cs' := [v606, v52]) (l' := [.box b375 168 [vN, vN], .box b371 168 [v606, v52], .box b43 168 [v56, v52], .row 3 1 v52 n53 cs54, .row 90 6 v606 n607 cs608, .box b29 168 [vN, vN]]) (v := v606) (c := [v606]) rfl Tryz.sizeOf36 (Ln.cells (S615.row_ln (i := 4) rfl)) rfl (ones_cons (Ln.one (S615.row_ln (i := 4) rfl)) ones_nil) (Nat.le_of_ble_eq_true rfl) rfl rfl
                  refine FL.act rfl rfl (E.store rfl rfl run617) ?_
                  refine FL.nil (FW.seq (FW.seq (FW.region ?_)))
                  refine FL.v (E.move k557) ?_
                  refine FL.v (E.move k561) ?_
                  obtain ⟨p619, cs620, pt621, l622, at623, rel624⟩ := h80.at (ix_nat hx380)
                  obtain rfl := eI_open rel624
                  refine FL.v (E.indexAddr te73 rfl rfl pt621) ?_
                  refine FL.v (E.load rfl (run_load0 Tryz.isAgg3 ((at623.mono ((((((i27.tr i63).tr i92).tr i515).tr i540).tr r588.run.inc).tr i595)).now S618.sl) rfl)) ?_
                  refine FL.v (E.gtr rfl rfl) ?_
                  refine FL.nil ?_
                  rcases ifB hp with ⟨c625, hp⟩ | ⟨c625, hp⟩
                  ·
                    refine FW.condT rfl c625 ?_
                    obtain ⟨r704, hr705, hp⟩ := bnd hp
                    obtain ⟨xs746, hz747, hp⟩ := bnd hp
                    refine FW.drawB (Sl H593) (fun f w => ∃ H : GH, ∃ v761 : Value, ∃ n762 : Nat, ∃ cs763 : List Value, St Ha wa H w [.box b375 168 [vN, vN], .box b371 168 [v761, v52], .box b43 168 [v56, v52], .row 3 1 v52 n53 cs54, .row 90 6 v761 n762 cs763, .box b29 168 [vN, vN]] ∧ Inc H593 H ∧ Els (up wa.heap.size H) ePcStep 6 cs763 xs746 ∧ (bl cs763).Nodup ∧ f 0 = vI a0 ∧ f 1 = vI a1.vars ∧ f 4 = v191 ∧ f 5 = v79 ∧ f 6 = vI 0 ∧ f 9 = vP ((⟨b371, 0, none⟩ : Addr)) ∧ f 14 = vP ((⟨b375, 0, none⟩ : Addr)) ∧ f 16 = vI ((i380 : Nat) : Int)) (by kernel_rfl) S618.sl ?_ ?_
                    ·
                      intro w626 r627
                      have S628 := S618.call r627
                      refine FB.phase [20] (fun w => WAt w (Addr.add ⟨b371, 0, none⟩ 0) [v606]) ?_
                      refine FB.t (i := 0) (bs 21 1) rfl (SP.on ((S628.box_now (i := 1) rfl).sub (j := 0) (n := 1) (c := [v606]) rfl) (SP.nil S628.sl)) rfl (fun _ z => (E.fieldAddr tf168_0 k559)) ?_
                      refine FB.p (i := 1) (bs 21 3) 0 [18, 19, 20] rfl (SP.on ((S628.box_now (i := 1) rfl).sub (j := 0) (n := 1) (c := [v606]) rfl) (SP.nil S628.sl)) rfl rfl (fun _ z => (E.load rfl (run_load0 Tryz.isAgg36 z rfl))) ?_
                      refine FB.t (i := 2) (bs 21 7) rfl (SP.on ((S628.box_now (i := 1) rfl).sub (j := 0) (n := 1) (c := [v606]) rfl) (SP.nil S628.sl)) rfl (fun _ z => (E.move k553)) ?_
                      refine FB.t (i := 3) (bs 21 15) rfl (SP.on ((S628.box_now (i := 1) rfl).sub (j := 0) (n := 1) (c := [v606]) rfl) (SP.nil S628.sl)) rfl (fun _ z => (E.move k554)) ?_
                      refine FB.t (i := 4) (bs 21 31) rfl (SP.on ((S628.box_now (i := 1) rfl).sub (j := 0) (n := 1) (c := [v606]) rfl) (SP.nil S628.sl)) rfl (fun _ z => (E.move (v := v578) rfl)) ?_
                      refine FB.t (i := 5) (bs 21 63) rfl (SP.on ((S628.box_now (i := 1) rfl).sub (j := 0) (n := 1) (c := [v606]) rfl) (SP.nil S628.sl)) rfl (fun _ z => (E.move (v := v589) rfl)) ?_
                      refine FB.t (i := 6) (bs 21 127) rfl (SP.on ((S628.box_now (i := 1) rfl).sub (j := 0) (n := 1) (c := [v606]) rfl) (SP.nil S628.sl)) rfl (fun _ z => (E.move k553)) ?_
                      refine FB.t (i := 7) (bs 21 255) rfl (SP.on ((S628.box_now (i := 1) rfl).sub (j := 0) (n := 1) (c := [v606]) rfl) (SP.nil S628.sl)) rfl (fun _ z => (E.sub rfl rfl)) ?_
                      refine FB.t (i := 9) (bs 21 767) rfl (SP.on ((S628.box_now (i := 1) rfl).sub (j := 0) (n := 1) (c := [v606]) rfl) (SP.nil S628.sl)) rfl (fun _ z => (E.move k555)) ?_
                      refine FB.t (i := 10) (bs 21 1791) rfl (SP.on ((S628.box_now (i := 1) rfl).sub (j := 0) (n := 1) (c := [v606]) rfl) (SP.nil S628.sl)) rfl (fun _ z => (E.fieldAddr tf168_0 k559)) ?_
                      refine FB.p (i := 11) (bs 21 3839) 0 [12, 13, 16, 17, 18, 19, 20] rfl (SP.on ((S628.box_now (i := 1) rfl).sub (j := 0) (n := 1) (c := [v606]) rfl) (SP.nil S628.sl)) rfl rfl (fun _ z => (E.load rfl (run_load0 Tryz.isAgg36 z rfl))) ?_
                      refine FB.t (i := 12) (bs 21 7935) rfl (SP.on ((S628.box_now (i := 1) rfl).sub (j := 0) (n := 1) (c := [v606]) rfl) (SP.nil S628.sl)) rfl (fun _ z => (E.lenOW te36 rfl S628 (i := 4) rfl els612 (by decide))) ?_
                      refine FB.t (i := 13) (bs 21 16127) rfl (SP.on ((S628.box_now (i := 1) rfl).sub (j := 0) (n := 1) (c := [v606]) rfl) (SP.nil S628.sl)) rfl (fun _ z => (E.sub rfl rfl)) ?_
                      refine FB.t (i := 14) (bs 21 32511) rfl (SP.on ((S628.box_now (i := 1) rfl).sub (j := 0) (n := 1) (c := [v606]) rfl) (SP.nil S628.sl)) rfl (fun _ z => (E.move k553)) ?_
                      refine FB.t (i := 15) (bs 21 65279) rfl (SP.on ((S628.box_now (i := 1) rfl).sub (j := 0) (n := 1) (c := [v606]) rfl) (SP.nil S628.sl)) rfl (fun _ z => (E.sub rfl rfl)) ?_
                      refine FB.all1 (i := 8) (by kernel_rfl) ?_
                      ·
                        refine FC.call (l' := (bs 21 65535)) rfl (by kernel_rfl) rfl rfl rfl (E.call Tryz.call185 (A6 rfl rfl rfl rfl rfl rfl)) (w_spec_l20Sum S628.sl a0 a1.vars v578 x576.poly (h579.mono (upI.tr ((i540.tr r588.run.inc).tr i595))) 1 v589 r583 (h596.mono upI) (wr (a0 - 1)) hr705) ?_
                        rintro e w707 ⟨H706, v710, n711, cs712, rfl, r709, els713⟩
                        refine ⟨_, rfl, ?_⟩
                        have els713 := els713.mono (up_le S628.size)
                        have S708 := S628.join (l' := [.row 108 2 v710 n711 cs712, .box b375 168 [vN, vN], .box b371 168 [v606, v52], .box b43 168 [v56, v52], .row 3 1 v52 n53 cs54, .row 90 6 v606 n607 cs608, .box b29 168 [vN, vN]]) r709 rfl
                        refine ⟨(SP.on ((S708.box_now (i := 2) rfl).sub (j := 0) (n := 1) (c := [v606]) rfl) (SP.nil (Sl.of_inc r709.run.inc S708.sl))), ?_⟩
                        obtain ⟨H735, S736, i737, h738, nv739⟩ := S708.sealRowU (i := 0) (l' := [.box b375 168 [vN, vN], .box b371 168 [v606, v52], .box b43 168 [v56, v52], .row 3 1 v52 n53 cs54, .row 90 6 v606 n607 cs608, .box b29 168 [vN, vN]]) rfl els713 (by decide) rfl
                        refine FB.t (i := 16) (bs 21 131071) rfl (SP.on ((S708.box_now (i := 2) rfl).sub (j := 0) (n := 1) (c := [v606]) rfl) (SP.nil (Sl.of_inc r709.run.inc S708.sl))) rfl (fun _ z => (E.build (B6 rfl rfl rfl rfl rfl rfl) (run_build _ 90 #[(0, vI 2), (1, v710), (2, vI s380.2), (3, vI (wr ((len xs604) - 1))), (4, vI 1), (5, vI (wr (a0 - 1)))] #[vI 2, v710, vI s380.2, vI (wr ((len xs604) - 1)), vI 1, vI (wr (a0 - 1))] (by obtain ⟨_, _, rfl⟩ := RSl.ln (h738.mono upI); rfl)))) ?_
                        refine FB.all1 (i := 17) (by kernel_rfl) ?_
                        ·
                          obtain ⟨v740, w741, run742, S743⟩ := S736.buildSlice (P := prog) te36 [vA #[vI 2, v710, vI s380.2, vI (wr ((len xs604) - 1)), vI 1, vI (wr (a0 - 1))]] (parts := #[(0, vA #[vI 2, v710, vI s380.2, vI (wr ((len xs604) - 1)), vI 1, vI (wr (a0 - 1))])]) (cells := [vI 2, v710, vI s380.2, vI (wr ((len xs604) - 1)), vI 1, vI (wr (a0 - 1))]) rfl (szs_cons rfl szs_nil) (fc_cons rfl fc_nil) (ones_cons rfl (ones_cons h738.one (ones_cons rfl (ones_cons rfl (ones_cons rfl (ones_cons rfl ones_nil)))))) (Nat.le_of_ble_eq_true rfl)
                          have els744 : Els (up wa.heap.size H735) ePcStep 6 [vI 2, v710, vI s380.2, vI (wr ((len xs604) - 1)), vI 1, vI (wr (a0 - 1))] [(PcStep.mk 2 r704 s380.2 (wr ((len xs604) - 1)) 1 (wr (a0 - 1)))] := (Els.snoc (H := (up wa.heap.size H735)) (E := ePcStep) (k := 6) (c := [vI 2, v710, vI s380.2, vI (wr ((len xs604) - 1)), vI 1, vI (wr (a0 - 1))]) (x := (PcStep.mk 2 r704 s380.2 (wr ((len xs604) - 1)) 1 (wr (a0 - 1)))) Els.nil rfl ⟨_, rfl, h738⟩)
                          have nd745 : (bl [vI 2, v710, vI s380.2, vI (wr ((len xs604) - 1)), vI 1, vI (wr (a0 - 1))]).Nodup := by exact nd_one v710
                          refine FC.val (l' := (bs 21 262143)) rfl (by kernel_rfl) rfl rfl rfl (E.buildSlice (B1 rfl) run742) ?_
                          refine ⟨(SP.on ((S743.box_now (i := 2) rfl).sub (j := 0) (n := 1) (c := [v606]) rfl) (SP.nil (Sl.of_inc (r709.run.inc.tr i737) S743.sl))), ?_⟩
                          refine FB.all1 (i := 18) (by kernel_rfl) ?_
                          ·
                            obtain ⟨v748, w751, n749, cs750, run752, S753, els754, ce755⟩ := S743.appendO (P := prog) te36 (i := 5) (j := 0) rfl (els612.mono (up_mono (r709.run.inc.tr i737))) rfl els744 hz747
                            have S753 : St Ha wa H735 w751 [.row 90 6 v740 1 [vI 2, v710, vI s380.2, vI (wr ((len xs604) - 1)), vI 1, vI (wr (a0 - 1))], .box b375 168 [vN, vN], .box b371 168 [v606, v52], .box b43 168 [v56, v52], .row 3 1 v52 n53 cs54, .row 90 6 v748 n749 cs750, .box b29 168 [vN, vN]] := S753
                            have nd756 : (bl cs750).Nodup := by rw [ce755]; exact nd_app nd614 nd745 (Els.dom (els612.mono (upI.tr r709.run.inc))) (by exact nv739)
                            have S757 : St Ha wa H735 w751 [.box b375 168 [vN, vN], .box b371 168 [v606, v52], .box b43 168 [v56, v52], .row 3 1 v52 n53 cs54, .row 90 6 v748 n749 cs750, .box b29 168 [vN, vN]] := S753.drop 0
                            refine FC.val (l' := (bs 21 524287)) rfl (by kernel_rfl) rfl rfl rfl (E.append rfl rfl run752) ?_
                            refine ⟨(SP.on ((S757.box_now (i := 1) rfl).sub (j := 0) (n := 1) (c := [v606]) rfl) (SP.nil (Sl.of_inc (r709.run.inc.tr i737) S757.sl))), ?_⟩
                            refine FB.t (i := 19) (bs 21 1048575) rfl (SP.on ((S757.box_now (i := 1) rfl).sub (j := 0) (n := 1) (c := [v606]) rfl) (SP.nil (Sl.of_inc (r709.run.inc.tr i737) S757.sl))) rfl (fun _ z => (E.fieldAddr tf168_0 k559)) ?_
                            refine FB.all1 (i := 20) (by kernel_rfl) ?_
                            ·
                              obtain ⟨w758, run759, S760⟩ := S757.store (P := prog) (t := 36) (i := 1) (j := 0) (cs' := [v748, v52]) (l' := [.box b375 168 [vN, vN], .box b371 168 [v748, v52], .box b43 168 [v56, v52], .row 3 1 v52 n53 cs54, .row 90 6 v748 n749 cs750, .box b29 168 [vN, vN]]) (v := v748) (c := [v748]) rfl Tryz.sizeOf36 (Ln.cells (S757.row_ln (i := 4) rfl)) rfl (ones_cons (Ln.one (S757.row_ln (i := 4) rfl)) ones_nil) (Nat.le_of_ble_eq_true rfl) rfl rfl
                              refine FC.act (l' := (bs 21 2097151)) rfl (by kernel_rfl) rfl rfl (E.store rfl rfl run759) ?_
                              refine ⟨(SP.o (SP.nil (Sl.of_inc (r709.run.inc.tr i737) S760.sl))), ?_⟩
                              exact FB.done (by kernel_rfl) ⟨_, _, _, _, S760, (r709.run.inc.tr i737), els754, nd756, k553, k554, k556, k557, k558, k559, k560, k561⟩
                    ·
                      rintro f770 w769 ⟨H766, v761, n762, cs763, S767, i768, els764, nd765, k771, k772, k773, k774, k775, k776, k777, k778⟩
                      refine FW.region ?_
                      refine FL.v (E.fieldAddr tf168_0 k776) ?_
                      refine FL.v (E.load rfl (run_load1 Tryz.isAgg36 (S767.box_now (i := 1) rfl) rfl)) ?_
                      refine FL.v (E.lenO te36 rfl S767 (i := 4) rfl els764 (by decide)) ?_
                      refine FL.v (E.sub rfl rfl) ?_
                      refine FL.v (E.assign (v := vI (wr ((len xs746) - 1))) rfl) ?_
                      refine FL.nil (FW.region ?_)
                      refine FL.v (E.move k778) ?_
                      refine FL.v (E.add rfl rfl) ?_
                      refine FL.v (E.assign (v := vI (wr (((i380 : Nat) : Int) + 1))) rfl) ?_
                      refine FL.nil ?_
                      obtain rfl := Option.some.inj hp
                      exact ⟨rfl, ⟨_, _, _, _, S767, ((((i515.tr i540).tr r588.run.inc).tr i595).tr i768), els764, nd765, (nat_succ rfl (lt_of_get hx380) (h80.mono (((((((i27.tr i63).tr i92).tr i515).tr i540).tr r588.run.inc).tr i595).tr i768)).le), k771, k772, rfl, k773, k774, k775, k776, k777⟩⟩
                  ·
                    refine FW.condF rfl c625 ?_
                    refine FW.skip (FW.region ?_)
                    refine FL.v (E.fieldAddr tf168_0 k559) ?_
                    refine FL.v (E.load rfl (run_load1 Tryz.isAgg36 (S618.box_now (i := 1) rfl) rfl)) ?_
                    refine FL.v (E.lenO te36 rfl S618 (i := 4) rfl els612 (by decide)) ?_
                    refine FL.v (E.sub rfl rfl) ?_
                    refine FL.v (E.assign (v := vI (wr ((len xs604) - 1))) rfl) ?_
                    refine FL.nil (FW.region ?_)
                    refine FL.v (E.move k561) ?_
                    refine FL.v (E.add rfl rfl) ?_
                    refine FL.v (E.assign (v := vI (wr (((i380 : Nat) : Int) + 1))) rfl) ?_
                    refine FL.nil ?_
                    obtain rfl := Option.some.inj hp
                    exact ⟨rfl, ⟨_, _, _, _, S618, (((i515.tr i540).tr r588.run.inc).tr i595), els612, nd614, (nat_succ rfl (lt_of_get hx380) (h80.mono ((((((i27.tr i63).tr i92).tr i515).tr i540).tr r588.run.inc).tr i595)).le), k553, k554, rfl, k556, k557, k558, k559, k560⟩⟩
              ·
                clear hp hq
                rintro s380 f795 w794 ⟨H791, v437, n438, cs439, S792, i793, els440, nd441, k796, k797, k798, k799, k800, k801, k802, k803, k804⟩
                refine FW.seq (FW.seq (FW.region ?_))
                refine FL.v (E.move k796) ?_
                refine FL.v (E.move k801) ?_
                refine FL.v (E.lenP te73 rfl h80) ?_
                refine FL.v (E.lss rfl rfl) ?_
                refine FL.nil ?_
                refine FW.condF rfl dlt_len ?_
                refine FW.exit ?_
                exact ⟨nofun, rfl, ⟨_, _, _, _, S792, i793, els440, nd441, k799, k803, k804⟩⟩
              ·
                clear hq
                intro e f784 w783 hD
                rcases q380 with s380 | x380
                ·
                  obtain ⟨rfl, hD⟩ := hD
                  obtain ⟨H780, v437, n438, cs439, S781, i782, els440, nd441, k785, k786, k787⟩ := hD
                  replace hp := el_go hp
                  refine FW.seq (FW.region ?_)
                  refine FL.v (E.load k786 (run_loadA Tryz.isAgg168 Tryz.sizeOf168 (S781.box_now (i := 1) rfl) rfl)) ?_
                  refine FL.v (E.move k785) ?_
                  obtain ⟨w788, run789, S790⟩ := S781.store0 (P := prog) (t := 168) (i := 0) (cs' := [v437, v52]) (l' := [.box b375 168 [v437, v52], .box b371 168 [v437, v52], .box b43 168 [v56, v52], .row 3 1 v52 n53 cs54, .row 90 6 v437 n438 cs439, .box b29 168 [vN, vN]]) (v := vA #[v437, v52]) (c := [v437, v52]) rfl Tryz.sizeOf168 rfl rfl (ones_cons (Ln.one (S781.row_ln (i := 4) rfl)) (ones_cons (Ln.one (S781.row_ln (i := 3) rfl)) ones_nil)) (Nat.le_of_ble_eq_true rfl) rfl rfl
                  refine FL.act rfl rfl (E.store k787 rfl run789) ?_
                  refine FL.v (E.assign (v := vI s380.2) rfl) ?_
                  refine FL.nil ?_
                  refine FW.ret ?_
                  obtain rfl := Option.some.inj hp
                  exact ⟨.inr rfl, resC2 rfl k787 (loadVar_A Tryz.isAgg168 Tryz.sizeOf168 (S790.box_now (i := 0) rfl) rfl) rfl (by rw [hR365]; exact ⟨_, _, _, _, rfl, (S790.sel [2, 3, 4, 5] (by decide) rfl), i782, els440, nd441⟩)⟩
                · exact x380.elim
            clear hq365
            refine FC.call (l' := (bs 24 524287)) rfl (by kernel_rfl) rfl rfl rfl (E.call Tryz.call184 (A7 rfl rfl rfl rfl rfl rfl rfl)) hc365 ?_
            intro e w808 hQ365
            rw [hR365] at hQ365
            obtain ⟨H805, v366, n367, cs368, rfl, S806, i807, els369, nd370⟩ := hQ365
            refine ⟨_, rfl, ?_⟩
            refine ⟨(SP.on (S806.box_now (i := 0) rfl) (SP.on ((S806.box_now (i := 0) rfl).sub (j := 1) (n := 1) (c := [v52]) rfl) (SP.nil ⟨_, (S806.sel [1] (by decide) rfl), i807⟩))), ?_⟩
            refine FB.t (i := 19) (bs 24 1048575) rfl (SP.on (S806.box_now (i := 0) rfl) (SP.on ((S806.box_now (i := 0) rfl).sub (j := 1) (n := 1) (c := [v52]) rfl) (SP.nil ⟨_, (S806.sel [1] (by decide) rfl), i807⟩))) rfl (fun _ z => (E.move (v := Value.tuple #[vA #[v366, v52], vI s365.2]) rfl)) ?_
            refine FB.t (i := 20) (bs 24 2097151) rfl (SP.on (S806.box_now (i := 0) rfl) (SP.on ((S806.box_now (i := 0) rfl).sub (j := 1) (n := 1) (c := [v52]) rfl) (SP.nil ⟨_, (S806.sel [1] (by decide) rfl), i807⟩))) rfl (fun _ z => (E.extract (i := 0) rfl rfl)) ?_
            refine FB.t (i := 21) (bs 24 4194303) rfl (SP.on (S806.box_now (i := 0) rfl) (SP.on ((S806.box_now (i := 0) rfl).sub (j := 1) (n := 1) (c := [v52]) rfl) (SP.nil ⟨_, (S806.sel [1] (by decide) rfl), i807⟩))) rfl (fun _ z => (E.extract (i := 1) rfl rfl)) ?_
            refine FB.all1 (i := 22) (by kernel_rfl) ?_
            ·
              obtain ⟨w193, run194, S195⟩ := S806.store0 (P := prog) (t := 168) (i := 0) (cs' := [v366, v52]) (l' := [.box b43 168 [v366, v52], .row 3 1 v52 n53 cs54, .row 90 6 v366 n367 cs368, .box b29 168 [vN, vN]]) (v := vA #[v366, v52]) (c := [v366, v52]) rfl Tryz.sizeOf168 rfl rfl (ones_cons (Ln.one (S806.row_ln (i := 2) rfl)) (ones_cons (Ln.one (S806.row_ln (i := 1) rfl)) ones_nil)) (Nat.le_of_ble_eq_true rfl) rfl rfl
              refine FC.act (l' := (bs 24 8388607)) rfl (by kernel_rfl) rfl rfl (E.store k71 rfl run194) ?_
              refine ⟨(SP.o (SP.on ((S195.box_now (i := 0) rfl).sub (j := 1) (n := 1) (c := [v52]) rfl) (SP.nil ⟨_, (S195.sel [1] (by decide) rfl), i807⟩))), ?_⟩
              refine FB.t (i := 23) (bs 24 16777215) rfl (SP.o (SP.on ((S195.box_now (i := 0) rfl).sub (j := 1) (n := 1) (c := [v52]) rfl) (SP.nil ⟨_, (S195.sel [1] (by decide) rfl), i807⟩))) rfl (fun _ z => (E.assign (v := vI s365.2) rfl)) ?_
              exact FB.done (by kernel_rfl) ⟨_, _, _, _, S195, i807, els369, nd370, k67, k68, k69, k70, k71, k66, rfl, rfl⟩
        ·
          rintro f205 w204 ⟨H201, v196, n197, cs198, S202, i203, els199, nd200, k206, k207, k208, k209, k210, k211, k212, k213⟩
          refine FW.seq (FW.region ?_)
          refine FL.v (E.move k213) ?_
          refine FL.v (E.fieldAddr tf168_1 k210) ?_
          refine FL.v (E.load rfl (run_load1 Tryz.isAgg73 (S202.box_now (i := 0) rfl) rfl)) ?_
          refine FL.v (E.fieldAddr tf88_1 k212) ?_
          refine FL.v (E.load rfl (run_load1 Tryz.isAgg3 ((at93.mono i203).now S202.sl) rfl)) ?_
          obtain ⟨x220, hx221, hp⟩ := bnd hp
          obtain ⟨p214, cs215, pt216, l217, at218, rel219⟩ := S202.row_at (i := 1) rfl els55 (by decide) hx221
          obtain rfl := eI_open rel219
          refine FL.v (E.indexAddr te73 rfl rfl pt216) ?_
          refine FL.v (E.load rfl (run_load0 Tryz.isAgg3 at218 rfl)) ?_
          refine FL.v (E.eql rfl rfl) ?_
          refine FL.nil ?_
          rcases ifB hp with ⟨c222, hp⟩ | ⟨c222, hp⟩
          ·
            refine FW.condT rfl c222 ?_
            refine FW.seq ?_
            obtain ⟨x232, hx233, hp⟩ := bnd hp
            obtain ⟨r237, hr238, hp⟩ := bnd hp
            obtain ⟨xs258, hz259, hp⟩ := bnd hp
            refine FW.drawB (Sl H201) (fun f w => ∃ H : GH, ∃ v273 : Value, ∃ n274 : Nat, ∃ cs275 : List Value, St Ha wa H w [.box b43 168 [v273, v52], .row 3 1 v52 n53 cs54, .row 90 6 v273 n274 cs275, .box b29 168 [vN, vN]] ∧ Inc H201 H ∧ Els (up wa.heap.size H) ePcStep 6 cs275 xs258 ∧ (bl cs275).Nodup ∧ f 0 = vI a0 ∧ f 2 = v2 ∧ f 4 = vP (⟨b21, 0, none⟩) ∧ f 6 = vP ((⟨b29, 0, none⟩ : Addr)) ∧ f 7 = vP ((⟨b43, 0, none⟩ : Addr)) ∧ f 8 = vI ((i51 : Nat) : Int)) (by kernel_rfl) S202.sl ?_ ?_
            ·
              intro w223 r224
              have S225 := S202.call r224
              refine FB.phase [15] (fun w => WAt w (Addr.add ⟨b43, 0, none⟩ 0) [v196]) ?_
              refine FB.t (i := 0) (bs 16 1) rfl (SP.on ((S225.box_now (i := 0) rfl).sub (j := 0) (n := 1) (c := [v196]) rfl) (SP.nil S225.sl)) rfl (fun _ z => (E.fieldAddr tf168_0 k210)) ?_
              refine FB.p (i := 1) (bs 16 3) 0 [13, 14, 15] rfl (SP.on ((S225.box_now (i := 0) rfl).sub (j := 0) (n := 1) (c := [v196]) rfl) (SP.nil S225.sl)) rfl rfl (fun _ z => (E.load rfl (run_load0 Tryz.isAgg36 z rfl))) ?_
              refine FB.t (i := 2) (bs 16 7) rfl (SP.on ((S225.box_now (i := 0) rfl).sub (j := 0) (n := 1) (c := [v196]) rfl) (SP.nil S225.sl)) rfl (fun _ z => (E.fieldAddr tf168_0 k210)) ?_
              refine FB.p (i := 3) (bs 16 15) 0 [5, 6, 7, 8, 11, 12, 13, 14, 15] rfl (SP.on ((S225.box_now (i := 0) rfl).sub (j := 0) (n := 1) (c := [v196]) rfl) (SP.nil S225.sl)) rfl rfl (fun _ z => (E.load rfl (run_load0 Tryz.isAgg36 z rfl))) ?_
              refine FB.t (i := 4) (bs 16 31) rfl (SP.on ((S225.box_now (i := 0) rfl).sub (j := 0) (n := 1) (c := [v196]) rfl) (SP.nil S225.sl)) rfl (fun _ z => (E.move k213)) ?_
              obtain ⟨p226, cs227, pt228, l229, at230, rel231, hall234⟩ := S225.row_atA (i := 2) rfl els199 (by decide) hx233
              obtain ⟨v235, rfl, h236⟩ := ePcStep_open rel231
              refine FB.t (i := 5) (bs 16 63) rfl (SP.on ((S225.box_now (i := 0) rfl).sub (j := 0) (n := 1) (c := [v196]) rfl) (SP.nil S225.sl)) rfl (fun _ z => (E.indexAddr te36 rfl rfl pt228)) ?_
              refine FB.t (i := 6) (bs 16 127) rfl (SP.on ((S225.box_now (i := 0) rfl).sub (j := 0) (n := 1) (c := [v196]) rfl) (SP.nil S225.sl)) rfl (fun _ z => (E.fieldAddr tf90_1 rfl)) ?_
              refine FB.phase [13] (fun w' => WAt w' p226 [vI x232.kind, v235, vI x232.a, vI x232.b, vI x232.x, vI x232.y]) ?_
              refine FB.p (i := 7) (bs 16 255) 0 [8, 11, 12, 13, 14, 15] rfl (SP.on (hall234 _ _ _ 2 S225 rfl) (SP.on ((S225.box_now (i := 0) rfl).sub (j := 0) (n := 1) (c := [v196]) rfl) (SP.nil S225.sl))) rfl rfl (fun _ z => (E.load rfl (run_load1 Tryz.isAgg55 z rfl))) ?_
              refine FB.t (i := 9) (bs 16 767) rfl (SP.on (hall234 _ _ _ 2 S225 rfl) (SP.on ((S225.box_now (i := 0) rfl).sub (j := 0) (n := 1) (c := [v196]) rfl) (SP.nil S225.sl))) rfl (fun _ z => (E.move k213)) ?_
              refine FB.t (i := 10) (bs 16 1791) rfl (SP.on (hall234 _ _ _ 2 S225 rfl) (SP.on ((S225.box_now (i := 0) rfl).sub (j := 0) (n := 1) (c := [v196]) rfl) (SP.nil S225.sl))) rfl (fun _ z => (E.move k213)) ?_
              refine FB.all1 (i := 8) (by kernel_rfl) ?_
              ·
                refine FC.call (l' := (bs 16 2047)) rfl (by kernel_rfl) rfl rfl rfl (E.call Tryz.call93 (A1 rfl)) (w_spec_l20Terms S225.sl v235 x232.poly (h236.mono upI) hr238) ?_
                rintro e w240 ⟨H239, v243, n244, cs245, rfl, r242, els246⟩
                refine ⟨_, rfl, ?_⟩
                have els246 := els246.mono (up_le S225.size)
                have S241 := S225.join (l' := [.row 108 2 v243 n244 cs245, .box b43 168 [v196, v52], .row 3 1 v52 n53 cs54, .row 90 6 v196 n197 cs198, .box b29 168 [vN, vN]]) r242 rfl
                refine ⟨(SP.on (hall234 _ _ _ 3 S241 rfl) (SP.on ((S241.box_now (i := 1) rfl).sub (j := 0) (n := 1) (c := [v196]) rfl) (SP.nil (Sl.of_inc r242.run.inc S241.sl)))), ?_⟩
                obtain ⟨H247, S248, i249, h250, nv251⟩ := S241.sealRowU (i := 0) (l' := [.box b43 168 [v196, v52], .row 3 1 v52 n53 cs54, .row 90 6 v196 n197 cs198, .box b29 168 [vN, vN]]) rfl els246 (by decide) rfl
                refine FB.t (i := 11) (bs 16 4095) rfl (SP.on (hall234 _ _ _ 3 S241 rfl) (SP.on ((S241.box_now (i := 1) rfl).sub (j := 0) (n := 1) (c := [v196]) rfl) (SP.nil (Sl.of_inc r242.run.inc S241.sl)))) rfl (fun _ z => (E.build (B5 rfl rfl rfl rfl rfl) (run_build _ 90 #[(0, vI 2), (1, v243), (2, vI s365.2), (3, vI s365.2), (4, vI 1)] #[vI 2, v243, vI s365.2, vI s365.2, vI 1, vI 0] (by obtain ⟨_, _, rfl⟩ := RSl.ln (h250.mono upI); rfl)))) ?_
                refine FB.all1 (i := 12) (by kernel_rfl) ?_
                ·
                  obtain ⟨v252, w253, run254, S255⟩ := S248.buildSlice (P := prog) te36 [vA #[vI 2, v243, vI s365.2, vI s365.2, vI 1, vI 0]] (parts := #[(0, vA #[vI 2, v243, vI s365.2, vI s365.2, vI 1, vI 0])]) (cells := [vI 2, v243, vI s365.2, vI s365.2, vI 1, vI 0]) rfl (szs_cons rfl szs_nil) (fc_cons rfl fc_nil) (ones_cons rfl (ones_cons h250.one (ones_cons rfl (ones_cons rfl (ones_cons rfl (ones_cons rfl ones_nil)))))) (Nat.le_of_ble_eq_true rfl)
                  have els256 : Els (up wa.heap.size H247) ePcStep 6 [vI 2, v243, vI s365.2, vI s365.2, vI 1, vI 0] [(PcStep.mk 2 r237 s365.2 s365.2 1 0)] := (Els.snoc (H := (up wa.heap.size H247)) (E := ePcStep) (k := 6) (c := [vI 2, v243, vI s365.2, vI s365.2, vI 1, vI 0]) (x := (PcStep.mk 2 r237 s365.2 s365.2 1 0)) Els.nil rfl ⟨_, rfl, h250⟩)
                  have nd257 : (bl [vI 2, v243, vI s365.2, vI s365.2, vI 1, vI 0]).Nodup := by exact nd_one v243
                  refine FC.val (l' := (bs 16 8191)) rfl (by kernel_rfl) rfl rfl rfl (E.buildSlice (B1 rfl) run254) ?_
                  refine ⟨(SP.on (hall234 _ _ _ 3 S255 rfl) (SP.on ((S255.box_now (i := 1) rfl).sub (j := 0) (n := 1) (c := [v196]) rfl) (SP.nil (Sl.of_inc (r242.run.inc.tr i249) S255.sl)))), ?_⟩
                  refine FB.all1 (i := 13) (by kernel_rfl) ?_
                  ·
                    obtain ⟨v260, w263, n261, cs262, run264, S265, els266, ce267⟩ := S255.appendO (P := prog) te36 (i := 3) (j := 0) rfl (els199.mono (up_mono (r242.run.inc.tr i249))) rfl els256 hz259
                    have S265 : St Ha wa H247 w263 [.row 90 6 v252 1 [vI 2, v243, vI s365.2, vI s365.2, vI 1, vI 0], .box b43 168 [v196, v52], .row 3 1 v52 n53 cs54, .row 90 6 v260 n261 cs262, .box b29 168 [vN, vN]] := S265
                    have nd268 : (bl cs262).Nodup := by rw [ce267]; exact nd_app nd200 nd257 (Els.dom (els199.mono (upI.tr r242.run.inc))) (by exact nv251)
                    have S269 : St Ha wa H247 w263 [.box b43 168 [v196, v52], .row 3 1 v52 n53 cs54, .row 90 6 v260 n261 cs262, .box b29 168 [vN, vN]] := S265.drop 0
                    refine FC.val (l' := (bs 16 16383)) rfl (by kernel_rfl) rfl rfl rfl (E.append rfl rfl run264) ?_
                    refine ⟨(SP.o (SP.on ((S269.box_now (i := 0) rfl).sub (j := 0) (n := 1) (c := [v196]) rfl) (SP.nil (Sl.of_inc (r242.run.inc.tr i249) S269.sl)))), ?_⟩
                    refine FB.t (i := 14) (bs 16 32767) rfl (SP.o (SP.on ((S269.box_now (i := 0) rfl).sub (j := 0) (n := 1) (c := [v196]) rfl) (SP.nil (Sl.of_inc (r242.run.inc.tr i249) S269.sl)))) rfl (fun _ z => (E.fieldAddr tf168_0 k210)) ?_
                    refine FB.all1 (i := 15) (by kernel_rfl) ?_
                    ·
                      obtain ⟨w270, run271, S272⟩ := S269.store (P := prog) (t := 36) (i := 0) (j := 0) (cs' := [v260, v52]) (l' := [.box b43 168 [v260, v52], .row 3 1 v52 n53 cs54, .row 90 6 v260 n261 cs262, .box b29 168 [vN, vN]]) (v := v260) (c := [v260]) rfl Tryz.sizeOf36 (Ln.cells (S269.row_ln (i := 2) rfl)) rfl (ones_cons (Ln.one (S269.row_ln (i := 2) rfl)) ones_nil) (Nat.le_of_ble_eq_true rfl) rfl rfl
                      refine FC.act (l' := (bs 16 65535)) rfl (by kernel_rfl) rfl rfl (E.store rfl rfl run271) ?_
                      refine ⟨(SP.o (SP.o (SP.nil (Sl.of_inc (r242.run.inc.tr i249) S272.sl)))), ?_⟩
                      exact FB.done (by kernel_rfl) ⟨_, _, _, _, S272, (r242.run.inc.tr i249), els266, nd268, k206, k207, k208, k209, k210, k211⟩
            ·
              rintro f282 w281 ⟨H278, v273, n274, cs275, S279, i280, els276, nd277, k283, k284, k285, k286, k287, k288⟩
              refine FW.region ?_
              refine FL.v (E.fieldAddr tf168_0 k287) ?_
              refine FL.v (E.load rfl (run_load1 Tryz.isAgg36 (S279.box_now (i := 0) rfl) rfl)) ?_
              refine FL.v (E.lenO te36 rfl S279 (i := 2) rfl els276 (by decide)) ?_
              refine FL.v (E.sub rfl rfl) ?_
              refine FL.v (E.assign (v := vI (wr ((len xs258) - 1))) rfl) ?_
              refine FL.nil (FW.region ?_)
              refine FL.v (E.fieldAddr tf168_1 k287) ?_
              refine FL.v (E.load rfl (run_load1 Tryz.isAgg73 (S279.box_now (i := 0) rfl) rfl)) ?_
              refine FL.v (E.move (v := vI (wr ((len xs258) - 1))) rfl) ?_
              obtain ⟨v289, w290, run291, S292⟩ := S279.buildSlice (P := prog) te73 [vI (wr ((len xs258) - 1))] (parts := #[(0, vI (wr ((len xs258) - 1)))]) (cells := [vI (wr ((len xs258) - 1))]) rfl (szs_cons rfl szs_nil) (fc_cons rfl fc_nil) (ones_cons rfl ones_nil) (Nat.le_of_ble_eq_true rfl)
              have els293 : Els (up wa.heap.size H278) eI 1 [vI (wr ((len xs258) - 1))] [(wr ((len xs258) - 1))] := (Els.snoc (H := (up wa.heap.size H278)) (E := eI) (k := 1) (c := [vI (wr ((len xs258) - 1))]) (x := (wr ((len xs258) - 1))) Els.nil rfl rfl)
              refine FL.v (E.buildSlice (B1 rfl) run291) ?_
              obtain ⟨xs294, hz295, hp⟩ := bnd hp
              obtain ⟨v296, w299, n297, cs298, run300, S301, els302, ce303⟩ := S292.appendO (P := prog) te73 (i := 2) (j := 0) rfl (els55.mono (up_mono ((i92.tr i203).tr i280))) rfl els293 hz295
              have S301 : St Ha wa H278 w299 [.row 3 1 v289 1 [vI (wr ((len xs258) - 1))], .box b43 168 [v273, v52], .row 3 1 v296 n297 cs298, .row 90 6 v273 n274 cs275, .box b29 168 [vN, vN]] := S301
              have S304 : St Ha wa H278 w299 [.box b43 168 [v273, v52], .row 3 1 v296 n297 cs298, .row 90 6 v273 n274 cs275, .box b29 168 [vN, vN]] := S301.drop 0
              refine FL.v (E.append rfl rfl run300) ?_
              refine FL.v (E.fieldAddr tf168_1 k287) ?_
              obtain ⟨w305, run306, S307⟩ := S304.store (P := prog) (t := 73) (i := 0) (j := 1) (cs' := [v273, v296]) (l' := [.box b43 168 [v273, v296], .row 3 1 v296 n297 cs298, .row 90 6 v273 n274 cs275, .box b29 168 [vN, vN]]) (v := v296) (c := [v296]) rfl Tryz.sizeOf73 (Ln.cells (S304.row_ln (i := 1) rfl)) rfl (ones_cons (Ln.one (S304.row_ln (i := 1) rfl)) ones_nil) (Nat.le_of_ble_eq_true rfl) rfl rfl
              refine FL.act rfl rfl (E.store rfl rfl run306) ?_
              refine FL.nil (FW.region ?_)
              refine FL.v (E.move k288) ?_
              refine FL.v (E.add rfl rfl) ?_
              refine FL.v (E.assign (v := vI (wr (((i51 : Nat) : Int) + 1))) rfl) ?_
              refine FL.nil ?_
              obtain rfl := Option.some.inj hp
              exact ⟨rfl, ⟨_, _, _, _, _, _, _, S307, (((i63.tr i92).tr i203).tr i280), els302, els276, nd277, (nat_succ rfl (lt_of_get hx51) (p2.mono ((((i27.tr i63).tr i92).tr i203).tr i280)).le), k283, k284, k285, k286, k287⟩⟩
          ·
            refine FW.condF rfl c222 ?_
            refine FW.skip (FW.region ?_)
            refine FL.v (E.fieldAddr tf168_1 k210) ?_
            refine FL.v (E.load rfl (run_load1 Tryz.isAgg73 (S202.box_now (i := 0) rfl) rfl)) ?_
            refine FL.v (E.move k213) ?_
            obtain ⟨v308, w309, run310, S311⟩ := S202.buildSlice (P := prog) te73 [vI s365.2] (parts := #[(0, vI s365.2)]) (cells := [vI s365.2]) rfl (szs_cons rfl szs_nil) (fc_cons rfl fc_nil) (ones_cons rfl ones_nil) (Nat.le_of_ble_eq_true rfl)
            have els312 : Els (up wa.heap.size H201) eI 1 [vI s365.2] [s365.2] := (Els.snoc (H := (up wa.heap.size H201)) (E := eI) (k := 1) (c := [vI s365.2]) (x := s365.2) Els.nil rfl rfl)
            refine FL.v (E.buildSlice (B1 rfl) run310) ?_
            obtain ⟨xs313, hz314, hp⟩ := bnd hp
            obtain ⟨v315, w318, n316, cs317, run319, S320, els321, ce322⟩ := S311.appendO (P := prog) te73 (i := 2) (j := 0) rfl (els55.mono (up_mono (i92.tr i203))) rfl els312 hz314
            have S320 : St Ha wa H201 w318 [.row 3 1 v308 1 [vI s365.2], .box b43 168 [v196, v52], .row 3 1 v315 n316 cs317, .row 90 6 v196 n197 cs198, .box b29 168 [vN, vN]] := S320
            have S323 : St Ha wa H201 w318 [.box b43 168 [v196, v52], .row 3 1 v315 n316 cs317, .row 90 6 v196 n197 cs198, .box b29 168 [vN, vN]] := S320.drop 0
            refine FL.v (E.append rfl rfl run319) ?_
            refine FL.v (E.fieldAddr tf168_1 k210) ?_
            obtain ⟨w324, run325, S326⟩ := S323.store (P := prog) (t := 73) (i := 0) (j := 1) (cs' := [v196, v315]) (l' := [.box b43 168 [v196, v315], .row 3 1 v315 n316 cs317, .row 90 6 v196 n197 cs198, .box b29 168 [vN, vN]]) (v := v315) (c := [v315]) rfl Tryz.sizeOf73 (Ln.cells (S323.row_ln (i := 1) rfl)) rfl (ones_cons (Ln.one (S323.row_ln (i := 1) rfl)) ones_nil) (Nat.le_of_ble_eq_true rfl) rfl rfl
            refine FL.act rfl rfl (E.store rfl rfl run325) ?_
            refine FL.nil (FW.region ?_)
            refine FL.v (E.move k211) ?_
            refine FL.v (E.add rfl rfl) ?_
            refine FL.v (E.assign (v := vI (wr (((i51 : Nat) : Int) + 1))) rfl) ?_
            refine FL.nil ?_
            obtain rfl := Option.some.inj hp
            exact ⟨rfl, ⟨_, _, _, _, _, _, _, S326, ((i63.tr i92).tr i203), els321, els199, nd200, (nat_succ rfl (lt_of_get hx51) (p2.mono (((i27.tr i63).tr i92).tr i203)).le), k206, k207, k208, k209, k210⟩⟩
      ·
        refine FW.condF rfl c170 ?_
        refine FW.seq ?_
        refine FW.draw (fun w' => Run w85.heap.size H89 w85 H89 w') (by kernel_rfl) (by kernel_rfl) (run_drew S91.sl) ?_
        refine FD.val rfl rfl rfl (fun _ z => (E.move k68)) ?_
        refine FD.val rfl rfl rfl (fun _ z => (E.fieldAddr tf88_1 rfl)) ?_
        refine FD.val rfl rfl rfl (fun _ z => (E.load rfl (run_load1 Tryz.isAgg3 (at93.now (S91.call z).sl) rfl))) ?_
        obtain ⟨x333, hx334, hp⟩ := bnd hp
        obtain ⟨p327, cs328, pt329, l330, at331, rel332⟩ := p2.at hx334
        obtain ⟨v335, rfl, h336⟩ := eResStep_open rel332
        refine FD.val rfl rfl rfl (fun _ z => (E.indexAddr te34 rfl rfl pt329)) ?_
        refine FD.val rfl rfl rfl (fun _ z => (E.fieldAddr tf88_0 rfl)) ?_
        refine FD.val rfl rfl rfl (fun _ z => (E.load rfl (run_load1 Tryz.isAgg73 ((at331.mono ((i27.tr i63).tr i92)).now (S91.call z).sl) rfl))) ?_
        refine FD.val rfl rfl rfl (fun _ z => (E.move k68)) ?_
        refine FD.val rfl rfl rfl (fun _ z => (E.fieldAddr tf88_2 rfl)) ?_
        refine FD.val rfl rfl rfl (fun _ z => (E.load rfl (run_load1 Tryz.isAgg3 (at93.now (S91.call z).sl) rfl))) ?_
        obtain ⟨x343, hx344, hp⟩ := bnd hp
        obtain ⟨p337, cs338, pt339, l340, at341, rel342⟩ := p2.at hx344
        obtain ⟨v345, rfl, h346⟩ := eResStep_open rel342
        refine FD.val rfl rfl rfl (fun _ z => (E.indexAddr te34 rfl rfl pt339)) ?_
        refine FD.val rfl rfl rfl (fun _ z => (E.fieldAddr tf88_0 rfl)) ?_
        refine FD.val rfl rfl rfl (fun _ z => (E.load rfl (run_load1 Tryz.isAgg73 ((at341.mono ((i27.tr i63).tr i92)).now (S91.call z).sl) rfl))) ?_
        refine FD.val rfl rfl rfl (fun _ z => (E.assign (v := v335) rfl)) ?_
        refine FD.val rfl rfl rfl (fun _ z => (E.assign (v := v345) rfl)) ?_
        refine FD.nil ?_
        intro w347 r349
        have S348 := S91.call r349
        refine FW.seq (FW.region ?_)
        refine FL.v (E.assign (v := vI 0) rfl) ?_
        refine FL.v (E.assign (v := vI 0) rfl) ?_
        refine FL.nil (FW.seq ?_)
        obtain ⟨x359, hx360, hp⟩ := bnd hp
        obtain ⟨s464, hq464, hp⟩ := bnd hp
        refine FW.drawB (SX Ha wa H89 [.row 3 1 v52 n53 cs54]) (fun f w => ∃ H : GH, ∃ v381 : Value, ∃ n382 : Nat, ∃ cs383 : List Value, St Ha wa H w [.box b43 168 [v381, v52], .row 3 1 v52 n53 cs54, .row 90 6 v381 n382 cs383, .box b29 168 [vN, vN]] ∧ Inc H89 H ∧ Els (up wa.heap.size H) ePcStep 6 cs383 s464.1 ∧ (bl cs383).Nodup ∧ f 0 = vI a0 ∧ f 2 = v2 ∧ f 4 = vP (⟨b21, 0, none⟩) ∧ f 6 = vP ((⟨b29, 0, none⟩ : Addr)) ∧ f 7 = vP ((⟨b43, 0, none⟩ : Addr)) ∧ f 8 = vI ((i51 : Nat) : Int) ∧ f 9 = vP (⟨b81, 0, none⟩) ∧ f 11 = v335 ∧ f 12 = v345 ∧ f 13 = vI s464.2) (by kernel_rfl) S348.sl ?_ ?_
        ·
          intro w350 r351
          have S352 := S348.call r351
          refine FB.phase [] (fun w => WAt w (Addr.add ⟨b43, 0, none⟩ 1) [v52]) ?_
          refine FB.phase [18] (fun w => WAt w (⟨b43, 0, none⟩ : Addr) [v56, v52]) ?_
          refine FB.t (i := 0) (bs 20 1) rfl (SP.on (S352.box_now (i := 0) rfl) (SP.on ((S352.box_now (i := 0) rfl).sub (j := 1) (n := 1) (c := [v52]) rfl) (SP.nil ⟨_, (S352.sel [1] (by decide) rfl), (Inc.rfl _)⟩))) rfl (fun _ z => (E.move k67)) ?_
          refine FB.t (i := 1) (bs 20 3) rfl (SP.on (S352.box_now (i := 0) rfl) (SP.on ((S352.box_now (i := 0) rfl).sub (j := 1) (n := 1) (c := [v52]) rfl) (SP.nil ⟨_, (S352.sel [1] (by decide) rfl), (Inc.rfl _)⟩))) rfl (fun _ z => (E.fieldAddr tf32_0 k69)) ?_
          refine FB.t (i := 2) (bs 20 7) rfl (SP.on (S352.box_now (i := 0) rfl) (SP.on ((S352.box_now (i := 0) rfl).sub (j := 1) (n := 1) (c := [v52]) rfl) (SP.nil ⟨_, (S352.sel [1] (by decide) rfl), (Inc.rfl _)⟩))) rfl (fun _ z => (E.load rfl (run_load1 Tryz.isAgg3 ((at28.mono (i63.tr i92)).now z.sl) rfl))) ?_
          refine FB.p (i := 3) (bs 20 15) 0 [14, 15, 16, 17, 18, 19] rfl (SP.on (S352.box_now (i := 0) rfl) (SP.on ((S352.box_now (i := 0) rfl).sub (j := 1) (n := 1) (c := [v52]) rfl) (SP.nil ⟨_, (S352.sel [1] (by decide) rfl), (Inc.rfl _)⟩))) rfl rfl (fun _ z => (E.load k71 (run_loadA Tryz.isAgg168 Tryz.sizeOf168 z rfl))) ?_
          refine FB.t (i := 4) (bs 20 31) rfl (SP.on (S352.box_now (i := 0) rfl) (SP.on ((S352.box_now (i := 0) rfl).sub (j := 1) (n := 1) (c := [v52]) rfl) (SP.nil ⟨_, (S352.sel [1] (by decide) rfl), (Inc.rfl _)⟩))) rfl (fun _ z => (E.fieldAddr tf168_1 k71)) ?_
          refine FB.p (i := 5) (bs 20 63) 1 [8, 9, 14, 15, 16, 17, 18, 19] rfl (SP.on (S352.box_now (i := 0) rfl) (SP.on ((S352.box_now (i := 0) rfl).sub (j := 1) (n := 1) (c := [v52]) rfl) (SP.nil ⟨_, (S352.sel [1] (by decide) rfl), (Inc.rfl _)⟩))) rfl rfl (fun _ z => (E.load rfl (run_load0 Tryz.isAgg73 z rfl))) ?_
          refine FB.t (i := 6) (bs 20 127) rfl (SP.on (S352.box_now (i := 0) rfl) (SP.on ((S352.box_now (i := 0) rfl).sub (j := 1) (n := 1) (c := [v52]) rfl) (SP.nil ⟨_, (S352.sel [1] (by decide) rfl), (Inc.rfl _)⟩))) rfl (fun _ z => (E.fieldAddr tf88_1 rfl)) ?_
          refine FB.t (i := 7) (bs 20 255) rfl (SP.on (S352.box_now (i := 0) rfl) (SP.on ((S352.box_now (i := 0) rfl).sub (j := 1) (n := 1) (c := [v52]) rfl) (SP.nil ⟨_, (S352.sel [1] (by decide) rfl), (Inc.rfl _)⟩))) rfl (fun _ z => (E.load rfl (run_load1 Tryz.isAgg3 (at93.now z.sl) rfl))) ?_
          obtain ⟨p353, cs354, pt355, l356, at357, rel358, hall361⟩ := S352.row_atA (i := 1) rfl els55 (by decide) hx360
          obtain rfl := eI_open rel358
          refine FB.t (i := 8) (bs 20 511) rfl (SP.on (S352.box_now (i := 0) rfl) (SP.on ((S352.box_now (i := 0) rfl).sub (j := 1) (n := 1) (c := [v52]) rfl) (SP.nil ⟨_, (S352.sel [1] (by decide) rfl), (Inc.rfl _)⟩))) rfl (fun _ z => (E.indexAddr te73 rfl rfl pt355)) ?_
          refine FB.t (i := 9) (bs 20 1023) rfl (SP.on (S352.box_now (i := 0) rfl) (SP.on ((S352.box_now (i := 0) rfl).sub (j := 1) (n := 1) (c := [v52]) rfl) (SP.nil ⟨_, (S352.sel [1] (by decide) rfl), (Inc.rfl _)⟩))) rfl (fun _ z => (E.load rfl (run_load0 Tryz.isAgg3 (z.use fun _ st => hall361 _ _ _ 0 st rfl) rfl))) ?_
          refine FB.t (i := 10) (bs 20 2047) rfl (SP.on (S352.box_now (i := 0) rfl) (SP.on ((S352.box_now (i := 0) rfl).sub (j := 1) (n := 1) (c := [v52]) rfl) (SP.nil ⟨_, (S352.sel [1] (by decide) rfl), (Inc.rfl _)⟩))) rfl (fun _ z => (E.move (v := v335) rfl)) ?_
          refine FB.t (i := 11) (bs 20 4095) rfl (SP.on (S352.box_now (i := 0) rfl) (SP.on ((S352.box_now (i := 0) rfl).sub (j := 1) (n := 1) (c := [v52]) rfl) (SP.nil ⟨_, (S352.sel [1] (by decide) rfl), (Inc.rfl _)⟩))) rfl (fun _ z => (E.move (v := v345) rfl)) ?_
          refine FB.t (i := 12) (bs 20 8191) rfl (SP.on (S352.box_now (i := 0) rfl) (SP.on ((S352.box_now (i := 0) rfl).sub (j := 1) (n := 1) (c := [v52]) rfl) (SP.nil ⟨_, (S352.sel [1] (by decide) rfl), (Inc.rfl _)⟩))) rfl (fun _ z => (E.fieldAddr tf88_3 rfl)) ?_
          refine FB.t (i := 13) (bs 20 16383) rfl (SP.on (S352.box_now (i := 0) rfl) (SP.on ((S352.box_now (i := 0) rfl).sub (j := 1) (n := 1) (c := [v52]) rfl) (SP.nil ⟨_, (S352.sel [1] (by decide) rfl), (Inc.rfl _)⟩))) rfl (fun _ z => (E.load rfl (run_load1 Tryz.isAgg3 (at93.now z.sl) rfl))) ?_
          refine FB.all1 (i := 14) (by kernel_rfl) ?_
          ·
            obtain ⟨R464, hR464⟩ : ∃ R464 : ((List PcStep) × Int) → Ending → World → Prop, R464 = (fun s464 e w => ∃ H : GH, ∃ v465 : Value, ∃ n466 : Nat, ∃ cs467 : List Value, e = Ending.returned (Value.tuple #[vA #[v465, v52], vI s464.2]) ∧ St Ha wa H w [.box b43 168 [v56, v52], .row 3 1 v52 n53 cs54, .row 90 6 v465 n466 cs467, .box b29 168 [vN, vN]] ∧ Inc H89 H ∧ Els (up wa.heap.size H) ePcStep 6 cs467 s464.1 ∧ (bl cs467).Nodup) := ⟨_, rfl⟩
            have hc464 : Calls prog 184 #[vI a0, vI a1.vars, vA #[v56, v52], vI x359, v335, v345, vI y50.pivot] w350 (R464 s464) := by
              clear hp; have hp := hq464; clear hq464
              refine calls_go (N := 97) (args := [vI a0, vI a1.vars, vA #[v56, v52], vI x359, v335, v345, vI y50.pivot]) Tryz.func184 rfl rfl rfl ?_
              refine FW.seq (FW.region ?_)
              obtain ⟨b470, w471, run472, S473⟩ := S352.box (P := prog) 168 [v56, v52] (v := vA #[v56, v52]) rfl (ones_cons (Ln.one (S352.row_ln (i := 2) rfl)) (ones_cons (Ln.one (S352.row_ln (i := 1) rfl)) ones_nil))
              refine FL.v (E.box rfl run472) ?_
              obtain ⟨b474, w475, run476, S477⟩ := S473.alloc (P := prog) 168 [vN, vN] Tryz.zeroValue168 rfl (ones_cons rfl (ones_cons rfl ones_nil))
              refine FL.v (E.alloc run476) ?_
              refine FL.v (E.assign (v := vI 0) rfl) ?_
              refine FL.nil (FW.seq (FW.seq (FW.region ?_)))
              refine FL.v (E.assign (v := vI 0) rfl) ?_
              refine FL.nil ?_
              obtain ⟨q479, hq, hp⟩ := bndR hp
              refine FW.block ?_
              refine FW.mono (FW.forL (S := ((List PcStep) × Int)) (X := Empty) (fun (i479 : Nat) (s479 : ((List PcStep) × Int)) f w => ∃ H : GH, ∃ v730 : Value, ∃ n731 : Nat, ∃ cs732 : List Value, St Ha wa H w [.box b474 168 [vN, vN], .box b470 168 [v730, v52], .box b43 168 [v56, v52], .row 3 1 v52 n53 cs54, .row 90 6 v730 n731 cs732, .box b29 168 [vN, vN]] ∧ Inc H89 H ∧ Els (up wa.heap.size H) ePcStep 6 cs732 s479.1 ∧ (bl cs732).Nodup ∧ f 16 = vI ((i479 : Nat) : Int) ∧ f 0 = vI a0 ∧ f 1 = vI a1.vars ∧ f 3 = vI s479.2 ∧ f 4 = v335 ∧ f 5 = v345 ∧ f 6 = vI y50.pivot ∧ f 9 = vP ((⟨b470, 0, none⟩ : Addr)) ∧ f 14 = vP ((⟨b474, 0, none⟩ : Addr))) (fun (q : Rs ((List PcStep) × Int) Empty) e f w => match q with | .go s479 => e = Exit.exit 0 ∧ (∃ H : GH, ∃ v730 : Value, ∃ n731 : Nat, ∃ cs732 : List Value, St Ha wa H w [.box b474 168 [vN, vN], .box b470 168 [v730, v52], .box b43 168 [v56, v52], .row 3 1 v52 n53 cs54, .row 90 6 v730 n731 cs732, .box b29 168 [vN, vN]] ∧ Inc H89 H ∧ Els (up wa.heap.size H) ePcStep 6 cs732 s479.1 ∧ (bl cs732).Nodup ∧ f 3 = vI s479.2 ∧ f 9 = vP ((⟨b470, 0, none⟩ : Addr)) ∧ f 14 = vP ((⟨b474, 0, none⟩ : Addr))) | .rt x => x.elim) hq ⟨_, _, _, _, S477, (Inc.rfl _), (els59.mono (up_mono i92)), nd60, rfl, rfl, rfl, rfl, rfl, rfl, rfl, rfl, rfl⟩ ?_ ?_) ?_
              ·
                clear hp hq
                rintro i479 y478 s479 f818 w817 ⟨H814, v730, n731, cs732, S815, i816, els733, nd734, k819, k820, k821, k822, k823, k824, k825, k826, k827⟩ hx479 o1100 hp
                refine FW.seq (FW.seq (FW.region ?_))
                refine FL.v (E.move k819) ?_
                refine FL.v (E.move k824) ?_
                refine FL.v (E.lenP te73 rfl h346) ?_
                refine FL.v (E.lssT rfl rfl (lss_len hx479)) ?_
                refine FL.nil ?_
                refine FW.condT rfl rfl ?_
                refine FW.skip (FW.seq (FW.block (FW.seq (FW.seq (FW.region ?_)))))
                refine FL.v (E.move k823) ?_
                refine FL.v (E.move k824) ?_
                refine FL.v (E.move k819) ?_
                obtain ⟨p828, cs829, pt830, l831, at832, rel833⟩ := h346.at (ix_nat hx479)
                obtain rfl := eI_open rel833
                refine FL.v (E.indexAddr te73 rfl rfl pt830) ?_
                refine FL.v (E.load rfl (run_load0 Tryz.isAgg3 ((at832.mono (((i27.tr i63).tr i92).tr i816)).now S815.sl) rfl)) ?_
                obtain ⟨r834, hr835, hp⟩ := bnd hp
                refine FL.call rfl rfl rfl (E.call Tryz.call190 (A2 rfl rfl)) (w_spec_l2Has S815.sl v335 x333.clause (h336.mono (((i27.tr i63).tr i92).tr i816)) y478 hr835) ?_
                rintro e w836 ⟨rfl, r837⟩
                refine ⟨_, rfl, ?_⟩
                have S838 := S815.call r837
                refine FL.v (E.move (v := vB r834) rfl) ?_
                refine FL.cut 8 (fun f w => ∃ H : GH, St Ha wa H w [.box b474 168 [vN, vN], .box b470 168 [v730, v52], .box b43 168 [v56, v52], .row 3 1 v52 n53 cs54, .row 90 6 v730 n731 cs732, .box b29 168 [vN, vN]] ∧ Inc H814 H ∧ f 0 = vI a0 ∧ f 1 = vI a1.vars ∧ f 3 = vI s479.2 ∧ f 4 = v335 ∧ f 5 = v345 ∧ f 6 = vI y50.pivot ∧ f 9 = vP ((⟨b470, 0, none⟩ : Addr)) ∧ f 14 = vP ((⟨b474, 0, none⟩ : Addr)) ∧ f 16 = vI ((i479 : Nat) : Int) ∧ f 40 = vB (bif r834 then true else ((PF.spec_l2Var y478) == y50.pivot))) ?_ ?_
                ·
                  rcases bcase r834 with c844 | c844
                  ·
                    refine FL.skip (wF_no rfl rfl rfl c844) rfl ?_
                    refine FL.skip (wF_no rfl rfl rfl c844) rfl ?_
                    refine FL.skip (wF_no rfl rfl rfl c844) rfl ?_
                    refine FL.skip (wF_no rfl rfl rfl c844) rfl ?_
                    refine FL.skip (wF_no rfl rfl rfl c844) rfl ?_
                    refine FL.skip (wF_no rfl rfl rfl c844) rfl ?_
                    refine FL.skip (wF_no rfl rfl rfl c844) rfl ?_
                    refine FL.v (E.pickT rfl c844 rfl) ?_
                    exact FL.nil ⟨rfl, _, S838, (Inc.rfl _), k820, k821, k822, k823, k824, k825, k826, k827, k819, (congrArg vB (bifT c844).symm)⟩
                  ·
                    refine FL.val (wF_yes rfl rfl rfl c844) rfl rfl (E.move k824) ?_
                    refine FL.val (wF_yes rfl rfl rfl c844) rfl rfl (E.move k819) ?_
                    obtain ⟨p845, cs846, pt847, l848, at849, rel850⟩ := h346.at (ix_nat hx479)
                    obtain rfl := eI_open rel850
                    refine FL.val (wF_yes rfl rfl rfl c844) rfl rfl (E.indexAddr te73 rfl rfl pt847) ?_
                    refine FL.val (wF_yes rfl rfl rfl c844) rfl rfl (E.load rfl (run_load0 Tryz.isAgg3 ((at849.mono (((i27.tr i63).tr i92).tr i816)).now S838.sl) rfl)) ?_
                    refine FL.call (wF_yes rfl rfl rfl c844) rfl rfl (E.call Tryz.call116 (A1 rfl)) (w_spec_l2Var S838.sl y478) ?_
                    rintro e w851 ⟨rfl, r852⟩
                    refine ⟨_, rfl, ?_⟩
                    have S853 := S838.call r852
                    refine FL.val (wF_yes rfl rfl rfl c844) rfl rfl (E.move k825) ?_
                    refine FL.val (wF_yes rfl rfl rfl c844) rfl rfl (E.eql rfl rfl) ?_
                    refine FL.v (E.pickF rfl c844 rfl) ?_
                    exact FL.nil ⟨rfl, _, S853, (Inc.rfl _), k820, k821, k822, k823, k824, k825, k826, k827, k819, (congrArg vB (bifF c844).symm)⟩
                rintro f843 w842 ⟨H839, S840, i841, k854, k855, k856, k857, k858, k859, k860, k861, k862, k863⟩
                refine FL.nil ?_
                rcases ifB hp with ⟨c864, hp⟩ | ⟨c864, hp⟩
                ·
                  refine FW.condT k863 c864 ?_
                  refine FW.exit ?_
                  refine FW.region ?_
                  refine FL.v (E.move k862) ?_
                  refine FL.v (E.add rfl rfl) ?_
                  refine FL.v (E.assign (v := vI (wr (((i479 : Nat) : Int) + 1))) rfl) ?_
                  refine FL.nil ?_
                  obtain rfl := Option.some.inj hp
                  exact ⟨rfl, ⟨_, _, _, _, S840, (i816.tr i841), (els733.mono (up_mono i841)), nd734, (nat_succ rfl (lt_of_get hx479) (h346.mono ((((i27.tr i63).tr i92).tr i816).tr i841)).le), k854, k855, k856, k857, k858, k859, k860, k861⟩⟩
                ·
                  refine FW.condF k863 c864 ?_
                  refine FW.skip (FW.seq ?_)
                  refine FW.draw (fun w' => Run w842.heap.size H839 w842 H839 w') (by kernel_rfl) (by kernel_rfl) (run_drew S840.sl) ?_
                  refine FD.val rfl rfl rfl (fun _ z => (E.move k858)) ?_
                  refine FD.val rfl rfl rfl (fun _ z => (E.move k862)) ?_
                  obtain ⟨p865, cs866, pt867, l868, at869, rel870⟩ := h346.at (ix_nat hx479)
                  obtain rfl := eI_open rel870
                  refine FD.val rfl rfl rfl (fun _ z => (E.indexAddr te73 rfl rfl pt867)) ?_
                  refine FD.val rfl rfl rfl (fun _ z => (E.load rfl (run_load0 Tryz.isAgg3 ((at869.mono ((((i27.tr i63).tr i92).tr i816).tr i841)).now (S840.call z).sl) rfl))) ?_
                  refine FD.call rfl rfl rfl (fun _ z => (E.call Tryz.call116 (A1 rfl))) (fun _ z => Calls.cls z (w_spec_l2Var (S840.call z).sl y478)) ?_
                  refine FD.val rfl rfl rfl (fun _ z => (E.fieldAddr tf168_0 k860)) ?_
                  refine FD.val rfl rfl rfl (fun _ z => (E.load rfl (run_load1 Tryz.isAgg36 ((S840.call z).box_now (i := 1) rfl) rfl))) ?_
                  refine FD.val rfl rfl rfl (fun _ z => (E.move k856)) ?_
                  obtain ⟨x877, hx878, hp⟩ := bnd hp
                  obtain ⟨p871, cs872, pt873, l874, at875, rel876⟩ := S840.row_at (i := 4) rfl els733 (by decide) hx878
                  obtain ⟨v879, rfl, h880⟩ := ePcStep_open rel876
                  refine FD.val rfl rfl rfl (fun _ z => (E.indexAddr te36 rfl rfl pt873)) ?_
                  refine FD.val rfl rfl rfl (fun _ z => (E.fieldAddr tf90_1 rfl)) ?_
                  refine FD.val rfl rfl rfl (fun _ z => (E.load rfl (run_load1 Tryz.isAgg55 (at875.cls z) rfl))) ?_
                  refine FD.val rfl rfl rfl (fun _ z => (E.assign (v := vI (PF.spec_l2Var y478)) rfl)) ?_
                  refine FD.val rfl rfl rfl (fun _ z => (E.assign (v := v879) rfl)) ?_
                  refine FD.nil ?_
                  intro w881 r883
                  have S882 := S840.call r883
                  refine FW.seq (FW.region ?_)
                  refine FL.v (E.move k854) ?_
                  refine FL.v (E.move k855) ?_
                  refine FL.v (E.move (v := v879) rfl) ?_
                  refine FL.v (E.move (v := vI (PF.spec_l2Var y478)) rfl) ?_
                  obtain ⟨r884, hr885, hp⟩ := bnd hp
                  refine FL.call rfl rfl rfl (E.call Tryz.call158 (A4 rfl rfl rfl rfl)) (w_spec_l20Times S882.sl a0 a1.vars v879 x877.poly (h880.mono (upI.tr i841)) (PF.spec_l2Var y478) hr885) ?_
                  rintro e w887 ⟨H886, v890, n891, cs892, rfl, r889, els893⟩
                  refine ⟨_, rfl, ?_⟩
                  have els893 := els893.mono (up_le S882.size)
                  have S888 := S882.join (l' := [.row 108 2 v890 n891 cs892, .box b474 168 [vN, vN], .box b470 168 [v730, v52], .box b43 168 [v56, v52], .row 3 1 v52 n53 cs54, .row 90 6 v730 n731 cs732, .box b29 168 [vN, vN]]) r889 rfl
                  refine FL.v (E.assign (v := v890) rfl) ?_
                  refine FL.nil (FW.seq (FW.region ?_))
                  refine FL.v (E.fieldAddr tf168_0 k860) ?_
                  refine FL.v (E.load rfl (run_load1 Tryz.isAgg36 (S888.box_now (i := 2) rfl) rfl)) ?_
                  refine FL.v (E.move (v := v890) rfl) ?_
                  refine FL.v (E.move k856) ?_
                  refine FL.v (E.move (v := vI (PF.spec_l2Var y478)) rfl) ?_
                  refine FL.v (E.build (B4 rfl rfl rfl rfl) (run_build _ 90 #[(0, vI 3), (1, v890), (2, vI s479.2), (4, vI (PF.spec_l2Var y478))] #[vI 3, v890, vI s479.2, vI 0, vI (PF.spec_l2Var y478), vI 0] (by obtain ⟨_, _, rfl⟩ := S888.row_ln (i := 0) rfl; rfl))) ?_
                  obtain ⟨H894, S895, i896, h897, nv898⟩ := S888.sealRowU (i := 0) (l' := [.box b474 168 [vN, vN], .box b470 168 [v730, v52], .box b43 168 [v56, v52], .row 3 1 v52 n53 cs54, .row 90 6 v730 n731 cs732, .box b29 168 [vN, vN]]) rfl els893 (by decide) rfl
                  obtain ⟨v899, w900, run901, S902⟩ := S895.buildSlice (P := prog) te36 [vA #[vI 3, v890, vI s479.2, vI 0, vI (PF.spec_l2Var y478), vI 0]] (parts := #[(0, vA #[vI 3, v890, vI s479.2, vI 0, vI (PF.spec_l2Var y478), vI 0])]) (cells := [vI 3, v890, vI s479.2, vI 0, vI (PF.spec_l2Var y478), vI 0]) rfl (szs_cons rfl szs_nil) (fc_cons rfl fc_nil) (ones_cons rfl (ones_cons h897.one (ones_cons rfl (ones_cons rfl (ones_cons rfl (ones_cons rfl ones_nil)))))) (Nat.le_of_ble_eq_true rfl)
                  have els903 : Els (up wa.heap.size H894) ePcStep 6 [vI 3, v890, vI s479.2, vI 0, vI (PF.spec_l2Var y478), vI 0] [(PcStep.mk 3 r884 s479.2 0 (PF.spec_l2Var y478) 0)] := (Els.snoc (H := (up wa.heap.size H894)) (E := ePcStep) (k := 6) (c := [vI 3, v890, vI s479.2, vI 0, vI (PF.spec_l2Var y478), vI 0]) (x := (PcStep.mk 3 r884 s479.2 0 (PF.spec_l2Var y478) 0)) Els.nil rfl ⟨_, rfl, h897⟩)
                  have nd904 : (bl [vI 3, v890, vI s479.2, vI 0, vI (PF.spec_l2Var y478), vI 0]).Nodup := by exact nd_one v890
                  refine FL.v (E.buildSlice (B1 rfl) run901) ?_
                  obtain ⟨xs905, hz906, hp⟩ := bnd hp
                  obtain ⟨v907, w910, n908, cs909, run911, S912, els913, ce914⟩ := S902.appendO (P := prog) te36 (i := 5) (j := 0) rfl (els733.mono (up_mono ((i841.tr r889.run.inc).tr i896))) rfl els903 hz906
                  have S912 : St Ha wa H894 w910 [.row 90 6 v899 1 [vI 3, v890, vI s479.2, vI 0, vI (PF.spec_l2Var y478), vI 0], .box b474 168 [vN, vN], .box b470 168 [v730, v52], .box b43 168 [v56, v52], .row 3 1 v52 n53 cs54, .row 90 6 v907 n908 cs909, .box b29 168 [vN, vN]] := S912
                  have nd915 : (bl cs909).Nodup := by rw [ce914]; exact nd_app nd734 nd904 (Els.dom (els733.mono (upI.tr (i841.tr r889.run.inc)))) (by exact nv898)
                  have S916 : St Ha wa H894 w910 [.box b474 168 [vN, vN], .box b470 168 [v730, v52], .box b43 168 [v56, v52], .row 3 1 v52 n53 cs54, .row 90 6 v907 n908 cs909, .box b29 168 [vN, vN]] := S912.drop 0
                  refine FL.v (E.append rfl rfl run911) ?_
                  refine FL.v (E.fieldAddr tf168_0 k860) ?_
                  obtain ⟨w917, run918, S919⟩ := S916.store (P := prog) (t := 36) (i := 1) (j := 0) (cs' := [v907, v52]) (l' := [.box b474 168 [vN, vN], .box b470 168 [v907, v52], .box b43 168 [v56, v52], .row 3 1 v52 n53 cs54, .row 90 6 v907 n908 cs909, .box b29 168 [vN, vN]]) (v := v907) (c := [v907]) rfl Tryz.sizeOf36 (Ln.cells (S916.row_ln (i := 4) rfl)) rfl (ones_cons (Ln.one (S916.row_ln (i := 4) rfl)) ones_nil) (Nat.le_of_ble_eq_true rfl) rfl rfl
                  refine FL.act rfl rfl (E.store rfl rfl run918) ?_
                  refine FL.nil (FW.seq (FW.seq (FW.region ?_)))
                  refine FL.v (E.move k858) ?_
                  refine FL.v (E.move k862) ?_
                  obtain ⟨p920, cs921, pt922, l923, at924, rel925⟩ := h346.at (ix_nat hx479)
                  obtain rfl := eI_open rel925
                  refine FL.v (E.indexAddr te73 rfl rfl pt922) ?_
                  refine FL.v (E.load rfl (run_load0 Tryz.isAgg3 ((at924.mono ((((((i27.tr i63).tr i92).tr i816).tr i841).tr r889.run.inc).tr i896)).now S919.sl) rfl)) ?_
                  refine FL.v (E.gtr rfl rfl) ?_
                  refine FL.nil ?_
                  rcases ifB hp with ⟨c926, hp⟩ | ⟨c926, hp⟩
                  ·
                    refine FW.condT rfl c926 ?_
                    obtain ⟨r930, hr931, hp⟩ := bnd hp
                    obtain ⟨xs951, hz952, hp⟩ := bnd hp
                    refine FW.drawB (Sl H894) (fun f w => ∃ H : GH, ∃ v1082 : Value, ∃ n1083 : Nat, ∃ cs1084 : List Value, St Ha wa H w [.box b474 168 [vN, vN], .box b470 168 [v1082, v52], .box b43 168 [v56, v52], .row 3 1 v52 n53 cs54, .row 90 6 v1082 n1083 cs1084, .box b29 168 [vN, vN]] ∧ Inc H894 H ∧ Els (up wa.heap.size H) ePcStep 6 cs1084 xs951 ∧ (bl cs1084).Nodup ∧ f 0 = vI a0 ∧ f 1 = vI a1.vars ∧ f 4 = v335 ∧ f 5 = v345 ∧ f 6 = vI y50.pivot ∧ f 9 = vP ((⟨b470, 0, none⟩ : Addr)) ∧ f 14 = vP ((⟨b474, 0, none⟩ : Addr)) ∧ f 16 = vI ((i479 : Nat) : Int)) (by kernel_rfl) S919.sl ?_ ?_
                    ·
                      intro w927 r928
                      have S929 := S919.call r928
                      refine FB.phase [20] (fun w => WAt w (Addr.add ⟨b470, 0, none⟩ 0) [v907]) ?_
                      refine FB.t (i := 0) (bs 21 1) rfl (SP.on ((S929.box_now (i := 1) rfl).sub (j := 0) (n := 1) (c := [v907]) rfl) (SP.nil S929.sl)) rfl (fun _ z => (E.fieldAddr tf168_0 k860)) ?_
                      refine FB.p (i := 1) (bs 21 3) 0 [18, 19, 20] rfl (SP.on ((S929.box_now (i := 1) rfl).sub (j := 0) (n := 1) (c := [v907]) rfl) (SP.nil S929.sl)) rfl rfl (fun _ z => (E.load rfl (run_load0 Tryz.isAgg36 z rfl))) ?_
                      refine FB.t (i := 2) (bs 21 7) rfl (SP.on ((S929.box_now (i := 1) rfl).sub (j := 0) (n := 1) (c := [v907]) rfl) (SP.nil S929.sl)) rfl (fun _ z => (E.move k854)) ?_
                      refine FB.t (i := 3) (bs 21 15) rfl (SP.on ((S929.box_now (i := 1) rfl).sub (j := 0) (n := 1) (c := [v907]) rfl) (SP.nil S929.sl)) rfl (fun _ z => (E.move k855)) ?_
                      refine FB.t (i := 4) (bs 21 31) rfl (SP.on ((S929.box_now (i := 1) rfl).sub (j := 0) (n := 1) (c := [v907]) rfl) (SP.nil S929.sl)) rfl (fun _ z => (E.move (v := v879) rfl)) ?_
                      refine FB.t (i := 5) (bs 21 63) rfl (SP.on ((S929.box_now (i := 1) rfl).sub (j := 0) (n := 1) (c := [v907]) rfl) (SP.nil S929.sl)) rfl (fun _ z => (E.move (v := v890) rfl)) ?_
                      refine FB.t (i := 6) (bs 21 127) rfl (SP.on ((S929.box_now (i := 1) rfl).sub (j := 0) (n := 1) (c := [v907]) rfl) (SP.nil S929.sl)) rfl (fun _ z => (E.move k854)) ?_
                      refine FB.t (i := 7) (bs 21 255) rfl (SP.on ((S929.box_now (i := 1) rfl).sub (j := 0) (n := 1) (c := [v907]) rfl) (SP.nil S929.sl)) rfl (fun _ z => (E.sub rfl rfl)) ?_
                      refine FB.t (i := 9) (bs 21 767) rfl (SP.on ((S929.box_now (i := 1) rfl).sub (j := 0) (n := 1) (c := [v907]) rfl) (SP.nil S929.sl)) rfl (fun _ z => (E.move k856)) ?_
                      refine FB.t (i := 10) (bs 21 1791) rfl (SP.on ((S929.box_now (i := 1) rfl).sub (j := 0) (n := 1) (c := [v907]) rfl) (SP.nil S929.sl)) rfl (fun _ z => (E.fieldAddr tf168_0 k860)) ?_
                      refine FB.p (i := 11) (bs 21 3839) 0 [12, 13, 16, 17, 18, 19, 20] rfl (SP.on ((S929.box_now (i := 1) rfl).sub (j := 0) (n := 1) (c := [v907]) rfl) (SP.nil S929.sl)) rfl rfl (fun _ z => (E.load rfl (run_load0 Tryz.isAgg36 z rfl))) ?_
                      refine FB.t (i := 12) (bs 21 7935) rfl (SP.on ((S929.box_now (i := 1) rfl).sub (j := 0) (n := 1) (c := [v907]) rfl) (SP.nil S929.sl)) rfl (fun _ z => (E.lenOW te36 rfl S929 (i := 4) rfl els913 (by decide))) ?_
                      refine FB.t (i := 13) (bs 21 16127) rfl (SP.on ((S929.box_now (i := 1) rfl).sub (j := 0) (n := 1) (c := [v907]) rfl) (SP.nil S929.sl)) rfl (fun _ z => (E.sub rfl rfl)) ?_
                      refine FB.t (i := 14) (bs 21 32511) rfl (SP.on ((S929.box_now (i := 1) rfl).sub (j := 0) (n := 1) (c := [v907]) rfl) (SP.nil S929.sl)) rfl (fun _ z => (E.move k854)) ?_
                      refine FB.t (i := 15) (bs 21 65279) rfl (SP.on ((S929.box_now (i := 1) rfl).sub (j := 0) (n := 1) (c := [v907]) rfl) (SP.nil S929.sl)) rfl (fun _ z => (E.sub rfl rfl)) ?_
                      refine FB.all1 (i := 8) (by kernel_rfl) ?_
                      ·
                        refine FC.call (l' := (bs 21 65535)) rfl (by kernel_rfl) rfl rfl rfl (E.call Tryz.call185 (A6 rfl rfl rfl rfl rfl rfl)) (w_spec_l20Sum S929.sl a0 a1.vars v879 x877.poly (h880.mono (upI.tr ((i841.tr r889.run.inc).tr i896))) 1 v890 r884 (h897.mono upI) (wr (a0 - 1)) hr931) ?_
                        rintro e w933 ⟨H932, v936, n937, cs938, rfl, r935, els939⟩
                        refine ⟨_, rfl, ?_⟩
                        have els939 := els939.mono (up_le S929.size)
                        have S934 := S929.join (l' := [.row 108 2 v936 n937 cs938, .box b474 168 [vN, vN], .box b470 168 [v907, v52], .box b43 168 [v56, v52], .row 3 1 v52 n53 cs54, .row 90 6 v907 n908 cs909, .box b29 168 [vN, vN]]) r935 rfl
                        refine ⟨(SP.on ((S934.box_now (i := 2) rfl).sub (j := 0) (n := 1) (c := [v907]) rfl) (SP.nil (Sl.of_inc r935.run.inc S934.sl))), ?_⟩
                        obtain ⟨H940, S941, i942, h943, nv944⟩ := S934.sealRowU (i := 0) (l' := [.box b474 168 [vN, vN], .box b470 168 [v907, v52], .box b43 168 [v56, v52], .row 3 1 v52 n53 cs54, .row 90 6 v907 n908 cs909, .box b29 168 [vN, vN]]) rfl els939 (by decide) rfl
                        refine FB.t (i := 16) (bs 21 131071) rfl (SP.on ((S934.box_now (i := 2) rfl).sub (j := 0) (n := 1) (c := [v907]) rfl) (SP.nil (Sl.of_inc r935.run.inc S934.sl))) rfl (fun _ z => (E.build (B6 rfl rfl rfl rfl rfl rfl) (run_build _ 90 #[(0, vI 2), (1, v936), (2, vI s479.2), (3, vI (wr ((len xs905) - 1))), (4, vI 1), (5, vI (wr (a0 - 1)))] #[vI 2, v936, vI s479.2, vI (wr ((len xs905) - 1)), vI 1, vI (wr (a0 - 1))] (by obtain ⟨_, _, rfl⟩ := RSl.ln (h943.mono upI); rfl)))) ?_
                        refine FB.all1 (i := 17) (by kernel_rfl) ?_
                        ·
                          obtain ⟨v945, w946, run947, S948⟩ := S941.buildSlice (P := prog) te36 [vA #[vI 2, v936, vI s479.2, vI (wr ((len xs905) - 1)), vI 1, vI (wr (a0 - 1))]] (parts := #[(0, vA #[vI 2, v936, vI s479.2, vI (wr ((len xs905) - 1)), vI 1, vI (wr (a0 - 1))])]) (cells := [vI 2, v936, vI s479.2, vI (wr ((len xs905) - 1)), vI 1, vI (wr (a0 - 1))]) rfl (szs_cons rfl szs_nil) (fc_cons rfl fc_nil) (ones_cons rfl (ones_cons h943.one (ones_cons rfl (ones_cons rfl (ones_cons rfl (ones_cons rfl ones_nil)))))) (Nat.le_of_ble_eq_true rfl)
                          have els949 : Els (up wa.heap.size H940) ePcStep 6 [vI 2, v936, vI s479.2, vI (wr ((len xs905) - 1)), vI 1, vI (wr (a0 - 1))] [(PcStep.mk 2 r930 s479.2 (wr ((len xs905) - 1)) 1 (wr (a0 - 1)))] := (Els.snoc (H := (up wa.heap.size H940)) (E := ePcStep) (k := 6) (c := [vI 2, v936, vI s479.2, vI (wr ((len xs905) - 1)), vI 1, vI (wr (a0 - 1))]) (x := (PcStep.mk 2 r930 s479.2 (wr ((len xs905) - 1)) 1 (wr (a0 - 1)))) Els.nil rfl ⟨_, rfl, h943⟩)
                          have nd950 : (bl [vI 2, v936, vI s479.2, vI (wr ((len xs905) - 1)), vI 1, vI (wr (a0 - 1))]).Nodup := by exact nd_one v936
                          refine FC.val (l' := (bs 21 262143)) rfl (by kernel_rfl) rfl rfl rfl (E.buildSlice (B1 rfl) run947) ?_
                          refine ⟨(SP.on ((S948.box_now (i := 2) rfl).sub (j := 0) (n := 1) (c := [v907]) rfl) (SP.nil (Sl.of_inc (r935.run.inc.tr i942) S948.sl))), ?_⟩
                          refine FB.all1 (i := 18) (by kernel_rfl) ?_
                          ·
                            obtain ⟨v953, w956, n954, cs955, run957, S958, els959, ce960⟩ := S948.appendO (P := prog) te36 (i := 5) (j := 0) rfl (els913.mono (up_mono (r935.run.inc.tr i942))) rfl els949 hz952
                            have S958 : St Ha wa H940 w956 [.row 90 6 v945 1 [vI 2, v936, vI s479.2, vI (wr ((len xs905) - 1)), vI 1, vI (wr (a0 - 1))], .box b474 168 [vN, vN], .box b470 168 [v907, v52], .box b43 168 [v56, v52], .row 3 1 v52 n53 cs54, .row 90 6 v953 n954 cs955, .box b29 168 [vN, vN]] := S958
                            have nd961 : (bl cs955).Nodup := by rw [ce960]; exact nd_app nd915 nd950 (Els.dom (els913.mono (upI.tr r935.run.inc))) (by exact nv944)
                            have S962 : St Ha wa H940 w956 [.box b474 168 [vN, vN], .box b470 168 [v907, v52], .box b43 168 [v56, v52], .row 3 1 v52 n53 cs54, .row 90 6 v953 n954 cs955, .box b29 168 [vN, vN]] := S958.drop 0
                            refine FC.val (l' := (bs 21 524287)) rfl (by kernel_rfl) rfl rfl rfl (E.append rfl rfl run957) ?_
                            refine ⟨(SP.on ((S962.box_now (i := 1) rfl).sub (j := 0) (n := 1) (c := [v907]) rfl) (SP.nil (Sl.of_inc (r935.run.inc.tr i942) S962.sl))), ?_⟩
                            refine FB.t (i := 19) (bs 21 1048575) rfl (SP.on ((S962.box_now (i := 1) rfl).sub (j := 0) (n := 1) (c := [v907]) rfl) (SP.nil (Sl.of_inc (r935.run.inc.tr i942) S962.sl))) rfl (fun _ z => (E.fieldAddr tf168_0 k860)) ?_
                            refine FB.all1 (i := 20) (by kernel_rfl) ?_
                            ·
                              obtain ⟨w963, run964, S965⟩ := S962.store (P := prog) (t := 36) (i := 1) (j := 0) (cs' := [v953, v52]) (l' := [.box b474 168 [vN, vN], .box b470 168 [v953, v52], .box b43 168 [v56, v52], .row 3 1 v52 n53 cs54, .row 90 6 v953 n954 cs955, .box b29 168 [vN, vN]]) (v := v953) (c := [v953]) rfl Tryz.sizeOf36 (Ln.cells (S962.row_ln (i := 4) rfl)) rfl (ones_cons (Ln.one (S962.row_ln (i := 4) rfl)) ones_nil) (Nat.le_of_ble_eq_true rfl) rfl rfl
                              refine FC.act (l' := (bs 21 2097151)) rfl (by kernel_rfl) rfl rfl (E.store rfl rfl run964) ?_
                              refine ⟨(SP.o (SP.nil (Sl.of_inc (r935.run.inc.tr i942) S965.sl))), ?_⟩
                              exact FB.done (by kernel_rfl) ⟨_, _, _, _, S965, (r935.run.inc.tr i942), els959, nd961, k854, k855, k857, k858, k859, k860, k861, k862⟩
                    ·
                      rintro f1091 w1090 ⟨H1087, v1082, n1083, cs1084, S1088, i1089, els1085, nd1086, k1092, k1093, k1094, k1095, k1096, k1097, k1098, k1099⟩
                      refine FW.region ?_
                      refine FL.v (E.fieldAddr tf168_0 k1097) ?_
                      refine FL.v (E.load rfl (run_load1 Tryz.isAgg36 (S1088.box_now (i := 1) rfl) rfl)) ?_
                      refine FL.v (E.lenO te36 rfl S1088 (i := 4) rfl els1085 (by decide)) ?_
                      refine FL.v (E.sub rfl rfl) ?_
                      refine FL.v (E.assign (v := vI (wr ((len xs951) - 1))) rfl) ?_
                      refine FL.nil (FW.region ?_)
                      refine FL.v (E.move k1099) ?_
                      refine FL.v (E.add rfl rfl) ?_
                      refine FL.v (E.assign (v := vI (wr (((i479 : Nat) : Int) + 1))) rfl) ?_
                      refine FL.nil ?_
                      obtain rfl := Option.some.inj hp
                      exact ⟨rfl, ⟨_, _, _, _, S1088, ((((i816.tr i841).tr r889.run.inc).tr i896).tr i1089), els1085, nd1086, (nat_succ rfl (lt_of_get hx479) (h346.mono (((((((i27.tr i63).tr i92).tr i816).tr i841).tr r889.run.inc).tr i896).tr i1089)).le), k1092, k1093, rfl, k1094, k1095, k1096, k1097, k1098⟩⟩
                  ·
                    refine FW.condF rfl c926 ?_
                    refine FW.skip (FW.region ?_)
                    refine FL.v (E.fieldAddr tf168_0 k860) ?_
                    refine FL.v (E.load rfl (run_load1 Tryz.isAgg36 (S919.box_now (i := 1) rfl) rfl)) ?_
                    refine FL.v (E.lenO te36 rfl S919 (i := 4) rfl els913 (by decide)) ?_
                    refine FL.v (E.sub rfl rfl) ?_
                    refine FL.v (E.assign (v := vI (wr ((len xs905) - 1))) rfl) ?_
                    refine FL.nil (FW.region ?_)
                    refine FL.v (E.move k862) ?_
                    refine FL.v (E.add rfl rfl) ?_
                    refine FL.v (E.assign (v := vI (wr (((i479 : Nat) : Int) + 1))) rfl) ?_
                    refine FL.nil ?_
                    obtain rfl := Option.some.inj hp
                    exact ⟨rfl, ⟨_, _, _, _, S919, (((i816.tr i841).tr r889.run.inc).tr i896), els913, nd915, (nat_succ rfl (lt_of_get hx479) (h346.mono ((((((i27.tr i63).tr i92).tr i816).tr i841).tr r889.run.inc).tr i896)).le), k854, k855, rfl, k857, k858, k859, k860, k861⟩⟩
              ·
                clear hp hq
                rintro s479 f1116 w1115 ⟨H1112, v730, n731, cs732, S1113, i1114, els733, nd734, k1117, k1118, k1119, k1120, k1121, k1122, k1123, k1124, k1125⟩
                refine FW.seq (FW.seq (FW.region ?_))
                refine FL.v (E.move k1117) ?_
                refine FL.v (E.move k1122) ?_
                refine FL.v (E.lenP te73 rfl h346) ?_
                refine FL.v (E.lss rfl rfl) ?_
                refine FL.nil ?_
                refine FW.condF rfl dlt_len ?_
                refine FW.exit ?_
                exact ⟨nofun, rfl, ⟨_, _, _, _, S1113, i1114, els733, nd734, k1120, k1124, k1125⟩⟩
              ·
                clear hq
                intro e f1105 w1104 hD
                rcases q479 with s479 | x479
                ·
                  obtain ⟨rfl, hD⟩ := hD
                  obtain ⟨H1101, v730, n731, cs732, S1102, i1103, els733, nd734, k1106, k1107, k1108⟩ := hD
                  replace hp := el_go hp
                  refine FW.seq (FW.region ?_)
                  refine FL.v (E.load k1107 (run_loadA Tryz.isAgg168 Tryz.sizeOf168 (S1102.box_now (i := 1) rfl) rfl)) ?_
                  refine FL.v (E.move k1106) ?_
                  obtain ⟨w1109, run1110, S1111⟩ := S1102.store0 (P := prog) (t := 168) (i := 0) (cs' := [v730, v52]) (l' := [.box b474 168 [v730, v52], .box b470 168 [v730, v52], .box b43 168 [v56, v52], .row 3 1 v52 n53 cs54, .row 90 6 v730 n731 cs732, .box b29 168 [vN, vN]]) (v := vA #[v730, v52]) (c := [v730, v52]) rfl Tryz.sizeOf168 rfl rfl (ones_cons (Ln.one (S1102.row_ln (i := 4) rfl)) (ones_cons (Ln.one (S1102.row_ln (i := 3) rfl)) ones_nil)) (Nat.le_of_ble_eq_true rfl) rfl rfl
                  refine FL.act rfl rfl (E.store k1108 rfl run1110) ?_
                  refine FL.v (E.assign (v := vI s479.2) rfl) ?_
                  refine FL.nil ?_
                  refine FW.ret ?_
                  obtain rfl := Option.some.inj hp
                  exact ⟨.inr rfl, resC2 rfl k1108 (loadVar_A Tryz.isAgg168 Tryz.sizeOf168 (S1111.box_now (i := 0) rfl) rfl) rfl (by rw [hR464]; exact ⟨_, _, _, _, rfl, (S1111.sel [2, 3, 4, 5] (by decide) rfl), i1103, els733, nd734⟩)⟩
                · exact x479.elim
            clear hq464
            refine FC.call (l' := (bs 20 32767)) rfl (by kernel_rfl) rfl rfl rfl (E.call Tryz.call184 (A7 rfl rfl rfl rfl rfl rfl rfl)) hc464 ?_
            intro e w1129 hQ464
            rw [hR464] at hQ464
            obtain ⟨H1126, v465, n466, cs467, rfl, S1127, i1128, els468, nd469⟩ := hQ464
            refine ⟨_, rfl, ?_⟩
            refine ⟨(SP.on (S1127.box_now (i := 0) rfl) (SP.on ((S1127.box_now (i := 0) rfl).sub (j := 1) (n := 1) (c := [v52]) rfl) (SP.nil ⟨_, (S1127.sel [1] (by decide) rfl), i1128⟩))), ?_⟩
            refine FB.t (i := 15) (bs 20 65535) rfl (SP.on (S1127.box_now (i := 0) rfl) (SP.on ((S1127.box_now (i := 0) rfl).sub (j := 1) (n := 1) (c := [v52]) rfl) (SP.nil ⟨_, (S1127.sel [1] (by decide) rfl), i1128⟩))) rfl (fun _ z => (E.move (v := Value.tuple #[vA #[v465, v52], vI s464.2]) rfl)) ?_
            refine FB.t (i := 16) (bs 20 131071) rfl (SP.on (S1127.box_now (i := 0) rfl) (SP.on ((S1127.box_now (i := 0) rfl).sub (j := 1) (n := 1) (c := [v52]) rfl) (SP.nil ⟨_, (S1127.sel [1] (by decide) rfl), i1128⟩))) rfl (fun _ z => (E.extract (i := 0) rfl rfl)) ?_
            refine FB.t (i := 17) (bs 20 262143) rfl (SP.on (S1127.box_now (i := 0) rfl) (SP.on ((S1127.box_now (i := 0) rfl).sub (j := 1) (n := 1) (c := [v52]) rfl) (SP.nil ⟨_, (S1127.sel [1] (by decide) rfl), i1128⟩))) rfl (fun _ z => (E.extract (i := 1) rfl rfl)) ?_
            refine FB.all1 (i := 18) (by kernel_rfl) ?_
            ·
              obtain ⟨w362, run363, S364⟩ := S1127.store0 (P := prog) (t := 168) (i := 0) (cs' := [v465, v52]) (l' := [.box b43 168 [v465, v52], .row 3 1 v52 n53 cs54, .row 90 6 v465 n466 cs467, .box b29 168 [vN, vN]]) (v := vA #[v465, v52]) (c := [v465, v52]) rfl Tryz.sizeOf168 rfl rfl (ones_cons (Ln.one (S1127.row_ln (i := 2) rfl)) (ones_cons (Ln.one (S1127.row_ln (i := 1) rfl)) ones_nil)) (Nat.le_of_ble_eq_true rfl) rfl rfl
              refine FC.act (l' := (bs 20 524287)) rfl (by kernel_rfl) rfl rfl (E.store k71 rfl run363) ?_
              refine ⟨(SP.o (SP.on ((S364.box_now (i := 0) rfl).sub (j := 1) (n := 1) (c := [v52]) rfl) (SP.nil ⟨_, (S364.sel [1] (by decide) rfl), i1128⟩))), ?_⟩
              refine FB.t (i := 19) (bs 20 1048575) rfl (SP.o (SP.on ((S364.box_now (i := 0) rfl).sub (j := 1) (n := 1) (c := [v52]) rfl) (SP.nil ⟨_, (S364.sel [1] (by decide) rfl), i1128⟩))) rfl (fun _ z => (E.assign (v := vI s464.2) rfl)) ?_
              exact FB.done (by kernel_rfl) ⟨_, _, _, _, S364, i1128, els468, nd469, k67, k68, k69, k70, k71, k66, rfl, rfl, rfl, rfl⟩
        ·
          rintro f390 w389 ⟨H386, v381, n382, cs383, S387, i388, els384, nd385, k391, k392, k393, k394, k395, k396, k397, k398, k399, k400⟩
          refine FW.seq ?_
          obtain ⟨x410, hx411, hp⟩ := bnd hp
          obtain ⟨s714, hq714, hp⟩ := bnd hp
          refine FW.drawB (SX Ha wa H386 [.row 3 1 v52 n53 cs54]) (fun f w => ∃ H : GH, ∃ v416 : Value, ∃ n417 : Nat, ∃ cs418 : List Value, St Ha wa H w [.box b43 168 [v416, v52], .row 3 1 v52 n53 cs54, .row 90 6 v416 n417 cs418, .box b29 168 [vN, vN]] ∧ Inc H386 H ∧ Els (up wa.heap.size H) ePcStep 6 cs418 s714.1 ∧ (bl cs418).Nodup ∧ f 0 = vI a0 ∧ f 2 = v2 ∧ f 4 = vP (⟨b21, 0, none⟩) ∧ f 6 = vP ((⟨b29, 0, none⟩ : Addr)) ∧ f 7 = vP ((⟨b43, 0, none⟩ : Addr)) ∧ f 8 = vI ((i51 : Nat) : Int) ∧ f 13 = vI s464.2 ∧ f 14 = vI s714.2) (by kernel_rfl) S387.sl ?_ ?_
          ·
            intro w401 r402
            have S403 := S387.call r402
            refine FB.phase [] (fun w => WAt w (Addr.add ⟨b43, 0, none⟩ 1) [v52]) ?_
            refine FB.phase [18] (fun w => WAt w (⟨b43, 0, none⟩ : Addr) [v381, v52]) ?_
            refine FB.t (i := 0) (bs 20 1) rfl (SP.on (S403.box_now (i := 0) rfl) (SP.on ((S403.box_now (i := 0) rfl).sub (j := 1) (n := 1) (c := [v52]) rfl) (SP.nil ⟨_, (S403.sel [1] (by decide) rfl), (Inc.rfl _)⟩))) rfl (fun _ z => (E.move k391)) ?_
            refine FB.t (i := 1) (bs 20 3) rfl (SP.on (S403.box_now (i := 0) rfl) (SP.on ((S403.box_now (i := 0) rfl).sub (j := 1) (n := 1) (c := [v52]) rfl) (SP.nil ⟨_, (S403.sel [1] (by decide) rfl), (Inc.rfl _)⟩))) rfl (fun _ z => (E.fieldAddr tf32_0 k393)) ?_
            refine FB.t (i := 2) (bs 20 7) rfl (SP.on (S403.box_now (i := 0) rfl) (SP.on ((S403.box_now (i := 0) rfl).sub (j := 1) (n := 1) (c := [v52]) rfl) (SP.nil ⟨_, (S403.sel [1] (by decide) rfl), (Inc.rfl _)⟩))) rfl (fun _ z => (E.load rfl (run_load1 Tryz.isAgg3 ((at28.mono ((i63.tr i92).tr i388)).now z.sl) rfl))) ?_
            refine FB.p (i := 3) (bs 20 15) 0 [14, 15, 16, 17, 18, 19] rfl (SP.on (S403.box_now (i := 0) rfl) (SP.on ((S403.box_now (i := 0) rfl).sub (j := 1) (n := 1) (c := [v52]) rfl) (SP.nil ⟨_, (S403.sel [1] (by decide) rfl), (Inc.rfl _)⟩))) rfl rfl (fun _ z => (E.load k395 (run_loadA Tryz.isAgg168 Tryz.sizeOf168 z rfl))) ?_
            refine FB.t (i := 4) (bs 20 31) rfl (SP.on (S403.box_now (i := 0) rfl) (SP.on ((S403.box_now (i := 0) rfl).sub (j := 1) (n := 1) (c := [v52]) rfl) (SP.nil ⟨_, (S403.sel [1] (by decide) rfl), (Inc.rfl _)⟩))) rfl (fun _ z => (E.fieldAddr tf168_1 k395)) ?_
            refine FB.p (i := 5) (bs 20 63) 1 [8, 9, 14, 15, 16, 17, 18, 19] rfl (SP.on (S403.box_now (i := 0) rfl) (SP.on ((S403.box_now (i := 0) rfl).sub (j := 1) (n := 1) (c := [v52]) rfl) (SP.nil ⟨_, (S403.sel [1] (by decide) rfl), (Inc.rfl _)⟩))) rfl rfl (fun _ z => (E.load rfl (run_load0 Tryz.isAgg73 z rfl))) ?_
            refine FB.t (i := 6) (bs 20 127) rfl (SP.on (S403.box_now (i := 0) rfl) (SP.on ((S403.box_now (i := 0) rfl).sub (j := 1) (n := 1) (c := [v52]) rfl) (SP.nil ⟨_, (S403.sel [1] (by decide) rfl), (Inc.rfl _)⟩))) rfl (fun _ z => (E.fieldAddr tf88_2 k397)) ?_
            refine FB.t (i := 7) (bs 20 255) rfl (SP.on (S403.box_now (i := 0) rfl) (SP.on ((S403.box_now (i := 0) rfl).sub (j := 1) (n := 1) (c := [v52]) rfl) (SP.nil ⟨_, (S403.sel [1] (by decide) rfl), (Inc.rfl _)⟩))) rfl (fun _ z => (E.load rfl (run_load1 Tryz.isAgg3 ((at93.mono i388).now z.sl) rfl))) ?_
            obtain ⟨p404, cs405, pt406, l407, at408, rel409, hall412⟩ := S403.row_atA (i := 1) rfl els55 (by decide) hx411
            obtain rfl := eI_open rel409
            refine FB.t (i := 8) (bs 20 511) rfl (SP.on (S403.box_now (i := 0) rfl) (SP.on ((S403.box_now (i := 0) rfl).sub (j := 1) (n := 1) (c := [v52]) rfl) (SP.nil ⟨_, (S403.sel [1] (by decide) rfl), (Inc.rfl _)⟩))) rfl (fun _ z => (E.indexAddr te73 rfl rfl pt406)) ?_
            refine FB.t (i := 9) (bs 20 1023) rfl (SP.on (S403.box_now (i := 0) rfl) (SP.on ((S403.box_now (i := 0) rfl).sub (j := 1) (n := 1) (c := [v52]) rfl) (SP.nil ⟨_, (S403.sel [1] (by decide) rfl), (Inc.rfl _)⟩))) rfl (fun _ z => (E.load rfl (run_load0 Tryz.isAgg3 (z.use fun _ st => hall412 _ _ _ 0 st rfl) rfl))) ?_
            refine FB.t (i := 10) (bs 20 2047) rfl (SP.on (S403.box_now (i := 0) rfl) (SP.on ((S403.box_now (i := 0) rfl).sub (j := 1) (n := 1) (c := [v52]) rfl) (SP.nil ⟨_, (S403.sel [1] (by decide) rfl), (Inc.rfl _)⟩))) rfl (fun _ z => (E.move k399)) ?_
            refine FB.t (i := 11) (bs 20 4095) rfl (SP.on (S403.box_now (i := 0) rfl) (SP.on ((S403.box_now (i := 0) rfl).sub (j := 1) (n := 1) (c := [v52]) rfl) (SP.nil ⟨_, (S403.sel [1] (by decide) rfl), (Inc.rfl _)⟩))) rfl (fun _ z => (E.move k398)) ?_
            refine FB.t (i := 12) (bs 20 8191) rfl (SP.on (S403.box_now (i := 0) rfl) (SP.on ((S403.box_now (i := 0) rfl).sub (j := 1) (n := 1) (c := [v52]) rfl) (SP.nil ⟨_, (S403.sel [1] (by decide) rfl), (Inc.rfl _)⟩))) rfl (fun _ z => (E.fieldAddr tf88_3 k397)) ?_
            refine FB.t (i := 13) (bs 20 16383) rfl (SP.on (S403.box_now (i := 0) rfl) (SP.on ((S403.box_now (i := 0) rfl).sub (j := 1) (n := 1) (c := [v52]) rfl) (SP.nil ⟨_, (S403.sel [1] (by decide) rfl), (Inc.rfl _)⟩))) rfl (fun _ z => (E.load rfl (run_load1 Tryz.isAgg3 ((at93.mono i388).now z.sl) rfl))) ?_
            refine FB.all1 (i := 14) (by kernel_rfl) ?_
            ·
              obtain ⟨R714, hR714⟩ : ∃ R714 : ((List PcStep) × Int) → Ending → World → Prop, R714 = (fun s714 e w => ∃ H : GH, ∃ v715 : Value, ∃ n716 : Nat, ∃ cs717 : List Value, e = Ending.returned (Value.tuple #[vA #[v715, v52], vI s714.2]) ∧ St Ha wa H w [.box b43 168 [v381, v52], .row 3 1 v52 n53 cs54, .row 90 6 v715 n716 cs717, .box b29 168 [vN, vN]] ∧ Inc H386 H ∧ Els (up wa.heap.size H) ePcStep 6 cs717 s714.1 ∧ (bl cs717).Nodup) := ⟨_, rfl⟩
              have hc714 : Calls prog 184 #[vI a0, vI a1.vars, vA #[v381, v52], vI x410, v345, v335, vI y50.pivot] w401 (R714 s714) := by
                clear hp; have hp := hq714; clear hq714
                refine calls_go (N := 97) (args := [vI a0, vI a1.vars, vA #[v381, v52], vI x410, v345, v335, vI y50.pivot]) Tryz.func184 rfl rfl rfl ?_
                refine FW.seq (FW.region ?_)
                obtain ⟨b720, w721, run722, S723⟩ := S403.box (P := prog) 168 [v381, v52] (v := vA #[v381, v52]) rfl (ones_cons (Ln.one (S403.row_ln (i := 2) rfl)) (ones_cons (Ln.one (S403.row_ln (i := 1) rfl)) ones_nil))
                refine FL.v (E.box rfl run722) ?_
                obtain ⟨b724, w725, run726, S727⟩ := S723.alloc (P := prog) 168 [vN, vN] Tryz.zeroValue168 rfl (ones_cons rfl (ones_cons rfl ones_nil))
                refine FL.v (E.alloc run726) ?_
                refine FL.v (E.assign (v := vI 0) rfl) ?_
                refine FL.nil (FW.seq (FW.seq (FW.region ?_)))
                refine FL.v (E.assign (v := vI 0) rfl) ?_
                refine FL.nil ?_
                obtain ⟨q729, hq, hp⟩ := bndR hp
                refine FW.block ?_
                refine FW.mono (FW.forL (S := ((List PcStep) × Int)) (X := Empty) (fun (i729 : Nat) (s729 : ((List PcStep) × Int)) f w => ∃ H : GH, ∃ v809 : Value, ∃ n810 : Nat, ∃ cs811 : List Value, St Ha wa H w [.box b724 168 [vN, vN], .box b720 168 [v809, v52], .box b43 168 [v381, v52], .row 3 1 v52 n53 cs54, .row 90 6 v809 n810 cs811, .box b29 168 [vN, vN]] ∧ Inc H386 H ∧ Els (up wa.heap.size H) ePcStep 6 cs811 s729.1 ∧ (bl cs811).Nodup ∧ f 16 = vI ((i729 : Nat) : Int) ∧ f 0 = vI a0 ∧ f 1 = vI a1.vars ∧ f 3 = vI s729.2 ∧ f 4 = v345 ∧ f 5 = v335 ∧ f 6 = vI y50.pivot ∧ f 9 = vP ((⟨b720, 0, none⟩ : Addr)) ∧ f 14 = vP ((⟨b724, 0, none⟩ : Addr))) (fun (q : Rs ((List PcStep) × Int) Empty) e f w => match q with | .go s729 => e = Exit.exit 0 ∧ (∃ H : GH, ∃ v809 : Value, ∃ n810 : Nat, ∃ cs811 : List Value, St Ha wa H w [.box b724 168 [vN, vN], .box b720 168 [v809, v52], .box b43 168 [v381, v52], .row 3 1 v52 n53 cs54, .row 90 6 v809 n810 cs811, .box b29 168 [vN, vN]] ∧ Inc H386 H ∧ Els (up wa.heap.size H) ePcStep 6 cs811 s729.1 ∧ (bl cs811).Nodup ∧ f 3 = vI s729.2 ∧ f 9 = vP ((⟨b720, 0, none⟩ : Addr)) ∧ f 14 = vP ((⟨b724, 0, none⟩ : Addr))) | .rt x => x.elim) hq ⟨_, _, _, _, S727, (Inc.rfl _), els384, nd385, rfl, rfl, rfl, rfl, rfl, rfl, rfl, rfl, rfl⟩ ?_ ?_) ?_
                ·
                  clear hp hq
                  rintro i729 y728 s729 f970 w969 ⟨H966, v809, n810, cs811, S967, i968, els812, nd813, k971, k972, k973, k974, k975, k976, k977, k978, k979⟩ hx729 o1184 hp
                  refine FW.seq (FW.seq (FW.region ?_))
                  refine FL.v (E.move k971) ?_
                  refine FL.v (E.move k976) ?_
                  refine FL.v (E.lenP te73 rfl h336) ?_
                  refine FL.v (E.lssT rfl rfl (lss_len hx729)) ?_
                  refine FL.nil ?_
                  refine FW.condT rfl rfl ?_
                  refine FW.skip (FW.seq (FW.block (FW.seq (FW.seq (FW.region ?_)))))
                  refine FL.v (E.move k975) ?_
                  refine FL.v (E.move k976) ?_
                  refine FL.v (E.move k971) ?_
                  obtain ⟨p980, cs981, pt982, l983, at984, rel985⟩ := h336.at (ix_nat hx729)
                  obtain rfl := eI_open rel985
                  refine FL.v (E.indexAddr te73 rfl rfl pt982) ?_
                  refine FL.v (E.load rfl (run_load0 Tryz.isAgg3 ((at984.mono ((((i27.tr i63).tr i92).tr i388).tr i968)).now S967.sl) rfl)) ?_
                  obtain ⟨r986, hr987, hp⟩ := bnd hp
                  refine FL.call rfl rfl rfl (E.call Tryz.call190 (A2 rfl rfl)) (w_spec_l2Has S967.sl v345 x343.clause (h346.mono ((((i27.tr i63).tr i92).tr i388).tr i968)) y728 hr987) ?_
                  rintro e w988 ⟨rfl, r989⟩
                  refine ⟨_, rfl, ?_⟩
                  have S990 := S967.call r989
                  refine FL.v (E.move (v := vB r986) rfl) ?_
                  refine FL.cut 8 (fun f w => ∃ H : GH, St Ha wa H w [.box b724 168 [vN, vN], .box b720 168 [v809, v52], .box b43 168 [v381, v52], .row 3 1 v52 n53 cs54, .row 90 6 v809 n810 cs811, .box b29 168 [vN, vN]] ∧ Inc H966 H ∧ f 0 = vI a0 ∧ f 1 = vI a1.vars ∧ f 3 = vI s729.2 ∧ f 4 = v345 ∧ f 5 = v335 ∧ f 6 = vI y50.pivot ∧ f 9 = vP ((⟨b720, 0, none⟩ : Addr)) ∧ f 14 = vP ((⟨b724, 0, none⟩ : Addr)) ∧ f 16 = vI ((i729 : Nat) : Int) ∧ f 40 = vB (bif r986 then true else ((PF.spec_l2Var y728) == y50.pivot))) ?_ ?_
                  ·
                    rcases bcase r986 with c996 | c996
                    ·
                      refine FL.skip (wF_no rfl rfl rfl c996) rfl ?_
                      refine FL.skip (wF_no rfl rfl rfl c996) rfl ?_
                      refine FL.skip (wF_no rfl rfl rfl c996) rfl ?_
                      refine FL.skip (wF_no rfl rfl rfl c996) rfl ?_
                      refine FL.skip (wF_no rfl rfl rfl c996) rfl ?_
                      refine FL.skip (wF_no rfl rfl rfl c996) rfl ?_
                      refine FL.skip (wF_no rfl rfl rfl c996) rfl ?_
                      refine FL.v (E.pickT rfl c996 rfl) ?_
                      exact FL.nil ⟨rfl, _, S990, (Inc.rfl _), k972, k973, k974, k975, k976, k977, k978, k979, k971, (congrArg vB (bifT c996).symm)⟩
                    ·
                      refine FL.val (wF_yes rfl rfl rfl c996) rfl rfl (E.move k976) ?_
                      refine FL.val (wF_yes rfl rfl rfl c996) rfl rfl (E.move k971) ?_
                      obtain ⟨p997, cs998, pt999, l1000, at1001, rel1002⟩ := h336.at (ix_nat hx729)
                      obtain rfl := eI_open rel1002
                      refine FL.val (wF_yes rfl rfl rfl c996) rfl rfl (E.indexAddr te73 rfl rfl pt999) ?_
                      refine FL.val (wF_yes rfl rfl rfl c996) rfl rfl (E.load rfl (run_load0 Tryz.isAgg3 ((at1001.mono ((((i27.tr i63).tr i92).tr i388).tr i968)).now S990.sl) rfl)) ?_
                      refine FL.call (wF_yes rfl rfl rfl c996) rfl rfl (E.call Tryz.call116 (A1 rfl)) (w_spec_l2Var S990.sl y728) ?_
                      rintro e w1003 ⟨rfl, r1004⟩
                      refine ⟨_, rfl, ?_⟩
                      have S1005 := S990.call r1004
                      refine FL.val (wF_yes rfl rfl rfl c996) rfl rfl (E.move k977) ?_
                      refine FL.val (wF_yes rfl rfl rfl c996) rfl rfl (E.eql rfl rfl) ?_
                      refine FL.v (E.pickF rfl c996 rfl) ?_
                      exact FL.nil ⟨rfl, _, S1005, (Inc.rfl _), k972, k973, k974, k975, k976, k977, k978, k979, k971, (congrArg vB (bifF c996).symm)⟩
                  rintro f995 w994 ⟨H991, S992, i993, k1006, k1007, k1008, k1009, k1010, k1011, k1012, k1013, k1014, k1015⟩
                  refine FL.nil ?_
                  rcases ifB hp with ⟨c1016, hp⟩ | ⟨c1016, hp⟩
                  ·
                    refine FW.condT k1015 c1016 ?_
                    refine FW.exit ?_
                    refine FW.region ?_
                    refine FL.v (E.move k1014) ?_
                    refine FL.v (E.add rfl rfl) ?_
                    refine FL.v (E.assign (v := vI (wr (((i729 : Nat) : Int) + 1))) rfl) ?_
                    refine FL.nil ?_
                    obtain rfl := Option.some.inj hp
                    exact ⟨rfl, ⟨_, _, _, _, S992, (i968.tr i993), (els812.mono (up_mono i993)), nd813, (nat_succ rfl (lt_of_get hx729) (h336.mono (((((i27.tr i63).tr i92).tr i388).tr i968).tr i993)).le), k1006, k1007, k1008, k1009, k1010, k1011, k1012, k1013⟩⟩
                  ·
                    refine FW.condF k1015 c1016 ?_
                    refine FW.skip (FW.seq ?_)
                    refine FW.draw (fun w' => Run w994.heap.size H991 w994 H991 w') (by kernel_rfl) (by kernel_rfl) (run_drew S992.sl) ?_
                    refine FD.val rfl rfl rfl (fun _ z => (E.move k1010)) ?_
                    refine FD.val rfl rfl rfl (fun _ z => (E.move k1014)) ?_
                    obtain ⟨p1017, cs1018, pt1019, l1020, at1021, rel1022⟩ := h336.at (ix_nat hx729)
                    obtain rfl := eI_open rel1022
                    refine FD.val rfl rfl rfl (fun _ z => (E.indexAddr te73 rfl rfl pt1019)) ?_
                    refine FD.val rfl rfl rfl (fun _ z => (E.load rfl (run_load0 Tryz.isAgg3 ((at1021.mono (((((i27.tr i63).tr i92).tr i388).tr i968).tr i993)).now (S992.call z).sl) rfl))) ?_
                    refine FD.call rfl rfl rfl (fun _ z => (E.call Tryz.call116 (A1 rfl))) (fun _ z => Calls.cls z (w_spec_l2Var (S992.call z).sl y728)) ?_
                    refine FD.val rfl rfl rfl (fun _ z => (E.fieldAddr tf168_0 k1012)) ?_
                    refine FD.val rfl rfl rfl (fun _ z => (E.load rfl (run_load1 Tryz.isAgg36 ((S992.call z).box_now (i := 1) rfl) rfl))) ?_
                    refine FD.val rfl rfl rfl (fun _ z => (E.move k1008)) ?_
                    obtain ⟨x1029, hx1030, hp⟩ := bnd hp
                    obtain ⟨p1023, cs1024, pt1025, l1026, at1027, rel1028⟩ := S992.row_at (i := 4) rfl els812 (by decide) hx1030
                    obtain ⟨v1031, rfl, h1032⟩ := ePcStep_open rel1028
                    refine FD.val rfl rfl rfl (fun _ z => (E.indexAddr te36 rfl rfl pt1025)) ?_
                    refine FD.val rfl rfl rfl (fun _ z => (E.fieldAddr tf90_1 rfl)) ?_
                    refine FD.val rfl rfl rfl (fun _ z => (E.load rfl (run_load1 Tryz.isAgg55 (at1027.cls z) rfl))) ?_
                    refine FD.val rfl rfl rfl (fun _ z => (E.assign (v := vI (PF.spec_l2Var y728)) rfl)) ?_
                    refine FD.val rfl rfl rfl (fun _ z => (E.assign (v := v1031) rfl)) ?_
                    refine FD.nil ?_
                    intro w1033 r1035
                    have S1034 := S992.call r1035
                    refine FW.seq (FW.region ?_)
                    refine FL.v (E.move k1006) ?_
                    refine FL.v (E.move k1007) ?_
                    refine FL.v (E.move (v := v1031) rfl) ?_
                    refine FL.v (E.move (v := vI (PF.spec_l2Var y728)) rfl) ?_
                    obtain ⟨r1036, hr1037, hp⟩ := bnd hp
                    refine FL.call rfl rfl rfl (E.call Tryz.call158 (A4 rfl rfl rfl rfl)) (w_spec_l20Times S1034.sl a0 a1.vars v1031 x1029.poly (h1032.mono (upI.tr i993)) (PF.spec_l2Var y728) hr1037) ?_
                    rintro e w1039 ⟨H1038, v1042, n1043, cs1044, rfl, r1041, els1045⟩
                    refine ⟨_, rfl, ?_⟩
                    have els1045 := els1045.mono (up_le S1034.size)
                    have S1040 := S1034.join (l' := [.row 108 2 v1042 n1043 cs1044, .box b724 168 [vN, vN], .box b720 168 [v809, v52], .box b43 168 [v381, v52], .row 3 1 v52 n53 cs54, .row 90 6 v809 n810 cs811, .box b29 168 [vN, vN]]) r1041 rfl
                    refine FL.v (E.assign (v := v1042) rfl) ?_
                    refine FL.nil (FW.seq (FW.region ?_))
                    refine FL.v (E.fieldAddr tf168_0 k1012) ?_
                    refine FL.v (E.load rfl (run_load1 Tryz.isAgg36 (S1040.box_now (i := 2) rfl) rfl)) ?_
                    refine FL.v (E.move (v := v1042) rfl) ?_
                    refine FL.v (E.move k1008) ?_
                    refine FL.v (E.move (v := vI (PF.spec_l2Var y728)) rfl) ?_
                    refine FL.v (E.build (B4 rfl rfl rfl rfl) (run_build _ 90 #[(0, vI 3), (1, v1042), (2, vI s729.2), (4, vI (PF.spec_l2Var y728))] #[vI 3, v1042, vI s729.2, vI 0, vI (PF.spec_l2Var y728), vI 0] (by obtain ⟨_, _, rfl⟩ := S1040.row_ln (i := 0) rfl; rfl))) ?_
                    obtain ⟨H1046, S1047, i1048, h1049, nv1050⟩ := S1040.sealRowU (i := 0) (l' := [.box b724 168 [vN, vN], .box b720 168 [v809, v52], .box b43 168 [v381, v52], .row 3 1 v52 n53 cs54, .row 90 6 v809 n810 cs811, .box b29 168 [vN, vN]]) rfl els1045 (by decide) rfl
                    obtain ⟨v1051, w1052, run1053, S1054⟩ := S1047.buildSlice (P := prog) te36 [vA #[vI 3, v1042, vI s729.2, vI 0, vI (PF.spec_l2Var y728), vI 0]] (parts := #[(0, vA #[vI 3, v1042, vI s729.2, vI 0, vI (PF.spec_l2Var y728), vI 0])]) (cells := [vI 3, v1042, vI s729.2, vI 0, vI (PF.spec_l2Var y728), vI 0]) rfl (szs_cons rfl szs_nil) (fc_cons rfl fc_nil) (ones_cons rfl (ones_cons h1049.one (ones_cons rfl (ones_cons rfl (ones_cons rfl (ones_cons rfl ones_nil)))))) (Nat.le_of_ble_eq_true rfl)
                    have els1055 : Els (up wa.heap.size H1046) ePcStep 6 [vI 3, v1042, vI s729.2, vI 0, vI (PF.spec_l2Var y728), vI 0] [(PcStep.mk 3 r1036 s729.2 0 (PF.spec_l2Var y728) 0)] := (Els.snoc (H := (up wa.heap.size H1046)) (E := ePcStep) (k := 6) (c := [vI 3, v1042, vI s729.2, vI 0, vI (PF.spec_l2Var y728), vI 0]) (x := (PcStep.mk 3 r1036 s729.2 0 (PF.spec_l2Var y728) 0)) Els.nil rfl ⟨_, rfl, h1049⟩)
                    have nd1056 : (bl [vI 3, v1042, vI s729.2, vI 0, vI (PF.spec_l2Var y728), vI 0]).Nodup := by exact nd_one v1042
                    refine FL.v (E.buildSlice (B1 rfl) run1053) ?_
                    obtain ⟨xs1057, hz1058, hp⟩ := bnd hp
                    obtain ⟨v1059, w1062, n1060, cs1061, run1063, S1064, els1065, ce1066⟩ := S1054.appendO (P := prog) te36 (i := 5) (j := 0) rfl (els812.mono (up_mono ((i993.tr r1041.run.inc).tr i1048))) rfl els1055 hz1058
                    have S1064 : St Ha wa H1046 w1062 [.row 90 6 v1051 1 [vI 3, v1042, vI s729.2, vI 0, vI (PF.spec_l2Var y728), vI 0], .box b724 168 [vN, vN], .box b720 168 [v809, v52], .box b43 168 [v381, v52], .row 3 1 v52 n53 cs54, .row 90 6 v1059 n1060 cs1061, .box b29 168 [vN, vN]] := S1064
                    have nd1067 : (bl cs1061).Nodup := by rw [ce1066]; exact nd_app nd813 nd1056 (Els.dom (els812.mono (upI.tr (i993.tr r1041.run.inc)))) (by exact nv1050)
                    have S1068 : St Ha wa H1046 w1062 [.box b724 168 [vN, vN], .box b720 168 [v809, v52], .box b43 168 [v381, v52], .row 3 1 v52 n53 cs54, .row 90 6 v1059 n1060 cs1061, .box b29 168 [vN, vN]] := S1064.drop 0
                    refine FL.v (E.append rfl rfl run1063) ?_
                    refine FL.v (E.fieldAddr tf168_0 k1012) ?_
                    obtain ⟨w1069, run1070, S1071⟩ := S1068.store (P := prog) (t := 36) (i := 1) (j := 0) (cs' := [v1059, v52]) (l' := [.box b724 168 [vN, vN], .box b720 168 [v1059, v52], .box b43 168 [v381, v52], .row 3 1 v52 n53 cs54, .row 90 6 v1059 n1060 cs1061, .box b29 168 [vN, vN]]) (v := v1059) (c := [v1059]) rfl Tryz.sizeOf36 (Ln.cells (S1068.row_ln (i := 4) rfl)) rfl (ones_cons (Ln.one (S1068.row_ln (i := 4) rfl)) ones_nil) (Nat.le_of_ble_eq_true rfl) rfl rfl
                    refine FL.act rfl rfl (E.store rfl rfl run1070) ?_
                    refine FL.nil (FW.seq (FW.seq (FW.region ?_)))
                    refine FL.v (E.move k1010) ?_
                    refine FL.v (E.move k1014) ?_
                    obtain ⟨p1072, cs1073, pt1074, l1075, at1076, rel1077⟩ := h336.at (ix_nat hx729)
                    obtain rfl := eI_open rel1077
                    refine FL.v (E.indexAddr te73 rfl rfl pt1074) ?_
                    refine FL.v (E.load rfl (run_load0 Tryz.isAgg3 ((at1076.mono (((((((i27.tr i63).tr i92).tr i388).tr i968).tr i993).tr r1041.run.inc).tr i1048)).now S1071.sl) rfl)) ?_
                    refine FL.v (E.gtr rfl rfl) ?_
                    refine FL.nil ?_
                    rcases ifB hp with ⟨c1078, hp⟩ | ⟨c1078, hp⟩
                    ·
                      refine FW.condT rfl c1078 ?_
                      obtain ⟨r1130, hr1131, hp⟩ := bnd hp
                      obtain ⟨xs1151, hz1152, hp⟩ := bnd hp
                      refine FW.drawB (Sl H1046) (fun f w => ∃ H : GH, ∃ v1166 : Value, ∃ n1167 : Nat, ∃ cs1168 : List Value, St Ha wa H w [.box b724 168 [vN, vN], .box b720 168 [v1166, v52], .box b43 168 [v381, v52], .row 3 1 v52 n53 cs54, .row 90 6 v1166 n1167 cs1168, .box b29 168 [vN, vN]] ∧ Inc H1046 H ∧ Els (up wa.heap.size H) ePcStep 6 cs1168 xs1151 ∧ (bl cs1168).Nodup ∧ f 0 = vI a0 ∧ f 1 = vI a1.vars ∧ f 4 = v345 ∧ f 5 = v335 ∧ f 6 = vI y50.pivot ∧ f 9 = vP ((⟨b720, 0, none⟩ : Addr)) ∧ f 14 = vP ((⟨b724, 0, none⟩ : Addr)) ∧ f 16 = vI ((i729 : Nat) : Int)) (by kernel_rfl) S1071.sl ?_ ?_
                      ·
                        intro w1079 r1080
                        have S1081 := S1071.call r1080
                        refine FB.phase [20] (fun w => WAt w (Addr.add ⟨b720, 0, none⟩ 0) [v1059]) ?_
                        refine FB.t (i := 0) (bs 21 1) rfl (SP.on ((S1081.box_now (i := 1) rfl).sub (j := 0) (n := 1) (c := [v1059]) rfl) (SP.nil S1081.sl)) rfl (fun _ z => (E.fieldAddr tf168_0 k1012)) ?_
                        refine FB.p (i := 1) (bs 21 3) 0 [18, 19, 20] rfl (SP.on ((S1081.box_now (i := 1) rfl).sub (j := 0) (n := 1) (c := [v1059]) rfl) (SP.nil S1081.sl)) rfl rfl (fun _ z => (E.load rfl (run_load0 Tryz.isAgg36 z rfl))) ?_
                        refine FB.t (i := 2) (bs 21 7) rfl (SP.on ((S1081.box_now (i := 1) rfl).sub (j := 0) (n := 1) (c := [v1059]) rfl) (SP.nil S1081.sl)) rfl (fun _ z => (E.move k1006)) ?_
                        refine FB.t (i := 3) (bs 21 15) rfl (SP.on ((S1081.box_now (i := 1) rfl).sub (j := 0) (n := 1) (c := [v1059]) rfl) (SP.nil S1081.sl)) rfl (fun _ z => (E.move k1007)) ?_
                        refine FB.t (i := 4) (bs 21 31) rfl (SP.on ((S1081.box_now (i := 1) rfl).sub (j := 0) (n := 1) (c := [v1059]) rfl) (SP.nil S1081.sl)) rfl (fun _ z => (E.move (v := v1031) rfl)) ?_
                        refine FB.t (i := 5) (bs 21 63) rfl (SP.on ((S1081.box_now (i := 1) rfl).sub (j := 0) (n := 1) (c := [v1059]) rfl) (SP.nil S1081.sl)) rfl (fun _ z => (E.move (v := v1042) rfl)) ?_
                        refine FB.t (i := 6) (bs 21 127) rfl (SP.on ((S1081.box_now (i := 1) rfl).sub (j := 0) (n := 1) (c := [v1059]) rfl) (SP.nil S1081.sl)) rfl (fun _ z => (E.move k1006)) ?_
                        refine FB.t (i := 7) (bs 21 255) rfl (SP.on ((S1081.box_now (i := 1) rfl).sub (j := 0) (n := 1) (c := [v1059]) rfl) (SP.nil S1081.sl)) rfl (fun _ z => (E.sub rfl rfl)) ?_
                        refine FB.t (i := 9) (bs 21 767) rfl (SP.on ((S1081.box_now (i := 1) rfl).sub (j := 0) (n := 1) (c := [v1059]) rfl) (SP.nil S1081.sl)) rfl (fun _ z => (E.move k1008)) ?_
                        refine FB.t (i := 10) (bs 21 1791) rfl (SP.on ((S1081.box_now (i := 1) rfl).sub (j := 0) (n := 1) (c := [v1059]) rfl) (SP.nil S1081.sl)) rfl (fun _ z => (E.fieldAddr tf168_0 k1012)) ?_
                        refine FB.p (i := 11) (bs 21 3839) 0 [12, 13, 16, 17, 18, 19, 20] rfl (SP.on ((S1081.box_now (i := 1) rfl).sub (j := 0) (n := 1) (c := [v1059]) rfl) (SP.nil S1081.sl)) rfl rfl (fun _ z => (E.load rfl (run_load0 Tryz.isAgg36 z rfl))) ?_
                        refine FB.t (i := 12) (bs 21 7935) rfl (SP.on ((S1081.box_now (i := 1) rfl).sub (j := 0) (n := 1) (c := [v1059]) rfl) (SP.nil S1081.sl)) rfl (fun _ z => (E.lenOW te36 rfl S1081 (i := 4) rfl els1065 (by decide))) ?_
                        refine FB.t (i := 13) (bs 21 16127) rfl (SP.on ((S1081.box_now (i := 1) rfl).sub (j := 0) (n := 1) (c := [v1059]) rfl) (SP.nil S1081.sl)) rfl (fun _ z => (E.sub rfl rfl)) ?_
                        refine FB.t (i := 14) (bs 21 32511) rfl (SP.on ((S1081.box_now (i := 1) rfl).sub (j := 0) (n := 1) (c := [v1059]) rfl) (SP.nil S1081.sl)) rfl (fun _ z => (E.move k1006)) ?_
                        refine FB.t (i := 15) (bs 21 65279) rfl (SP.on ((S1081.box_now (i := 1) rfl).sub (j := 0) (n := 1) (c := [v1059]) rfl) (SP.nil S1081.sl)) rfl (fun _ z => (E.sub rfl rfl)) ?_
                        refine FB.all1 (i := 8) (by kernel_rfl) ?_
                        ·
                          refine FC.call (l' := (bs 21 65535)) rfl (by kernel_rfl) rfl rfl rfl (E.call Tryz.call185 (A6 rfl rfl rfl rfl rfl rfl)) (w_spec_l20Sum S1081.sl a0 a1.vars v1031 x1029.poly (h1032.mono (upI.tr ((i993.tr r1041.run.inc).tr i1048))) 1 v1042 r1036 (h1049.mono upI) (wr (a0 - 1)) hr1131) ?_
                          rintro e w1133 ⟨H1132, v1136, n1137, cs1138, rfl, r1135, els1139⟩
                          refine ⟨_, rfl, ?_⟩
                          have els1139 := els1139.mono (up_le S1081.size)
                          have S1134 := S1081.join (l' := [.row 108 2 v1136 n1137 cs1138, .box b724 168 [vN, vN], .box b720 168 [v1059, v52], .box b43 168 [v381, v52], .row 3 1 v52 n53 cs54, .row 90 6 v1059 n1060 cs1061, .box b29 168 [vN, vN]]) r1135 rfl
                          refine ⟨(SP.on ((S1134.box_now (i := 2) rfl).sub (j := 0) (n := 1) (c := [v1059]) rfl) (SP.nil (Sl.of_inc r1135.run.inc S1134.sl))), ?_⟩
                          obtain ⟨H1140, S1141, i1142, h1143, nv1144⟩ := S1134.sealRowU (i := 0) (l' := [.box b724 168 [vN, vN], .box b720 168 [v1059, v52], .box b43 168 [v381, v52], .row 3 1 v52 n53 cs54, .row 90 6 v1059 n1060 cs1061, .box b29 168 [vN, vN]]) rfl els1139 (by decide) rfl
                          refine FB.t (i := 16) (bs 21 131071) rfl (SP.on ((S1134.box_now (i := 2) rfl).sub (j := 0) (n := 1) (c := [v1059]) rfl) (SP.nil (Sl.of_inc r1135.run.inc S1134.sl))) rfl (fun _ z => (E.build (B6 rfl rfl rfl rfl rfl rfl) (run_build _ 90 #[(0, vI 2), (1, v1136), (2, vI s729.2), (3, vI (wr ((len xs1057) - 1))), (4, vI 1), (5, vI (wr (a0 - 1)))] #[vI 2, v1136, vI s729.2, vI (wr ((len xs1057) - 1)), vI 1, vI (wr (a0 - 1))] (by obtain ⟨_, _, rfl⟩ := RSl.ln (h1143.mono upI); rfl)))) ?_
                          refine FB.all1 (i := 17) (by kernel_rfl) ?_
                          ·
                            obtain ⟨v1145, w1146, run1147, S1148⟩ := S1141.buildSlice (P := prog) te36 [vA #[vI 2, v1136, vI s729.2, vI (wr ((len xs1057) - 1)), vI 1, vI (wr (a0 - 1))]] (parts := #[(0, vA #[vI 2, v1136, vI s729.2, vI (wr ((len xs1057) - 1)), vI 1, vI (wr (a0 - 1))])]) (cells := [vI 2, v1136, vI s729.2, vI (wr ((len xs1057) - 1)), vI 1, vI (wr (a0 - 1))]) rfl (szs_cons rfl szs_nil) (fc_cons rfl fc_nil) (ones_cons rfl (ones_cons h1143.one (ones_cons rfl (ones_cons rfl (ones_cons rfl (ones_cons rfl ones_nil)))))) (Nat.le_of_ble_eq_true rfl)
                            have els1149 : Els (up wa.heap.size H1140) ePcStep 6 [vI 2, v1136, vI s729.2, vI (wr ((len xs1057) - 1)), vI 1, vI (wr (a0 - 1))] [(PcStep.mk 2 r1130 s729.2 (wr ((len xs1057) - 1)) 1 (wr (a0 - 1)))] := (Els.snoc (H := (up wa.heap.size H1140)) (E := ePcStep) (k := 6) (c := [vI 2, v1136, vI s729.2, vI (wr ((len xs1057) - 1)), vI 1, vI (wr (a0 - 1))]) (x := (PcStep.mk 2 r1130 s729.2 (wr ((len xs1057) - 1)) 1 (wr (a0 - 1)))) Els.nil rfl ⟨_, rfl, h1143⟩)
                            have nd1150 : (bl [vI 2, v1136, vI s729.2, vI (wr ((len xs1057) - 1)), vI 1, vI (wr (a0 - 1))]).Nodup := by exact nd_one v1136
                            refine FC.val (l' := (bs 21 262143)) rfl (by kernel_rfl) rfl rfl rfl (E.buildSlice (B1 rfl) run1147) ?_
                            refine ⟨(SP.on ((S1148.box_now (i := 2) rfl).sub (j := 0) (n := 1) (c := [v1059]) rfl) (SP.nil (Sl.of_inc (r1135.run.inc.tr i1142) S1148.sl))), ?_⟩
                            refine FB.all1 (i := 18) (by kernel_rfl) ?_
                            ·
                              obtain ⟨v1153, w1156, n1154, cs1155, run1157, S1158, els1159, ce1160⟩ := S1148.appendO (P := prog) te36 (i := 5) (j := 0) rfl (els1065.mono (up_mono (r1135.run.inc.tr i1142))) rfl els1149 hz1152
                              have S1158 : St Ha wa H1140 w1156 [.row 90 6 v1145 1 [vI 2, v1136, vI s729.2, vI (wr ((len xs1057) - 1)), vI 1, vI (wr (a0 - 1))], .box b724 168 [vN, vN], .box b720 168 [v1059, v52], .box b43 168 [v381, v52], .row 3 1 v52 n53 cs54, .row 90 6 v1153 n1154 cs1155, .box b29 168 [vN, vN]] := S1158
                              have nd1161 : (bl cs1155).Nodup := by rw [ce1160]; exact nd_app nd1067 nd1150 (Els.dom (els1065.mono (upI.tr r1135.run.inc))) (by exact nv1144)
                              have S1162 : St Ha wa H1140 w1156 [.box b724 168 [vN, vN], .box b720 168 [v1059, v52], .box b43 168 [v381, v52], .row 3 1 v52 n53 cs54, .row 90 6 v1153 n1154 cs1155, .box b29 168 [vN, vN]] := S1158.drop 0
                              refine FC.val (l' := (bs 21 524287)) rfl (by kernel_rfl) rfl rfl rfl (E.append rfl rfl run1157) ?_
                              refine ⟨(SP.on ((S1162.box_now (i := 1) rfl).sub (j := 0) (n := 1) (c := [v1059]) rfl) (SP.nil (Sl.of_inc (r1135.run.inc.tr i1142) S1162.sl))), ?_⟩
                              refine FB.t (i := 19) (bs 21 1048575) rfl (SP.on ((S1162.box_now (i := 1) rfl).sub (j := 0) (n := 1) (c := [v1059]) rfl) (SP.nil (Sl.of_inc (r1135.run.inc.tr i1142) S1162.sl))) rfl (fun _ z => (E.fieldAddr tf168_0 k1012)) ?_
                              refine FB.all1 (i := 20) (by kernel_rfl) ?_
                              ·
                                obtain ⟨w1163, run1164, S1165⟩ := S1162.store (P := prog) (t := 36) (i := 1) (j := 0) (cs' := [v1153, v52]) (l' := [.box b724 168 [vN, vN], .box b720 168 [v1153, v52], .box b43 168 [v381, v52], .row 3 1 v52 n53 cs54, .row 90 6 v1153 n1154 cs1155, .box b29 168 [vN, vN]]) (v := v1153) (c := [v1153]) rfl Tryz.sizeOf36 (Ln.cells (S1162.row_ln (i := 4) rfl)) rfl (ones_cons (Ln.one (S1162.row_ln (i := 4) rfl)) ones_nil) (Nat.le_of_ble_eq_true rfl) rfl rfl
                                refine FC.act (l' := (bs 21 2097151)) rfl (by kernel_rfl) rfl rfl (E.store rfl rfl run1164) ?_
                                refine ⟨(SP.o (SP.nil (Sl.of_inc (r1135.run.inc.tr i1142) S1165.sl))), ?_⟩
                                exact FB.done (by kernel_rfl) ⟨_, _, _, _, S1165, (r1135.run.inc.tr i1142), els1159, nd1161, k1006, k1007, k1009, k1010, k1011, k1012, k1013, k1014⟩
                      ·
                        rintro f1175 w1174 ⟨H1171, v1166, n1167, cs1168, S1172, i1173, els1169, nd1170, k1176, k1177, k1178, k1179, k1180, k1181, k1182, k1183⟩
                        refine FW.region ?_
                        refine FL.v (E.fieldAddr tf168_0 k1181) ?_
                        refine FL.v (E.load rfl (run_load1 Tryz.isAgg36 (S1172.box_now (i := 1) rfl) rfl)) ?_
                        refine FL.v (E.lenO te36 rfl S1172 (i := 4) rfl els1169 (by decide)) ?_
                        refine FL.v (E.sub rfl rfl) ?_
                        refine FL.v (E.assign (v := vI (wr ((len xs1151) - 1))) rfl) ?_
                        refine FL.nil (FW.region ?_)
                        refine FL.v (E.move k1183) ?_
                        refine FL.v (E.add rfl rfl) ?_
                        refine FL.v (E.assign (v := vI (wr (((i729 : Nat) : Int) + 1))) rfl) ?_
                        refine FL.nil ?_
                        obtain rfl := Option.some.inj hp
                        exact ⟨rfl, ⟨_, _, _, _, S1172, ((((i968.tr i993).tr r1041.run.inc).tr i1048).tr i1173), els1169, nd1170, (nat_succ rfl (lt_of_get hx729) (h336.mono ((((((((i27.tr i63).tr i92).tr i388).tr i968).tr i993).tr r1041.run.inc).tr i1048).tr i1173)).le), k1176, k1177, rfl, k1178, k1179, k1180, k1181, k1182⟩⟩
                    ·
                      refine FW.condF rfl c1078 ?_
                      refine FW.skip (FW.region ?_)
                      refine FL.v (E.fieldAddr tf168_0 k1012) ?_
                      refine FL.v (E.load rfl (run_load1 Tryz.isAgg36 (S1071.box_now (i := 1) rfl) rfl)) ?_
                      refine FL.v (E.lenO te36 rfl S1071 (i := 4) rfl els1065 (by decide)) ?_
                      refine FL.v (E.sub rfl rfl) ?_
                      refine FL.v (E.assign (v := vI (wr ((len xs1057) - 1))) rfl) ?_
                      refine FL.nil (FW.region ?_)
                      refine FL.v (E.move k1014) ?_
                      refine FL.v (E.add rfl rfl) ?_
                      refine FL.v (E.assign (v := vI (wr (((i729 : Nat) : Int) + 1))) rfl) ?_
                      refine FL.nil ?_
                      obtain rfl := Option.some.inj hp
                      exact ⟨rfl, ⟨_, _, _, _, S1071, (((i968.tr i993).tr r1041.run.inc).tr i1048), els1065, nd1067, (nat_succ rfl (lt_of_get hx729) (h336.mono (((((((i27.tr i63).tr i92).tr i388).tr i968).tr i993).tr r1041.run.inc).tr i1048)).le), k1006, k1007, rfl, k1009, k1010, k1011, k1012, k1013⟩⟩
                ·
                  clear hp hq
                  rintro s729 f1200 w1199 ⟨H1196, v809, n810, cs811, S1197, i1198, els812, nd813, k1201, k1202, k1203, k1204, k1205, k1206, k1207, k1208, k1209⟩
                  refine FW.seq (FW.seq (FW.region ?_))
                  refine FL.v (E.move k1201) ?_
                  refine FL.v (E.move k1206) ?_
                  refine FL.v (E.lenP te73 rfl h336) ?_
                  refine FL.v (E.lss rfl rfl) ?_
                  refine FL.nil ?_
                  refine FW.condF rfl dlt_len ?_
                  refine FW.exit ?_
                  exact ⟨nofun, rfl, ⟨_, _, _, _, S1197, i1198, els812, nd813, k1204, k1208, k1209⟩⟩
                ·
                  clear hq
                  intro e f1189 w1188 hD
                  rcases q729 with s729 | x729
                  ·
                    obtain ⟨rfl, hD⟩ := hD
                    obtain ⟨H1185, v809, n810, cs811, S1186, i1187, els812, nd813, k1190, k1191, k1192⟩ := hD
                    replace hp := el_go hp
                    refine FW.seq (FW.region ?_)
                    refine FL.v (E.load k1191 (run_loadA Tryz.isAgg168 Tryz.sizeOf168 (S1186.box_now (i := 1) rfl) rfl)) ?_
                    refine FL.v (E.move k1190) ?_
                    obtain ⟨w1193, run1194, S1195⟩ := S1186.store0 (P := prog) (t := 168) (i := 0) (cs' := [v809, v52]) (l' := [.box b724 168 [v809, v52], .box b720 168 [v809, v52], .box b43 168 [v381, v52], .row 3 1 v52 n53 cs54, .row 90 6 v809 n810 cs811, .box b29 168 [vN, vN]]) (v := vA #[v809, v52]) (c := [v809, v52]) rfl Tryz.sizeOf168 rfl rfl (ones_cons (Ln.one (S1186.row_ln (i := 4) rfl)) (ones_cons (Ln.one (S1186.row_ln (i := 3) rfl)) ones_nil)) (Nat.le_of_ble_eq_true rfl) rfl rfl
                    refine FL.act rfl rfl (E.store k1192 rfl run1194) ?_
                    refine FL.v (E.assign (v := vI s729.2) rfl) ?_
                    refine FL.nil ?_
                    refine FW.ret ?_
                    obtain rfl := Option.some.inj hp
                    exact ⟨.inr rfl, resC2 rfl k1192 (loadVar_A Tryz.isAgg168 Tryz.sizeOf168 (S1195.box_now (i := 0) rfl) rfl) rfl (by rw [hR714]; exact ⟨_, _, _, _, rfl, (S1195.sel [2, 3, 4, 5] (by decide) rfl), i1187, els812, nd813⟩)⟩
                  · exact x729.elim
              clear hq714
              refine FC.call (l' := (bs 20 32767)) rfl (by kernel_rfl) rfl rfl rfl (E.call Tryz.call184 (A7 rfl rfl rfl rfl rfl rfl rfl)) hc714 ?_
              intro e w1213 hQ714
              rw [hR714] at hQ714
              obtain ⟨H1210, v715, n716, cs717, rfl, S1211, i1212, els718, nd719⟩ := hQ714
              refine ⟨_, rfl, ?_⟩
              refine ⟨(SP.on (S1211.box_now (i := 0) rfl) (SP.on ((S1211.box_now (i := 0) rfl).sub (j := 1) (n := 1) (c := [v52]) rfl) (SP.nil ⟨_, (S1211.sel [1] (by decide) rfl), i1212⟩))), ?_⟩
              refine FB.t (i := 15) (bs 20 65535) rfl (SP.on (S1211.box_now (i := 0) rfl) (SP.on ((S1211.box_now (i := 0) rfl).sub (j := 1) (n := 1) (c := [v52]) rfl) (SP.nil ⟨_, (S1211.sel [1] (by decide) rfl), i1212⟩))) rfl (fun _ z => (E.move (v := Value.tuple #[vA #[v715, v52], vI s714.2]) rfl)) ?_
              refine FB.t (i := 16) (bs 20 131071) rfl (SP.on (S1211.box_now (i := 0) rfl) (SP.on ((S1211.box_now (i := 0) rfl).sub (j := 1) (n := 1) (c := [v52]) rfl) (SP.nil ⟨_, (S1211.sel [1] (by decide) rfl), i1212⟩))) rfl (fun _ z => (E.extract (i := 0) rfl rfl)) ?_
              refine FB.t (i := 17) (bs 20 262143) rfl (SP.on (S1211.box_now (i := 0) rfl) (SP.on ((S1211.box_now (i := 0) rfl).sub (j := 1) (n := 1) (c := [v52]) rfl) (SP.nil ⟨_, (S1211.sel [1] (by decide) rfl), i1212⟩))) rfl (fun _ z => (E.extract (i := 1) rfl rfl)) ?_
              refine FB.all1 (i := 18) (by kernel_rfl) ?_
              ·
                obtain ⟨w413, run414, S415⟩ := S1211.store0 (P := prog) (t := 168) (i := 0) (cs' := [v715, v52]) (l' := [.box b43 168 [v715, v52], .row 3 1 v52 n53 cs54, .row 90 6 v715 n716 cs717, .box b29 168 [vN, vN]]) (v := vA #[v715, v52]) (c := [v715, v52]) rfl Tryz.sizeOf168 rfl rfl (ones_cons (Ln.one (S1211.row_ln (i := 2) rfl)) (ones_cons (Ln.one (S1211.row_ln (i := 1) rfl)) ones_nil)) (Nat.le_of_ble_eq_true rfl) rfl rfl
                refine FC.act (l' := (bs 20 524287)) rfl (by kernel_rfl) rfl rfl (E.store k395 rfl run414) ?_
                refine ⟨(SP.o (SP.on ((S415.box_now (i := 0) rfl).sub (j := 1) (n := 1) (c := [v52]) rfl) (SP.nil ⟨_, (S415.sel [1] (by decide) rfl), i1212⟩))), ?_⟩
                refine FB.t (i := 19) (bs 20 1048575) rfl (SP.o (SP.on ((S415.box_now (i := 0) rfl).sub (j := 1) (n := 1) (c := [v52]) rfl) (SP.nil ⟨_, (S415.sel [1] (by decide) rfl), i1212⟩))) rfl (fun _ z => (E.assign (v := vI s714.2) rfl)) ?_
                exact FB.done (by kernel_rfl) ⟨_, _, _, _, S415, i1212, els718, nd719, k391, k392, k393, k394, k395, k396, k400, rfl⟩
          ·
            rintro f425 w424 ⟨H421, v416, n417, cs418, S422, i423, els419, nd420, k426, k427, k428, k429, k430, k431, k432, k433⟩
            refine FW.seq ?_
            obtain ⟨x448, hx449, hp⟩ := bnd hp
            obtain ⟨x459, hx460, hp⟩ := bnd hp
            obtain ⟨r480, hr481, hp⟩ := bnd hp
            obtain ⟨xs501, hz502, hp⟩ := bnd hp
            refine FW.drawB (Sl H421) (fun f w => ∃ H : GH, ∃ v632 : Value, ∃ n633 : Nat, ∃ cs634 : List Value, St Ha wa H w [.box b43 168 [v632, v52], .row 3 1 v52 n53 cs54, .row 90 6 v632 n633 cs634, .box b29 168 [vN, vN]] ∧ Inc H421 H ∧ Els (up wa.heap.size H) ePcStep 6 cs634 xs501 ∧ (bl cs634).Nodup ∧ f 0 = vI a0 ∧ f 2 = v2 ∧ f 4 = vP (⟨b21, 0, none⟩) ∧ f 6 = vP ((⟨b29, 0, none⟩ : Addr)) ∧ f 7 = vP ((⟨b43, 0, none⟩ : Addr)) ∧ f 8 = vI ((i51 : Nat) : Int)) (by kernel_rfl) S422.sl ?_ ?_
            ·
              intro w434 r435
              have S436 := S422.call r435
              refine FB.phase [24] (fun w => WAt w (Addr.add ⟨b43, 0, none⟩ 0) [v416]) ?_
              refine FB.t (i := 0) (bs 25 1) rfl (SP.on ((S436.box_now (i := 0) rfl).sub (j := 0) (n := 1) (c := [v416]) rfl) (SP.nil S436.sl)) rfl (fun _ z => (E.fieldAddr tf168_0 k430)) ?_
              refine FB.p (i := 1) (bs 25 3) 0 [22, 23, 24] rfl (SP.on ((S436.box_now (i := 0) rfl).sub (j := 0) (n := 1) (c := [v416]) rfl) (SP.nil S436.sl)) rfl rfl (fun _ z => (E.load rfl (run_load0 Tryz.isAgg36 z rfl))) ?_
              refine FB.t (i := 2) (bs 25 7) rfl (SP.on ((S436.box_now (i := 0) rfl).sub (j := 0) (n := 1) (c := [v416]) rfl) (SP.nil S436.sl)) rfl (fun _ z => (E.move k426)) ?_
              refine FB.t (i := 3) (bs 25 15) rfl (SP.on ((S436.box_now (i := 0) rfl).sub (j := 0) (n := 1) (c := [v416]) rfl) (SP.nil S436.sl)) rfl (fun _ z => (E.fieldAddr tf32_0 k428)) ?_
              refine FB.t (i := 4) (bs 25 31) rfl (SP.on ((S436.box_now (i := 0) rfl).sub (j := 0) (n := 1) (c := [v416]) rfl) (SP.nil S436.sl)) rfl (fun _ z => (E.load rfl (run_load1 Tryz.isAgg3 ((at28.mono (((i63.tr i92).tr i388).tr i423)).now z) rfl))) ?_
              refine FB.t (i := 5) (bs 25 63) rfl (SP.on ((S436.box_now (i := 0) rfl).sub (j := 0) (n := 1) (c := [v416]) rfl) (SP.nil S436.sl)) rfl (fun _ z => (E.fieldAddr tf168_0 k430)) ?_
              refine FB.p (i := 6) (bs 25 127) 0 [8, 9, 10, 17, 20, 21, 22, 23, 24] rfl (SP.on ((S436.box_now (i := 0) rfl).sub (j := 0) (n := 1) (c := [v416]) rfl) (SP.nil S436.sl)) rfl rfl (fun _ z => (E.load rfl (run_load0 Tryz.isAgg36 z rfl))) ?_
              refine FB.t (i := 7) (bs 25 255) rfl (SP.on ((S436.box_now (i := 0) rfl).sub (j := 0) (n := 1) (c := [v416]) rfl) (SP.nil S436.sl)) rfl (fun _ z => (E.move k432)) ?_
              obtain ⟨p442, cs443, pt444, l445, at446, rel447, hall450⟩ := S436.row_atA (i := 2) rfl els419 (by decide) hx449
              obtain ⟨v451, rfl, h452⟩ := ePcStep_open rel447
              refine FB.t (i := 8) (bs 25 511) rfl (SP.on ((S436.box_now (i := 0) rfl).sub (j := 0) (n := 1) (c := [v416]) rfl) (SP.nil S436.sl)) rfl (fun _ z => (E.indexAddr te36 rfl rfl pt444)) ?_
              refine FB.t (i := 9) (bs 25 1023) rfl (SP.on ((S436.box_now (i := 0) rfl).sub (j := 0) (n := 1) (c := [v416]) rfl) (SP.nil S436.sl)) rfl (fun _ z => (E.fieldAddr tf90_1 rfl)) ?_
              refine FB.phase [22] (fun w' => WAt w' p442 [vI x448.kind, v451, vI x448.a, vI x448.b, vI x448.x, vI x448.y]) ?_
              refine FB.p (i := 10) (bs 25 2047) 0 [17, 20, 21, 22, 23, 24] rfl (SP.on (hall450 _ _ _ 2 S436 rfl) (SP.on ((S436.box_now (i := 0) rfl).sub (j := 0) (n := 1) (c := [v416]) rfl) (SP.nil S436.sl))) rfl rfl (fun _ z => (E.load rfl (run_load1 Tryz.isAgg55 z rfl))) ?_
              refine FB.t (i := 11) (bs 25 4095) rfl (SP.on (hall450 _ _ _ 2 S436 rfl) (SP.on ((S436.box_now (i := 0) rfl).sub (j := 0) (n := 1) (c := [v416]) rfl) (SP.nil S436.sl))) rfl (fun _ z => (E.fieldAddr tf168_0 k430)) ?_
              refine FB.p (i := 12) (bs 25 8191) 1 [14, 15, 16, 17, 20, 21, 22, 23, 24] rfl (SP.on (hall450 _ _ _ 2 S436 rfl) (SP.on ((S436.box_now (i := 0) rfl).sub (j := 0) (n := 1) (c := [v416]) rfl) (SP.nil S436.sl))) rfl rfl (fun _ z => (E.load rfl (run_load0 Tryz.isAgg36 z rfl))) ?_
              refine FB.t (i := 13) (bs 25 16383) rfl (SP.on (hall450 _ _ _ 2 S436 rfl) (SP.on ((S436.box_now (i := 0) rfl).sub (j := 0) (n := 1) (c := [v416]) rfl) (SP.nil S436.sl))) rfl (fun _ z => (E.move k433)) ?_
              obtain ⟨p453, cs454, pt455, l456, at457, rel458, hall461⟩ := S436.row_atA (i := 2) rfl els419 (by decide) hx460
              obtain ⟨v462, rfl, h463⟩ := ePcStep_open rel458
              refine FB.t (i := 14) (bs 25 32767) rfl (SP.on (hall450 _ _ _ 2 S436 rfl) (SP.on ((S436.box_now (i := 0) rfl).sub (j := 0) (n := 1) (c := [v416]) rfl) (SP.nil S436.sl))) rfl (fun _ z => (E.indexAddr te36 rfl rfl pt455)) ?_
              refine FB.t (i := 15) (bs 25 65535) rfl (SP.on (hall450 _ _ _ 2 S436 rfl) (SP.on ((S436.box_now (i := 0) rfl).sub (j := 0) (n := 1) (c := [v416]) rfl) (SP.nil S436.sl))) rfl (fun _ z => (E.fieldAddr tf90_1 rfl)) ?_
              refine FB.phase [22] (fun w' => WAt w' p453 [vI x459.kind, v462, vI x459.a, vI x459.b, vI x459.x, vI x459.y]) ?_
              refine FB.p (i := 16) (bs 25 131071) 0 [17, 20, 21, 22, 23, 24] rfl (SP.on (hall461 _ _ _ 2 S436 rfl) (SP.on (hall450 _ _ _ 2 S436 rfl) (SP.on ((S436.box_now (i := 0) rfl).sub (j := 0) (n := 1) (c := [v416]) rfl) (SP.nil S436.sl)))) rfl rfl (fun _ z => (E.load rfl (run_load1 Tryz.isAgg55 z rfl))) ?_
              refine FB.t (i := 18) (bs 25 393215) rfl (SP.on (hall461 _ _ _ 2 S436 rfl) (SP.on (hall450 _ _ _ 2 S436 rfl) (SP.on ((S436.box_now (i := 0) rfl).sub (j := 0) (n := 1) (c := [v416]) rfl) (SP.nil S436.sl)))) rfl (fun _ z => (E.move k432)) ?_
              refine FB.t (i := 19) (bs 25 917503) rfl (SP.on (hall461 _ _ _ 2 S436 rfl) (SP.on (hall450 _ _ _ 2 S436 rfl) (SP.on ((S436.box_now (i := 0) rfl).sub (j := 0) (n := 1) (c := [v416]) rfl) (SP.nil S436.sl)))) rfl (fun _ z => (E.move k433)) ?_
              refine FB.all1 (i := 17) (by kernel_rfl) ?_
              ·
                refine FC.call (l' := (bs 25 1048575)) rfl (by kernel_rfl) rfl rfl rfl (E.call Tryz.call185 (A6 rfl rfl rfl rfl rfl rfl)) (w_spec_l20Sum S436.sl a0 a1.vars v451 x448.poly (h452.mono upI) 1 v462 x459.poly (h463.mono upI) 1 hr481) ?_
                rintro e w483 ⟨H482, v486, n487, cs488, rfl, r485, els489⟩
                refine ⟨_, rfl, ?_⟩
                have els489 := els489.mono (up_le S436.size)
                have S484 := S436.join (l' := [.row 108 2 v486 n487 cs488, .box b43 168 [v416, v52], .row 3 1 v52 n53 cs54, .row 90 6 v416 n417 cs418, .box b29 168 [vN, vN]]) r485 rfl
                refine ⟨(SP.on (hall461 _ _ _ 3 S484 rfl) (SP.on (hall450 _ _ _ 3 S484 rfl) (SP.on ((S484.box_now (i := 1) rfl).sub (j := 0) (n := 1) (c := [v416]) rfl) (SP.nil (Sl.of_inc r485.run.inc S484.sl))))), ?_⟩
                obtain ⟨H490, S491, i492, h493, nv494⟩ := S484.sealRowU (i := 0) (l' := [.box b43 168 [v416, v52], .row 3 1 v52 n53 cs54, .row 90 6 v416 n417 cs418, .box b29 168 [vN, vN]]) rfl els489 (by decide) rfl
                refine FB.t (i := 20) (bs 25 2097151) rfl (SP.on (hall461 _ _ _ 3 S484 rfl) (SP.on (hall450 _ _ _ 3 S484 rfl) (SP.on ((S484.box_now (i := 1) rfl).sub (j := 0) (n := 1) (c := [v416]) rfl) (SP.nil (Sl.of_inc r485.run.inc S484.sl))))) rfl (fun _ z => (E.build (B6 rfl rfl rfl rfl rfl rfl) (run_build _ 90 #[(0, vI 2), (1, v486), (2, vI s464.2), (3, vI s714.2), (4, vI 1), (5, vI 1)] #[vI 2, v486, vI s464.2, vI s714.2, vI 1, vI 1] (by obtain ⟨_, _, rfl⟩ := RSl.ln (h493.mono upI); rfl)))) ?_
                refine FB.all1 (i := 21) (by kernel_rfl) ?_
                ·
                  obtain ⟨v495, w496, run497, S498⟩ := S491.buildSlice (P := prog) te36 [vA #[vI 2, v486, vI s464.2, vI s714.2, vI 1, vI 1]] (parts := #[(0, vA #[vI 2, v486, vI s464.2, vI s714.2, vI 1, vI 1])]) (cells := [vI 2, v486, vI s464.2, vI s714.2, vI 1, vI 1]) rfl (szs_cons rfl szs_nil) (fc_cons rfl fc_nil) (ones_cons rfl (ones_cons h493.one (ones_cons rfl (ones_cons rfl (ones_cons rfl (ones_cons rfl ones_nil)))))) (Nat.le_of_ble_eq_true rfl)
                  have els499 : Els (up wa.heap.size H490) ePcStep 6 [vI 2, v486, vI s464.2, vI s714.2, vI 1, vI 1] [(PcStep.mk 2 r480 s464.2 s714.2 1 1)] := (Els.snoc (H := (up wa.heap.size H490)) (E := ePcStep) (k := 6) (c := [vI 2, v486, vI s464.2, vI s714.2, vI 1, vI 1]) (x := (PcStep.mk 2 r480 s464.2 s714.2 1 1)) Els.nil rfl ⟨_, rfl, h493⟩)
                  have nd500 : (bl [vI 2, v486, vI s464.2, vI s714.2, vI 1, vI 1]).Nodup := by exact nd_one v486
                  refine FC.val (l' := (bs 25 4194303)) rfl (by kernel_rfl) rfl rfl rfl (E.buildSlice (B1 rfl) run497) ?_
                  refine ⟨(SP.on (hall461 _ _ _ 3 S498 rfl) (SP.on (hall450 _ _ _ 3 S498 rfl) (SP.on ((S498.box_now (i := 1) rfl).sub (j := 0) (n := 1) (c := [v416]) rfl) (SP.nil (Sl.of_inc (r485.run.inc.tr i492) S498.sl))))), ?_⟩
                  refine FB.all1 (i := 22) (by kernel_rfl) ?_
                  ·
                    obtain ⟨v503, w506, n504, cs505, run507, S508, els509, ce510⟩ := S498.appendO (P := prog) te36 (i := 3) (j := 0) rfl (els419.mono (up_mono (r485.run.inc.tr i492))) rfl els499 hz502
                    have S508 : St Ha wa H490 w506 [.row 90 6 v495 1 [vI 2, v486, vI s464.2, vI s714.2, vI 1, vI 1], .box b43 168 [v416, v52], .row 3 1 v52 n53 cs54, .row 90 6 v503 n504 cs505, .box b29 168 [vN, vN]] := S508
                    have nd511 : (bl cs505).Nodup := by rw [ce510]; exact nd_app nd420 nd500 (Els.dom (els419.mono (upI.tr r485.run.inc))) (by exact nv494)
                    have S512 : St Ha wa H490 w506 [.box b43 168 [v416, v52], .row 3 1 v52 n53 cs54, .row 90 6 v503 n504 cs505, .box b29 168 [vN, vN]] := S508.drop 0
                    refine FC.val (l' := (bs 25 8388607)) rfl (by kernel_rfl) rfl rfl rfl (E.append rfl rfl run507) ?_
                    refine ⟨(SP.o (SP.o (SP.on ((S512.box_now (i := 0) rfl).sub (j := 0) (n := 1) (c := [v416]) rfl) (SP.nil (Sl.of_inc (r485.run.inc.tr i492) S512.sl))))), ?_⟩
                    refine FB.t (i := 23) (bs 25 16777215) rfl (SP.o (SP.o (SP.on ((S512.box_now (i := 0) rfl).sub (j := 0) (n := 1) (c := [v416]) rfl) (SP.nil (Sl.of_inc (r485.run.inc.tr i492) S512.sl))))) rfl (fun _ z => (E.fieldAddr tf168_0 k430)) ?_
                    refine FB.all1 (i := 24) (by kernel_rfl) ?_
                    ·
                      obtain ⟨w629, run630, S631⟩ := S512.store (P := prog) (t := 36) (i := 0) (j := 0) (cs' := [v503, v52]) (l' := [.box b43 168 [v503, v52], .row 3 1 v52 n53 cs54, .row 90 6 v503 n504 cs505, .box b29 168 [vN, vN]]) (v := v503) (c := [v503]) rfl Tryz.sizeOf36 (Ln.cells (S512.row_ln (i := 2) rfl)) rfl (ones_cons (Ln.one (S512.row_ln (i := 2) rfl)) ones_nil) (Nat.le_of_ble_eq_true rfl) rfl rfl
                      refine FC.act (l' := (bs 25 33554431)) rfl (by kernel_rfl) rfl rfl (E.store rfl rfl run630) ?_
                      refine ⟨(SP.o (SP.o (SP.o (SP.nil (Sl.of_inc (r485.run.inc.tr i492) S631.sl))))), ?_⟩
                      exact FB.done (by kernel_rfl) ⟨_, _, _, _, S631, (r485.run.inc.tr i492), els509, nd511, k426, k427, k428, k429, k430, k431⟩
            ·
              rintro f641 w640 ⟨H637, v632, n633, cs634, S638, i639, els635, nd636, k642, k643, k644, k645, k646, k647⟩
              refine FW.region ?_
              refine FL.v (E.fieldAddr tf168_0 k646) ?_
              refine FL.v (E.load rfl (run_load1 Tryz.isAgg36 (S638.box_now (i := 0) rfl) rfl)) ?_
              refine FL.v (E.lenO te36 rfl S638 (i := 2) rfl els635 (by decide)) ?_
              refine FL.v (E.sub rfl rfl) ?_
              refine FL.v (E.assign (v := vI (wr ((len xs501) - 1))) rfl) ?_
              refine FL.nil (FW.region ?_)
              refine FL.v (E.fieldAddr tf168_1 k646) ?_
              refine FL.v (E.load rfl (run_load1 Tryz.isAgg73 (S638.box_now (i := 0) rfl) rfl)) ?_
              refine FL.v (E.move (v := vI (wr ((len xs501) - 1))) rfl) ?_
              obtain ⟨v648, w649, run650, S651⟩ := S638.buildSlice (P := prog) te73 [vI (wr ((len xs501) - 1))] (parts := #[(0, vI (wr ((len xs501) - 1)))]) (cells := [vI (wr ((len xs501) - 1))]) rfl (szs_cons rfl szs_nil) (fc_cons rfl fc_nil) (ones_cons rfl ones_nil) (Nat.le_of_ble_eq_true rfl)
              have els652 : Els (up wa.heap.size H637) eI 1 [vI (wr ((len xs501) - 1))] [(wr ((len xs501) - 1))] := (Els.snoc (H := (up wa.heap.size H637)) (E := eI) (k := 1) (c := [vI (wr ((len xs501) - 1))]) (x := (wr ((len xs501) - 1))) Els.nil rfl rfl)
              refine FL.v (E.buildSlice (B1 rfl) run650) ?_
              obtain ⟨xs653, hz654, hp⟩ := bnd hp
              obtain ⟨v655, w658, n656, cs657, run659, S660, els661, ce662⟩ := S651.appendO (P := prog) te73 (i := 2) (j := 0) rfl (els55.mono (up_mono (((i92.tr i388).tr i423).tr i639))) rfl els652 hz654
              have S660 : St Ha wa H637 w658 [.row 3 1 v648 1 [vI (wr ((len xs501) - 1))], .box b43 168 [v632, v52], .row 3 1 v655 n656 cs657, .row 90 6 v632 n633 cs634, .box b29 168 [vN, vN]] := S660
              have S663 : St Ha wa H637 w658 [.box b43 168 [v632, v52], .row 3 1 v655 n656 cs657, .row 90 6 v632 n633 cs634, .box b29 168 [vN, vN]] := S660.drop 0
              refine FL.v (E.append rfl rfl run659) ?_
              refine FL.v (E.fieldAddr tf168_1 k646) ?_
              obtain ⟨w664, run665, S666⟩ := S663.store (P := prog) (t := 73) (i := 0) (j := 1) (cs' := [v632, v655]) (l' := [.box b43 168 [v632, v655], .row 3 1 v655 n656 cs657, .row 90 6 v632 n633 cs634, .box b29 168 [vN, vN]]) (v := v655) (c := [v655]) rfl Tryz.sizeOf73 (Ln.cells (S663.row_ln (i := 1) rfl)) rfl (ones_cons (Ln.one (S663.row_ln (i := 1) rfl)) ones_nil) (Nat.le_of_ble_eq_true rfl) rfl rfl
              refine FL.act rfl rfl (E.store rfl rfl run665) ?_
              refine FL.nil (FW.region ?_)
              refine FL.v (E.move k647) ?_
              refine FL.v (E.add rfl rfl) ?_
              refine FL.v (E.assign (v := vI (wr (((i51 : Nat) : Int) + 1))) rfl) ?_
              refine FL.nil ?_
              obtain rfl := Option.some.inj hp
              exact ⟨rfl, ⟨_, _, _, _, _, _, _, S666, ((((i63.tr i92).tr i388).tr i423).tr i639), els661, els635, nd636, (nat_succ rfl (lt_of_get hx51) (p2.mono (((((i27.tr i63).tr i92).tr i388).tr i423).tr i639)).le), k642, k643, k644, k645, k646⟩⟩
  ·
    clear hp hq
    rintro s51 f697 w696 ⟨H693, v52, n53, cs54, v56, n57, cs58, S694, i695, els55, els59, nd60, k698, k699, k700, k701, k702, k703⟩
    refine FW.seq (FW.seq (FW.region ?_))
    refine FL.v (E.move k698) ?_
    refine FL.v (E.move k700) ?_
    refine FL.v (E.lenP te34 rfl p2) ?_
    refine FL.v (E.lss rfl rfl) ?_
    refine FL.nil ?_
    refine FW.condF rfl dlt_len ?_
    refine FW.exit ?_
    exact ⟨nofun, rfl, ⟨_, _, _, _, _, _, _, S694, i695, els55, els59, nd60, k702, k703⟩⟩
  ·
    clear hq
    intro e f672 w671 hD
    rcases q51 with s51 | x51
    ·
      obtain ⟨rfl, hD⟩ := hD
      obtain ⟨H668, v52, n53, cs54, v56, n57, cs58, S669, i670, els55, els59, nd60, k673, k674⟩ := hD
      replace hp := el_go hp
      refine FW.seq (FW.region ?_)
      refine FL.v (E.load k674 (run_loadA Tryz.isAgg168 Tryz.sizeOf168 (S669.box_now (i := 0) rfl) rfl)) ?_
      obtain ⟨w675, run676, S677⟩ := S669.store0 (P := prog) (t := 168) (i := 3) (cs' := [v56, v52]) (l' := [.box b43 168 [v56, v52], .row 3 1 v52 n53 cs54, .row 90 6 v56 n57 cs58, .box b29 168 [v56, v52]]) (v := vA #[v56, v52]) (c := [v56, v52]) rfl Tryz.sizeOf168 rfl rfl (ones_cons (Ln.one (S669.row_ln (i := 2) rfl)) (ones_cons (Ln.one (S669.row_ln (i := 1) rfl)) ones_nil)) (Nat.le_of_ble_eq_true rfl) rfl rfl
      refine FL.act rfl rfl (E.store k673 rfl run676) ?_
      obtain ⟨H678, S679, i680, ns683, nv682⟩ := S677.sealRowN (i := 2) (l' := [.box b43 168 [v56, v52], .row 3 1 v52 n53 cs54, .box b29 168 [v56, v52]]) rfl els59 nd60 (by decide) rfl
      have h681 := ns683.rsl
      obtain ⟨H684, S685, i686, h687, nv688⟩ := S679.sealRowU (i := 1) (l' := [.box b43 168 [v56, v52], .box b29 168 [v56, v52]]) rfl (els55.mono (up_mono i680)) (by decide) rfl
      obtain ⟨H689, S690, i691, at692⟩ := S685.sealBox (i := 1) (l' := [.box b43 168 [v56, v52]]) rfl rfl
      refine FL.nil ?_
      refine FW.ret ?_
      obtain rfl := Option.some.inj hp
      exact ⟨.inr rfl, resC rfl k673 (loadVar_A Tryz.isAgg168 Tryz.sizeOf168 (at692.now S690.sl) rfl) ⟨_, _, _, rfl, S690.run, ⟨_, (ns683.mono (up_mono (i686.tr i691)))⟩, (h687.mono (up_mono i691))⟩⟩
    · exact x51.elim

@[reducible] def p_spec_l21Pc (Ha : GH) (wa : World) (r : ((List PcStep) × Bool)) : Ending → World → Prop :=
 fun e w' => ∃ H' : GH, ∃ v0 : Value, e = .returned (Value.tuple #[v0, vB r.2]) ∧ Run wa.heap.size Ha wa H' w' ∧ (∃ c, Nest (up wa.heap.size H') ePcStep 6 v0 r.1 c)
theorem w_spec_l21Pc {Ha : GH} {wa : World} (hs : Sl Ha wa) (a0 : Int) (a1 : Cnf) (v1_1 : Value) (p1_1 : RSl Ha (eL eI 1) 1 v1_1 a1.clauses) (v2 : Value) (a2 : List ResStep) (p2 : RSl Ha eResStep 4 v2 a2) {r : ((List PcStep) × Bool)} (hp : (PF.spec_l21Pc a0 a1 a2) = some r) :
  Calls prog 73 #[vI a0, vA #[vI a1.vars, v1_1], v2] wa (p_spec_l21Pc Ha wa r) := by
 unfold PF.spec_l21Pc at hp; have S0 := St.init hs; refine calls_go (N := 25) (args := [vI a0, vA #[vI a1.vars, v1_1], v2]) func73 rfl rfl rfl ?_; refine FW.sr ?_; obtain ⟨b21, w22, run23, S24⟩ := S0.box (P := prog) 32 [vI a1.vars, v1_1] (v := vA #[vI a1.vars, v1_1]) rfl (oC rfl (oC p1_1.one ones_nil)); refine FL.v (E.box rfl run23) ?_; obtain ⟨H25, S26, i27, at28⟩ := S24.sealBox (i := 0) (l' := []) rfl rfl; refine FL.as (v := vN) rfl ?_; refine FL.as (v := vB false) rfl ?_; refine FL.nil (FW.seq (FW.sr ?_)); refine FL.mv (v := vI a0) rfl ?_; refine FL.v (E.load rfl (run_loadA isAgg32 sizeOf32 (at28.now S26.sl) rfl)) ?_; refine FL.mv (v := v2) rfl ?_; obtain ⟨r29, hr30, hp⟩ := bnd hp; refine FL.c (E.call call58 (A3 rfl rfl rfl)) (w_spec_l21Asked S26.sl a0 a1 v1_1 (p1_1.mono i27) v2 a2 (p2.mono i27) hr30) ?_; rintro e w31 ⟨rfl, r32⟩; refine ⟨_, rfl, ?_⟩; have S33 := S26.call r32; refine FL.v (E.not rfl) ?_; refine FL.nil ?_; rcases ifB hp with ⟨c34, hp⟩ | ⟨c34, hp⟩
 ·
  refine FW.condT rfl c34 ?_; refine FW.sr ?_; obtain ⟨v35, w36, run37, S38⟩ := S33.buildSlice (P := prog) te36 [] (parts := #[]) (cells := []) rfl szs_nil fc_nil ones_nil (nB rfl); have els39 : Els (up wa.heap.size H25) ePcStep 6 [] [] := Els.nil; refine FL.v (E.buildSlice (B0) run37) ?_; refine FL.as (v := v35) rfl ?_; refine FL.as (v := vB false) rfl ?_; refine FL.nil (FW.ret ?_); obtain ⟨H40, S41, i42, ns45, nv44⟩ := S38.sealRowN (i := 0) (l' := []) rfl els39 (show (bl []).Nodup from List.nodup_nil) (by decide) rfl; have h43 := ns45.rsl; cases hp; exact ⟨.inr rfl, res2 rfl rfl rfl ⟨_, _, rfl, S41.run, ⟨_, ns45⟩⟩⟩
 ·
  refine FW.condF rfl c34 ?_; refine FW.skip (FW.sr ?_); refine FL.mv (v := vI a0) rfl ?_; refine FL.v (E.load rfl (run_loadA isAgg32 sizeOf32 (at28.now S33.sl) rfl)) ?_; refine FL.mv (v := v2) rfl ?_; obtain ⟨r46, hr47, hp⟩ := bnd hp; refine FL.c (E.call call126 (A3 rfl rfl rfl)) (w_spec_l21Translate S33.sl a0 a1 v1_1 (p1_1.mono i27) v2 a2 (p2.mono i27) hr47) ?_; rintro e w49 ⟨H48, v52, v57, rfl, r51, ⟨c55, ns54⟩, h58⟩; refine ⟨_, rfl, ?_⟩; have h53 := ns54.rsl; have nv56 : New H25 [v52] := New.of_up S33.sl h53.dom; have h53 := h53.mono (up_le S33.size); have ns54 := ns54.mono (up_le S33.size); have nv59 : New H25 [v57] := New.of_up S33.sl h58.dom; have h58 := h58.mono (up_le S33.size); have S50 := S33.call r51; refine FL.v (E.field (fd168_0 rfl) rfl) ?_; refine FL.as (v := v52) rfl ?_; refine FL.nil (FW.seq (FW.sr ?_)); refine FL.mv (v := v52) rfl ?_; refine FL.v (E.lenP te36 rfl h53) ?_; refine FL.v (E.gtr rfl rfl) ?_; refine FL.nil ?_; rcases ifB hp with ⟨c60, hp⟩ | ⟨c60, hp⟩
  ·
   refine FW.condT rfl c60 ?_; refine FW.sr ?_; obtain ⟨v61, w62, run63, S64⟩ := S50.buildSlice (P := prog) te36 [] (parts := #[]) (cells := []) rfl szs_nil fc_nil ones_nil (nB rfl); have els65 : Els (up wa.heap.size H48) ePcStep 6 [] [] := Els.nil; refine FL.v (E.buildSlice (B0) run63) ?_; refine FL.as (v := v61) rfl ?_; refine FL.as (v := vB false) rfl ?_; refine FL.nil (FW.ret ?_); obtain ⟨H66, S67, i68, ns71, nv70⟩ := S64.sealRowN (i := 0) (l' := []) rfl els65 (show (bl []).Nodup from List.nodup_nil) (by decide) rfl; have h69 := ns71.rsl; cases hp; exact ⟨.inr rfl, res2 rfl rfl rfl ⟨_, _, rfl, S67.run, ⟨_, ns71⟩⟩⟩
  ·
   refine FW.condF rfl c60 ?_; refine FW.skip (FW.sr ?_); refine FL.mv (v := v52) rfl ?_; refine FL.as (v := v52) rfl ?_; refine FL.as (v := vB true) rfl ?_; refine FL.nil (FW.ret ?_); cases hp; exact ⟨.inr rfl, res2 rfl rfl rfl ⟨_, _, rfl, S50.run, ⟨_, ns54⟩⟩⟩

theorem w_spec_l18Good {Ha : GH} {wa : World} (hs : Sl Ha wa) (a0 : Int) (a1 : Int) (v2 : Value) (a2 : List Term) (p2 : RSl Ha eTerm 2 v2 a2) {r : Bool} (hp : (PF.spec_l18Good a0 a1 a2) = some r) :
  Calls prog 92 #[vI a0, vI a1, v2] wa (Sc Ha wa (vB r)) := by
 unfold PF.spec_l18Good at hp; have S0 := St.init hs; refine calls_go (N := 57) (args := [vI a0, vI a1, v2]) func92 rfl rfl rfl ?_; refine FW.sr ?_; refine FL.as (v := vB false) rfl ?_; refine FL.nil (FW.seq (FW.sr ?_)); refine FL.mv (v := vI a0) rfl ?_; refine FL.mv (v := vI a1) rfl ?_; refine FL.c (E.call call151 (A2 rfl rfl)) (w_spec_l18Prime S0.sl a0 a1) ?_; rintro e w21 ⟨rfl, r22⟩; refine ⟨_, rfl, ?_⟩; have S23 := S0.call r22; refine FL.v (E.not rfl) ?_; refine FL.nil ?_; rcases ifB hp with ⟨c24, hp⟩ | ⟨c24, hp⟩
 ·
  refine FW.condT rfl c24 ?_; refine FW.sr ?_; refine FL.as (v := vB false) rfl ?_; refine FL.nil (FW.ret ?_); cases hp; exact ⟨.inr rfl, res1 rfl rfl ⟨rfl, S23.back⟩⟩
 ·
  refine FW.condF rfl c24 ?_; refine FW.skip (FW.seq (FW.sr ?_)); refine FL.as (v := vI 0) rfl ?_; refine FL.nil ?_; obtain ⟨q26, hq, hp⟩ := bndR hp; refine FW.block ?_; refine FW.mono (FW.forL (S := Unit) (X := Bool) (fun (i26 : Nat) (s26 : Unit) f w => ∃ H : GH, St Ha wa H w [] ∧ Inc Ha H ∧ f 7 = vI ((i26 : Nat) : Int) ∧ f 0 = vI a0 ∧ f 1 = vI a1 ∧ f 2 = v2) (fun q e f w => match q with | .go s26 => e = Exit.exit 0 ∧ (∃ H : GH, St Ha wa H w [] ∧ Inc Ha H) | .rt x => ((e = Exit.ret) ∧ (fun e f w => (e = Exit.normal ∨ e = Exit.ret) ∧ ∀ a, Fr (δ := []) 57 a f → ∃ v, (results Tryz.f92 a.tmps).run prog w = .ok v w ∧ (Sc Ha wa (vB x)) (.returned v) w) e f w)) hq ⟨_, S23, I0, rfl, rfl, rfl, rfl⟩ ?_ ?_) ?_
  ·
   clear hp hq; rintro i26 y25 s26 f171 w170 ⟨H167, S168, i169, k172, k173, k174, k175⟩ hx26 o307 hp; refine FW.seq (FW.sr ?_); refine FL.mv k172 ?_; refine FL.mv k175 ?_; refine FL.v (E.lenP te55 rfl p2) ?_; refine FL.v (E.lssT rfl rfl (lss_len hx26)) ?_; refine FL.nil ?_; refine FW.condT rfl rfl ?_; refine FW.skip (FW.seq (FW.block (FW.seq ?_))); refine FW.draw (fun w' => Run w170.heap.size H167 w170 H167 w') (by kernel_rfl) (by kernel_rfl) (run_drew S168.sl) ?_; refine FD.v (fun _ z => (E.move k175)) ?_; refine FD.v (fun _ z => (E.move k172)) ?_; obtain ⟨p177, cs178, pt179, l180, at181, rel182⟩ := p2.at (ix_nat hx26); obtain rfl := eTerm_open rel182; refine FD.v (fun _ z => (E.indexAddr te55 rfl rfl pt179)) ?_; refine FD.v (fun _ z => (E.fieldAddr tf108_0 rfl)) ?_; refine FD.v (fun _ z => (E.load rfl (run_load1 isAgg3 ((at181.mono i169).now (S168.call z).sl) rfl))) ?_; refine FD.v (fun _ z => (E.move k174)) ?_; obtain ⟨u184, z183, hp⟩ := bnd hp; refine FD.v (fun _ z => (E.shl rfl rfl (nn_ge z183))) ?_; refine FD.v (fun _ z => (E.sub rfl rfl)) ?_; refine FD.call rfl rfl rfl (fun _ z => (E.call call153 (A3 rfl rfl rfl))) (fun _ z => Calls.cls z (w_spec_l1In (S168.call z).sl y25.mono 0 (wr ((shlK true 64 1 a1) - 1)))) ?_; refine FD.v (fun _ z => (E.not rfl)) ?_; refine FD.v (fun _ z => (E.move (v := vB (!(PF.spec_l1In y25.mono 0 (wr ((shlK true 64 1 a1) - 1))))) rfl)) ?_; refine FD.cut 10 (fun f => f 0 = vI a0 ∧ f 1 = vI a1 ∧ f 2 = v2 ∧ f 7 = vI ((i26 : Nat) : Int) ∧ f 38 = vB (bif (!(PF.spec_l1In y25.mono 0 (wr ((shlK true 64 1 a1) - 1)))) then true else (!(PF.spec_l1In y25.coeff 1 (wr (a0 - 1)))))) ?_ ?_
   ·
    rcases bcase (!(PF.spec_l1In y25.mono 0 (wr ((shlK true 64 1 a1) - 1)))) with c197 | c197
    ·
     refine FD.skip (wN c197) rfl ?_; refine FD.skip (wN c197) rfl ?_; refine FD.skip (wN c197) rfl ?_; refine FD.skip (wN c197) rfl ?_; refine FD.skip (wN c197) rfl ?_; refine FD.skip (wN c197) rfl ?_; refine FD.skip (wN c197) rfl ?_; refine FD.skip (wN c197) rfl ?_; refine FD.skip (wN c197) rfl ?_; refine FD.v (fun _ z => (E.pickT rfl c197 rfl)) ?_; exact FD.nil ⟨k173, k174, k175, k172, (congrArg vB (bifT c197).symm)⟩
    ·
     refine FD.y (wY c197) (fun _ z => (E.move k175)) ?_; refine FD.y (wY c197) (fun _ z => (E.move k172)) ?_; obtain ⟨p198, cs199, pt200, l201, at202, rel203⟩ := p2.at (ix_nat hx26); obtain rfl := eTerm_open rel203; refine FD.y (wY c197) (fun _ z => (E.indexAddr te55 rfl rfl pt200)) ?_; refine FD.y (wY c197) (fun _ z => (E.fieldAddr tf108_1 rfl)) ?_; refine FD.y (wY c197) (fun _ z => (E.load rfl (run_load1 isAgg3 ((at202.mono i169).now (S168.call z).sl) rfl))) ?_; refine FD.y (wY c197) (fun _ z => (E.move k173)) ?_; refine FD.y (wY c197) (fun _ z => (E.sub rfl rfl)) ?_; refine FD.call (wY c197) rfl rfl (fun _ z => (E.call call153 (A3 rfl rfl rfl))) (fun _ z => Calls.cls z (w_spec_l1In (S168.call z).sl y25.coeff 1 (wr (a0 - 1)))) ?_; refine FD.y (wY c197) (fun _ z => (E.not rfl)) ?_; refine FD.v (fun _ z => (E.pickF rfl c197 rfl)) ?_; exact FD.nil ⟨k173, k174, k175, k172, (congrArg vB (bifF c197).symm)⟩
   rintro f196 ⟨k204, k205, k206, k207, k208⟩; refine FD.v (fun _ z => (E.move k208)) ?_; obtain ⟨t250, hqt250, hp⟩ := bnd hp; refine FD.cut 17 (fun f => f 0 = vI a0 ∧ f 1 = vI a1 ∧ f 2 = v2 ∧ f 7 = vI ((i26 : Nat) : Int) ∧ f 56 = vB t250) ?_ ?_
   ·
    clear hp; have hp := hqt250; clear hqt250; rcases ifB hp with ⟨c256, hp⟩ | ⟨c256, hp⟩
    ·
     refine FD.skip (wN c256) rfl ?_; refine FD.skip (wN c256) rfl ?_; refine FD.skip (wN c256) rfl ?_; refine FD.skip (wF_undef rfl rfl rfl) rfl ?_; refine FD.skip (wF_undef rfl rfl rfl) rfl ?_; refine FD.skip (wF_undef rfl rfl rfl) rfl ?_; refine FD.skip (wF_undef rfl rfl rfl) rfl ?_; refine FD.skip (wF_undef rfl rfl rfl) rfl ?_; refine FD.skip (wF_undef rfl rfl rfl) rfl ?_; refine FD.skip (wF_undef rfl rfl rfl) rfl ?_; refine FD.skip (wF_undef rfl rfl rfl) rfl ?_; refine FD.skip (wF_undef rfl rfl rfl) rfl ?_; refine FD.skip (wF_undef rfl rfl rfl) rfl ?_; refine FD.skip (wF_undef rfl rfl rfl) rfl ?_; refine FD.skip (wF_undef rfl rfl rfl) rfl ?_; refine FD.skip (wN c256) rfl ?_; cases hp; refine FD.v (fun _ z => (E.pickT rfl c256 rfl)) ?_; exact FD.nil ⟨k204, k205, k206, k207, rfl⟩
    ·
     refine FD.y (wY c256) (fun _ z => (E.move k207)) ?_; refine FD.y (wY c256) (fun _ z => (E.gtr rfl rfl)) ?_; refine FD.y (wY c256) (fun _ z => (E.move (v := vB (decide (0 < ((i26 : Nat) : Int)))) rfl)) ?_; obtain ⟨t271, hqt271, hp⟩ := bnd hp; refine FD.cut 13 (fun f => f 0 = vI a0 ∧ f 1 = vI a1 ∧ f 2 = v2 ∧ f 7 = vI ((i26 : Nat) : Int) ∧ f 39 = vB (bif (!(PF.spec_l1In y25.mono 0 (wr ((shlK true 64 1 a1) - 1)))) then true else (!(PF.spec_l1In y25.coeff 1 (wr (a0 - 1))))) ∧ f 55 = vB t271) ?_ ?_
     ·
      clear hp; have hp := hqt271; clear hqt271; rcases ifB hp with ⟨c277, hp⟩ | ⟨c277, hp⟩
      ·
       refine FD.y (wY c277) (fun _ z => (E.move k206)) ?_; refine FD.y (wY c277) (fun _ z => (E.move k207)) ?_; refine FD.y (wY c277) (fun _ z => (E.sub rfl rfl)) ?_; obtain ⟨x284, hx285, hp⟩ := bnd hp; obtain ⟨p278, cs279, pt280, l281, at282, rel283⟩ := p2.at hx285; obtain rfl := eTerm_open rel283; refine FD.y (wY c277) (fun _ z => (E.indexAddr te55 rfl rfl pt280)) ?_; refine FD.y (wY c277) (fun _ z => (E.fieldAddr tf108_0 rfl)) ?_; refine FD.y (wY c277) (fun _ z => (E.load rfl (run_load1 isAgg3 ((at282.mono i169).now (S168.call z).sl) rfl))) ?_; refine FD.y (wY c277) (fun _ z => (E.move k206)) ?_; refine FD.y (wY c277) (fun _ z => (E.move k207)) ?_; obtain ⟨p286, cs287, pt288, l289, at290, rel291⟩ := p2.at (ix_nat hx26); obtain rfl := eTerm_open rel291; refine FD.y (wY c277) (fun _ z => (E.indexAddr te55 rfl rfl pt288)) ?_; refine FD.y (wY c277) (fun _ z => (E.fieldAddr tf108_0 rfl)) ?_; refine FD.y (wY c277) (fun _ z => (E.load rfl (run_load1 isAgg3 ((at290.mono i169).now (S168.call z).sl) rfl))) ?_; refine FD.y (wY c277) (fun _ z => (E.geq rfl rfl)) ?_; cases hp; refine FD.y (wY c256) (fun _ z => (E.pickT rfl c277 rfl)) ?_; exact FD.nil ⟨k204, k205, k206, k207, rfl, rfl⟩
      ·
       refine FD.skip (wN c277) rfl ?_; refine FD.skip (wN c277) rfl ?_; refine FD.skip (wN c277) rfl ?_; refine FD.skip (wN c277) rfl ?_; refine FD.skip (wN c277) rfl ?_; refine FD.skip (wN c277) rfl ?_; refine FD.skip (wN c277) rfl ?_; refine FD.skip (wN c277) rfl ?_; refine FD.skip (wN c277) rfl ?_; refine FD.skip (wN c277) rfl ?_; refine FD.skip (wN c277) rfl ?_; refine FD.skip (wN c277) rfl ?_; cases hp; refine FD.y (wY c256) (fun _ z => (E.pickF rfl c277 rfl)) ?_; exact FD.nil ⟨k204, k205, k206, k207, rfl, rfl⟩
     rintro f276 ⟨k292, k293, k294, k295, k296, k297⟩; cases hp; refine FD.v (fun _ z => (E.pickF k296 c256 k297)) ?_; exact FD.nil ⟨k292, k293, k294, k295, rfl⟩
   rintro f255 ⟨k298, k299, k300, k301, k302⟩; refine FD.nil ?_; intro w303 r305; have S304 := S168.call r305; rcases ifB hp with ⟨c306, hp⟩ | ⟨c306, hp⟩
   ·
    refine FW.condT k302 c306 ?_; refine FW.sr ?_; refine FL.as (v := vB false) rfl ?_; refine FL.nil (FW.ret ?_); cases hp; exact ⟨nofun, rfl, ⟨.inr rfl, res1 rfl rfl ⟨rfl, S304.back⟩⟩⟩
   ·
    refine FW.condF k302 c306 ?_; refine FW.skip (FW.region ?_); refine FL.mv k301 ?_; refine FL.v (E.add rfl rfl) ?_; refine FL.as (v := vI (wr (((i26 : Nat) : Int) + 1))) rfl ?_; refine FL.nil ?_; cases hp; exact ⟨rfl, ⟨_, S304, i169, (nat_succ rfl (lt_of_get hx26) (p2.mono i169).le), k298, k299, k300⟩⟩
  ·
   clear hp hq; rintro s26 f317 w316 ⟨H313, S314, i315, k318, k319, k320, k321⟩; refine FW.seq (FW.sr ?_); refine FL.mv k318 ?_; refine FL.mv k321 ?_; refine FL.v (E.lenP te55 rfl p2) ?_; refine FL.v (E.lss rfl rfl) ?_; refine FL.nil ?_; refine FW.condF rfl dlt_len ?_; refine FW.exit ?_; exact ⟨nofun, rfl, ⟨_, S314, i315⟩⟩
  ·
   clear hq; intro e f312 w311 hD; rcases q26 with s26 | x26
   ·
    obtain ⟨rfl, hD⟩ := hD; obtain ⟨H308, S309, i310⟩ := hD; replace hp := el_go hp; refine FW.sr ?_; refine FL.as (v := vB true) rfl ?_; refine FL.nil (FW.ret ?_); cases hp; exact ⟨.inr rfl, res1 rfl rfl ⟨rfl, S309.back⟩⟩
   ·
    obtain ⟨he, hL⟩ := hD; replace hp := el_rt hp; cases hp; subst he; exact hL

theorem w_spec_l20Same {Ha : GH} {wa : World} (hs : Sl Ha wa) (v0 : Value) (a0 : List Term) (p0 : RSl Ha eTerm 2 v0 a0) (v1 : Value) (a1 : List Term) (p1 : RSl Ha eTerm 2 v1 a1) {r : Bool} (hp : (PF.spec_l20Same a0 a1) = some r) :
  Calls prog 61 #[v0, v1] wa (Sc Ha wa (vB r)) := by
 unfold PF.spec_l20Same at hp; have S0 := St.init hs; refine calls_go (N := 26) (args := [v0, v1]) func61 rfl rfl rfl ?_; refine FW.sr ?_; refine FL.as (v := vB false) rfl ?_; refine FL.nil (FW.seq (FW.sr ?_)); refine FL.mv (v := v0) rfl ?_; refine FL.v (E.lenP te55 rfl p0) ?_; refine FL.mv (v := v1) rfl ?_; refine FL.v (E.lenP te55 rfl p1) ?_; refine FL.v (E.neq rfl rfl) ?_; refine FL.nil ?_; rcases ifB hp with ⟨c21, hp⟩ | ⟨c21, hp⟩
 ·
  refine FW.condT rfl c21 ?_; refine FW.sr ?_; refine FL.as (v := vB false) rfl ?_; refine FL.nil (FW.ret ?_); cases hp; exact ⟨.inr rfl, res1 rfl rfl ⟨rfl, S0.back⟩⟩
 ·
  refine FW.condF rfl c21 ?_; refine FW.skip (FW.seq (FW.sr ?_)); refine FL.as (v := vI 0) rfl ?_; refine FL.nil ?_; obtain ⟨q23, hq, hp⟩ := bndR hp; refine FW.block ?_; refine FW.mono (FW.forL (S := Unit) (X := Bool) (fun (i23 : Nat) (s23 : Unit) f w => ∃ H : GH, St Ha wa H w [] ∧ Inc Ha H ∧ f 5 = vI ((i23 : Nat) : Int) ∧ f 0 = v0 ∧ f 1 = v1) (fun q e f w => match q with | .go s23 => e = Exit.exit 0 ∧ (∃ H : GH, St Ha wa H w [] ∧ Inc Ha H) | .rt x => ((e = Exit.ret) ∧ (fun e f w => (e = Exit.normal ∨ e = Exit.ret) ∧ ∀ a, Fr (δ := []) 26 a f → ∃ v, (results Tryz.f61 a.tmps).run prog w = .ok v w ∧ (Sc Ha wa (vB x)) (.returned v) w) e f w)) hq ⟨_, S0, I0, rfl, rfl, rfl⟩ ?_ ?_) ?_
  ·
   clear hp hq; rintro i23 y22 s23 f55 w54 ⟨H51, S52, i53, k56, k57, k58⟩ hx23 o78 hp; refine FW.seq (FW.sr ?_); refine FL.mv k56 ?_; refine FL.mv k57 ?_; refine FL.v (E.lenP te55 rfl p0) ?_; refine FL.v (E.lssT rfl rfl (lss_len hx23)) ?_; refine FL.nil ?_; refine FW.condT rfl rfl ?_; refine FW.skip (FW.seq (FW.block (FW.seq ?_))); refine FW.draw (fun w' => Run w54.heap.size H51 w54 H51 w') (by kernel_rfl) (by kernel_rfl) (run_drew S52.sl) ?_; refine FD.v (fun _ z => (E.move k57)) ?_; refine FD.v (fun _ z => (E.move k56)) ?_; obtain ⟨p60, cs61, pt62, l63, at64, rel65⟩ := p0.at (ix_nat hx23); obtain rfl := eTerm_open rel65; refine FD.v (fun _ z => (E.indexAddr te55 rfl rfl pt62)) ?_; refine FD.v (fun _ z => (E.load rfl (run_loadA isAgg108 sizeOf108 ((at64.mono i53).now (S52.call z).sl) rfl))) ?_; refine FD.v (fun _ z => (E.move k58)) ?_; refine FD.v (fun _ z => (E.move k56)) ?_; obtain ⟨x72, hx73, hp⟩ := bnd hp; obtain ⟨p66, cs67, pt68, l69, at70, rel71⟩ := p1.at hx73; obtain rfl := eTerm_open rel71; refine FD.v (fun _ z => (E.indexAddr te55 rfl rfl pt68)) ?_; refine FD.v (fun _ z => (E.load rfl (run_loadA isAgg108 sizeOf108 ((at70.mono i53).now (S52.call z).sl) rfl))) ?_; refine FD.v (fun _ z => (E.neqA sg108 (sq108 y22.mono y22.coeff x72.mono x72.coeff) rfl rfl)) ?_; refine FD.nil ?_; intro w74 r76; have S75 := S52.call r76; rcases ifB hp with ⟨c77, hp⟩ | ⟨c77, hp⟩
   ·
    refine FW.condT rfl c77 ?_; refine FW.sr ?_; refine FL.as (v := vB false) rfl ?_; refine FL.nil (FW.ret ?_); cases hp; exact ⟨nofun, rfl, ⟨.inr rfl, res1 rfl rfl ⟨rfl, S75.back⟩⟩⟩
   ·
    refine FW.condF rfl c77 ?_; refine FW.skip (FW.region ?_); refine FL.mv k56 ?_; refine FL.v (E.add rfl rfl) ?_; refine FL.as (v := vI (wr (((i23 : Nat) : Int) + 1))) rfl ?_; refine FL.nil ?_; cases hp; exact ⟨rfl, ⟨_, S75, i53, (nat_succ rfl (lt_of_get hx23) (p0.mono i53).le), k57, k58⟩⟩
  ·
   clear hp hq; rintro s23 f88 w87 ⟨H84, S85, i86, k89, k90, k91⟩; refine FW.seq (FW.sr ?_); refine FL.mv k89 ?_; refine FL.mv k90 ?_; refine FL.v (E.lenP te55 rfl p0) ?_; refine FL.v (E.lss rfl rfl) ?_; refine FL.nil ?_; refine FW.condF rfl dlt_len ?_; refine FW.exit ?_; exact ⟨nofun, rfl, ⟨_, S85, i86⟩⟩
  ·
   clear hq; intro e f83 w82 hD; rcases q23 with s23 | x23
   ·
    obtain ⟨rfl, hD⟩ := hD; obtain ⟨H79, S80, i81⟩ := hD; replace hp := el_go hp; refine FW.sr ?_; refine FL.as (v := vB true) rfl ?_; refine FL.nil (FW.ret ?_); cases hp; exact ⟨.inr rfl, res1 rfl rfl ⟨rfl, S80.back⟩⟩
   ·
    obtain ⟨he, hL⟩ := hD; replace hp := el_rt hp; cases hp; subst he; exact hL

theorem w_spec_l20Earlier {Ha : GH} {wa : World} (hs : Sl Ha wa) (a0 : Int) (a1 : Cnf) (v1_1 : Value) (p1_1 : RSl Ha (eL eI 1) 1 v1_1 a1.clauses) (v2 : Value) (a2 : List PcStep) (p2 : RSl Ha ePcStep 6 v2 a2) (a3 : Int) (a4 : Int) {r : Bool} (hp : (PF.spec_l20Earlier a0 a1 a2 a3 a4) = some r) :
  Calls prog 228 #[vI a0, vA #[vI a1.vars, v1_1], v2, vI a3, vI a4] wa (Sc Ha wa (vB r)) := by
 unfold PF.spec_l20Earlier at hp; have S0 := St.init hs; refine calls_go (N := 26) (args := [vI a0, vA #[vI a1.vars, v1_1], v2, vI a3, vI a4]) func228 rfl rfl rfl ?_; refine FW.sr ?_; obtain ⟨b21, w22, run23, S24⟩ := S0.box (P := prog) 32 [vI a1.vars, v1_1] (v := vA #[vI a1.vars, v1_1]) rfl (oC rfl (oC p1_1.one ones_nil)); refine FL.v (E.box rfl run23) ?_; obtain ⟨H25, S26, i27, at28⟩ := S24.sealBox (i := 0) (l' := []) rfl rfl; refine FL.as (v := vB false) rfl ?_; refine FL.nil (FW.seq ?_); refine FW.draw (fun w' => Run w22.heap.size H25 w22 H25 w') (by kernel_rfl) (by kernel_rfl) (run_drew S26.sl) ?_; refine FD.v (fun _ z => (E.move (v := vI a4) rfl)) ?_; refine FD.v (fun _ z => (E.move (v := vI a3) rfl)) ?_; refine FD.v (fun _ z => (E.sub rfl rfl)) ?_; refine FD.call rfl rfl rfl (fun _ z => (E.call call153 (A3 rfl rfl rfl))) (fun _ z => Calls.cls z (w_spec_l1In (S26.call z).sl a4 0 (wr (a3 - 1)))) ?_; refine FD.v (fun _ z => (E.move (v := vB (PF.spec_l1In a4 0 (wr (a3 - 1)))) rfl)) ?_; obtain ⟨t42, hqt42, hp⟩ := bnd hp; refine FD.cut 10 (fun f => f 25 = vB t42) ?_ ?_
 ·
  clear hp; have hp := hqt42; clear hqt42; rcases ifB hp with ⟨c48, hp⟩ | ⟨c48, hp⟩
  ·
   refine FD.y (wY c48) (fun _ z => (E.move (v := vI a0) rfl)) ?_; refine FD.y (wY c48) (fun _ z => (E.fieldAddr tf32_0 rfl)) ?_; refine FD.y (wY c48) (fun _ z => (E.load rfl (run_load1 isAgg3 (at28.now (S26.call z).sl) rfl))) ?_; refine FD.y (wY c48) (fun _ z => (E.move (v := v2) rfl)) ?_; refine FD.y (wY c48) (fun _ z => (E.move (v := vI a4) rfl)) ?_; obtain ⟨x55, hx56, hp⟩ := bnd hp; obtain ⟨p49, cs50, pt51, l52, at53, rel54⟩ := p2.at hx56; obtain ⟨v57, rfl, h58⟩ := ePcStep_open rel54; refine FD.y (wY c48) (fun _ z => (E.indexAddr te36 rfl rfl pt51)) ?_; refine FD.y (wY c48) (fun _ z => (E.fieldAddr tf90_1 rfl)) ?_; refine FD.y (wY c48) (fun _ z => (E.load rfl (run_load1 isAgg55 ((at53.mono i27).now (S26.call z).sl) rfl))) ?_; obtain ⟨r59, hr60, hp⟩ := bnd hp; refine FD.call (wY c48) rfl rfl (fun _ z => (E.call call92 (A3 rfl rfl rfl))) (fun _ z => Calls.cls z (w_spec_l18Good (S26.call z).sl a0 a1.vars v57 x55.poly (h58.mono i27) hr60)) ?_; cases hp; refine FD.v (fun _ z => (E.pickT rfl c48 rfl)) ?_; exact FD.nil rfl
  ·
   refine FD.skip (wN c48) rfl ?_; refine FD.skip (wN c48) rfl ?_; refine FD.skip (wN c48) rfl ?_; refine FD.skip (wN c48) rfl ?_; refine FD.skip (wN c48) rfl ?_; refine FD.skip (wN c48) rfl ?_; refine FD.skip (wN c48) rfl ?_; refine FD.skip (wN c48) rfl ?_; refine FD.skip (wN c48) rfl ?_; cases hp; refine FD.v (fun _ z => (E.pickF rfl c48 rfl)) ?_; exact FD.nil rfl
 intro f47 k61; refine FD.v (fun _ z => (E.assign k61)) ?_; refine FD.nil ?_; intro w62 r64; have S63 := S26.call r64; refine FW.ret ?_; cases hp; exact ⟨.inr rfl, res1 rfl rfl ⟨rfl, S63.back⟩⟩

end Go.Proofs
