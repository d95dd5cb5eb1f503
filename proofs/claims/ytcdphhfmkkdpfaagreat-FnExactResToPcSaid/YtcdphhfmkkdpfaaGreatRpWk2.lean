/- Part of the walks and plain laws behind the claim: it proves helpers, under no condition beyond their own. -/
import Derived.Test.YtcdphhfmkkdpfaaGreatRpWk1
set_option linter.unusedVariables false
set_option maxRecDepth 100000
namespace Go.Proofs
open Go.Mr Go.Pu Go.PF Go.RowKit

@[reducible] def p_spec_l21Translate (Ha : GH) (wa : World) (r : l21Work) : Ending → World → Prop :=
  fun e w' => ∃ H' : GH, ∃ v0_0 : Value, ∃ v0_1 : Value, e = .returned (Value.agg #[v0_0, v0_1]) ∧ Run wa.heap.size Ha wa H' w' ∧ (∃ c, Nest (up wa.heap.size H') ePcStep 6 v0_0 r.pc c) ∧ RSl (up wa.heap.size H') eI 1 v0_1 r.to
set_option maxHeartbeats 4000000 in
theorem w_spec_l21Translate {Ha : GH} {wa : World} (hs : Sl Ha wa) (a0 : Int) (a1 : Cnf) (v1_1 : Value) (p1_1 : RSl Ha (eL eI 1) 1 v1_1 a1.clauses) (v2 : Value) (a2 : List ResStep) (p2 : RSl Ha eResStep 4 v2 a2) {r : l21Work} (hp : (PF.spec_l21Translate a0 a1 a2) = some r) :
    Calls Tryz.prog 98 #[Value.int .i64 a0, Value.agg #[Value.int .i64 a1.vars, v1_1], v2] wa (p_spec_l21Translate Ha wa r) := by
  unfold PF.spec_l21Translate at hp
  have S0 := St.init hs
  refine calls_go (N := 186) (args := [Value.int .i64 a0, Value.agg #[Value.int .i64 a1.vars, v1_1], v2]) Tryz.func98 rfl rfl rfl ?_
  refine FW.seq (FW.region ?_)
  obtain ⟨b21, w22, run23, S24⟩ := S0.box (P := Tryz.prog) 31 [Value.int .i64 a1.vars, v1_1] (v := Value.agg #[Value.int .i64 a1.vars, v1_1]) rfl (ones_cons rfl (ones_cons p1_1.one ones_nil))
  refine FL.v (E.box rfl run23) ?_
  obtain ⟨H25, S26, i27, at28⟩ := S24.sealBox (i := 0) (l' := []) rfl rfl
  obtain ⟨b29, w30, run31, S32⟩ := S26.alloc (P := Tryz.prog) 118 [Value.slice none 0 0, Value.slice none 0 0] Tryz.zeroValue118 rfl (ones_cons rfl (ones_cons rfl ones_nil))
  refine FL.v (E.alloc run31) ?_
  refine FL.nil (FW.seq (FW.region ?_))
  obtain ⟨v33, w34, run35, S36⟩ := S32.buildSlice (P := Tryz.prog) te55 [] (parts := #[]) (cells := []) rfl szs_nil fc_nil ones_nil (Nat.le_of_ble_eq_true rfl)
  have els37 : Els (up wa.heap.size H25) ePcStep 6 [] [] := Els.nil
  refine FL.v (E.buildSlice (B0) run35) ?_
  obtain ⟨v38, w39, run40, S41⟩ := S36.buildSlice (P := Tryz.prog) te39 [] (parts := #[]) (cells := []) rfl szs_nil fc_nil ones_nil (Nat.le_of_ble_eq_true rfl)
  have els42 : Els (up wa.heap.size H25) eI 1 [] [] := Els.nil
  refine FL.v (E.buildSlice (B0) run40) ?_
  refine FL.v (E.build (B2 rfl rfl) (run_build _ 118 #[(0, v33), (1, v38)] #[v33, v38] (by obtain ⟨_, _, rfl⟩ := S41.row_ln (i := 1) rfl; obtain ⟨_, _, rfl⟩ := S41.row_ln (i := 0) rfl; rfl))) ?_
  obtain ⟨b43, w44, run45, S46⟩ := S41.alloc (P := Tryz.prog) 118 [Value.slice none 0 0, Value.slice none 0 0] Tryz.zeroValue118 rfl (ones_cons rfl (ones_cons rfl ones_nil))
  refine FL.v (E.alloc run45) ?_
  obtain ⟨w47, run48, S49⟩ := S46.store0 (P := Tryz.prog) (t := 118) (i := 0) (cs' := [v33, v38]) (l' := [.box b43 118 [v33, v38], .row 3 1 v38 0 [], .row 129 6 v33 0 [], .box b29 118 [Value.slice none 0 0, Value.slice none 0 0]]) (v := Value.agg #[v33, v38]) (c := [v33, v38]) rfl Tryz.sizeOf118 rfl rfl (ones_cons (Ln.one (S46.row_ln (i := 2) rfl)) (ones_cons (Ln.one (S46.row_ln (i := 1) rfl)) ones_nil)) (Nat.le_of_ble_eq_true rfl) rfl rfl
  refine FL.act rfl rfl (E.store rfl rfl run48) ?_
  refine FL.nil (FW.seq (FW.seq (FW.region ?_)))
  refine FL.v (E.assign (v := Value.int .i64 0) rfl) ?_
  refine FL.nil ?_
  obtain ⟨q51, hq, hp⟩ := bndR hp
  refine FW.block ?_
  refine FW.mono (FW.forL (S := ((List Int) × (List PcStep))) (X := Empty) (fun (i51 : Nat) (s51 : ((List Int) × (List PcStep))) f w => ∃ H : GH, ∃ v52 : Value, ∃ n53 : Nat, ∃ cs54 : List Value, ∃ v57 : Value, ∃ n58 : Nat, ∃ cs59 : List Value, St Ha wa H w [.box b43 118 [v57, v52], .row 3 1 v52 n53 cs54, .row 129 6 v57 n58 cs59, .box b29 118 [Value.slice none 0 0, Value.slice none 0 0]] ∧ Inc H25 H ∧ Els (up wa.heap.size H) eI 1 cs54 s51.1 ∧ Els (up wa.heap.size H) ePcStep 6 cs59 s51.2 ∧ (bl cs59).Nodup ∧ f 8 = Value.int .i64 ((i51 : Nat) : Int) ∧ f 0 = Value.int .i64 a0 ∧ f 2 = v2 ∧ f 4 = Value.pointer (some ⟨b21, 0, none⟩) ∧ f 6 = Value.pointer (some (⟨b29, 0, none⟩ : Addr)) ∧ f 7 = Value.pointer (some (⟨b43, 0, none⟩ : Addr))) (fun (q : Rs ((List Int) × (List PcStep)) Empty) e f w => match q with | .go s51 => e = Exit.exit 0 ∧ (∃ H : GH, ∃ v52 : Value, ∃ n53 : Nat, ∃ cs54 : List Value, ∃ v57 : Value, ∃ n58 : Nat, ∃ cs59 : List Value, St Ha wa H w [.box b43 118 [v57, v52], .row 3 1 v52 n53 cs54, .row 129 6 v57 n58 cs59, .box b29 118 [Value.slice none 0 0, Value.slice none 0 0]] ∧ Inc H25 H ∧ Els (up wa.heap.size H) eI 1 cs54 s51.1 ∧ Els (up wa.heap.size H) ePcStep 6 cs59 s51.2 ∧ (bl cs59).Nodup ∧ f 6 = Value.pointer (some (⟨b29, 0, none⟩ : Addr)) ∧ f 7 = Value.pointer (some (⟨b43, 0, none⟩ : Addr))) | .rt x => x.elim) hq ⟨_, _, _, _, _, _, _, S49, (Inc.rfl _), els42, els37, (show (bl []).Nodup from List.nodup_nil), rfl, rfl, rfl, rfl, rfl, rfl⟩ ?_ ?_) ?_
  ·
    clear hp hq
    rintro i51 y50 s51 f66 w65 ⟨H62, v52, n53, cs54, v57, n58, cs59, S63, i64, els56, els60, nd61, k67, k68, k69, k70, k71, k72⟩ hx51 o667 hp
    refine FW.seq (FW.seq (FW.region ?_))
    refine FL.v (E.move k67) ?_
    refine FL.v (E.move k69) ?_
    refine FL.v (E.lenP te28 rfl p2) ?_
    refine FL.v (E.lssT rfl rfl (lss_len hx51)) ?_
    refine FL.nil ?_
    refine FW.condT rfl rfl ?_
    refine FW.skip (FW.seq (FW.block (FW.seq (FW.region ?_))))
    refine FL.v (E.move k69) ?_
    refine FL.v (E.move k67) ?_
    obtain ⟨p73, cs74, pt75, l76, at77, rel78⟩ := p2.at (ix_nat hx51)
    obtain ⟨v79, rfl, h80⟩ := eResStep_open rel78
    refine FL.v (E.indexAddr te28 rfl rfl pt75) ?_
    refine FL.v (E.load rfl (run_loadA Tryz.isAgg89 Tryz.sizeOf89 ((at77.mono (i27.tr i64)).now S63.sl) rfl)) ?_
    obtain ⟨b81, w82, run83, S84⟩ := S63.alloc (P := Tryz.prog) 89 [Value.slice none 0 0, Value.int .i64 0, Value.int .i64 0, Value.int .i64 0] Tryz.zeroValue89 rfl (ones_cons rfl (ones_cons rfl (ones_cons rfl (ones_cons rfl ones_nil))))
    refine FL.v (E.alloc run83) ?_
    obtain ⟨w85, run86, S87⟩ := S84.store0 (P := Tryz.prog) (t := 89) (i := 0) (cs' := [v79, Value.int .i64 y50.left, Value.int .i64 y50.right, Value.int .i64 y50.pivot]) (l' := [.box b81 89 [v79, Value.int .i64 y50.left, Value.int .i64 y50.right, Value.int .i64 y50.pivot], .box b43 118 [v57, v52], .row 3 1 v52 n53 cs54, .row 129 6 v57 n58 cs59, .box b29 118 [Value.slice none 0 0, Value.slice none 0 0]]) (v := Value.agg #[v79, Value.int .i64 y50.left, Value.int .i64 y50.right, Value.int .i64 y50.pivot]) (c := [v79, Value.int .i64 y50.left, Value.int .i64 y50.right, Value.int .i64 y50.pivot]) rfl Tryz.sizeOf89 rfl rfl (ones_cons h80.one (ones_cons rfl (ones_cons rfl (ones_cons rfl ones_nil)))) (Nat.le_of_ble_eq_true rfl) rfl rfl
    refine FL.act rfl rfl (E.store rfl rfl run86) ?_
    obtain ⟨H88, S90, i91, at92⟩ := S87.sealBox (i := 0) (l' := [.box b43 118 [v57, v52], .row 3 1 v52 n53 cs54, .row 129 6 v57 n58 cs59, .box b29 118 [Value.slice none 0 0, Value.slice none 0 0]]) rfl rfl
    refine FL.v (E.assign (v := Value.int .i64 0) rfl) ?_
    refine FL.nil (FW.seq (FW.block (FW.seq (FW.region ?_))))
    refine FL.v (E.fieldAddr tf89_1 rfl) ?_
    refine FL.v (E.load rfl (run_load1 Tryz.isAgg3 (at92.now S90.sl) rfl)) ?_
    refine FL.v (E.eql rfl rfl) ?_
    refine FL.v (E.assign (v := Value.bool (y50.left == (-1))) rfl) ?_
    refine FL.nil ?_
    rcases ifB hp with ⟨c93, hp⟩ | ⟨c93, hp⟩
    ·
      refine FW.condT rfl c93 ?_
      refine FW.seq ?_
      obtain ⟨r97, hr98, hp⟩ := bnd hp
      obtain ⟨xs119, hz120, hp⟩ := bnd hp
      refine FW.drawB (Sl H88) (fun f w => ∃ H : GH, ∃ v135 : Value, ∃ n136 : Nat, ∃ cs137 : List Value, St Ha wa H w [.box b43 118 [v135, v52], .row 3 1 v52 n53 cs54, .row 129 6 v135 n136 cs137, .box b29 118 [Value.slice none 0 0, Value.slice none 0 0]] ∧ Inc H88 H ∧ Els (up wa.heap.size H) ePcStep 6 cs137 xs119 ∧ (bl cs137).Nodup ∧ f 0 = Value.int .i64 a0 ∧ f 2 = v2 ∧ f 4 = Value.pointer (some ⟨b21, 0, none⟩) ∧ f 6 = Value.pointer (some (⟨b29, 0, none⟩ : Addr)) ∧ f 7 = Value.pointer (some (⟨b43, 0, none⟩ : Addr)) ∧ f 8 = Value.int .i64 ((i51 : Nat) : Int)) (by kernel_rfl) S90.sl ?_ ?_
      ·
        intro w94 r95
        have S96 := S90.call r95
        refine FB.phase [14] (fun w => WAt w (Addr.add ⟨b43, 0, none⟩ 0) [v57]) ?_
        refine FB.t (i := 0) (bs 15 1) rfl (SP.on ((S96.box_now (i := 0) rfl).sub (j := 0) (n := 1) (c := [v57]) rfl) (SP.nil S96.sl)) rfl (fun w' hw' => (E.fieldAddr tf118_0 k72)) ?_
        refine FB.p (i := 1) (bs 15 3) 0 [12, 13, 14] rfl (SP.on ((S96.box_now (i := 0) rfl).sub (j := 0) (n := 1) (c := [v57]) rfl) (SP.nil S96.sl)) rfl rfl (fun w' hw' => (E.load rfl (run_load0 Tryz.isAgg55 hw' rfl))) ?_
        refine FB.t (i := 2) (bs 15 7) rfl (SP.on ((S96.box_now (i := 0) rfl).sub (j := 0) (n := 1) (c := [v57]) rfl) (SP.nil S96.sl)) rfl (fun w' hw' => (E.move k68)) ?_
        refine FB.t (i := 3) (bs 15 15) rfl (SP.on ((S96.box_now (i := 0) rfl).sub (j := 0) (n := 1) (c := [v57]) rfl) (SP.nil S96.sl)) rfl (fun w' hw' => (E.fieldAddr tf31_0 k70)) ?_
        refine FB.t (i := 4) (bs 15 31) rfl (SP.on ((S96.box_now (i := 0) rfl).sub (j := 0) (n := 1) (c := [v57]) rfl) (SP.nil S96.sl)) rfl (fun w' hw' => (E.load rfl (run_load1 Tryz.isAgg3 ((at28.mono (i64.tr i91)).now hw') rfl))) ?_
        refine FB.t (i := 5) (bs 15 63) rfl (SP.on ((S96.box_now (i := 0) rfl).sub (j := 0) (n := 1) (c := [v57]) rfl) (SP.nil S96.sl)) rfl (fun w' hw' => (E.fieldAddr tf89_0 rfl)) ?_
        refine FB.t (i := 6) (bs 15 127) rfl (SP.on ((S96.box_now (i := 0) rfl).sub (j := 0) (n := 1) (c := [v57]) rfl) (SP.nil S96.sl)) rfl (fun w' hw' => (E.load rfl (run_load1 Tryz.isAgg39 (at92.now hw') rfl))) ?_
        refine FB.t (i := 8) (bs 15 383) rfl (SP.on ((S96.box_now (i := 0) rfl).sub (j := 0) (n := 1) (c := [v57]) rfl) (SP.nil S96.sl)) rfl (fun w' hw' => (E.fieldAddr tf89_2 rfl)) ?_
        refine FB.t (i := 9) (bs 15 895) rfl (SP.on ((S96.box_now (i := 0) rfl).sub (j := 0) (n := 1) (c := [v57]) rfl) (SP.nil S96.sl)) rfl (fun w' hw' => (E.load rfl (run_load1 Tryz.isAgg3 (at92.now hw') rfl))) ?_
        refine FB.all1 (i := 7) (by kernel_rfl) ?_
        ·
          refine FC.call (l' := (bs 15 1023)) rfl (by kernel_rfl) rfl rfl rfl (E.call Tryz.call104 (A3 rfl rfl rfl)) (w_spec_l18Clause S96.sl a0 a1.vars v79 y50.clause (h80.mono ((i27.tr i64).tr i91)) hr98) ?_
          rintro e w100 ⟨H99, v103, n104, cs105, rfl, r102, els106⟩
          refine ⟨_, rfl, ?_⟩
          have els106 := els106.mono (up_le S96.size)
          have S101 := S96.join (l' := [.row 147 2 v103 n104 cs105, .box b43 118 [v57, v52], .row 3 1 v52 n53 cs54, .row 129 6 v57 n58 cs59, .box b29 118 [Value.slice none 0 0, Value.slice none 0 0]]) r102 rfl
          refine ⟨(SP.on ((S101.box_now (i := 1) rfl).sub (j := 0) (n := 1) (c := [v57]) rfl) (SP.nil (Sl.of_inc r102.run.inc S101.sl))), ?_⟩
          obtain ⟨H107, S108, i109, h110, nv111⟩ := S101.sealRowU (i := 0) (l' := [.box b43 118 [v57, v52], .row 3 1 v52 n53 cs54, .row 129 6 v57 n58 cs59, .box b29 118 [Value.slice none 0 0, Value.slice none 0 0]]) rfl els106 (by decide) rfl
          refine FB.t (i := 10) (bs 15 2047) rfl (SP.on ((S101.box_now (i := 1) rfl).sub (j := 0) (n := 1) (c := [v57]) rfl) (SP.nil (Sl.of_inc r102.run.inc S101.sl))) rfl (fun w' hw' => (E.build (B3 rfl rfl rfl) (run_build _ 129 #[(0, Value.int .i64 1), (1, v103), (2, Value.int .i64 y50.right)] #[Value.int .i64 1, v103, Value.int .i64 y50.right, Value.int .i64 0, Value.int .i64 0, Value.int .i64 0] (by obtain ⟨_, _, rfl⟩ := RSl.ln (h110.mono upI); rfl)))) ?_
          refine FB.all1 (i := 11) (by kernel_rfl) ?_
          ·
            obtain ⟨v112, w113, run114, S115⟩ := S108.buildSlice (P := Tryz.prog) te55 [Value.agg #[Value.int .i64 1, v103, Value.int .i64 y50.right, Value.int .i64 0, Value.int .i64 0, Value.int .i64 0]] (parts := #[(0, Value.agg #[Value.int .i64 1, v103, Value.int .i64 y50.right, Value.int .i64 0, Value.int .i64 0, Value.int .i64 0])]) (cells := [Value.int .i64 1, v103, Value.int .i64 y50.right, Value.int .i64 0, Value.int .i64 0, Value.int .i64 0]) rfl (szs_cons rfl szs_nil) (fc_cons rfl fc_nil) (ones_cons rfl (ones_cons h110.one (ones_cons rfl (ones_cons rfl (ones_cons rfl (ones_cons rfl ones_nil)))))) (Nat.le_of_ble_eq_true rfl)
            have els116 : Els (up wa.heap.size H107) ePcStep 6 [Value.int .i64 1, v103, Value.int .i64 y50.right, Value.int .i64 0, Value.int .i64 0, Value.int .i64 0] [(PcStep.mk 1 r97 y50.right 0 0 0)] := (Els.snoc (H := (up wa.heap.size H107)) (E := ePcStep) (k := 6) (c := [Value.int .i64 1, v103, Value.int .i64 y50.right, Value.int .i64 0, Value.int .i64 0, Value.int .i64 0]) (x := (PcStep.mk 1 r97 y50.right 0 0 0)) Els.nil rfl ⟨_, rfl, h110⟩)
            have nd117 : (bl [Value.int .i64 1, v103, Value.int .i64 y50.right, Value.int .i64 0, Value.int .i64 0, Value.int .i64 0]).Nodup := by exact nd_one v103
            refine FC.val (l' := (bs 15 4095)) rfl (by kernel_rfl) rfl rfl rfl (E.buildSlice (B1 rfl) run114) ?_
            refine ⟨(SP.on ((S115.box_now (i := 1) rfl).sub (j := 0) (n := 1) (c := [v57]) rfl) (SP.nil (Sl.of_inc (r102.run.inc.tr i109) S115.sl))), ?_⟩
            refine FB.all1 (i := 12) (by kernel_rfl) ?_
            ·
              obtain ⟨v121, w124, n122, cs123, run125, S126, els127, ce128⟩ := S115.appendO (P := Tryz.prog) te55 (i := 3) (j := 0) rfl (els60.mono (up_mono ((i91.tr r102.run.inc).tr i109))) rfl els116 hz120
              have S126 : St Ha wa H107 w124 [.row 129 6 v112 1 [Value.int .i64 1, v103, Value.int .i64 y50.right, Value.int .i64 0, Value.int .i64 0, Value.int .i64 0], .box b43 118 [v57, v52], .row 3 1 v52 n53 cs54, .row 129 6 v121 n122 cs123, .box b29 118 [Value.slice none 0 0, Value.slice none 0 0]] := S126
              have nd130 : (bl cs123).Nodup := by rw [ce128]; exact nd_app nd61 nd117 (Els.dom (els60.mono (upI.tr (i91.tr r102.run.inc)))) (by exact nv111)
              have S131 : St Ha wa H107 w124 [.box b43 118 [v57, v52], .row 3 1 v52 n53 cs54, .row 129 6 v121 n122 cs123, .box b29 118 [Value.slice none 0 0, Value.slice none 0 0]] := S126.drop 0
              refine FC.val (l' := (bs 15 8191)) rfl (by kernel_rfl) rfl rfl rfl (E.append rfl rfl run125) ?_
              refine ⟨(SP.on ((S131.box_now (i := 0) rfl).sub (j := 0) (n := 1) (c := [v57]) rfl) (SP.nil (Sl.of_inc (r102.run.inc.tr i109) S131.sl))), ?_⟩
              refine FB.t (i := 13) (bs 15 16383) rfl (SP.on ((S131.box_now (i := 0) rfl).sub (j := 0) (n := 1) (c := [v57]) rfl) (SP.nil (Sl.of_inc (r102.run.inc.tr i109) S131.sl))) rfl (fun w' hw' => (E.fieldAddr tf118_0 k72)) ?_
              refine FB.all1 (i := 14) (by kernel_rfl) ?_
              ·
                obtain ⟨w132, run133, S134⟩ := S131.store (P := Tryz.prog) (t := 55) (i := 0) (j := 0) (cs' := [v121, v52]) (l' := [.box b43 118 [v121, v52], .row 3 1 v52 n53 cs54, .row 129 6 v121 n122 cs123, .box b29 118 [Value.slice none 0 0, Value.slice none 0 0]]) (v := v121) (c := [v121]) rfl Tryz.sizeOf55 (Ln.cells (S131.row_ln (i := 2) rfl)) rfl (ones_cons (Ln.one (S131.row_ln (i := 2) rfl)) ones_nil) (Nat.le_of_ble_eq_true rfl) rfl rfl
                refine FC.act (l' := (bs 15 32767)) rfl (by kernel_rfl) rfl rfl (E.store rfl rfl run133) ?_
                refine ⟨(SP.o (SP.nil (Sl.of_inc (r102.run.inc.tr i109) S134.sl))), ?_⟩
                exact FB.done (by kernel_rfl) ⟨_, _, _, _, S134, (r102.run.inc.tr i109), els127, nd130, k68, k69, k70, k71, k72, k67⟩
      ·
        rintro f144 w143 ⟨H140, v135, n136, cs137, S141, i142, els138, nd139, k145, k146, k147, k148, k149, k150⟩
        refine FW.region ?_
        refine FL.v (E.fieldAddr tf118_0 k149) ?_
        refine FL.v (E.load rfl (run_load1 Tryz.isAgg55 (S141.box_now (i := 0) rfl) rfl)) ?_
        refine FL.v (E.lenO te55 rfl S141 (i := 2) rfl els138 (by decide)) ?_
        refine FL.v (E.sub rfl rfl) ?_
        refine FL.v (E.assign (v := Value.int .i64 (wr ((len xs119) - 1))) rfl) ?_
        refine FL.nil (FW.region ?_)
        refine FL.v (E.fieldAddr tf118_1 k149) ?_
        refine FL.v (E.load rfl (run_load1 Tryz.isAgg39 (S141.box_now (i := 0) rfl) rfl)) ?_
        refine FL.v (E.move (v := Value.int .i64 (wr ((len xs119) - 1))) rfl) ?_
        obtain ⟨v151, w152, run153, S154⟩ := S141.buildSlice (P := Tryz.prog) te39 [Value.int .i64 (wr ((len xs119) - 1))] (parts := #[(0, Value.int .i64 (wr ((len xs119) - 1)))]) (cells := [Value.int .i64 (wr ((len xs119) - 1))]) rfl (szs_cons rfl szs_nil) (fc_cons rfl fc_nil) (ones_cons rfl ones_nil) (Nat.le_of_ble_eq_true rfl)
        have els155 : Els (up wa.heap.size H140) eI 1 [Value.int .i64 (wr ((len xs119) - 1))] [(wr ((len xs119) - 1))] := (Els.snoc (H := (up wa.heap.size H140)) (E := eI) (k := 1) (c := [Value.int .i64 (wr ((len xs119) - 1))]) (x := (wr ((len xs119) - 1))) Els.nil rfl rfl)
        refine FL.v (E.buildSlice (B1 rfl) run153) ?_
        obtain ⟨xs156, hz157, hp⟩ := bnd hp
        obtain ⟨v158, w161, n159, cs160, run162, S163, els164, ce165⟩ := S154.appendO (P := Tryz.prog) te39 (i := 2) (j := 0) rfl (els56.mono (up_mono (i91.tr i142))) rfl els155 hz157
        have S163 : St Ha wa H140 w161 [.row 3 1 v151 1 [Value.int .i64 (wr ((len xs119) - 1))], .box b43 118 [v135, v52], .row 3 1 v158 n159 cs160, .row 129 6 v135 n136 cs137, .box b29 118 [Value.slice none 0 0, Value.slice none 0 0]] := S163
        have S166 : St Ha wa H140 w161 [.box b43 118 [v135, v52], .row 3 1 v158 n159 cs160, .row 129 6 v135 n136 cs137, .box b29 118 [Value.slice none 0 0, Value.slice none 0 0]] := S163.drop 0
        refine FL.v (E.append rfl rfl run162) ?_
        refine FL.v (E.fieldAddr tf118_1 k149) ?_
        obtain ⟨w167, run168, S169⟩ := S166.store (P := Tryz.prog) (t := 39) (i := 0) (j := 1) (cs' := [v135, v158]) (l' := [.box b43 118 [v135, v158], .row 3 1 v158 n159 cs160, .row 129 6 v135 n136 cs137, .box b29 118 [Value.slice none 0 0, Value.slice none 0 0]]) (v := v158) (c := [v158]) rfl Tryz.sizeOf39 (Ln.cells (S166.row_ln (i := 1) rfl)) rfl (ones_cons (Ln.one (S166.row_ln (i := 1) rfl)) ones_nil) (Nat.le_of_ble_eq_true rfl) rfl rfl
        refine FL.act rfl rfl (E.store rfl rfl run168) ?_
        refine FL.nil (FW.region ?_)
        refine FL.v (E.move k150) ?_
        refine FL.v (E.add rfl rfl) ?_
        refine FL.v (E.assign (v := Value.int .i64 (wr (((i51 : Nat) : Int) + 1))) rfl) ?_
        refine FL.nil ?_
        obtain rfl := Option.some.inj hp
        exact ⟨rfl, ⟨_, _, _, _, _, _, _, S169, ((i64.tr i91).tr i142), els164, els138, nd139, (nat_succ rfl (lt_of_get hx51) (p2.mono (((i27.tr i64).tr i91).tr i142)).le), k145, k146, k147, k148, k149⟩⟩
    ·
      refine FW.condF rfl c93 ?_
      refine FW.seq (FW.region ?_)
      refine FL.v (E.fieldAddr tf89_2 rfl) ?_
      refine FL.v (E.load rfl (run_load1 Tryz.isAgg3 (at92.now S90.sl) rfl)) ?_
      refine FL.v (E.eql rfl rfl) ?_
      refine FL.v (E.assign (v := Value.bool (y50.right == (-1))) rfl) ?_
      refine FL.nil ?_
      rcases ifB hp with ⟨c170, hp⟩ | ⟨c170, hp⟩
      ·
        refine FW.condT rfl c170 ?_
        refine FW.seq ?_
        obtain ⟨x180, hx181, hp⟩ := bnd hp
        obtain ⟨x189, hx190, hp⟩ := bnd hp
        obtain ⟨s365, hq365, hp⟩ := bnd hp
        refine FW.drawB (SX Ha wa H88 [.row 3 1 v52 n53 cs54]) (fun f w => ∃ H : GH, ∃ v196 : Value, ∃ n197 : Nat, ∃ cs198 : List Value, St Ha wa H w [.box b43 118 [v196, v52], .row 3 1 v52 n53 cs54, .row 129 6 v196 n197 cs198, .box b29 118 [Value.slice none 0 0, Value.slice none 0 0]] ∧ Inc H88 H ∧ Els (up wa.heap.size H) ePcStep 6 cs198 s365.1 ∧ (bl cs198).Nodup ∧ f 0 = Value.int .i64 a0 ∧ f 2 = v2 ∧ f 4 = Value.pointer (some ⟨b21, 0, none⟩) ∧ f 6 = Value.pointer (some (⟨b29, 0, none⟩ : Addr)) ∧ f 7 = Value.pointer (some (⟨b43, 0, none⟩ : Addr)) ∧ f 8 = Value.int .i64 ((i51 : Nat) : Int) ∧ f 9 = Value.pointer (some ⟨b81, 0, none⟩) ∧ f 10 = Value.int .i64 s365.2) (by kernel_rfl) S90.sl ?_ ?_
        ·
          intro w171 r172
          have S173 := S90.call r172
          refine FB.phase [] (fun w => WAt w (Addr.add ⟨b43, 0, none⟩ 1) [v52]) ?_
          refine FB.phase [22] (fun w => WAt w (⟨b43, 0, none⟩ : Addr) [v57, v52]) ?_
          refine FB.t (i := 0) (bs 24 1) rfl (SP.on (S173.box_now (i := 0) rfl) (SP.on ((S173.box_now (i := 0) rfl).sub (j := 1) (n := 1) (c := [v52]) rfl) (SP.nil ⟨_, (S173.sel [1] (by decide) rfl), (Inc.rfl _)⟩))) rfl (fun w' hw' => (E.move k68)) ?_
          refine FB.t (i := 1) (bs 24 3) rfl (SP.on (S173.box_now (i := 0) rfl) (SP.on ((S173.box_now (i := 0) rfl).sub (j := 1) (n := 1) (c := [v52]) rfl) (SP.nil ⟨_, (S173.sel [1] (by decide) rfl), (Inc.rfl _)⟩))) rfl (fun w' hw' => (E.fieldAddr tf31_0 k70)) ?_
          refine FB.t (i := 2) (bs 24 7) rfl (SP.on (S173.box_now (i := 0) rfl) (SP.on ((S173.box_now (i := 0) rfl).sub (j := 1) (n := 1) (c := [v52]) rfl) (SP.nil ⟨_, (S173.sel [1] (by decide) rfl), (Inc.rfl _)⟩))) rfl (fun w' hw' => (E.load rfl (run_load1 Tryz.isAgg3 ((at28.mono (i64.tr i91)).now hw'.sl) rfl))) ?_
          refine FB.p (i := 3) (bs 24 15) 0 [18, 19, 20, 21, 22, 23] rfl (SP.on (S173.box_now (i := 0) rfl) (SP.on ((S173.box_now (i := 0) rfl).sub (j := 1) (n := 1) (c := [v52]) rfl) (SP.nil ⟨_, (S173.sel [1] (by decide) rfl), (Inc.rfl _)⟩))) rfl rfl (fun w' hw' => (E.load k72 (run_loadA Tryz.isAgg118 Tryz.sizeOf118 hw' rfl))) ?_
          refine FB.t (i := 4) (bs 24 31) rfl (SP.on (S173.box_now (i := 0) rfl) (SP.on ((S173.box_now (i := 0) rfl).sub (j := 1) (n := 1) (c := [v52]) rfl) (SP.nil ⟨_, (S173.sel [1] (by decide) rfl), (Inc.rfl _)⟩))) rfl (fun w' hw' => (E.fieldAddr tf118_1 k72)) ?_
          refine FB.p (i := 5) (bs 24 63) 1 [8, 9, 18, 19, 20, 21, 22, 23] rfl (SP.on (S173.box_now (i := 0) rfl) (SP.on ((S173.box_now (i := 0) rfl).sub (j := 1) (n := 1) (c := [v52]) rfl) (SP.nil ⟨_, (S173.sel [1] (by decide) rfl), (Inc.rfl _)⟩))) rfl rfl (fun w' hw' => (E.load rfl (run_load0 Tryz.isAgg39 hw' rfl))) ?_
          refine FB.t (i := 6) (bs 24 127) rfl (SP.on (S173.box_now (i := 0) rfl) (SP.on ((S173.box_now (i := 0) rfl).sub (j := 1) (n := 1) (c := [v52]) rfl) (SP.nil ⟨_, (S173.sel [1] (by decide) rfl), (Inc.rfl _)⟩))) rfl (fun w' hw' => (E.fieldAddr tf89_1 rfl)) ?_
          refine FB.t (i := 7) (bs 24 255) rfl (SP.on (S173.box_now (i := 0) rfl) (SP.on ((S173.box_now (i := 0) rfl).sub (j := 1) (n := 1) (c := [v52]) rfl) (SP.nil ⟨_, (S173.sel [1] (by decide) rfl), (Inc.rfl _)⟩))) rfl (fun w' hw' => (E.load rfl (run_load1 Tryz.isAgg3 (at92.now hw'.sl) rfl))) ?_
          obtain ⟨p174, cs175, pt176, l177, at178, rel179, hall182⟩ := S173.row_atA (i := 1) rfl els56 (by decide) hx181
          obtain rfl := eI_open rel179
          refine FB.t (i := 8) (bs 24 511) rfl (SP.on (S173.box_now (i := 0) rfl) (SP.on ((S173.box_now (i := 0) rfl).sub (j := 1) (n := 1) (c := [v52]) rfl) (SP.nil ⟨_, (S173.sel [1] (by decide) rfl), (Inc.rfl _)⟩))) rfl (fun w' hw' => (E.indexAddr te39 rfl rfl pt176)) ?_
          refine FB.t (i := 9) (bs 24 1023) rfl (SP.on (S173.box_now (i := 0) rfl) (SP.on ((S173.box_now (i := 0) rfl).sub (j := 1) (n := 1) (c := [v52]) rfl) (SP.nil ⟨_, (S173.sel [1] (by decide) rfl), (Inc.rfl _)⟩))) rfl (fun w' hw' => (E.load rfl (run_load0 Tryz.isAgg3 (hw'.use fun _ st => hall182 _ _ _ 0 st rfl) rfl))) ?_
          refine FB.t (i := 10) (bs 24 2047) rfl (SP.on (S173.box_now (i := 0) rfl) (SP.on ((S173.box_now (i := 0) rfl).sub (j := 1) (n := 1) (c := [v52]) rfl) (SP.nil ⟨_, (S173.sel [1] (by decide) rfl), (Inc.rfl _)⟩))) rfl (fun w' hw' => (E.move k69)) ?_
          refine FB.t (i := 11) (bs 24 4095) rfl (SP.on (S173.box_now (i := 0) rfl) (SP.on ((S173.box_now (i := 0) rfl).sub (j := 1) (n := 1) (c := [v52]) rfl) (SP.nil ⟨_, (S173.sel [1] (by decide) rfl), (Inc.rfl _)⟩))) rfl (fun w' hw' => (E.fieldAddr tf89_1 rfl)) ?_
          refine FB.t (i := 12) (bs 24 8191) rfl (SP.on (S173.box_now (i := 0) rfl) (SP.on ((S173.box_now (i := 0) rfl).sub (j := 1) (n := 1) (c := [v52]) rfl) (SP.nil ⟨_, (S173.sel [1] (by decide) rfl), (Inc.rfl _)⟩))) rfl (fun w' hw' => (E.load rfl (run_load1 Tryz.isAgg3 (at92.now hw'.sl) rfl))) ?_
          obtain ⟨p183, cs184, pt185, l186, at187, rel188⟩ := p2.at hx190
          obtain ⟨v191, rfl, h192⟩ := eResStep_open rel188
          refine FB.t (i := 13) (bs 24 16383) rfl (SP.on (S173.box_now (i := 0) rfl) (SP.on ((S173.box_now (i := 0) rfl).sub (j := 1) (n := 1) (c := [v52]) rfl) (SP.nil ⟨_, (S173.sel [1] (by decide) rfl), (Inc.rfl _)⟩))) rfl (fun w' hw' => (E.indexAddr te28 rfl rfl pt185)) ?_
          refine FB.t (i := 14) (bs 24 32767) rfl (SP.on (S173.box_now (i := 0) rfl) (SP.on ((S173.box_now (i := 0) rfl).sub (j := 1) (n := 1) (c := [v52]) rfl) (SP.nil ⟨_, (S173.sel [1] (by decide) rfl), (Inc.rfl _)⟩))) rfl (fun w' hw' => (E.fieldAddr tf89_0 rfl)) ?_
          refine FB.t (i := 15) (bs 24 65535) rfl (SP.on (S173.box_now (i := 0) rfl) (SP.on ((S173.box_now (i := 0) rfl).sub (j := 1) (n := 1) (c := [v52]) rfl) (SP.nil ⟨_, (S173.sel [1] (by decide) rfl), (Inc.rfl _)⟩))) rfl (fun w' hw' => (E.load rfl (run_load1 Tryz.isAgg39 ((at187.mono ((i27.tr i64).tr i91)).now hw'.sl) rfl))) ?_
          refine FB.t (i := 16) (bs 24 131071) rfl (SP.on (S173.box_now (i := 0) rfl) (SP.on ((S173.box_now (i := 0) rfl).sub (j := 1) (n := 1) (c := [v52]) rfl) (SP.nil ⟨_, (S173.sel [1] (by decide) rfl), (Inc.rfl _)⟩))) rfl (fun w' hw' => (E.fieldAddr tf89_0 rfl)) ?_
          refine FB.t (i := 17) (bs 24 262143) rfl (SP.on (S173.box_now (i := 0) rfl) (SP.on ((S173.box_now (i := 0) rfl).sub (j := 1) (n := 1) (c := [v52]) rfl) (SP.nil ⟨_, (S173.sel [1] (by decide) rfl), (Inc.rfl _)⟩))) rfl (fun w' hw' => (E.load rfl (run_load1 Tryz.isAgg39 (at92.now hw'.sl) rfl))) ?_
          refine FB.all1 (i := 18) (by kernel_rfl) ?_
          ·
            obtain ⟨R365, hR365⟩ : ∃ R365 : ((List PcStep) × Int) → Ending → World → Prop, R365 = (fun s365 e w => ∃ H : GH, ∃ v366 : Value, ∃ n367 : Nat, ∃ cs368 : List Value, e = Ending.returned (Value.tuple #[Value.agg #[v366, v52], Value.int .i64 s365.2]) ∧ St Ha wa H w [.box b43 118 [v57, v52], .row 3 1 v52 n53 cs54, .row 129 6 v366 n367 cs368, .box b29 118 [Value.slice none 0 0, Value.slice none 0 0]] ∧ Inc H88 H ∧ Els (up wa.heap.size H) ePcStep 6 cs368 s365.1 ∧ (bl cs368).Nodup) := ⟨_, rfl⟩
            have hc365 : Calls Tryz.prog 167 #[Value.int .i64 a0, Value.int .i64 a1.vars, Value.agg #[v57, v52], Value.int .i64 x180, v191, v79, Value.int .i64 0] w171 (R365 s365) := by
              clear hp; have hp := hq365; clear hq365
              refine calls_go (N := 97) (args := [Value.int .i64 a0, Value.int .i64 a1.vars, Value.agg #[v57, v52], Value.int .i64 x180, v191, v79, Value.int .i64 0]) Tryz.func167 rfl rfl rfl ?_
              refine FW.seq (FW.region ?_)
              obtain ⟨b371, w372, run373, S374⟩ := S173.box (P := Tryz.prog) 118 [v57, v52] (v := Value.agg #[v57, v52]) rfl (ones_cons (Ln.one (S173.row_ln (i := 2) rfl)) (ones_cons (Ln.one (S173.row_ln (i := 1) rfl)) ones_nil))
              refine FL.v (E.box rfl run373) ?_
              obtain ⟨b375, w376, run377, S378⟩ := S374.alloc (P := Tryz.prog) 118 [Value.slice none 0 0, Value.slice none 0 0] Tryz.zeroValue118 rfl (ones_cons rfl (ones_cons rfl ones_nil))
              refine FL.v (E.alloc run377) ?_
              refine FL.v (E.assign (v := Value.int .i64 0) rfl) ?_
              refine FL.nil (FW.seq (FW.seq (FW.region ?_)))
              refine FL.v (E.assign (v := Value.int .i64 0) rfl) ?_
              refine FL.nil ?_
              obtain ⟨q380, hq, hp⟩ := bndR hp
              refine FW.block ?_
              refine FW.mono (FW.forL (S := ((List PcStep) × Int)) (X := Empty) (fun (i380 : Nat) (s380 : ((List PcStep) × Int)) f w => ∃ H : GH, ∃ v437 : Value, ∃ n438 : Nat, ∃ cs439 : List Value, St Ha wa H w [.box b375 118 [Value.slice none 0 0, Value.slice none 0 0], .box b371 118 [v437, v52], .box b43 118 [v57, v52], .row 3 1 v52 n53 cs54, .row 129 6 v437 n438 cs439, .box b29 118 [Value.slice none 0 0, Value.slice none 0 0]] ∧ Inc H88 H ∧ Els (up wa.heap.size H) ePcStep 6 cs439 s380.1 ∧ (bl cs439).Nodup ∧ f 16 = Value.int .i64 ((i380 : Nat) : Int) ∧ f 0 = Value.int .i64 a0 ∧ f 1 = Value.int .i64 a1.vars ∧ f 3 = Value.int .i64 s380.2 ∧ f 4 = v191 ∧ f 5 = v79 ∧ f 6 = Value.int .i64 0 ∧ f 9 = Value.pointer (some (⟨b371, 0, none⟩ : Addr)) ∧ f 14 = Value.pointer (some (⟨b375, 0, none⟩ : Addr))) (fun (q : Rs ((List PcStep) × Int) Empty) e f w => match q with | .go s380 => e = Exit.exit 0 ∧ (∃ H : GH, ∃ v437 : Value, ∃ n438 : Nat, ∃ cs439 : List Value, St Ha wa H w [.box b375 118 [Value.slice none 0 0, Value.slice none 0 0], .box b371 118 [v437, v52], .box b43 118 [v57, v52], .row 3 1 v52 n53 cs54, .row 129 6 v437 n438 cs439, .box b29 118 [Value.slice none 0 0, Value.slice none 0 0]] ∧ Inc H88 H ∧ Els (up wa.heap.size H) ePcStep 6 cs439 s380.1 ∧ (bl cs439).Nodup ∧ f 3 = Value.int .i64 s380.2 ∧ f 9 = Value.pointer (some (⟨b371, 0, none⟩ : Addr)) ∧ f 14 = Value.pointer (some (⟨b375, 0, none⟩ : Addr))) | .rt x => x.elim) hq ⟨_, _, _, _, S378, (Inc.rfl _), (els60.mono (up_mono i91)), nd61, rfl, rfl, rfl, rfl, rfl, rfl, rfl, rfl, rfl⟩ ?_ ?_) ?_
              ·
                clear hp hq
                rintro i380 y379 s380 f517 w516 ⟨H513, v437, n438, cs439, S514, i515, els440, nd441, k518, k519, k520, k521, k522, k523, k524, k525, k526⟩ hx380 o779 hp
                refine FW.seq (FW.seq (FW.region ?_))
                refine FL.v (E.move k518) ?_
                refine FL.v (E.move k523) ?_
                refine FL.v (E.lenP te39 rfl h80) ?_
                refine FL.v (E.lssT rfl rfl (lss_len hx380)) ?_
                refine FL.nil ?_
                refine FW.condT rfl rfl ?_
                refine FW.skip (FW.seq (FW.block (FW.seq (FW.seq (FW.region ?_)))))
                refine FL.v (E.move k522) ?_
                refine FL.v (E.move k523) ?_
                refine FL.v (E.move k518) ?_
                obtain ⟨p527, cs528, pt529, l530, at531, rel532⟩ := h80.at (ix_nat hx380)
                obtain rfl := eI_open rel532
                refine FL.v (E.indexAddr te39 rfl rfl pt529) ?_
                refine FL.v (E.load rfl (run_load0 Tryz.isAgg3 ((at531.mono (((i27.tr i64).tr i91).tr i515)).now S514.sl) rfl)) ?_
                obtain ⟨r533, hr534, hp⟩ := bnd hp
                refine FL.call rfl rfl rfl (E.call Tryz.call198 (A2 rfl rfl)) (w_spec_l2Has S514.sl v191 x189.clause (h192.mono (((i27.tr i64).tr i91).tr i515)) y379 hr534) ?_
                rintro e w535 ⟨rfl, r536⟩
                refine ⟨_, rfl, ?_⟩
                have S537 := S514.call r536
                refine FL.v (E.move (v := Value.bool r533) rfl) ?_
                refine FL.cut 8 (fun f w => ∃ H : GH, St Ha wa H w [.box b375 118 [Value.slice none 0 0, Value.slice none 0 0], .box b371 118 [v437, v52], .box b43 118 [v57, v52], .row 3 1 v52 n53 cs54, .row 129 6 v437 n438 cs439, .box b29 118 [Value.slice none 0 0, Value.slice none 0 0]] ∧ Inc H513 H ∧ f 0 = Value.int .i64 a0 ∧ f 1 = Value.int .i64 a1.vars ∧ f 3 = Value.int .i64 s380.2 ∧ f 4 = v191 ∧ f 5 = v79 ∧ f 6 = Value.int .i64 0 ∧ f 9 = Value.pointer (some (⟨b371, 0, none⟩ : Addr)) ∧ f 14 = Value.pointer (some (⟨b375, 0, none⟩ : Addr)) ∧ f 16 = Value.int .i64 ((i380 : Nat) : Int) ∧ f 40 = Value.bool (bif r533 then true else ((PF.spec_l2Var y379) == 0))) ?_ ?_
                ·
                  rcases bcase r533 with c543 | c543
                  ·
                    refine FL.skip (wF_no rfl rfl rfl c543) rfl ?_
                    refine FL.skip (wF_no rfl rfl rfl c543) rfl ?_
                    refine FL.skip (wF_no rfl rfl rfl c543) rfl ?_
                    refine FL.skip (wF_no rfl rfl rfl c543) rfl ?_
                    refine FL.skip (wF_no rfl rfl rfl c543) rfl ?_
                    refine FL.skip (wF_no rfl rfl rfl c543) rfl ?_
                    refine FL.skip (wF_no rfl rfl rfl c543) rfl ?_
                    refine FL.v (E.pickT rfl c543 rfl) ?_
                    exact FL.nil ⟨rfl, _, S537, (Inc.rfl _), k519, k520, k521, k522, k523, k524, k525, k526, k518, (congrArg Value.bool (bifT c543).symm)⟩
                  ·
                    refine FL.val (wF_yes rfl rfl rfl c543) rfl rfl (E.move k523) ?_
                    refine FL.val (wF_yes rfl rfl rfl c543) rfl rfl (E.move k518) ?_
                    obtain ⟨p544, cs545, pt546, l547, at548, rel549⟩ := h80.at (ix_nat hx380)
                    obtain rfl := eI_open rel549
                    refine FL.val (wF_yes rfl rfl rfl c543) rfl rfl (E.indexAddr te39 rfl rfl pt546) ?_
                    refine FL.val (wF_yes rfl rfl rfl c543) rfl rfl (E.load rfl (run_load0 Tryz.isAgg3 ((at548.mono (((i27.tr i64).tr i91).tr i515)).now S537.sl) rfl)) ?_
                    refine FL.call (wF_yes rfl rfl rfl c543) rfl rfl (E.call Tryz.call171 (A1 rfl)) (w_spec_l2Var S537.sl y379) ?_
                    rintro e w550 ⟨rfl, r551⟩
                    refine ⟨_, rfl, ?_⟩
                    have S552 := S537.call r551
                    refine FL.val (wF_yes rfl rfl rfl c543) rfl rfl (E.move k524) ?_
                    refine FL.val (wF_yes rfl rfl rfl c543) rfl rfl (E.eql rfl rfl) ?_
                    refine FL.v (E.pickF rfl c543 rfl) ?_
                    exact FL.nil ⟨rfl, _, S552, (Inc.rfl _), k519, k520, k521, k522, k523, k524, k525, k526, k518, (congrArg Value.bool (bifF c543).symm)⟩
                rintro f542 w541 ⟨H538, S539, i540, k553, k554, k555, k556, k557, k558, k559, k560, k561, k562⟩
                refine FL.nil ?_
                rcases ifB hp with ⟨c563, hp⟩ | ⟨c563, hp⟩
                ·
                  refine FW.condT k562 c563 ?_
                  refine FW.exit ?_
                  refine FW.region ?_
                  refine FL.v (E.move k561) ?_
                  refine FL.v (E.add rfl rfl) ?_
                  refine FL.v (E.assign (v := Value.int .i64 (wr (((i380 : Nat) : Int) + 1))) rfl) ?_
                  refine FL.nil ?_
                  obtain rfl := Option.some.inj hp
                  exact ⟨rfl, ⟨_, _, _, _, S539, (i515.tr i540), (els440.mono (up_mono i540)), nd441, (nat_succ rfl (lt_of_get hx380) (h80.mono ((((i27.tr i64).tr i91).tr i515).tr i540)).le), k553, k554, k555, k556, k557, k558, k559, k560⟩⟩
                ·
                  refine FW.condF k562 c563 ?_
                  refine FW.skip (FW.seq ?_)
                  refine FW.draw (fun w' => Run w541.heap.size H538 w541 H538 w') (by kernel_rfl) (by kernel_rfl) (run_drew S539.sl) ?_
                  refine FD.val rfl rfl rfl (fun w' hw' => (E.move k557)) ?_
                  refine FD.val rfl rfl rfl (fun w' hw' => (E.move k561)) ?_
                  obtain ⟨p564, cs565, pt566, l567, at568, rel569⟩ := h80.at (ix_nat hx380)
                  obtain rfl := eI_open rel569
                  refine FD.val rfl rfl rfl (fun w' hw' => (E.indexAddr te39 rfl rfl pt566)) ?_
                  refine FD.val rfl rfl rfl (fun w' hw' => (E.load rfl (run_load0 Tryz.isAgg3 ((at568.mono ((((i27.tr i64).tr i91).tr i515).tr i540)).now (S539.call hw').sl) rfl))) ?_
                  refine FD.call rfl rfl rfl (fun w' hw' => (E.call Tryz.call171 (A1 rfl))) (fun w' hw' => Calls.cls hw' (w_spec_l2Var (S539.call hw').sl y379)) ?_
                  refine FD.val rfl rfl rfl (fun w' hw' => (E.fieldAddr tf118_0 k559)) ?_
                  refine FD.val rfl rfl rfl (fun w' hw' => (E.load rfl (run_load1 Tryz.isAgg55 ((S539.call hw').box_now (i := 1) rfl) rfl))) ?_
                  refine FD.val rfl rfl rfl (fun w' hw' => (E.move k555)) ?_
                  obtain ⟨x576, hx577, hp⟩ := bnd hp
                  obtain ⟨p570, cs571, pt572, l573, at574, rel575⟩ := S539.row_at (i := 4) rfl els440 (by decide) hx577
                  obtain ⟨v578, rfl, h579⟩ := ePcStep_open rel575
                  refine FD.val rfl rfl rfl (fun w' hw' => (E.indexAddr te55 rfl rfl pt572)) ?_
                  refine FD.val rfl rfl rfl (fun w' hw' => (E.fieldAddr tf129_1 rfl)) ?_
                  refine FD.val rfl rfl rfl (fun w' hw' => (E.load rfl (run_load1 Tryz.isAgg68 (at574.cls hw') rfl))) ?_
                  refine FD.val rfl rfl rfl (fun w' hw' => (E.assign (v := Value.int .i64 (PF.spec_l2Var y379)) rfl)) ?_
                  refine FD.val rfl rfl rfl (fun w' hw' => (E.assign (v := v578) rfl)) ?_
                  refine FD.nil ?_
                  intro w580 r582
                  have S581 := S539.call r582
                  refine FW.seq (FW.region ?_)
                  refine FL.v (E.move k553) ?_
                  refine FL.v (E.move k554) ?_
                  refine FL.v (E.move (v := v578) rfl) ?_
                  refine FL.v (E.move (v := Value.int .i64 (PF.spec_l2Var y379)) rfl) ?_
                  obtain ⟨r583, hr584, hp⟩ := bnd hp
                  refine FL.call rfl rfl rfl (E.call Tryz.call188 (A4 rfl rfl rfl rfl)) (w_spec_l20Times S581.sl a0 a1.vars v578 x576.poly (h579.mono (upI.tr i540)) (PF.spec_l2Var y379) hr584) ?_
                  rintro e w586 ⟨H585, v589, n590, cs591, rfl, r588, els592⟩
                  refine ⟨_, rfl, ?_⟩
                  have els592 := els592.mono (up_le S581.size)
                  have S587 := S581.join (l' := [.row 147 2 v589 n590 cs591, .box b375 118 [Value.slice none 0 0, Value.slice none 0 0], .box b371 118 [v437, v52], .box b43 118 [v57, v52], .row 3 1 v52 n53 cs54, .row 129 6 v437 n438 cs439, .box b29 118 [Value.slice none 0 0, Value.slice none 0 0]]) r588 rfl
                  refine FL.v (E.assign (v := v589) rfl) ?_
                  refine FL.nil (FW.seq (FW.region ?_))
                  refine FL.v (E.fieldAddr tf118_0 k559) ?_
                  refine FL.v (E.load rfl (run_load1 Tryz.isAgg55 (S587.box_now (i := 2) rfl) rfl)) ?_
                  refine FL.v (E.move (v := v589) rfl) ?_
                  refine FL.v (E.move k555) ?_
                  refine FL.v (E.move (v := Value.int .i64 (PF.spec_l2Var y379)) rfl) ?_
                  refine FL.v (E.build (B4 rfl rfl rfl rfl) (run_build _ 129 #[(0, Value.int .i64 3), (1, v589), (2, Value.int .i64 s380.2), (4, Value.int .i64 (PF.spec_l2Var y379))] #[Value.int .i64 3, v589, Value.int .i64 s380.2, Value.int .i64 0, Value.int .i64 (PF.spec_l2Var y379), Value.int .i64 0] (by obtain ⟨_, _, rfl⟩ := S587.row_ln (i := 0) rfl; rfl))) ?_
                  obtain ⟨H593, S594, i595, h596, nv597⟩ := S587.sealRowU (i := 0) (l' := [.box b375 118 [Value.slice none 0 0, Value.slice none 0 0], .box b371 118 [v437, v52], .box b43 118 [v57, v52], .row 3 1 v52 n53 cs54, .row 129 6 v437 n438 cs439, .box b29 118 [Value.slice none 0 0, Value.slice none 0 0]]) rfl els592 (by decide) rfl
                  obtain ⟨v598, w599, run600, S601⟩ := S594.buildSlice (P := Tryz.prog) te55 [Value.agg #[Value.int .i64 3, v589, Value.int .i64 s380.2, Value.int .i64 0, Value.int .i64 (PF.spec_l2Var y379), Value.int .i64 0]] (parts := #[(0, Value.agg #[Value.int .i64 3, v589, Value.int .i64 s380.2, Value.int .i64 0, Value.int .i64 (PF.spec_l2Var y379), Value.int .i64 0])]) (cells := [Value.int .i64 3, v589, Value.int .i64 s380.2, Value.int .i64 0, Value.int .i64 (PF.spec_l2Var y379), Value.int .i64 0]) rfl (szs_cons rfl szs_nil) (fc_cons rfl fc_nil) (ones_cons rfl (ones_cons h596.one (ones_cons rfl (ones_cons rfl (ones_cons rfl (ones_cons rfl ones_nil)))))) (Nat.le_of_ble_eq_true rfl)
                  have els602 : Els (up wa.heap.size H593) ePcStep 6 [Value.int .i64 3, v589, Value.int .i64 s380.2, Value.int .i64 0, Value.int .i64 (PF.spec_l2Var y379), Value.int .i64 0] [(PcStep.mk 3 r583 s380.2 0 (PF.spec_l2Var y379) 0)] := (Els.snoc (H := (up wa.heap.size H593)) (E := ePcStep) (k := 6) (c := [Value.int .i64 3, v589, Value.int .i64 s380.2, Value.int .i64 0, Value.int .i64 (PF.spec_l2Var y379), Value.int .i64 0]) (x := (PcStep.mk 3 r583 s380.2 0 (PF.spec_l2Var y379) 0)) Els.nil rfl ⟨_, rfl, h596⟩)
                  have nd603 : (bl [Value.int .i64 3, v589, Value.int .i64 s380.2, Value.int .i64 0, Value.int .i64 (PF.spec_l2Var y379), Value.int .i64 0]).Nodup := by exact nd_one v589
                  refine FL.v (E.buildSlice (B1 rfl) run600) ?_
                  obtain ⟨xs604, hz605, hp⟩ := bnd hp
                  obtain ⟨v606, w609, n607, cs608, run610, S611, els612, ce613⟩ := S601.appendO (P := Tryz.prog) te55 (i := 5) (j := 0) rfl (els440.mono (up_mono ((i540.tr r588.run.inc).tr i595))) rfl els602 hz605
                  have S611 : St Ha wa H593 w609 [.row 129 6 v598 1 [Value.int .i64 3, v589, Value.int .i64 s380.2, Value.int .i64 0, Value.int .i64 (PF.spec_l2Var y379), Value.int .i64 0], .box b375 118 [Value.slice none 0 0, Value.slice none 0 0], .box b371 118 [v437, v52], .box b43 118 [v57, v52], .row 3 1 v52 n53 cs54, .row 129 6 v606 n607 cs608, .box b29 118 [Value.slice none 0 0, Value.slice none 0 0]] := S611
                  have nd614 : (bl cs608).Nodup := by rw [ce613]; exact nd_app nd441 nd603 (Els.dom (els440.mono (upI.tr (i540.tr r588.run.inc)))) (by exact nv597)
                  have S615 : St Ha wa H593 w609 [.box b375 118 [Value.slice none 0 0, Value.slice none 0 0], .box b371 118 [v437, v52], .box b43 118 [v57, v52], .row 3 1 v52 n53 cs54, .row 129 6 v606 n607 cs608, .box b29 118 [Value.slice none 0 0, Value.slice none 0 0]] := S611.drop 0
                  refine FL.v (E.append rfl rfl run610) ?_
                  refine FL.v (E.fieldAddr tf118_0 k559) ?_
                  obtain ⟨w616, run617, S618⟩ := S615.store (P := Tryz.prog) (t := 55) (i := 1) (j := 0) (cs' := [v606, v52]) (l' := [.box b375 118 [Value.slice none 0 0, Value.slice none 0 0], .box b371 118 [v606, v52], .box b43 118 [v57, v52], .row 3 1 v52 n53 cs54, .row 129 6 v606 n607 cs608, .box b29 118 [Value.slice none 0 0, Value.slice none 0 0]]) (v := v606) (c := [v606]) rfl Tryz.sizeOf55 (Ln.cells (S615.row_ln (i := 4) rfl)) rfl (ones_cons (Ln.one (S615.row_ln (i := 4) rfl)) ones_nil) (Nat.le_of_ble_eq_true rfl) rfl rfl
                  refine FL.act rfl rfl (E.store rfl rfl run617) ?_
                  refine FL.nil (FW.seq (FW.seq (FW.region ?_)))
                  refine FL.v (E.move k557) ?_
                  refine FL.v (E.move k561) ?_
                  obtain ⟨p619, cs620, pt621, l622, at623, rel624⟩ := h80.at (ix_nat hx380)
                  obtain rfl := eI_open rel624
                  refine FL.v (E.indexAddr te39 rfl rfl pt621) ?_
                  refine FL.v (E.load rfl (run_load0 Tryz.isAgg3 ((at623.mono ((((((i27.tr i64).tr i91).tr i515).tr i540).tr r588.run.inc).tr i595)).now S618.sl) rfl)) ?_
                  refine FL.v (E.gtr rfl rfl) ?_
                  refine FL.nil ?_
                  rcases ifB hp with ⟨c625, hp⟩ | ⟨c625, hp⟩
                  ·
                    refine FW.condT rfl c625 ?_
                    obtain ⟨r704, hr705, hp⟩ := bnd hp
                    obtain ⟨xs746, hz747, hp⟩ := bnd hp
                    refine FW.drawB (Sl H593) (fun f w => ∃ H : GH, ∃ v761 : Value, ∃ n762 : Nat, ∃ cs763 : List Value, St Ha wa H w [.box b375 118 [Value.slice none 0 0, Value.slice none 0 0], .box b371 118 [v761, v52], .box b43 118 [v57, v52], .row 3 1 v52 n53 cs54, .row 129 6 v761 n762 cs763, .box b29 118 [Value.slice none 0 0, Value.slice none 0 0]] ∧ Inc H593 H ∧ Els (up wa.heap.size H) ePcStep 6 cs763 xs746 ∧ (bl cs763).Nodup ∧ f 0 = Value.int .i64 a0 ∧ f 1 = Value.int .i64 a1.vars ∧ f 4 = v191 ∧ f 5 = v79 ∧ f 6 = Value.int .i64 0 ∧ f 9 = Value.pointer (some (⟨b371, 0, none⟩ : Addr)) ∧ f 14 = Value.pointer (some (⟨b375, 0, none⟩ : Addr)) ∧ f 16 = Value.int .i64 ((i380 : Nat) : Int)) (by kernel_rfl) S618.sl ?_ ?_
                    ·
                      intro w626 r627
                      have S628 := S618.call r627
                      refine FB.phase [20] (fun w => WAt w (Addr.add ⟨b371, 0, none⟩ 0) [v606]) ?_
                      refine FB.t (i := 0) (bs 21 1) rfl (SP.on ((S628.box_now (i := 1) rfl).sub (j := 0) (n := 1) (c := [v606]) rfl) (SP.nil S628.sl)) rfl (fun w' hw' => (E.fieldAddr tf118_0 k559)) ?_
                      refine FB.p (i := 1) (bs 21 3) 0 [18, 19, 20] rfl (SP.on ((S628.box_now (i := 1) rfl).sub (j := 0) (n := 1) (c := [v606]) rfl) (SP.nil S628.sl)) rfl rfl (fun w' hw' => (E.load rfl (run_load0 Tryz.isAgg55 hw' rfl))) ?_
                      refine FB.t (i := 2) (bs 21 7) rfl (SP.on ((S628.box_now (i := 1) rfl).sub (j := 0) (n := 1) (c := [v606]) rfl) (SP.nil S628.sl)) rfl (fun w' hw' => (E.move k553)) ?_
                      refine FB.t (i := 3) (bs 21 15) rfl (SP.on ((S628.box_now (i := 1) rfl).sub (j := 0) (n := 1) (c := [v606]) rfl) (SP.nil S628.sl)) rfl (fun w' hw' => (E.move k554)) ?_
                      refine FB.t (i := 4) (bs 21 31) rfl (SP.on ((S628.box_now (i := 1) rfl).sub (j := 0) (n := 1) (c := [v606]) rfl) (SP.nil S628.sl)) rfl (fun w' hw' => (E.move (v := v578) rfl)) ?_
                      refine FB.t (i := 5) (bs 21 63) rfl (SP.on ((S628.box_now (i := 1) rfl).sub (j := 0) (n := 1) (c := [v606]) rfl) (SP.nil S628.sl)) rfl (fun w' hw' => (E.move (v := v589) rfl)) ?_
                      refine FB.t (i := 6) (bs 21 127) rfl (SP.on ((S628.box_now (i := 1) rfl).sub (j := 0) (n := 1) (c := [v606]) rfl) (SP.nil S628.sl)) rfl (fun w' hw' => (E.move k553)) ?_
                      refine FB.t (i := 7) (bs 21 255) rfl (SP.on ((S628.box_now (i := 1) rfl).sub (j := 0) (n := 1) (c := [v606]) rfl) (SP.nil S628.sl)) rfl (fun w' hw' => (E.sub rfl rfl)) ?_
                      refine FB.t (i := 9) (bs 21 767) rfl (SP.on ((S628.box_now (i := 1) rfl).sub (j := 0) (n := 1) (c := [v606]) rfl) (SP.nil S628.sl)) rfl (fun w' hw' => (E.move k555)) ?_
                      refine FB.t (i := 10) (bs 21 1791) rfl (SP.on ((S628.box_now (i := 1) rfl).sub (j := 0) (n := 1) (c := [v606]) rfl) (SP.nil S628.sl)) rfl (fun w' hw' => (E.fieldAddr tf118_0 k559)) ?_
                      refine FB.p (i := 11) (bs 21 3839) 0 [12, 13, 16, 17, 18, 19, 20] rfl (SP.on ((S628.box_now (i := 1) rfl).sub (j := 0) (n := 1) (c := [v606]) rfl) (SP.nil S628.sl)) rfl rfl (fun w' hw' => (E.load rfl (run_load0 Tryz.isAgg55 hw' rfl))) ?_
                      refine FB.t (i := 12) (bs 21 7935) rfl (SP.on ((S628.box_now (i := 1) rfl).sub (j := 0) (n := 1) (c := [v606]) rfl) (SP.nil S628.sl)) rfl (fun w' hw' => (E.lenOW te55 rfl S628 (i := 4) rfl els612 (by decide))) ?_
                      refine FB.t (i := 13) (bs 21 16127) rfl (SP.on ((S628.box_now (i := 1) rfl).sub (j := 0) (n := 1) (c := [v606]) rfl) (SP.nil S628.sl)) rfl (fun w' hw' => (E.sub rfl rfl)) ?_
                      refine FB.t (i := 14) (bs 21 32511) rfl (SP.on ((S628.box_now (i := 1) rfl).sub (j := 0) (n := 1) (c := [v606]) rfl) (SP.nil S628.sl)) rfl (fun w' hw' => (E.move k553)) ?_
                      refine FB.t (i := 15) (bs 21 65279) rfl (SP.on ((S628.box_now (i := 1) rfl).sub (j := 0) (n := 1) (c := [v606]) rfl) (SP.nil S628.sl)) rfl (fun w' hw' => (E.sub rfl rfl)) ?_
                      refine FB.all1 (i := 8) (by kernel_rfl) ?_
                      ·
                        refine FC.call (l' := (bs 21 65535)) rfl (by kernel_rfl) rfl rfl rfl (E.call Tryz.call168 (A6 rfl rfl rfl rfl rfl rfl)) (w_spec_l20Sum S628.sl a0 a1.vars v578 x576.poly (h579.mono (upI.tr ((i540.tr r588.run.inc).tr i595))) 1 v589 r583 (h596.mono upI) (wr (a0 - 1)) hr705) ?_
                        rintro e w707 ⟨H706, v710, n711, cs712, rfl, r709, els713⟩
                        refine ⟨_, rfl, ?_⟩
                        have els713 := els713.mono (up_le S628.size)
                        have S708 := S628.join (l' := [.row 147 2 v710 n711 cs712, .box b375 118 [Value.slice none 0 0, Value.slice none 0 0], .box b371 118 [v606, v52], .box b43 118 [v57, v52], .row 3 1 v52 n53 cs54, .row 129 6 v606 n607 cs608, .box b29 118 [Value.slice none 0 0, Value.slice none 0 0]]) r709 rfl
                        refine ⟨(SP.on ((S708.box_now (i := 2) rfl).sub (j := 0) (n := 1) (c := [v606]) rfl) (SP.nil (Sl.of_inc r709.run.inc S708.sl))), ?_⟩
                        obtain ⟨H735, S736, i737, h738, nv739⟩ := S708.sealRowU (i := 0) (l' := [.box b375 118 [Value.slice none 0 0, Value.slice none 0 0], .box b371 118 [v606, v52], .box b43 118 [v57, v52], .row 3 1 v52 n53 cs54, .row 129 6 v606 n607 cs608, .box b29 118 [Value.slice none 0 0, Value.slice none 0 0]]) rfl els713 (by decide) rfl
                        refine FB.t (i := 16) (bs 21 131071) rfl (SP.on ((S708.box_now (i := 2) rfl).sub (j := 0) (n := 1) (c := [v606]) rfl) (SP.nil (Sl.of_inc r709.run.inc S708.sl))) rfl (fun w' hw' => (E.build (B6 rfl rfl rfl rfl rfl rfl) (run_build _ 129 #[(0, Value.int .i64 2), (1, v710), (2, Value.int .i64 s380.2), (3, Value.int .i64 (wr ((len xs604) - 1))), (4, Value.int .i64 1), (5, Value.int .i64 (wr (a0 - 1)))] #[Value.int .i64 2, v710, Value.int .i64 s380.2, Value.int .i64 (wr ((len xs604) - 1)), Value.int .i64 1, Value.int .i64 (wr (a0 - 1))] (by obtain ⟨_, _, rfl⟩ := RSl.ln (h738.mono upI); rfl)))) ?_
                        refine FB.all1 (i := 17) (by kernel_rfl) ?_
                        ·
                          obtain ⟨v740, w741, run742, S743⟩ := S736.buildSlice (P := Tryz.prog) te55 [Value.agg #[Value.int .i64 2, v710, Value.int .i64 s380.2, Value.int .i64 (wr ((len xs604) - 1)), Value.int .i64 1, Value.int .i64 (wr (a0 - 1))]] (parts := #[(0, Value.agg #[Value.int .i64 2, v710, Value.int .i64 s380.2, Value.int .i64 (wr ((len xs604) - 1)), Value.int .i64 1, Value.int .i64 (wr (a0 - 1))])]) (cells := [Value.int .i64 2, v710, Value.int .i64 s380.2, Value.int .i64 (wr ((len xs604) - 1)), Value.int .i64 1, Value.int .i64 (wr (a0 - 1))]) rfl (szs_cons rfl szs_nil) (fc_cons rfl fc_nil) (ones_cons rfl (ones_cons h738.one (ones_cons rfl (ones_cons rfl (ones_cons rfl (ones_cons rfl ones_nil)))))) (Nat.le_of_ble_eq_true rfl)
                          have els744 : Els (up wa.heap.size H735) ePcStep 6 [Value.int .i64 2, v710, Value.int .i64 s380.2, Value.int .i64 (wr ((len xs604) - 1)), Value.int .i64 1, Value.int .i64 (wr (a0 - 1))] [(PcStep.mk 2 r704 s380.2 (wr ((len xs604) - 1)) 1 (wr (a0 - 1)))] := (Els.snoc (H := (up wa.heap.size H735)) (E := ePcStep) (k := 6) (c := [Value.int .i64 2, v710, Value.int .i64 s380.2, Value.int .i64 (wr ((len xs604) - 1)), Value.int .i64 1, Value.int .i64 (wr (a0 - 1))]) (x := (PcStep.mk 2 r704 s380.2 (wr ((len xs604) - 1)) 1 (wr (a0 - 1)))) Els.nil rfl ⟨_, rfl, h738⟩)
                          have nd745 : (bl [Value.int .i64 2, v710, Value.int .i64 s380.2, Value.int .i64 (wr ((len xs604) - 1)), Value.int .i64 1, Value.int .i64 (wr (a0 - 1))]).Nodup := by exact nd_one v710
                          refine FC.val (l' := (bs 21 262143)) rfl (by kernel_rfl) rfl rfl rfl (E.buildSlice (B1 rfl) run742) ?_
                          refine ⟨(SP.on ((S743.box_now (i := 2) rfl).sub (j := 0) (n := 1) (c := [v606]) rfl) (SP.nil (Sl.of_inc (r709.run.inc.tr i737) S743.sl))), ?_⟩
                          refine FB.all1 (i := 18) (by kernel_rfl) ?_
                          ·
                            obtain ⟨v748, w751, n749, cs750, run752, S753, els754, ce755⟩ := S743.appendO (P := Tryz.prog) te55 (i := 5) (j := 0) rfl (els612.mono (up_mono (r709.run.inc.tr i737))) rfl els744 hz747
                            have S753 : St Ha wa H735 w751 [.row 129 6 v740 1 [Value.int .i64 2, v710, Value.int .i64 s380.2, Value.int .i64 (wr ((len xs604) - 1)), Value.int .i64 1, Value.int .i64 (wr (a0 - 1))], .box b375 118 [Value.slice none 0 0, Value.slice none 0 0], .box b371 118 [v606, v52], .box b43 118 [v57, v52], .row 3 1 v52 n53 cs54, .row 129 6 v748 n749 cs750, .box b29 118 [Value.slice none 0 0, Value.slice none 0 0]] := S753
                            have nd756 : (bl cs750).Nodup := by rw [ce755]; exact nd_app nd614 nd745 (Els.dom (els612.mono (upI.tr r709.run.inc))) (by exact nv739)
                            have S757 : St Ha wa H735 w751 [.box b375 118 [Value.slice none 0 0, Value.slice none 0 0], .box b371 118 [v606, v52], .box b43 118 [v57, v52], .row 3 1 v52 n53 cs54, .row 129 6 v748 n749 cs750, .box b29 118 [Value.slice none 0 0, Value.slice none 0 0]] := S753.drop 0
                            refine FC.val (l' := (bs 21 524287)) rfl (by kernel_rfl) rfl rfl rfl (E.append rfl rfl run752) ?_
                            refine ⟨(SP.on ((S757.box_now (i := 1) rfl).sub (j := 0) (n := 1) (c := [v606]) rfl) (SP.nil (Sl.of_inc (r709.run.inc.tr i737) S757.sl))), ?_⟩
                            refine FB.t (i := 19) (bs 21 1048575) rfl (SP.on ((S757.box_now (i := 1) rfl).sub (j := 0) (n := 1) (c := [v606]) rfl) (SP.nil (Sl.of_inc (r709.run.inc.tr i737) S757.sl))) rfl (fun w' hw' => (E.fieldAddr tf118_0 k559)) ?_
                            refine FB.all1 (i := 20) (by kernel_rfl) ?_
                            ·
                              obtain ⟨w758, run759, S760⟩ := S757.store (P := Tryz.prog) (t := 55) (i := 1) (j := 0) (cs' := [v748, v52]) (l' := [.box b375 118 [Value.slice none 0 0, Value.slice none 0 0], .box b371 118 [v748, v52], .box b43 118 [v57, v52], .row 3 1 v52 n53 cs54, .row 129 6 v748 n749 cs750, .box b29 118 [Value.slice none 0 0, Value.slice none 0 0]]) (v := v748) (c := [v748]) rfl Tryz.sizeOf55 (Ln.cells (S757.row_ln (i := 4) rfl)) rfl (ones_cons (Ln.one (S757.row_ln (i := 4) rfl)) ones_nil) (Nat.le_of_ble_eq_true rfl) rfl rfl
                              refine FC.act (l' := (bs 21 2097151)) rfl (by kernel_rfl) rfl rfl (E.store rfl rfl run759) ?_
                              refine ⟨(SP.o (SP.nil (Sl.of_inc (r709.run.inc.tr i737) S760.sl))), ?_⟩
                              exact FB.done (by kernel_rfl) ⟨_, _, _, _, S760, (r709.run.inc.tr i737), els754, nd756, k553, k554, k556, k557, k558, k559, k560, k561⟩
                    ·
                      rintro f770 w769 ⟨H766, v761, n762, cs763, S767, i768, els764, nd765, k771, k772, k773, k774, k775, k776, k777, k778⟩
                      refine FW.region ?_
                      refine FL.v (E.fieldAddr tf118_0 k776) ?_
                      refine FL.v (E.load rfl (run_load1 Tryz.isAgg55 (S767.box_now (i := 1) rfl) rfl)) ?_
                      refine FL.v (E.lenO te55 rfl S767 (i := 4) rfl els764 (by decide)) ?_
                      refine FL.v (E.sub rfl rfl) ?_
                      refine FL.v (E.assign (v := Value.int .i64 (wr ((len xs746) - 1))) rfl) ?_
                      refine FL.nil (FW.region ?_)
                      refine FL.v (E.move k778) ?_
                      refine FL.v (E.add rfl rfl) ?_
                      refine FL.v (E.assign (v := Value.int .i64 (wr (((i380 : Nat) : Int) + 1))) rfl) ?_
                      refine FL.nil ?_
                      obtain rfl := Option.some.inj hp
                      exact ⟨rfl, ⟨_, _, _, _, S767, ((((i515.tr i540).tr r588.run.inc).tr i595).tr i768), els764, nd765, (nat_succ rfl (lt_of_get hx380) (h80.mono (((((((i27.tr i64).tr i91).tr i515).tr i540).tr r588.run.inc).tr i595).tr i768)).le), k771, k772, rfl, k773, k774, k775, k776, k777⟩⟩
                  ·
                    refine FW.condF rfl c625 ?_
                    refine FW.skip (FW.region ?_)
                    refine FL.v (E.fieldAddr tf118_0 k559) ?_
                    refine FL.v (E.load rfl (run_load1 Tryz.isAgg55 (S618.box_now (i := 1) rfl) rfl)) ?_
                    refine FL.v (E.lenO te55 rfl S618 (i := 4) rfl els612 (by decide)) ?_
                    refine FL.v (E.sub rfl rfl) ?_
                    refine FL.v (E.assign (v := Value.int .i64 (wr ((len xs604) - 1))) rfl) ?_
                    refine FL.nil (FW.region ?_)
                    refine FL.v (E.move k561) ?_
                    refine FL.v (E.add rfl rfl) ?_
                    refine FL.v (E.assign (v := Value.int .i64 (wr (((i380 : Nat) : Int) + 1))) rfl) ?_
                    refine FL.nil ?_
                    obtain rfl := Option.some.inj hp
                    exact ⟨rfl, ⟨_, _, _, _, S618, (((i515.tr i540).tr r588.run.inc).tr i595), els612, nd614, (nat_succ rfl (lt_of_get hx380) (h80.mono ((((((i27.tr i64).tr i91).tr i515).tr i540).tr r588.run.inc).tr i595)).le), k553, k554, rfl, k556, k557, k558, k559, k560⟩⟩
              ·
                clear hp hq
                rintro s380 f795 w794 ⟨H791, v437, n438, cs439, S792, i793, els440, nd441, k796, k797, k798, k799, k800, k801, k802, k803, k804⟩
                refine FW.seq (FW.seq (FW.region ?_))
                refine FL.v (E.move k796) ?_
                refine FL.v (E.move k801) ?_
                refine FL.v (E.lenP te39 rfl h80) ?_
                refine FL.v (E.lss rfl rfl) ?_
                refine FL.nil ?_
                refine FW.condF rfl dlt_len ?_
                refine FW.exit ?_
                exact ⟨nofun, rfl, ⟨_, _, _, _, S792, i793, els440, nd441, k799, k803, k804⟩⟩
              ·
                clear hq
                intro e f784 w783 hD
                rcases q380 with s380 | x380
                ·
                  obtain ⟨rfl, hD⟩ := hD
                  obtain ⟨H780, v437, n438, cs439, S781, i782, els440, nd441, k785, k786, k787⟩ := hD
                  replace hp := el_go hp
                  refine FW.seq (FW.region ?_)
                  refine FL.v (E.load k786 (run_loadA Tryz.isAgg118 Tryz.sizeOf118 (S781.box_now (i := 1) rfl) rfl)) ?_
                  refine FL.v (E.move k785) ?_
                  obtain ⟨w788, run789, S790⟩ := S781.store0 (P := Tryz.prog) (t := 118) (i := 0) (cs' := [v437, v52]) (l' := [.box b375 118 [v437, v52], .box b371 118 [v437, v52], .box b43 118 [v57, v52], .row 3 1 v52 n53 cs54, .row 129 6 v437 n438 cs439, .box b29 118 [Value.slice none 0 0, Value.slice none 0 0]]) (v := Value.agg #[v437, v52]) (c := [v437, v52]) rfl Tryz.sizeOf118 rfl rfl (ones_cons (Ln.one (S781.row_ln (i := 4) rfl)) (ones_cons (Ln.one (S781.row_ln (i := 3) rfl)) ones_nil)) (Nat.le_of_ble_eq_true rfl) rfl rfl
                  refine FL.act rfl rfl (E.store k787 rfl run789) ?_
                  refine FL.v (E.assign (v := Value.int .i64 s380.2) rfl) ?_
                  refine FL.nil ?_
                  refine FW.ret ?_
                  obtain rfl := Option.some.inj hp
                  exact ⟨.inr rfl, resC2 rfl k787 (loadVar_A Tryz.isAgg118 Tryz.sizeOf118 (S790.box_now (i := 0) rfl) rfl) rfl (by rw [hR365]; exact ⟨_, _, _, _, rfl, (S790.sel [2, 3, 4, 5] (by decide) rfl), i782, els440, nd441⟩)⟩
                · exact x380.elim
            clear hq365
            refine FC.call (l' := (bs 24 524287)) rfl (by kernel_rfl) rfl rfl rfl (E.call Tryz.call167 (A7 rfl rfl rfl rfl rfl rfl rfl)) hc365 ?_
            intro e w808 hQ365
            rw [hR365] at hQ365
            obtain ⟨H805, v366, n367, cs368, rfl, S806, i807, els369, nd370⟩ := hQ365
            refine ⟨_, rfl, ?_⟩
            refine ⟨(SP.on (S806.box_now (i := 0) rfl) (SP.on ((S806.box_now (i := 0) rfl).sub (j := 1) (n := 1) (c := [v52]) rfl) (SP.nil ⟨_, (S806.sel [1] (by decide) rfl), i807⟩))), ?_⟩
            refine FB.t (i := 19) (bs 24 1048575) rfl (SP.on (S806.box_now (i := 0) rfl) (SP.on ((S806.box_now (i := 0) rfl).sub (j := 1) (n := 1) (c := [v52]) rfl) (SP.nil ⟨_, (S806.sel [1] (by decide) rfl), i807⟩))) rfl (fun w' hw' => (E.move (v := Value.tuple #[Value.agg #[v366, v52], Value.int .i64 s365.2]) rfl)) ?_
            refine FB.t (i := 20) (bs 24 2097151) rfl (SP.on (S806.box_now (i := 0) rfl) (SP.on ((S806.box_now (i := 0) rfl).sub (j := 1) (n := 1) (c := [v52]) rfl) (SP.nil ⟨_, (S806.sel [1] (by decide) rfl), i807⟩))) rfl (fun w' hw' => (E.extract (i := 0) rfl rfl)) ?_
            refine FB.t (i := 21) (bs 24 4194303) rfl (SP.on (S806.box_now (i := 0) rfl) (SP.on ((S806.box_now (i := 0) rfl).sub (j := 1) (n := 1) (c := [v52]) rfl) (SP.nil ⟨_, (S806.sel [1] (by decide) rfl), i807⟩))) rfl (fun w' hw' => (E.extract (i := 1) rfl rfl)) ?_
            refine FB.all1 (i := 22) (by kernel_rfl) ?_
            ·
              obtain ⟨w193, run194, S195⟩ := S806.store0 (P := Tryz.prog) (t := 118) (i := 0) (cs' := [v366, v52]) (l' := [.box b43 118 [v366, v52], .row 3 1 v52 n53 cs54, .row 129 6 v366 n367 cs368, .box b29 118 [Value.slice none 0 0, Value.slice none 0 0]]) (v := Value.agg #[v366, v52]) (c := [v366, v52]) rfl Tryz.sizeOf118 rfl rfl (ones_cons (Ln.one (S806.row_ln (i := 2) rfl)) (ones_cons (Ln.one (S806.row_ln (i := 1) rfl)) ones_nil)) (Nat.le_of_ble_eq_true rfl) rfl rfl
              refine FC.act (l' := (bs 24 8388607)) rfl (by kernel_rfl) rfl rfl (E.store k72 rfl run194) ?_
              refine ⟨(SP.o (SP.on ((S195.box_now (i := 0) rfl).sub (j := 1) (n := 1) (c := [v52]) rfl) (SP.nil ⟨_, (S195.sel [1] (by decide) rfl), i807⟩))), ?_⟩
              refine FB.t (i := 23) (bs 24 16777215) rfl (SP.o (SP.on ((S195.box_now (i := 0) rfl).sub (j := 1) (n := 1) (c := [v52]) rfl) (SP.nil ⟨_, (S195.sel [1] (by decide) rfl), i807⟩))) rfl (fun w' hw' => (E.assign (v := Value.int .i64 s365.2) rfl)) ?_
              exact FB.done (by kernel_rfl) ⟨_, _, _, _, S195, i807, els369, nd370, k68, k69, k70, k71, k72, k67, rfl, rfl⟩
        ·
          rintro f205 w204 ⟨H201, v196, n197, cs198, S202, i203, els199, nd200, k206, k207, k208, k209, k210, k211, k212, k213⟩
          refine FW.seq (FW.region ?_)
          refine FL.v (E.move k213) ?_
          refine FL.v (E.fieldAddr tf118_1 k210) ?_
          refine FL.v (E.load rfl (run_load1 Tryz.isAgg39 (S202.box_now (i := 0) rfl) rfl)) ?_
          refine FL.v (E.fieldAddr tf89_1 k212) ?_
          refine FL.v (E.load rfl (run_load1 Tryz.isAgg3 ((at92.mono i203).now S202.sl) rfl)) ?_
          obtain ⟨x220, hx221, hp⟩ := bnd hp
          obtain ⟨p214, cs215, pt216, l217, at218, rel219⟩ := S202.row_at (i := 1) rfl els56 (by decide) hx221
          obtain rfl := eI_open rel219
          refine FL.v (E.indexAddr te39 rfl rfl pt216) ?_
          refine FL.v (E.load rfl (run_load0 Tryz.isAgg3 at218 rfl)) ?_
          refine FL.v (E.eql rfl rfl) ?_
          refine FL.nil ?_
          rcases ifB hp with ⟨c222, hp⟩ | ⟨c222, hp⟩
          ·
            refine FW.condT rfl c222 ?_
            refine FW.seq ?_
            obtain ⟨x232, hx233, hp⟩ := bnd hp
            obtain ⟨r237, hr238, hp⟩ := bnd hp
            obtain ⟨xs258, hz259, hp⟩ := bnd hp
            refine FW.drawB (Sl H201) (fun f w => ∃ H : GH, ∃ v273 : Value, ∃ n274 : Nat, ∃ cs275 : List Value, St Ha wa H w [.box b43 118 [v273, v52], .row 3 1 v52 n53 cs54, .row 129 6 v273 n274 cs275, .box b29 118 [Value.slice none 0 0, Value.slice none 0 0]] ∧ Inc H201 H ∧ Els (up wa.heap.size H) ePcStep 6 cs275 xs258 ∧ (bl cs275).Nodup ∧ f 0 = Value.int .i64 a0 ∧ f 2 = v2 ∧ f 4 = Value.pointer (some ⟨b21, 0, none⟩) ∧ f 6 = Value.pointer (some (⟨b29, 0, none⟩ : Addr)) ∧ f 7 = Value.pointer (some (⟨b43, 0, none⟩ : Addr)) ∧ f 8 = Value.int .i64 ((i51 : Nat) : Int)) (by kernel_rfl) S202.sl ?_ ?_
            ·
              intro w223 r224
              have S225 := S202.call r224
              refine FB.phase [15] (fun w => WAt w (Addr.add ⟨b43, 0, none⟩ 0) [v196]) ?_
              refine FB.t (i := 0) (bs 16 1) rfl (SP.on ((S225.box_now (i := 0) rfl).sub (j := 0) (n := 1) (c := [v196]) rfl) (SP.nil S225.sl)) rfl (fun w' hw' => (E.fieldAddr tf118_0 k210)) ?_
              refine FB.p (i := 1) (bs 16 3) 0 [13, 14, 15] rfl (SP.on ((S225.box_now (i := 0) rfl).sub (j := 0) (n := 1) (c := [v196]) rfl) (SP.nil S225.sl)) rfl rfl (fun w' hw' => (E.load rfl (run_load0 Tryz.isAgg55 hw' rfl))) ?_
              refine FB.t (i := 2) (bs 16 7) rfl (SP.on ((S225.box_now (i := 0) rfl).sub (j := 0) (n := 1) (c := [v196]) rfl) (SP.nil S225.sl)) rfl (fun w' hw' => (E.fieldAddr tf118_0 k210)) ?_
              refine FB.p (i := 3) (bs 16 15) 0 [5, 6, 7, 8, 11, 12, 13, 14, 15] rfl (SP.on ((S225.box_now (i := 0) rfl).sub (j := 0) (n := 1) (c := [v196]) rfl) (SP.nil S225.sl)) rfl rfl (fun w' hw' => (E.load rfl (run_load0 Tryz.isAgg55 hw' rfl))) ?_
              refine FB.t (i := 4) (bs 16 31) rfl (SP.on ((S225.box_now (i := 0) rfl).sub (j := 0) (n := 1) (c := [v196]) rfl) (SP.nil S225.sl)) rfl (fun w' hw' => (E.move k213)) ?_
              obtain ⟨p226, cs227, pt228, l229, at230, rel231, hall234⟩ := S225.row_atA (i := 2) rfl els199 (by decide) hx233
              obtain ⟨v235, rfl, h236⟩ := ePcStep_open rel231
              refine FB.t (i := 5) (bs 16 63) rfl (SP.on ((S225.box_now (i := 0) rfl).sub (j := 0) (n := 1) (c := [v196]) rfl) (SP.nil S225.sl)) rfl (fun w' hw' => (E.indexAddr te55 rfl rfl pt228)) ?_
              refine FB.t (i := 6) (bs 16 127) rfl (SP.on ((S225.box_now (i := 0) rfl).sub (j := 0) (n := 1) (c := [v196]) rfl) (SP.nil S225.sl)) rfl (fun w' hw' => (E.fieldAddr tf129_1 rfl)) ?_
              refine FB.phase [13] (fun w' => WAt w' p226 [Value.int .i64 x232.kind, v235, Value.int .i64 x232.a, Value.int .i64 x232.b, Value.int .i64 x232.x, Value.int .i64 x232.y]) ?_
              refine FB.p (i := 7) (bs 16 255) 0 [8, 11, 12, 13, 14, 15] rfl (SP.on (hall234 _ _ _ 2 S225 rfl) (SP.on ((S225.box_now (i := 0) rfl).sub (j := 0) (n := 1) (c := [v196]) rfl) (SP.nil S225.sl))) rfl rfl (fun w' hw' => (E.load rfl (run_load1 Tryz.isAgg68 hw' rfl))) ?_
              refine FB.t (i := 9) (bs 16 767) rfl (SP.on (hall234 _ _ _ 2 S225 rfl) (SP.on ((S225.box_now (i := 0) rfl).sub (j := 0) (n := 1) (c := [v196]) rfl) (SP.nil S225.sl))) rfl (fun w' hw' => (E.move k213)) ?_
              refine FB.t (i := 10) (bs 16 1791) rfl (SP.on (hall234 _ _ _ 2 S225 rfl) (SP.on ((S225.box_now (i := 0) rfl).sub (j := 0) (n := 1) (c := [v196]) rfl) (SP.nil S225.sl))) rfl (fun w' hw' => (E.move k213)) ?_
              refine FB.all1 (i := 8) (by kernel_rfl) ?_
              ·
                refine FC.call (l' := (bs 16 2047)) rfl (by kernel_rfl) rfl rfl rfl (E.call Tryz.call117 (A1 rfl)) (w_spec_l20Terms S225.sl v235 x232.poly (h236.mono upI) hr238) ?_
                rintro e w240 ⟨H239, v243, n244, cs245, rfl, r242, els246⟩
                refine ⟨_, rfl, ?_⟩
                have els246 := els246.mono (up_le S225.size)
                have S241 := S225.join (l' := [.row 147 2 v243 n244 cs245, .box b43 118 [v196, v52], .row 3 1 v52 n53 cs54, .row 129 6 v196 n197 cs198, .box b29 118 [Value.slice none 0 0, Value.slice none 0 0]]) r242 rfl
                refine ⟨(SP.on (hall234 _ _ _ 3 S241 rfl) (SP.on ((S241.box_now (i := 1) rfl).sub (j := 0) (n := 1) (c := [v196]) rfl) (SP.nil (Sl.of_inc r242.run.inc S241.sl)))), ?_⟩
                obtain ⟨H247, S248, i249, h250, nv251⟩ := S241.sealRowU (i := 0) (l' := [.box b43 118 [v196, v52], .row 3 1 v52 n53 cs54, .row 129 6 v196 n197 cs198, .box b29 118 [Value.slice none 0 0, Value.slice none 0 0]]) rfl els246 (by decide) rfl
                refine FB.t (i := 11) (bs 16 4095) rfl (SP.on (hall234 _ _ _ 3 S241 rfl) (SP.on ((S241.box_now (i := 1) rfl).sub (j := 0) (n := 1) (c := [v196]) rfl) (SP.nil (Sl.of_inc r242.run.inc S241.sl)))) rfl (fun w' hw' => (E.build (B5 rfl rfl rfl rfl rfl) (run_build _ 129 #[(0, Value.int .i64 2), (1, v243), (2, Value.int .i64 s365.2), (3, Value.int .i64 s365.2), (4, Value.int .i64 1)] #[Value.int .i64 2, v243, Value.int .i64 s365.2, Value.int .i64 s365.2, Value.int .i64 1, Value.int .i64 0] (by obtain ⟨_, _, rfl⟩ := RSl.ln (h250.mono upI); rfl)))) ?_
                refine FB.all1 (i := 12) (by kernel_rfl) ?_
                ·
                  obtain ⟨v252, w253, run254, S255⟩ := S248.buildSlice (P := Tryz.prog) te55 [Value.agg #[Value.int .i64 2, v243, Value.int .i64 s365.2, Value.int .i64 s365.2, Value.int .i64 1, Value.int .i64 0]] (parts := #[(0, Value.agg #[Value.int .i64 2, v243, Value.int .i64 s365.2, Value.int .i64 s365.2, Value.int .i64 1, Value.int .i64 0])]) (cells := [Value.int .i64 2, v243, Value.int .i64 s365.2, Value.int .i64 s365.2, Value.int .i64 1, Value.int .i64 0]) rfl (szs_cons rfl szs_nil) (fc_cons rfl fc_nil) (ones_cons rfl (ones_cons h250.one (ones_cons rfl (ones_cons rfl (ones_cons rfl (ones_cons rfl ones_nil)))))) (Nat.le_of_ble_eq_true rfl)
                  have els256 : Els (up wa.heap.size H247) ePcStep 6 [Value.int .i64 2, v243, Value.int .i64 s365.2, Value.int .i64 s365.2, Value.int .i64 1, Value.int .i64 0] [(PcStep.mk 2 r237 s365.2 s365.2 1 0)] := (Els.snoc (H := (up wa.heap.size H247)) (E := ePcStep) (k := 6) (c := [Value.int .i64 2, v243, Value.int .i64 s365.2, Value.int .i64 s365.2, Value.int .i64 1, Value.int .i64 0]) (x := (PcStep.mk 2 r237 s365.2 s365.2 1 0)) Els.nil rfl ⟨_, rfl, h250⟩)
                  have nd257 : (bl [Value.int .i64 2, v243, Value.int .i64 s365.2, Value.int .i64 s365.2, Value.int .i64 1, Value.int .i64 0]).Nodup := by exact nd_one v243
                  refine FC.val (l' := (bs 16 8191)) rfl (by kernel_rfl) rfl rfl rfl (E.buildSlice (B1 rfl) run254) ?_
                  refine ⟨(SP.on (hall234 _ _ _ 3 S255 rfl) (SP.on ((S255.box_now (i := 1) rfl).sub (j := 0) (n := 1) (c := [v196]) rfl) (SP.nil (Sl.of_inc (r242.run.inc.tr i249) S255.sl)))), ?_⟩
                  refine FB.all1 (i := 13) (by kernel_rfl) ?_
                  ·
                    obtain ⟨v260, w263, n261, cs262, run264, S265, els266, ce267⟩ := S255.appendO (P := Tryz.prog) te55 (i := 3) (j := 0) rfl (els199.mono (up_mono (r242.run.inc.tr i249))) rfl els256 hz259
                    have S265 : St Ha wa H247 w263 [.row 129 6 v252 1 [Value.int .i64 2, v243, Value.int .i64 s365.2, Value.int .i64 s365.2, Value.int .i64 1, Value.int .i64 0], .box b43 118 [v196, v52], .row 3 1 v52 n53 cs54, .row 129 6 v260 n261 cs262, .box b29 118 [Value.slice none 0 0, Value.slice none 0 0]] := S265
                    have nd268 : (bl cs262).Nodup := by rw [ce267]; exact nd_app nd200 nd257 (Els.dom (els199.mono (upI.tr r242.run.inc))) (by exact nv251)
                    have S269 : St Ha wa H247 w263 [.box b43 118 [v196, v52], .row 3 1 v52 n53 cs54, .row 129 6 v260 n261 cs262, .box b29 118 [Value.slice none 0 0, Value.slice none 0 0]] := S265.drop 0
                    refine FC.val (l' := (bs 16 16383)) rfl (by kernel_rfl) rfl rfl rfl (E.append rfl rfl run264) ?_
                    refine ⟨(SP.o (SP.on ((S269.box_now (i := 0) rfl).sub (j := 0) (n := 1) (c := [v196]) rfl) (SP.nil (Sl.of_inc (r242.run.inc.tr i249) S269.sl)))), ?_⟩
                    refine FB.t (i := 14) (bs 16 32767) rfl (SP.o (SP.on ((S269.box_now (i := 0) rfl).sub (j := 0) (n := 1) (c := [v196]) rfl) (SP.nil (Sl.of_inc (r242.run.inc.tr i249) S269.sl)))) rfl (fun w' hw' => (E.fieldAddr tf118_0 k210)) ?_
                    refine FB.all1 (i := 15) (by kernel_rfl) ?_
                    ·
                      obtain ⟨w270, run271, S272⟩ := S269.store (P := Tryz.prog) (t := 55) (i := 0) (j := 0) (cs' := [v260, v52]) (l' := [.box b43 118 [v260, v52], .row 3 1 v52 n53 cs54, .row 129 6 v260 n261 cs262, .box b29 118 [Value.slice none 0 0, Value.slice none 0 0]]) (v := v260) (c := [v260]) rfl Tryz.sizeOf55 (Ln.cells (S269.row_ln (i := 2) rfl)) rfl (ones_cons (Ln.one (S269.row_ln (i := 2) rfl)) ones_nil) (Nat.le_of_ble_eq_true rfl) rfl rfl
                      refine FC.act (l' := (bs 16 65535)) rfl (by kernel_rfl) rfl rfl (E.store rfl rfl run271) ?_
                      refine ⟨(SP.o (SP.o (SP.nil (Sl.of_inc (r242.run.inc.tr i249) S272.sl)))), ?_⟩
                      exact FB.done (by kernel_rfl) ⟨_, _, _, _, S272, (r242.run.inc.tr i249), els266, nd268, k206, k207, k208, k209, k210, k211⟩
            ·
              rintro f282 w281 ⟨H278, v273, n274, cs275, S279, i280, els276, nd277, k283, k284, k285, k286, k287, k288⟩
              refine FW.region ?_
              refine FL.v (E.fieldAddr tf118_0 k287) ?_
              refine FL.v (E.load rfl (run_load1 Tryz.isAgg55 (S279.box_now (i := 0) rfl) rfl)) ?_
              refine FL.v (E.lenO te55 rfl S279 (i := 2) rfl els276 (by decide)) ?_
              refine FL.v (E.sub rfl rfl) ?_
              refine FL.v (E.assign (v := Value.int .i64 (wr ((len xs258) - 1))) rfl) ?_
              refine FL.nil (FW.region ?_)
              refine FL.v (E.fieldAddr tf118_1 k287) ?_
              refine FL.v (E.load rfl (run_load1 Tryz.isAgg39 (S279.box_now (i := 0) rfl) rfl)) ?_
              refine FL.v (E.move (v := Value.int .i64 (wr ((len xs258) - 1))) rfl) ?_
              obtain ⟨v289, w290, run291, S292⟩ := S279.buildSlice (P := Tryz.prog) te39 [Value.int .i64 (wr ((len xs258) - 1))] (parts := #[(0, Value.int .i64 (wr ((len xs258) - 1)))]) (cells := [Value.int .i64 (wr ((len xs258) - 1))]) rfl (szs_cons rfl szs_nil) (fc_cons rfl fc_nil) (ones_cons rfl ones_nil) (Nat.le_of_ble_eq_true rfl)
              have els293 : Els (up wa.heap.size H278) eI 1 [Value.int .i64 (wr ((len xs258) - 1))] [(wr ((len xs258) - 1))] := (Els.snoc (H := (up wa.heap.size H278)) (E := eI) (k := 1) (c := [Value.int .i64 (wr ((len xs258) - 1))]) (x := (wr ((len xs258) - 1))) Els.nil rfl rfl)
              refine FL.v (E.buildSlice (B1 rfl) run291) ?_
              obtain ⟨xs294, hz295, hp⟩ := bnd hp
              obtain ⟨v296, w299, n297, cs298, run300, S301, els302, ce303⟩ := S292.appendO (P := Tryz.prog) te39 (i := 2) (j := 0) rfl (els56.mono (up_mono ((i91.tr i203).tr i280))) rfl els293 hz295
              have S301 : St Ha wa H278 w299 [.row 3 1 v289 1 [Value.int .i64 (wr ((len xs258) - 1))], .box b43 118 [v273, v52], .row 3 1 v296 n297 cs298, .row 129 6 v273 n274 cs275, .box b29 118 [Value.slice none 0 0, Value.slice none 0 0]] := S301
              have S304 : St Ha wa H278 w299 [.box b43 118 [v273, v52], .row 3 1 v296 n297 cs298, .row 129 6 v273 n274 cs275, .box b29 118 [Value.slice none 0 0, Value.slice none 0 0]] := S301.drop 0
              refine FL.v (E.append rfl rfl run300) ?_
              refine FL.v (E.fieldAddr tf118_1 k287) ?_
              obtain ⟨w305, run306, S307⟩ := S304.store (P := Tryz.prog) (t := 39) (i := 0) (j := 1) (cs' := [v273, v296]) (l' := [.box b43 118 [v273, v296], .row 3 1 v296 n297 cs298, .row 129 6 v273 n274 cs275, .box b29 118 [Value.slice none 0 0, Value.slice none 0 0]]) (v := v296) (c := [v296]) rfl Tryz.sizeOf39 (Ln.cells (S304.row_ln (i := 1) rfl)) rfl (ones_cons (Ln.one (S304.row_ln (i := 1) rfl)) ones_nil) (Nat.le_of_ble_eq_true rfl) rfl rfl
              refine FL.act rfl rfl (E.store rfl rfl run306) ?_
              refine FL.nil (FW.region ?_)
              refine FL.v (E.move k288) ?_
              refine FL.v (E.add rfl rfl) ?_
              refine FL.v (E.assign (v := Value.int .i64 (wr (((i51 : Nat) : Int) + 1))) rfl) ?_
              refine FL.nil ?_
              obtain rfl := Option.some.inj hp
              exact ⟨rfl, ⟨_, _, _, _, _, _, _, S307, (((i64.tr i91).tr i203).tr i280), els302, els276, nd277, (nat_succ rfl (lt_of_get hx51) (p2.mono ((((i27.tr i64).tr i91).tr i203).tr i280)).le), k283, k284, k285, k286, k287⟩⟩
          ·
            refine FW.condF rfl c222 ?_
            refine FW.skip (FW.region ?_)
            refine FL.v (E.fieldAddr tf118_1 k210) ?_
            refine FL.v (E.load rfl (run_load1 Tryz.isAgg39 (S202.box_now (i := 0) rfl) rfl)) ?_
            refine FL.v (E.move k213) ?_
            obtain ⟨v308, w309, run310, S311⟩ := S202.buildSlice (P := Tryz.prog) te39 [Value.int .i64 s365.2] (parts := #[(0, Value.int .i64 s365.2)]) (cells := [Value.int .i64 s365.2]) rfl (szs_cons rfl szs_nil) (fc_cons rfl fc_nil) (ones_cons rfl ones_nil) (Nat.le_of_ble_eq_true rfl)
            have els312 : Els (up wa.heap.size H201) eI 1 [Value.int .i64 s365.2] [s365.2] := (Els.snoc (H := (up wa.heap.size H201)) (E := eI) (k := 1) (c := [Value.int .i64 s365.2]) (x := s365.2) Els.nil rfl rfl)
            refine FL.v (E.buildSlice (B1 rfl) run310) ?_
            obtain ⟨xs313, hz314, hp⟩ := bnd hp
            obtain ⟨v315, w318, n316, cs317, run319, S320, els321, ce322⟩ := S311.appendO (P := Tryz.prog) te39 (i := 2) (j := 0) rfl (els56.mono (up_mono (i91.tr i203))) rfl els312 hz314
            have S320 : St Ha wa H201 w318 [.row 3 1 v308 1 [Value.int .i64 s365.2], .box b43 118 [v196, v52], .row 3 1 v315 n316 cs317, .row 129 6 v196 n197 cs198, .box b29 118 [Value.slice none 0 0, Value.slice none 0 0]] := S320
            have S323 : St Ha wa H201 w318 [.box b43 118 [v196, v52], .row 3 1 v315 n316 cs317, .row 129 6 v196 n197 cs198, .box b29 118 [Value.slice none 0 0, Value.slice none 0 0]] := S320.drop 0
            refine FL.v (E.append rfl rfl run319) ?_
            refine FL.v (E.fieldAddr tf118_1 k210) ?_
            obtain ⟨w324, run325, S326⟩ := S323.store (P := Tryz.prog) (t := 39) (i := 0) (j := 1) (cs' := [v196, v315]) (l' := [.box b43 118 [v196, v315], .row 3 1 v315 n316 cs317, .row 129 6 v196 n197 cs198, .box b29 118 [Value.slice none 0 0, Value.slice none 0 0]]) (v := v315) (c := [v315]) rfl Tryz.sizeOf39 (Ln.cells (S323.row_ln (i := 1) rfl)) rfl (ones_cons (Ln.one (S323.row_ln (i := 1) rfl)) ones_nil) (Nat.le_of_ble_eq_true rfl) rfl rfl
            refine FL.act rfl rfl (E.store rfl rfl run325) ?_
            refine FL.nil (FW.region ?_)
            refine FL.v (E.move k211) ?_
            refine FL.v (E.add rfl rfl) ?_
            refine FL.v (E.assign (v := Value.int .i64 (wr (((i51 : Nat) : Int) + 1))) rfl) ?_
            refine FL.nil ?_
            obtain rfl := Option.some.inj hp
            exact ⟨rfl, ⟨_, _, _, _, _, _, _, S326, ((i64.tr i91).tr i203), els321, els199, nd200, (nat_succ rfl (lt_of_get hx51) (p2.mono (((i27.tr i64).tr i91).tr i203)).le), k206, k207, k208, k209, k210⟩⟩
      ·
        refine FW.condF rfl c170 ?_
        refine FW.seq ?_
        refine FW.draw (fun w' => Run w85.heap.size H88 w85 H88 w') (by kernel_rfl) (by kernel_rfl) (run_drew S90.sl) ?_
        refine FD.val rfl rfl rfl (fun w' hw' => (E.move k69)) ?_
        refine FD.val rfl rfl rfl (fun w' hw' => (E.fieldAddr tf89_1 rfl)) ?_
        refine FD.val rfl rfl rfl (fun w' hw' => (E.load rfl (run_load1 Tryz.isAgg3 (at92.now (S90.call hw').sl) rfl))) ?_
        obtain ⟨x333, hx334, hp⟩ := bnd hp
        obtain ⟨p327, cs328, pt329, l330, at331, rel332⟩ := p2.at hx334
        obtain ⟨v335, rfl, h336⟩ := eResStep_open rel332
        refine FD.val rfl rfl rfl (fun w' hw' => (E.indexAddr te28 rfl rfl pt329)) ?_
        refine FD.val rfl rfl rfl (fun w' hw' => (E.fieldAddr tf89_0 rfl)) ?_
        refine FD.val rfl rfl rfl (fun w' hw' => (E.load rfl (run_load1 Tryz.isAgg39 ((at331.mono ((i27.tr i64).tr i91)).now (S90.call hw').sl) rfl))) ?_
        refine FD.val rfl rfl rfl (fun w' hw' => (E.move k69)) ?_
        refine FD.val rfl rfl rfl (fun w' hw' => (E.fieldAddr tf89_2 rfl)) ?_
        refine FD.val rfl rfl rfl (fun w' hw' => (E.load rfl (run_load1 Tryz.isAgg3 (at92.now (S90.call hw').sl) rfl))) ?_
        obtain ⟨x343, hx344, hp⟩ := bnd hp
        obtain ⟨p337, cs338, pt339, l340, at341, rel342⟩ := p2.at hx344
        obtain ⟨v345, rfl, h346⟩ := eResStep_open rel342
        refine FD.val rfl rfl rfl (fun w' hw' => (E.indexAddr te28 rfl rfl pt339)) ?_
        refine FD.val rfl rfl rfl (fun w' hw' => (E.fieldAddr tf89_0 rfl)) ?_
        refine FD.val rfl rfl rfl (fun w' hw' => (E.load rfl (run_load1 Tryz.isAgg39 ((at341.mono ((i27.tr i64).tr i91)).now (S90.call hw').sl) rfl))) ?_
        refine FD.val rfl rfl rfl (fun w' hw' => (E.assign (v := v335) rfl)) ?_
        refine FD.val rfl rfl rfl (fun w' hw' => (E.assign (v := v345) rfl)) ?_
        refine FD.nil ?_
        intro w347 r349
        have S348 := S90.call r349
        refine FW.seq (FW.region ?_)
        refine FL.v (E.assign (v := Value.int .i64 0) rfl) ?_
        refine FL.v (E.assign (v := Value.int .i64 0) rfl) ?_
        refine FL.nil (FW.seq ?_)
        obtain ⟨x359, hx360, hp⟩ := bnd hp
        obtain ⟨s464, hq464, hp⟩ := bnd hp
        refine FW.drawB (SX Ha wa H88 [.row 3 1 v52 n53 cs54]) (fun f w => ∃ H : GH, ∃ v381 : Value, ∃ n382 : Nat, ∃ cs383 : List Value, St Ha wa H w [.box b43 118 [v381, v52], .row 3 1 v52 n53 cs54, .row 129 6 v381 n382 cs383, .box b29 118 [Value.slice none 0 0, Value.slice none 0 0]] ∧ Inc H88 H ∧ Els (up wa.heap.size H) ePcStep 6 cs383 s464.1 ∧ (bl cs383).Nodup ∧ f 0 = Value.int .i64 a0 ∧ f 2 = v2 ∧ f 4 = Value.pointer (some ⟨b21, 0, none⟩) ∧ f 6 = Value.pointer (some (⟨b29, 0, none⟩ : Addr)) ∧ f 7 = Value.pointer (some (⟨b43, 0, none⟩ : Addr)) ∧ f 8 = Value.int .i64 ((i51 : Nat) : Int) ∧ f 9 = Value.pointer (some ⟨b81, 0, none⟩) ∧ f 11 = v335 ∧ f 12 = v345 ∧ f 13 = Value.int .i64 s464.2) (by kernel_rfl) S348.sl ?_ ?_
        ·
          intro w350 r351
          have S352 := S348.call r351
          refine FB.phase [] (fun w => WAt w (Addr.add ⟨b43, 0, none⟩ 1) [v52]) ?_
          refine FB.phase [18] (fun w => WAt w (⟨b43, 0, none⟩ : Addr) [v57, v52]) ?_
          refine FB.t (i := 0) (bs 20 1) rfl (SP.on (S352.box_now (i := 0) rfl) (SP.on ((S352.box_now (i := 0) rfl).sub (j := 1) (n := 1) (c := [v52]) rfl) (SP.nil ⟨_, (S352.sel [1] (by decide) rfl), (Inc.rfl _)⟩))) rfl (fun w' hw' => (E.move k68)) ?_
          refine FB.t (i := 1) (bs 20 3) rfl (SP.on (S352.box_now (i := 0) rfl) (SP.on ((S352.box_now (i := 0) rfl).sub (j := 1) (n := 1) (c := [v52]) rfl) (SP.nil ⟨_, (S352.sel [1] (by decide) rfl), (Inc.rfl _)⟩))) rfl (fun w' hw' => (E.fieldAddr tf31_0 k70)) ?_
          refine FB.t (i := 2) (bs 20 7) rfl (SP.on (S352.box_now (i := 0) rfl) (SP.on ((S352.box_now (i := 0) rfl).sub (j := 1) (n := 1) (c := [v52]) rfl) (SP.nil ⟨_, (S352.sel [1] (by decide) rfl), (Inc.rfl _)⟩))) rfl (fun w' hw' => (E.load rfl (run_load1 Tryz.isAgg3 ((at28.mono (i64.tr i91)).now hw'.sl) rfl))) ?_
          refine FB.p (i := 3) (bs 20 15) 0 [14, 15, 16, 17, 18, 19] rfl (SP.on (S352.box_now (i := 0) rfl) (SP.on ((S352.box_now (i := 0) rfl).sub (j := 1) (n := 1) (c := [v52]) rfl) (SP.nil ⟨_, (S352.sel [1] (by decide) rfl), (Inc.rfl _)⟩))) rfl rfl (fun w' hw' => (E.load k72 (run_loadA Tryz.isAgg118 Tryz.sizeOf118 hw' rfl))) ?_
          refine FB.t (i := 4) (bs 20 31) rfl (SP.on (S352.box_now (i := 0) rfl) (SP.on ((S352.box_now (i := 0) rfl).sub (j := 1) (n := 1) (c := [v52]) rfl) (SP.nil ⟨_, (S352.sel [1] (by decide) rfl), (Inc.rfl _)⟩))) rfl (fun w' hw' => (E.fieldAddr tf118_1 k72)) ?_
          refine FB.p (i := 5) (bs 20 63) 1 [8, 9, 14, 15, 16, 17, 18, 19] rfl (SP.on (S352.box_now (i := 0) rfl) (SP.on ((S352.box_now (i := 0) rfl).sub (j := 1) (n := 1) (c := [v52]) rfl) (SP.nil ⟨_, (S352.sel [1] (by decide) rfl), (Inc.rfl _)⟩))) rfl rfl (fun w' hw' => (E.load rfl (run_load0 Tryz.isAgg39 hw' rfl))) ?_
          refine FB.t (i := 6) (bs 20 127) rfl (SP.on (S352.box_now (i := 0) rfl) (SP.on ((S352.box_now (i := 0) rfl).sub (j := 1) (n := 1) (c := [v52]) rfl) (SP.nil ⟨_, (S352.sel [1] (by decide) rfl), (Inc.rfl _)⟩))) rfl (fun w' hw' => (E.fieldAddr tf89_1 rfl)) ?_
          refine FB.t (i := 7) (bs 20 255) rfl (SP.on (S352.box_now (i := 0) rfl) (SP.on ((S352.box_now (i := 0) rfl).sub (j := 1) (n := 1) (c := [v52]) rfl) (SP.nil ⟨_, (S352.sel [1] (by decide) rfl), (Inc.rfl _)⟩))) rfl (fun w' hw' => (E.load rfl (run_load1 Tryz.isAgg3 (at92.now hw'.sl) rfl))) ?_
          obtain ⟨p353, cs354, pt355, l356, at357, rel358, hall361⟩ := S352.row_atA (i := 1) rfl els56 (by decide) hx360
          obtain rfl := eI_open rel358
          refine FB.t (i := 8) (bs 20 511) rfl (SP.on (S352.box_now (i := 0) rfl) (SP.on ((S352.box_now (i := 0) rfl).sub (j := 1) (n := 1) (c := [v52]) rfl) (SP.nil ⟨_, (S352.sel [1] (by decide) rfl), (Inc.rfl _)⟩))) rfl (fun w' hw' => (E.indexAddr te39 rfl rfl pt355)) ?_
          refine FB.t (i := 9) (bs 20 1023) rfl (SP.on (S352.box_now (i := 0) rfl) (SP.on ((S352.box_now (i := 0) rfl).sub (j := 1) (n := 1) (c := [v52]) rfl) (SP.nil ⟨_, (S352.sel [1] (by decide) rfl), (Inc.rfl _)⟩))) rfl (fun w' hw' => (E.load rfl (run_load0 Tryz.isAgg3 (hw'.use fun _ st => hall361 _ _ _ 0 st rfl) rfl))) ?_
          refine FB.t (i := 10) (bs 20 2047) rfl (SP.on (S352.box_now (i := 0) rfl) (SP.on ((S352.box_now (i := 0) rfl).sub (j := 1) (n := 1) (c := [v52]) rfl) (SP.nil ⟨_, (S352.sel [1] (by decide) rfl), (Inc.rfl _)⟩))) rfl (fun w' hw' => (E.move (v := v335) rfl)) ?_
          refine FB.t (i := 11) (bs 20 4095) rfl (SP.on (S352.box_now (i := 0) rfl) (SP.on ((S352.box_now (i := 0) rfl).sub (j := 1) (n := 1) (c := [v52]) rfl) (SP.nil ⟨_, (S352.sel [1] (by decide) rfl), (Inc.rfl _)⟩))) rfl (fun w' hw' => (E.move (v := v345) rfl)) ?_
          refine FB.t (i := 12) (bs 20 8191) rfl (SP.on (S352.box_now (i := 0) rfl) (SP.on ((S352.box_now (i := 0) rfl).sub (j := 1) (n := 1) (c := [v52]) rfl) (SP.nil ⟨_, (S352.sel [1] (by decide) rfl), (Inc.rfl _)⟩))) rfl (fun w' hw' => (E.fieldAddr tf89_3 rfl)) ?_
          refine FB.t (i := 13) (bs 20 16383) rfl (SP.on (S352.box_now (i := 0) rfl) (SP.on ((S352.box_now (i := 0) rfl).sub (j := 1) (n := 1) (c := [v52]) rfl) (SP.nil ⟨_, (S352.sel [1] (by decide) rfl), (Inc.rfl _)⟩))) rfl (fun w' hw' => (E.load rfl (run_load1 Tryz.isAgg3 (at92.now hw'.sl) rfl))) ?_
          refine FB.all1 (i := 14) (by kernel_rfl) ?_
          ·
            obtain ⟨R464, hR464⟩ : ∃ R464 : ((List PcStep) × Int) → Ending → World → Prop, R464 = (fun s464 e w => ∃ H : GH, ∃ v465 : Value, ∃ n466 : Nat, ∃ cs467 : List Value, e = Ending.returned (Value.tuple #[Value.agg #[v465, v52], Value.int .i64 s464.2]) ∧ St Ha wa H w [.box b43 118 [v57, v52], .row 3 1 v52 n53 cs54, .row 129 6 v465 n466 cs467, .box b29 118 [Value.slice none 0 0, Value.slice none 0 0]] ∧ Inc H88 H ∧ Els (up wa.heap.size H) ePcStep 6 cs467 s464.1 ∧ (bl cs467).Nodup) := ⟨_, rfl⟩
            have hc464 : Calls Tryz.prog 167 #[Value.int .i64 a0, Value.int .i64 a1.vars, Value.agg #[v57, v52], Value.int .i64 x359, v335, v345, Value.int .i64 y50.pivot] w350 (R464 s464) := by
              clear hp; have hp := hq464; clear hq464
              refine calls_go (N := 97) (args := [Value.int .i64 a0, Value.int .i64 a1.vars, Value.agg #[v57, v52], Value.int .i64 x359, v335, v345, Value.int .i64 y50.pivot]) Tryz.func167 rfl rfl rfl ?_
              refine FW.seq (FW.region ?_)
              obtain ⟨b470, w471, run472, S473⟩ := S352.box (P := Tryz.prog) 118 [v57, v52] (v := Value.agg #[v57, v52]) rfl (ones_cons (Ln.one (S352.row_ln (i := 2) rfl)) (ones_cons (Ln.one (S352.row_ln (i := 1) rfl)) ones_nil))
              refine FL.v (E.box rfl run472) ?_
              obtain ⟨b474, w475, run476, S477⟩ := S473.alloc (P := Tryz.prog) 118 [Value.slice none 0 0, Value.slice none 0 0] Tryz.zeroValue118 rfl (ones_cons rfl (ones_cons rfl ones_nil))
              refine FL.v (E.alloc run476) ?_
              refine FL.v (E.assign (v := Value.int .i64 0) rfl) ?_
              refine FL.nil (FW.seq (FW.seq (FW.region ?_)))
              refine FL.v (E.assign (v := Value.int .i64 0) rfl) ?_
              refine FL.nil ?_
              obtain ⟨q479, hq, hp⟩ := bndR hp
              refine FW.block ?_
              refine FW.mono (FW.forL (S := ((List PcStep) × Int)) (X := Empty) (fun (i479 : Nat) (s479 : ((List PcStep) × Int)) f w => ∃ H : GH, ∃ v730 : Value, ∃ n731 : Nat, ∃ cs732 : List Value, St Ha wa H w [.box b474 118 [Value.slice none 0 0, Value.slice none 0 0], .box b470 118 [v730, v52], .box b43 118 [v57, v52], .row 3 1 v52 n53 cs54, .row 129 6 v730 n731 cs732, .box b29 118 [Value.slice none 0 0, Value.slice none 0 0]] ∧ Inc H88 H ∧ Els (up wa.heap.size H) ePcStep 6 cs732 s479.1 ∧ (bl cs732).Nodup ∧ f 16 = Value.int .i64 ((i479 : Nat) : Int) ∧ f 0 = Value.int .i64 a0 ∧ f 1 = Value.int .i64 a1.vars ∧ f 3 = Value.int .i64 s479.2 ∧ f 4 = v335 ∧ f 5 = v345 ∧ f 6 = Value.int .i64 y50.pivot ∧ f 9 = Value.pointer (some (⟨b470, 0, none⟩ : Addr)) ∧ f 14 = Value.pointer (some (⟨b474, 0, none⟩ : Addr))) (fun (q : Rs ((List PcStep) × Int) Empty) e f w => match q with | .go s479 => e = Exit.exit 0 ∧ (∃ H : GH, ∃ v730 : Value, ∃ n731 : Nat, ∃ cs732 : List Value, St Ha wa H w [.box b474 118 [Value.slice none 0 0, Value.slice none 0 0], .box b470 118 [v730, v52], .box b43 118 [v57, v52], .row 3 1 v52 n53 cs54, .row 129 6 v730 n731 cs732, .box b29 118 [Value.slice none 0 0, Value.slice none 0 0]] ∧ Inc H88 H ∧ Els (up wa.heap.size H) ePcStep 6 cs732 s479.1 ∧ (bl cs732).Nodup ∧ f 3 = Value.int .i64 s479.2 ∧ f 9 = Value.pointer (some (⟨b470, 0, none⟩ : Addr)) ∧ f 14 = Value.pointer (some (⟨b474, 0, none⟩ : Addr))) | .rt x => x.elim) hq ⟨_, _, _, _, S477, (Inc.rfl _), (els60.mono (up_mono i91)), nd61, rfl, rfl, rfl, rfl, rfl, rfl, rfl, rfl, rfl⟩ ?_ ?_) ?_
              ·
                clear hp hq
                rintro i479 y478 s479 f818 w817 ⟨H814, v730, n731, cs732, S815, i816, els733, nd734, k819, k820, k821, k822, k823, k824, k825, k826, k827⟩ hx479 o1100 hp
                refine FW.seq (FW.seq (FW.region ?_))
                refine FL.v (E.move k819) ?_
                refine FL.v (E.move k824) ?_
                refine FL.v (E.lenP te39 rfl h346) ?_
                refine FL.v (E.lssT rfl rfl (lss_len hx479)) ?_
                refine FL.nil ?_
                refine FW.condT rfl rfl ?_
                refine FW.skip (FW.seq (FW.block (FW.seq (FW.seq (FW.region ?_)))))
                refine FL.v (E.move k823) ?_
                refine FL.v (E.move k824) ?_
                refine FL.v (E.move k819) ?_
                obtain ⟨p828, cs829, pt830, l831, at832, rel833⟩ := h346.at (ix_nat hx479)
                obtain rfl := eI_open rel833
                refine FL.v (E.indexAddr te39 rfl rfl pt830) ?_
                refine FL.v (E.load rfl (run_load0 Tryz.isAgg3 ((at832.mono (((i27.tr i64).tr i91).tr i816)).now S815.sl) rfl)) ?_
                obtain ⟨r834, hr835, hp⟩ := bnd hp
                refine FL.call rfl rfl rfl (E.call Tryz.call198 (A2 rfl rfl)) (w_spec_l2Has S815.sl v335 x333.clause (h336.mono (((i27.tr i64).tr i91).tr i816)) y478 hr835) ?_
                rintro e w836 ⟨rfl, r837⟩
                refine ⟨_, rfl, ?_⟩
                have S838 := S815.call r837
                refine FL.v (E.move (v := Value.bool r834) rfl) ?_
                refine FL.cut 8 (fun f w => ∃ H : GH, St Ha wa H w [.box b474 118 [Value.slice none 0 0, Value.slice none 0 0], .box b470 118 [v730, v52], .box b43 118 [v57, v52], .row 3 1 v52 n53 cs54, .row 129 6 v730 n731 cs732, .box b29 118 [Value.slice none 0 0, Value.slice none 0 0]] ∧ Inc H814 H ∧ f 0 = Value.int .i64 a0 ∧ f 1 = Value.int .i64 a1.vars ∧ f 3 = Value.int .i64 s479.2 ∧ f 4 = v335 ∧ f 5 = v345 ∧ f 6 = Value.int .i64 y50.pivot ∧ f 9 = Value.pointer (some (⟨b470, 0, none⟩ : Addr)) ∧ f 14 = Value.pointer (some (⟨b474, 0, none⟩ : Addr)) ∧ f 16 = Value.int .i64 ((i479 : Nat) : Int) ∧ f 40 = Value.bool (bif r834 then true else ((PF.spec_l2Var y478) == y50.pivot))) ?_ ?_
                ·
                  rcases bcase r834 with c844 | c844
                  ·
                    refine FL.skip (wF_no rfl rfl rfl c844) rfl ?_
                    refine FL.skip (wF_no rfl rfl rfl c844) rfl ?_
                    refine FL.skip (wF_no rfl rfl rfl c844) rfl ?_
                    refine FL.skip (wF_no rfl rfl rfl c844) rfl ?_
                    refine FL.skip (wF_no rfl rfl rfl c844) rfl ?_
                    refine FL.skip (wF_no rfl rfl rfl c844) rfl ?_
                    refine FL.skip (wF_no rfl rfl rfl c844) rfl ?_
                    refine FL.v (E.pickT rfl c844 rfl) ?_
                    exact FL.nil ⟨rfl, _, S838, (Inc.rfl _), k820, k821, k822, k823, k824, k825, k826, k827, k819, (congrArg Value.bool (bifT c844).symm)⟩
                  ·
                    refine FL.val (wF_yes rfl rfl rfl c844) rfl rfl (E.move k824) ?_
                    refine FL.val (wF_yes rfl rfl rfl c844) rfl rfl (E.move k819) ?_
                    obtain ⟨p845, cs846, pt847, l848, at849, rel850⟩ := h346.at (ix_nat hx479)
                    obtain rfl := eI_open rel850
                    refine FL.val (wF_yes rfl rfl rfl c844) rfl rfl (E.indexAddr te39 rfl rfl pt847) ?_
                    refine FL.val (wF_yes rfl rfl rfl c844) rfl rfl (E.load rfl (run_load0 Tryz.isAgg3 ((at849.mono (((i27.tr i64).tr i91).tr i816)).now S838.sl) rfl)) ?_
                    refine FL.call (wF_yes rfl rfl rfl c844) rfl rfl (E.call Tryz.call171 (A1 rfl)) (w_spec_l2Var S838.sl y478) ?_
                    rintro e w851 ⟨rfl, r852⟩
                    refine ⟨_, rfl, ?_⟩
                    have S853 := S838.call r852
                    refine FL.val (wF_yes rfl rfl rfl c844) rfl rfl (E.move k825) ?_
                    refine FL.val (wF_yes rfl rfl rfl c844) rfl rfl (E.eql rfl rfl) ?_
                    refine FL.v (E.pickF rfl c844 rfl) ?_
                    exact FL.nil ⟨rfl, _, S853, (Inc.rfl _), k820, k821, k822, k823, k824, k825, k826, k827, k819, (congrArg Value.bool (bifF c844).symm)⟩
                rintro f843 w842 ⟨H839, S840, i841, k854, k855, k856, k857, k858, k859, k860, k861, k862, k863⟩
                refine FL.nil ?_
                rcases ifB hp with ⟨c864, hp⟩ | ⟨c864, hp⟩
                ·
                  refine FW.condT k863 c864 ?_
                  refine FW.exit ?_
                  refine FW.region ?_
                  refine FL.v (E.move k862) ?_
                  refine FL.v (E.add rfl rfl) ?_
                  refine FL.v (E.assign (v := Value.int .i64 (wr (((i479 : Nat) : Int) + 1))) rfl) ?_
                  refine FL.nil ?_
                  obtain rfl := Option.some.inj hp
                  exact ⟨rfl, ⟨_, _, _, _, S840, (i816.tr i841), (els733.mono (up_mono i841)), nd734, (nat_succ rfl (lt_of_get hx479) (h346.mono ((((i27.tr i64).tr i91).tr i816).tr i841)).le), k854, k855, k856, k857, k858, k859, k860, k861⟩⟩
                ·
                  refine FW.condF k863 c864 ?_
                  refine FW.skip (FW.seq ?_)
                  refine FW.draw (fun w' => Run w842.heap.size H839 w842 H839 w') (by kernel_rfl) (by kernel_rfl) (run_drew S840.sl) ?_
                  refine FD.val rfl rfl rfl (fun w' hw' => (E.move k858)) ?_
                  refine FD.val rfl rfl rfl (fun w' hw' => (E.move k862)) ?_
                  obtain ⟨p865, cs866, pt867, l868, at869, rel870⟩ := h346.at (ix_nat hx479)
                  obtain rfl := eI_open rel870
                  refine FD.val rfl rfl rfl (fun w' hw' => (E.indexAddr te39 rfl rfl pt867)) ?_
                  refine FD.val rfl rfl rfl (fun w' hw' => (E.load rfl (run_load0 Tryz.isAgg3 ((at869.mono ((((i27.tr i64).tr i91).tr i816).tr i841)).now (S840.call hw').sl) rfl))) ?_
                  refine FD.call rfl rfl rfl (fun w' hw' => (E.call Tryz.call171 (A1 rfl))) (fun w' hw' => Calls.cls hw' (w_spec_l2Var (S840.call hw').sl y478)) ?_
                  refine FD.val rfl rfl rfl (fun w' hw' => (E.fieldAddr tf118_0 k860)) ?_
                  refine FD.val rfl rfl rfl (fun w' hw' => (E.load rfl (run_load1 Tryz.isAgg55 ((S840.call hw').box_now (i := 1) rfl) rfl))) ?_
                  refine FD.val rfl rfl rfl (fun w' hw' => (E.move k856)) ?_
                  obtain ⟨x877, hx878, hp⟩ := bnd hp
                  obtain ⟨p871, cs872, pt873, l874, at875, rel876⟩ := S840.row_at (i := 4) rfl els733 (by decide) hx878
                  obtain ⟨v879, rfl, h880⟩ := ePcStep_open rel876
                  refine FD.val rfl rfl rfl (fun w' hw' => (E.indexAddr te55 rfl rfl pt873)) ?_
                  refine FD.val rfl rfl rfl (fun w' hw' => (E.fieldAddr tf129_1 rfl)) ?_
                  refine FD.val rfl rfl rfl (fun w' hw' => (E.load rfl (run_load1 Tryz.isAgg68 (at875.cls hw') rfl))) ?_
                  refine FD.val rfl rfl rfl (fun w' hw' => (E.assign (v := Value.int .i64 (PF.spec_l2Var y478)) rfl)) ?_
                  refine FD.val rfl rfl rfl (fun w' hw' => (E.assign (v := v879) rfl)) ?_
                  refine FD.nil ?_
                  intro w881 r883
                  have S882 := S840.call r883
                  refine FW.seq (FW.region ?_)
                  refine FL.v (E.move k854) ?_
                  refine FL.v (E.move k855) ?_
                  refine FL.v (E.move (v := v879) rfl) ?_
                  refine FL.v (E.move (v := Value.int .i64 (PF.spec_l2Var y478)) rfl) ?_
                  obtain ⟨r884, hr885, hp⟩ := bnd hp
                  refine FL.call rfl rfl rfl (E.call Tryz.call188 (A4 rfl rfl rfl rfl)) (w_spec_l20Times S882.sl a0 a1.vars v879 x877.poly (h880.mono (upI.tr i841)) (PF.spec_l2Var y478) hr885) ?_
                  rintro e w887 ⟨H886, v890, n891, cs892, rfl, r889, els893⟩
                  refine ⟨_, rfl, ?_⟩
                  have els893 := els893.mono (up_le S882.size)
                  have S888 := S882.join (l' := [.row 147 2 v890 n891 cs892, .box b474 118 [Value.slice none 0 0, Value.slice none 0 0], .box b470 118 [v730, v52], .box b43 118 [v57, v52], .row 3 1 v52 n53 cs54, .row 129 6 v730 n731 cs732, .box b29 118 [Value.slice none 0 0, Value.slice none 0 0]]) r889 rfl
                  refine FL.v (E.assign (v := v890) rfl) ?_
                  refine FL.nil (FW.seq (FW.region ?_))
                  refine FL.v (E.fieldAddr tf118_0 k860) ?_
                  refine FL.v (E.load rfl (run_load1 Tryz.isAgg55 (S888.box_now (i := 2) rfl) rfl)) ?_
                  refine FL.v (E.move (v := v890) rfl) ?_
                  refine FL.v (E.move k856) ?_
                  refine FL.v (E.move (v := Value.int .i64 (PF.spec_l2Var y478)) rfl) ?_
                  refine FL.v (E.build (B4 rfl rfl rfl rfl) (run_build _ 129 #[(0, Value.int .i64 3), (1, v890), (2, Value.int .i64 s479.2), (4, Value.int .i64 (PF.spec_l2Var y478))] #[Value.int .i64 3, v890, Value.int .i64 s479.2, Value.int .i64 0, Value.int .i64 (PF.spec_l2Var y478), Value.int .i64 0] (by obtain ⟨_, _, rfl⟩ := S888.row_ln (i := 0) rfl; rfl))) ?_
                  obtain ⟨H894, S895, i896, h897, nv898⟩ := S888.sealRowU (i := 0) (l' := [.box b474 118 [Value.slice none 0 0, Value.slice none 0 0], .box b470 118 [v730, v52], .box b43 118 [v57, v52], .row 3 1 v52 n53 cs54, .row 129 6 v730 n731 cs732, .box b29 118 [Value.slice none 0 0, Value.slice none 0 0]]) rfl els893 (by decide) rfl
                  obtain ⟨v899, w900, run901, S902⟩ := S895.buildSlice (P := Tryz.prog) te55 [Value.agg #[Value.int .i64 3, v890, Value.int .i64 s479.2, Value.int .i64 0, Value.int .i64 (PF.spec_l2Var y478), Value.int .i64 0]] (parts := #[(0, Value.agg #[Value.int .i64 3, v890, Value.int .i64 s479.2, Value.int .i64 0, Value.int .i64 (PF.spec_l2Var y478), Value.int .i64 0])]) (cells := [Value.int .i64 3, v890, Value.int .i64 s479.2, Value.int .i64 0, Value.int .i64 (PF.spec_l2Var y478), Value.int .i64 0]) rfl (szs_cons rfl szs_nil) (fc_cons rfl fc_nil) (ones_cons rfl (ones_cons h897.one (ones_cons rfl (ones_cons rfl (ones_cons rfl (ones_cons rfl ones_nil)))))) (Nat.le_of_ble_eq_true rfl)
                  have els903 : Els (up wa.heap.size H894) ePcStep 6 [Value.int .i64 3, v890, Value.int .i64 s479.2, Value.int .i64 0, Value.int .i64 (PF.spec_l2Var y478), Value.int .i64 0] [(PcStep.mk 3 r884 s479.2 0 (PF.spec_l2Var y478) 0)] := (Els.snoc (H := (up wa.heap.size H894)) (E := ePcStep) (k := 6) (c := [Value.int .i64 3, v890, Value.int .i64 s479.2, Value.int .i64 0, Value.int .i64 (PF.spec_l2Var y478), Value.int .i64 0]) (x := (PcStep.mk 3 r884 s479.2 0 (PF.spec_l2Var y478) 0)) Els.nil rfl ⟨_, rfl, h897⟩)
                  have nd904 : (bl [Value.int .i64 3, v890, Value.int .i64 s479.2, Value.int .i64 0, Value.int .i64 (PF.spec_l2Var y478), Value.int .i64 0]).Nodup := by exact nd_one v890
                  refine FL.v (E.buildSlice (B1 rfl) run901) ?_
                  obtain ⟨xs905, hz906, hp⟩ := bnd hp
                  obtain ⟨v907, w910, n908, cs909, run911, S912, els913, ce914⟩ := S902.appendO (P := Tryz.prog) te55 (i := 5) (j := 0) rfl (els733.mono (up_mono ((i841.tr r889.run.inc).tr i896))) rfl els903 hz906
                  have S912 : St Ha wa H894 w910 [.row 129 6 v899 1 [Value.int .i64 3, v890, Value.int .i64 s479.2, Value.int .i64 0, Value.int .i64 (PF.spec_l2Var y478), Value.int .i64 0], .box b474 118 [Value.slice none 0 0, Value.slice none 0 0], .box b470 118 [v730, v52], .box b43 118 [v57, v52], .row 3 1 v52 n53 cs54, .row 129 6 v907 n908 cs909, .box b29 118 [Value.slice none 0 0, Value.slice none 0 0]] := S912
                  have nd915 : (bl cs909).Nodup := by rw [ce914]; exact nd_app nd734 nd904 (Els.dom (els733.mono (upI.tr (i841.tr r889.run.inc)))) (by exact nv898)
                  have S916 : St Ha wa H894 w910 [.box b474 118 [Value.slice none 0 0, Value.slice none 0 0], .box b470 118 [v730, v52], .box b43 118 [v57, v52], .row 3 1 v52 n53 cs54, .row 129 6 v907 n908 cs909, .box b29 118 [Value.slice none 0 0, Value.slice none 0 0]] := S912.drop 0
                  refine FL.v (E.append rfl rfl run911) ?_
                  refine FL.v (E.fieldAddr tf118_0 k860) ?_
                  obtain ⟨w917, run918, S919⟩ := S916.store (P := Tryz.prog) (t := 55) (i := 1) (j := 0) (cs' := [v907, v52]) (l' := [.box b474 118 [Value.slice none 0 0, Value.slice none 0 0], .box b470 118 [v907, v52], .box b43 118 [v57, v52], .row 3 1 v52 n53 cs54, .row 129 6 v907 n908 cs909, .box b29 118 [Value.slice none 0 0, Value.slice none 0 0]]) (v := v907) (c := [v907]) rfl Tryz.sizeOf55 (Ln.cells (S916.row_ln (i := 4) rfl)) rfl (ones_cons (Ln.one (S916.row_ln (i := 4) rfl)) ones_nil) (Nat.le_of_ble_eq_true rfl) rfl rfl
                  refine FL.act rfl rfl (E.store rfl rfl run918) ?_
                  refine FL.nil (FW.seq (FW.seq (FW.region ?_)))
                  refine FL.v (E.move k858) ?_
                  refine FL.v (E.move k862) ?_
                  obtain ⟨p920, cs921, pt922, l923, at924, rel925⟩ := h346.at (ix_nat hx479)
                  obtain rfl := eI_open rel925
                  refine FL.v (E.indexAddr te39 rfl rfl pt922) ?_
                  refine FL.v (E.load rfl (run_load0 Tryz.isAgg3 ((at924.mono ((((((i27.tr i64).tr i91).tr i816).tr i841).tr r889.run.inc).tr i896)).now S919.sl) rfl)) ?_
                  refine FL.v (E.gtr rfl rfl) ?_
                  refine FL.nil ?_
                  rcases ifB hp with ⟨c926, hp⟩ | ⟨c926, hp⟩
                  ·
                    refine FW.condT rfl c926 ?_
                    obtain ⟨r930, hr931, hp⟩ := bnd hp
                    obtain ⟨xs951, hz952, hp⟩ := bnd hp
                    refine FW.drawB (Sl H894) (fun f w => ∃ H : GH, ∃ v1082 : Value, ∃ n1083 : Nat, ∃ cs1084 : List Value, St Ha wa H w [.box b474 118 [Value.slice none 0 0, Value.slice none 0 0], .box b470 118 [v1082, v52], .box b43 118 [v57, v52], .row 3 1 v52 n53 cs54, .row 129 6 v1082 n1083 cs1084, .box b29 118 [Value.slice none 0 0, Value.slice none 0 0]] ∧ Inc H894 H ∧ Els (up wa.heap.size H) ePcStep 6 cs1084 xs951 ∧ (bl cs1084).Nodup ∧ f 0 = Value.int .i64 a0 ∧ f 1 = Value.int .i64 a1.vars ∧ f 4 = v335 ∧ f 5 = v345 ∧ f 6 = Value.int .i64 y50.pivot ∧ f 9 = Value.pointer (some (⟨b470, 0, none⟩ : Addr)) ∧ f 14 = Value.pointer (some (⟨b474, 0, none⟩ : Addr)) ∧ f 16 = Value.int .i64 ((i479 : Nat) : Int)) (by kernel_rfl) S919.sl ?_ ?_
                    ·
                      intro w927 r928
                      have S929 := S919.call r928
                      refine FB.phase [20] (fun w => WAt w (Addr.add ⟨b470, 0, none⟩ 0) [v907]) ?_
                      refine FB.t (i := 0) (bs 21 1) rfl (SP.on ((S929.box_now (i := 1) rfl).sub (j := 0) (n := 1) (c := [v907]) rfl) (SP.nil S929.sl)) rfl (fun w' hw' => (E.fieldAddr tf118_0 k860)) ?_
                      refine FB.p (i := 1) (bs 21 3) 0 [18, 19, 20] rfl (SP.on ((S929.box_now (i := 1) rfl).sub (j := 0) (n := 1) (c := [v907]) rfl) (SP.nil S929.sl)) rfl rfl (fun w' hw' => (E.load rfl (run_load0 Tryz.isAgg55 hw' rfl))) ?_
                      refine FB.t (i := 2) (bs 21 7) rfl (SP.on ((S929.box_now (i := 1) rfl).sub (j := 0) (n := 1) (c := [v907]) rfl) (SP.nil S929.sl)) rfl (fun w' hw' => (E.move k854)) ?_
                      refine FB.t (i := 3) (bs 21 15) rfl (SP.on ((S929.box_now (i := 1) rfl).sub (j := 0) (n := 1) (c := [v907]) rfl) (SP.nil S929.sl)) rfl (fun w' hw' => (E.move k855)) ?_
                      refine FB.t (i := 4) (bs 21 31) rfl (SP.on ((S929.box_now (i := 1) rfl).sub (j := 0) (n := 1) (c := [v907]) rfl) (SP.nil S929.sl)) rfl (fun w' hw' => (E.move (v := v879) rfl)) ?_
                      refine FB.t (i := 5) (bs 21 63) rfl (SP.on ((S929.box_now (i := 1) rfl).sub (j := 0) (n := 1) (c := [v907]) rfl) (SP.nil S929.sl)) rfl (fun w' hw' => (E.move (v := v890) rfl)) ?_
                      refine FB.t (i := 6) (bs 21 127) rfl (SP.on ((S929.box_now (i := 1) rfl).sub (j := 0) (n := 1) (c := [v907]) rfl) (SP.nil S929.sl)) rfl (fun w' hw' => (E.move k854)) ?_
                      refine FB.t (i := 7) (bs 21 255) rfl (SP.on ((S929.box_now (i := 1) rfl).sub (j := 0) (n := 1) (c := [v907]) rfl) (SP.nil S929.sl)) rfl (fun w' hw' => (E.sub rfl rfl)) ?_
                      refine FB.t (i := 9) (bs 21 767) rfl (SP.on ((S929.box_now (i := 1) rfl).sub (j := 0) (n := 1) (c := [v907]) rfl) (SP.nil S929.sl)) rfl (fun w' hw' => (E.move k856)) ?_
                      refine FB.t (i := 10) (bs 21 1791) rfl (SP.on ((S929.box_now (i := 1) rfl).sub (j := 0) (n := 1) (c := [v907]) rfl) (SP.nil S929.sl)) rfl (fun w' hw' => (E.fieldAddr tf118_0 k860)) ?_
                      refine FB.p (i := 11) (bs 21 3839) 0 [12, 13, 16, 17, 18, 19, 20] rfl (SP.on ((S929.box_now (i := 1) rfl).sub (j := 0) (n := 1) (c := [v907]) rfl) (SP.nil S929.sl)) rfl rfl (fun w' hw' => (E.load rfl (run_load0 Tryz.isAgg55 hw' rfl))) ?_
                      refine FB.t (i := 12) (bs 21 7935) rfl (SP.on ((S929.box_now (i := 1) rfl).sub (j := 0) (n := 1) (c := [v907]) rfl) (SP.nil S929.sl)) rfl (fun w' hw' => (E.lenOW te55 rfl S929 (i := 4) rfl els913 (by decide))) ?_
                      refine FB.t (i := 13) (bs 21 16127) rfl (SP.on ((S929.box_now (i := 1) rfl).sub (j := 0) (n := 1) (c := [v907]) rfl) (SP.nil S929.sl)) rfl (fun w' hw' => (E.sub rfl rfl)) ?_
                      refine FB.t (i := 14) (bs 21 32511) rfl (SP.on ((S929.box_now (i := 1) rfl).sub (j := 0) (n := 1) (c := [v907]) rfl) (SP.nil S929.sl)) rfl (fun w' hw' => (E.move k854)) ?_
                      refine FB.t (i := 15) (bs 21 65279) rfl (SP.on ((S929.box_now (i := 1) rfl).sub (j := 0) (n := 1) (c := [v907]) rfl) (SP.nil S929.sl)) rfl (fun w' hw' => (E.sub rfl rfl)) ?_
                      refine FB.all1 (i := 8) (by kernel_rfl) ?_
                      ·
                        refine FC.call (l' := (bs 21 65535)) rfl (by kernel_rfl) rfl rfl rfl (E.call Tryz.call168 (A6 rfl rfl rfl rfl rfl rfl)) (w_spec_l20Sum S929.sl a0 a1.vars v879 x877.poly (h880.mono (upI.tr ((i841.tr r889.run.inc).tr i896))) 1 v890 r884 (h897.mono upI) (wr (a0 - 1)) hr931) ?_
                        rintro e w933 ⟨H932, v936, n937, cs938, rfl, r935, els939⟩
                        refine ⟨_, rfl, ?_⟩
                        have els939 := els939.mono (up_le S929.size)
                        have S934 := S929.join (l' := [.row 147 2 v936 n937 cs938, .box b474 118 [Value.slice none 0 0, Value.slice none 0 0], .box b470 118 [v907, v52], .box b43 118 [v57, v52], .row 3 1 v52 n53 cs54, .row 129 6 v907 n908 cs909, .box b29 118 [Value.slice none 0 0, Value.slice none 0 0]]) r935 rfl
                        refine ⟨(SP.on ((S934.box_now (i := 2) rfl).sub (j := 0) (n := 1) (c := [v907]) rfl) (SP.nil (Sl.of_inc r935.run.inc S934.sl))), ?_⟩
                        obtain ⟨H940, S941, i942, h943, nv944⟩ := S934.sealRowU (i := 0) (l' := [.box b474 118 [Value.slice none 0 0, Value.slice none 0 0], .box b470 118 [v907, v52], .box b43 118 [v57, v52], .row 3 1 v52 n53 cs54, .row 129 6 v907 n908 cs909, .box b29 118 [Value.slice none 0 0, Value.slice none 0 0]]) rfl els939 (by decide) rfl
                        refine FB.t (i := 16) (bs 21 131071) rfl (SP.on ((S934.box_now (i := 2) rfl).sub (j := 0) (n := 1) (c := [v907]) rfl) (SP.nil (Sl.of_inc r935.run.inc S934.sl))) rfl (fun w' hw' => (E.build (B6 rfl rfl rfl rfl rfl rfl) (run_build _ 129 #[(0, Value.int .i64 2), (1, v936), (2, Value.int .i64 s479.2), (3, Value.int .i64 (wr ((len xs905) - 1))), (4, Value.int .i64 1), (5, Value.int .i64 (wr (a0 - 1)))] #[Value.int .i64 2, v936, Value.int .i64 s479.2, Value.int .i64 (wr ((len xs905) - 1)), Value.int .i64 1, Value.int .i64 (wr (a0 - 1))] (by obtain ⟨_, _, rfl⟩ := RSl.ln (h943.mono upI); rfl)))) ?_
                        refine FB.all1 (i := 17) (by kernel_rfl) ?_
                        ·
                          obtain ⟨v945, w946, run947, S948⟩ := S941.buildSlice (P := Tryz.prog) te55 [Value.agg #[Value.int .i64 2, v936, Value.int .i64 s479.2, Value.int .i64 (wr ((len xs905) - 1)), Value.int .i64 1, Value.int .i64 (wr (a0 - 1))]] (parts := #[(0, Value.agg #[Value.int .i64 2, v936, Value.int .i64 s479.2, Value.int .i64 (wr ((len xs905) - 1)), Value.int .i64 1, Value.int .i64 (wr (a0 - 1))])]) (cells := [Value.int .i64 2, v936, Value.int .i64 s479.2, Value.int .i64 (wr ((len xs905) - 1)), Value.int .i64 1, Value.int .i64 (wr (a0 - 1))]) rfl (szs_cons rfl szs_nil) (fc_cons rfl fc_nil) (ones_cons rfl (ones_cons h943.one (ones_cons rfl (ones_cons rfl (ones_cons rfl (ones_cons rfl ones_nil)))))) (Nat.le_of_ble_eq_true rfl)
                          have els949 : Els (up wa.heap.size H940) ePcStep 6 [Value.int .i64 2, v936, Value.int .i64 s479.2, Value.int .i64 (wr ((len xs905) - 1)), Value.int .i64 1, Value.int .i64 (wr (a0 - 1))] [(PcStep.mk 2 r930 s479.2 (wr ((len xs905) - 1)) 1 (wr (a0 - 1)))] := (Els.snoc (H := (up wa.heap.size H940)) (E := ePcStep) (k := 6) (c := [Value.int .i64 2, v936, Value.int .i64 s479.2, Value.int .i64 (wr ((len xs905) - 1)), Value.int .i64 1, Value.int .i64 (wr (a0 - 1))]) (x := (PcStep.mk 2 r930 s479.2 (wr ((len xs905) - 1)) 1 (wr (a0 - 1)))) Els.nil rfl ⟨_, rfl, h943⟩)
                          have nd950 : (bl [Value.int .i64 2, v936, Value.int .i64 s479.2, Value.int .i64 (wr ((len xs905) - 1)), Value.int .i64 1, Value.int .i64 (wr (a0 - 1))]).Nodup := by exact nd_one v936
                          refine FC.val (l' := (bs 21 262143)) rfl (by kernel_rfl) rfl rfl rfl (E.buildSlice (B1 rfl) run947) ?_
                          refine ⟨(SP.on ((S948.box_now (i := 2) rfl).sub (j := 0) (n := 1) (c := [v907]) rfl) (SP.nil (Sl.of_inc (r935.run.inc.tr i942) S948.sl))), ?_⟩
                          refine FB.all1 (i := 18) (by kernel_rfl) ?_
                          ·
                            obtain ⟨v953, w956, n954, cs955, run957, S958, els959, ce960⟩ := S948.appendO (P := Tryz.prog) te55 (i := 5) (j := 0) rfl (els913.mono (up_mono (r935.run.inc.tr i942))) rfl els949 hz952
                            have S958 : St Ha wa H940 w956 [.row 129 6 v945 1 [Value.int .i64 2, v936, Value.int .i64 s479.2, Value.int .i64 (wr ((len xs905) - 1)), Value.int .i64 1, Value.int .i64 (wr (a0 - 1))], .box b474 118 [Value.slice none 0 0, Value.slice none 0 0], .box b470 118 [v907, v52], .box b43 118 [v57, v52], .row 3 1 v52 n53 cs54, .row 129 6 v953 n954 cs955, .box b29 118 [Value.slice none 0 0, Value.slice none 0 0]] := S958
                            have nd961 : (bl cs955).Nodup := by rw [ce960]; exact nd_app nd915 nd950 (Els.dom (els913.mono (upI.tr r935.run.inc))) (by exact nv944)
                            have S962 : St Ha wa H940 w956 [.box b474 118 [Value.slice none 0 0, Value.slice none 0 0], .box b470 118 [v907, v52], .box b43 118 [v57, v52], .row 3 1 v52 n53 cs54, .row 129 6 v953 n954 cs955, .box b29 118 [Value.slice none 0 0, Value.slice none 0 0]] := S958.drop 0
                            refine FC.val (l' := (bs 21 524287)) rfl (by kernel_rfl) rfl rfl rfl (E.append rfl rfl run957) ?_
                            refine ⟨(SP.on ((S962.box_now (i := 1) rfl).sub (j := 0) (n := 1) (c := [v907]) rfl) (SP.nil (Sl.of_inc (r935.run.inc.tr i942) S962.sl))), ?_⟩
                            refine FB.t (i := 19) (bs 21 1048575) rfl (SP.on ((S962.box_now (i := 1) rfl).sub (j := 0) (n := 1) (c := [v907]) rfl) (SP.nil (Sl.of_inc (r935.run.inc.tr i942) S962.sl))) rfl (fun w' hw' => (E.fieldAddr tf118_0 k860)) ?_
                            refine FB.all1 (i := 20) (by kernel_rfl) ?_
                            ·
                              obtain ⟨w963, run964, S965⟩ := S962.store (P := Tryz.prog) (t := 55) (i := 1) (j := 0) (cs' := [v953, v52]) (l' := [.box b474 118 [Value.slice none 0 0, Value.slice none 0 0], .box b470 118 [v953, v52], .box b43 118 [v57, v52], .row 3 1 v52 n53 cs54, .row 129 6 v953 n954 cs955, .box b29 118 [Value.slice none 0 0, Value.slice none 0 0]]) (v := v953) (c := [v953]) rfl Tryz.sizeOf55 (Ln.cells (S962.row_ln (i := 4) rfl)) rfl (ones_cons (Ln.one (S962.row_ln (i := 4) rfl)) ones_nil) (Nat.le_of_ble_eq_true rfl) rfl rfl
                              refine FC.act (l' := (bs 21 2097151)) rfl (by kernel_rfl) rfl rfl (E.store rfl rfl run964) ?_
                              refine ⟨(SP.o (SP.nil (Sl.of_inc (r935.run.inc.tr i942) S965.sl))), ?_⟩
                              exact FB.done (by kernel_rfl) ⟨_, _, _, _, S965, (r935.run.inc.tr i942), els959, nd961, k854, k855, k857, k858, k859, k860, k861, k862⟩
                    ·
                      rintro f1091 w1090 ⟨H1087, v1082, n1083, cs1084, S1088, i1089, els1085, nd1086, k1092, k1093, k1094, k1095, k1096, k1097, k1098, k1099⟩
                      refine FW.region ?_
                      refine FL.v (E.fieldAddr tf118_0 k1097) ?_
                      refine FL.v (E.load rfl (run_load1 Tryz.isAgg55 (S1088.box_now (i := 1) rfl) rfl)) ?_
                      refine FL.v (E.lenO te55 rfl S1088 (i := 4) rfl els1085 (by decide)) ?_
                      refine FL.v (E.sub rfl rfl) ?_
                      refine FL.v (E.assign (v := Value.int .i64 (wr ((len xs951) - 1))) rfl) ?_
                      refine FL.nil (FW.region ?_)
                      refine FL.v (E.move k1099) ?_
                      refine FL.v (E.add rfl rfl) ?_
                      refine FL.v (E.assign (v := Value.int .i64 (wr (((i479 : Nat) : Int) + 1))) rfl) ?_
                      refine FL.nil ?_
                      obtain rfl := Option.some.inj hp
                      exact ⟨rfl, ⟨_, _, _, _, S1088, ((((i816.tr i841).tr r889.run.inc).tr i896).tr i1089), els1085, nd1086, (nat_succ rfl (lt_of_get hx479) (h346.mono (((((((i27.tr i64).tr i91).tr i816).tr i841).tr r889.run.inc).tr i896).tr i1089)).le), k1092, k1093, rfl, k1094, k1095, k1096, k1097, k1098⟩⟩
                  ·
                    refine FW.condF rfl c926 ?_
                    refine FW.skip (FW.region ?_)
                    refine FL.v (E.fieldAddr tf118_0 k860) ?_
                    refine FL.v (E.load rfl (run_load1 Tryz.isAgg55 (S919.box_now (i := 1) rfl) rfl)) ?_
                    refine FL.v (E.lenO te55 rfl S919 (i := 4) rfl els913 (by decide)) ?_
                    refine FL.v (E.sub rfl rfl) ?_
                    refine FL.v (E.assign (v := Value.int .i64 (wr ((len xs905) - 1))) rfl) ?_
                    refine FL.nil (FW.region ?_)
                    refine FL.v (E.move k862) ?_
                    refine FL.v (E.add rfl rfl) ?_
                    refine FL.v (E.assign (v := Value.int .i64 (wr (((i479 : Nat) : Int) + 1))) rfl) ?_
                    refine FL.nil ?_
                    obtain rfl := Option.some.inj hp
                    exact ⟨rfl, ⟨_, _, _, _, S919, (((i816.tr i841).tr r889.run.inc).tr i896), els913, nd915, (nat_succ rfl (lt_of_get hx479) (h346.mono ((((((i27.tr i64).tr i91).tr i816).tr i841).tr r889.run.inc).tr i896)).le), k854, k855, rfl, k857, k858, k859, k860, k861⟩⟩
              ·
                clear hp hq
                rintro s479 f1116 w1115 ⟨H1112, v730, n731, cs732, S1113, i1114, els733, nd734, k1117, k1118, k1119, k1120, k1121, k1122, k1123, k1124, k1125⟩
                refine FW.seq (FW.seq (FW.region ?_))
                refine FL.v (E.move k1117) ?_
                refine FL.v (E.move k1122) ?_
                refine FL.v (E.lenP te39 rfl h346) ?_
                refine FL.v (E.lss rfl rfl) ?_
                refine FL.nil ?_
                refine FW.condF rfl dlt_len ?_
                refine FW.exit ?_
                exact ⟨nofun, rfl, ⟨_, _, _, _, S1113, i1114, els733, nd734, k1120, k1124, k1125⟩⟩
              ·
                clear hq
                intro e f1105 w1104 hD
                rcases q479 with s479 | x479
                ·
                  obtain ⟨rfl, hD⟩ := hD
                  obtain ⟨H1101, v730, n731, cs732, S1102, i1103, els733, nd734, k1106, k1107, k1108⟩ := hD
                  replace hp := el_go hp
                  refine FW.seq (FW.region ?_)
                  refine FL.v (E.load k1107 (run_loadA Tryz.isAgg118 Tryz.sizeOf118 (S1102.box_now (i := 1) rfl) rfl)) ?_
                  refine FL.v (E.move k1106) ?_
                  obtain ⟨w1109, run1110, S1111⟩ := S1102.store0 (P := Tryz.prog) (t := 118) (i := 0) (cs' := [v730, v52]) (l' := [.box b474 118 [v730, v52], .box b470 118 [v730, v52], .box b43 118 [v57, v52], .row 3 1 v52 n53 cs54, .row 129 6 v730 n731 cs732, .box b29 118 [Value.slice none 0 0, Value.slice none 0 0]]) (v := Value.agg #[v730, v52]) (c := [v730, v52]) rfl Tryz.sizeOf118 rfl rfl (ones_cons (Ln.one (S1102.row_ln (i := 4) rfl)) (ones_cons (Ln.one (S1102.row_ln (i := 3) rfl)) ones_nil)) (Nat.le_of_ble_eq_true rfl) rfl rfl
                  refine FL.act rfl rfl (E.store k1108 rfl run1110) ?_
                  refine FL.v (E.assign (v := Value.int .i64 s479.2) rfl) ?_
                  refine FL.nil ?_
                  refine FW.ret ?_
                  obtain rfl := Option.some.inj hp
                  exact ⟨.inr rfl, resC2 rfl k1108 (loadVar_A Tryz.isAgg118 Tryz.sizeOf118 (S1111.box_now (i := 0) rfl) rfl) rfl (by rw [hR464]; exact ⟨_, _, _, _, rfl, (S1111.sel [2, 3, 4, 5] (by decide) rfl), i1103, els733, nd734⟩)⟩
                · exact x479.elim
            clear hq464
            refine FC.call (l' := (bs 20 32767)) rfl (by kernel_rfl) rfl rfl rfl (E.call Tryz.call167 (A7 rfl rfl rfl rfl rfl rfl rfl)) hc464 ?_
            intro e w1129 hQ464
            rw [hR464] at hQ464
            obtain ⟨H1126, v465, n466, cs467, rfl, S1127, i1128, els468, nd469⟩ := hQ464
            refine ⟨_, rfl, ?_⟩
            refine ⟨(SP.on (S1127.box_now (i := 0) rfl) (SP.on ((S1127.box_now (i := 0) rfl).sub (j := 1) (n := 1) (c := [v52]) rfl) (SP.nil ⟨_, (S1127.sel [1] (by decide) rfl), i1128⟩))), ?_⟩
            refine FB.t (i := 15) (bs 20 65535) rfl (SP.on (S1127.box_now (i := 0) rfl) (SP.on ((S1127.box_now (i := 0) rfl).sub (j := 1) (n := 1) (c := [v52]) rfl) (SP.nil ⟨_, (S1127.sel [1] (by decide) rfl), i1128⟩))) rfl (fun w' hw' => (E.move (v := Value.tuple #[Value.agg #[v465, v52], Value.int .i64 s464.2]) rfl)) ?_
            refine FB.t (i := 16) (bs 20 131071) rfl (SP.on (S1127.box_now (i := 0) rfl) (SP.on ((S1127.box_now (i := 0) rfl).sub (j := 1) (n := 1) (c := [v52]) rfl) (SP.nil ⟨_, (S1127.sel [1] (by decide) rfl), i1128⟩))) rfl (fun w' hw' => (E.extract (i := 0) rfl rfl)) ?_
            refine FB.t (i := 17) (bs 20 262143) rfl (SP.on (S1127.box_now (i := 0) rfl) (SP.on ((S1127.box_now (i := 0) rfl).sub (j := 1) (n := 1) (c := [v52]) rfl) (SP.nil ⟨_, (S1127.sel [1] (by decide) rfl), i1128⟩))) rfl (fun w' hw' => (E.extract (i := 1) rfl rfl)) ?_
            refine FB.all1 (i := 18) (by kernel_rfl) ?_
            ·
              obtain ⟨w362, run363, S364⟩ := S1127.store0 (P := Tryz.prog) (t := 118) (i := 0) (cs' := [v465, v52]) (l' := [.box b43 118 [v465, v52], .row 3 1 v52 n53 cs54, .row 129 6 v465 n466 cs467, .box b29 118 [Value.slice none 0 0, Value.slice none 0 0]]) (v := Value.agg #[v465, v52]) (c := [v465, v52]) rfl Tryz.sizeOf118 rfl rfl (ones_cons (Ln.one (S1127.row_ln (i := 2) rfl)) (ones_cons (Ln.one (S1127.row_ln (i := 1) rfl)) ones_nil)) (Nat.le_of_ble_eq_true rfl) rfl rfl
              refine FC.act (l' := (bs 20 524287)) rfl (by kernel_rfl) rfl rfl (E.store k72 rfl run363) ?_
              refine ⟨(SP.o (SP.on ((S364.box_now (i := 0) rfl).sub (j := 1) (n := 1) (c := [v52]) rfl) (SP.nil ⟨_, (S364.sel [1] (by decide) rfl), i1128⟩))), ?_⟩
              refine FB.t (i := 19) (bs 20 1048575) rfl (SP.o (SP.on ((S364.box_now (i := 0) rfl).sub (j := 1) (n := 1) (c := [v52]) rfl) (SP.nil ⟨_, (S364.sel [1] (by decide) rfl), i1128⟩))) rfl (fun w' hw' => (E.assign (v := Value.int .i64 s464.2) rfl)) ?_
              exact FB.done (by kernel_rfl) ⟨_, _, _, _, S364, i1128, els468, nd469, k68, k69, k70, k71, k72, k67, rfl, rfl, rfl, rfl⟩
        ·
          rintro f390 w389 ⟨H386, v381, n382, cs383, S387, i388, els384, nd385, k391, k392, k393, k394, k395, k396, k397, k398, k399, k400⟩
          refine FW.seq ?_
          obtain ⟨x410, hx411, hp⟩ := bnd hp
          obtain ⟨s714, hq714, hp⟩ := bnd hp
          refine FW.drawB (SX Ha wa H386 [.row 3 1 v52 n53 cs54]) (fun f w => ∃ H : GH, ∃ v416 : Value, ∃ n417 : Nat, ∃ cs418 : List Value, St Ha wa H w [.box b43 118 [v416, v52], .row 3 1 v52 n53 cs54, .row 129 6 v416 n417 cs418, .box b29 118 [Value.slice none 0 0, Value.slice none 0 0]] ∧ Inc H386 H ∧ Els (up wa.heap.size H) ePcStep 6 cs418 s714.1 ∧ (bl cs418).Nodup ∧ f 0 = Value.int .i64 a0 ∧ f 2 = v2 ∧ f 4 = Value.pointer (some ⟨b21, 0, none⟩) ∧ f 6 = Value.pointer (some (⟨b29, 0, none⟩ : Addr)) ∧ f 7 = Value.pointer (some (⟨b43, 0, none⟩ : Addr)) ∧ f 8 = Value.int .i64 ((i51 : Nat) : Int) ∧ f 13 = Value.int .i64 s464.2 ∧ f 14 = Value.int .i64 s714.2) (by kernel_rfl) S387.sl ?_ ?_
          ·
            intro w401 r402
            have S403 := S387.call r402
            refine FB.phase [] (fun w => WAt w (Addr.add ⟨b43, 0, none⟩ 1) [v52]) ?_
            refine FB.phase [18] (fun w => WAt w (⟨b43, 0, none⟩ : Addr) [v381, v52]) ?_
            refine FB.t (i := 0) (bs 20 1) rfl (SP.on (S403.box_now (i := 0) rfl) (SP.on ((S403.box_now (i := 0) rfl).sub (j := 1) (n := 1) (c := [v52]) rfl) (SP.nil ⟨_, (S403.sel [1] (by decide) rfl), (Inc.rfl _)⟩))) rfl (fun w' hw' => (E.move k391)) ?_
            refine FB.t (i := 1) (bs 20 3) rfl (SP.on (S403.box_now (i := 0) rfl) (SP.on ((S403.box_now (i := 0) rfl).sub (j := 1) (n := 1) (c := [v52]) rfl) (SP.nil ⟨_, (S403.sel [1] (by decide) rfl), (Inc.rfl _)⟩))) rfl (fun w' hw' => (E.fieldAddr tf31_0 k393)) ?_
            refine FB.t (i := 2) (bs 20 7) rfl (SP.on (S403.box_now (i := 0) rfl) (SP.on ((S403.box_now (i := 0) rfl).sub (j := 1) (n := 1) (c := [v52]) rfl) (SP.nil ⟨_, (S403.sel [1] (by decide) rfl), (Inc.rfl _)⟩))) rfl (fun w' hw' => (E.load rfl (run_load1 Tryz.isAgg3 ((at28.mono ((i64.tr i91).tr i388)).now hw'.sl) rfl))) ?_
            refine FB.p (i := 3) (bs 20 15) 0 [14, 15, 16, 17, 18, 19] rfl (SP.on (S403.box_now (i := 0) rfl) (SP.on ((S403.box_now (i := 0) rfl).sub (j := 1) (n := 1) (c := [v52]) rfl) (SP.nil ⟨_, (S403.sel [1] (by decide) rfl), (Inc.rfl _)⟩))) rfl rfl (fun w' hw' => (E.load k395 (run_loadA Tryz.isAgg118 Tryz.sizeOf118 hw' rfl))) ?_
            refine FB.t (i := 4) (bs 20 31) rfl (SP.on (S403.box_now (i := 0) rfl) (SP.on ((S403.box_now (i := 0) rfl).sub (j := 1) (n := 1) (c := [v52]) rfl) (SP.nil ⟨_, (S403.sel [1] (by decide) rfl), (Inc.rfl _)⟩))) rfl (fun w' hw' => (E.fieldAddr tf118_1 k395)) ?_
            refine FB.p (i := 5) (bs 20 63) 1 [8, 9, 14, 15, 16, 17, 18, 19] rfl (SP.on (S403.box_now (i := 0) rfl) (SP.on ((S403.box_now (i := 0) rfl).sub (j := 1) (n := 1) (c := [v52]) rfl) (SP.nil ⟨_, (S403.sel [1] (by decide) rfl), (Inc.rfl _)⟩))) rfl rfl (fun w' hw' => (E.load rfl (run_load0 Tryz.isAgg39 hw' rfl))) ?_
            refine FB.t (i := 6) (bs 20 127) rfl (SP.on (S403.box_now (i := 0) rfl) (SP.on ((S403.box_now (i := 0) rfl).sub (j := 1) (n := 1) (c := [v52]) rfl) (SP.nil ⟨_, (S403.sel [1] (by decide) rfl), (Inc.rfl _)⟩))) rfl (fun w' hw' => (E.fieldAddr tf89_2 k397)) ?_
            refine FB.t (i := 7) (bs 20 255) rfl (SP.on (S403.box_now (i := 0) rfl) (SP.on ((S403.box_now (i := 0) rfl).sub (j := 1) (n := 1) (c := [v52]) rfl) (SP.nil ⟨_, (S403.sel [1] (by decide) rfl), (Inc.rfl _)⟩))) rfl (fun w' hw' => (E.load rfl (run_load1 Tryz.isAgg3 ((at92.mono i388).now hw'.sl) rfl))) ?_
            obtain ⟨p404, cs405, pt406, l407, at408, rel409, hall412⟩ := S403.row_atA (i := 1) rfl els56 (by decide) hx411
            obtain rfl := eI_open rel409
            refine FB.t (i := 8) (bs 20 511) rfl (SP.on (S403.box_now (i := 0) rfl) (SP.on ((S403.box_now (i := 0) rfl).sub (j := 1) (n := 1) (c := [v52]) rfl) (SP.nil ⟨_, (S403.sel [1] (by decide) rfl), (Inc.rfl _)⟩))) rfl (fun w' hw' => (E.indexAddr te39 rfl rfl pt406)) ?_
            refine FB.t (i := 9) (bs 20 1023) rfl (SP.on (S403.box_now (i := 0) rfl) (SP.on ((S403.box_now (i := 0) rfl).sub (j := 1) (n := 1) (c := [v52]) rfl) (SP.nil ⟨_, (S403.sel [1] (by decide) rfl), (Inc.rfl _)⟩))) rfl (fun w' hw' => (E.load rfl (run_load0 Tryz.isAgg3 (hw'.use fun _ st => hall412 _ _ _ 0 st rfl) rfl))) ?_
            refine FB.t (i := 10) (bs 20 2047) rfl (SP.on (S403.box_now (i := 0) rfl) (SP.on ((S403.box_now (i := 0) rfl).sub (j := 1) (n := 1) (c := [v52]) rfl) (SP.nil ⟨_, (S403.sel [1] (by decide) rfl), (Inc.rfl _)⟩))) rfl (fun w' hw' => (E.move k399)) ?_
            refine FB.t (i := 11) (bs 20 4095) rfl (SP.on (S403.box_now (i := 0) rfl) (SP.on ((S403.box_now (i := 0) rfl).sub (j := 1) (n := 1) (c := [v52]) rfl) (SP.nil ⟨_, (S403.sel [1] (by decide) rfl), (Inc.rfl _)⟩))) rfl (fun w' hw' => (E.move k398)) ?_
            refine FB.t (i := 12) (bs 20 8191) rfl (SP.on (S403.box_now (i := 0) rfl) (SP.on ((S403.box_now (i := 0) rfl).sub (j := 1) (n := 1) (c := [v52]) rfl) (SP.nil ⟨_, (S403.sel [1] (by decide) rfl), (Inc.rfl _)⟩))) rfl (fun w' hw' => (E.fieldAddr tf89_3 k397)) ?_
            refine FB.t (i := 13) (bs 20 16383) rfl (SP.on (S403.box_now (i := 0) rfl) (SP.on ((S403.box_now (i := 0) rfl).sub (j := 1) (n := 1) (c := [v52]) rfl) (SP.nil ⟨_, (S403.sel [1] (by decide) rfl), (Inc.rfl _)⟩))) rfl (fun w' hw' => (E.load rfl (run_load1 Tryz.isAgg3 ((at92.mono i388).now hw'.sl) rfl))) ?_
            refine FB.all1 (i := 14) (by kernel_rfl) ?_
            ·
              obtain ⟨R714, hR714⟩ : ∃ R714 : ((List PcStep) × Int) → Ending → World → Prop, R714 = (fun s714 e w => ∃ H : GH, ∃ v715 : Value, ∃ n716 : Nat, ∃ cs717 : List Value, e = Ending.returned (Value.tuple #[Value.agg #[v715, v52], Value.int .i64 s714.2]) ∧ St Ha wa H w [.box b43 118 [v381, v52], .row 3 1 v52 n53 cs54, .row 129 6 v715 n716 cs717, .box b29 118 [Value.slice none 0 0, Value.slice none 0 0]] ∧ Inc H386 H ∧ Els (up wa.heap.size H) ePcStep 6 cs717 s714.1 ∧ (bl cs717).Nodup) := ⟨_, rfl⟩
              have hc714 : Calls Tryz.prog 167 #[Value.int .i64 a0, Value.int .i64 a1.vars, Value.agg #[v381, v52], Value.int .i64 x410, v345, v335, Value.int .i64 y50.pivot] w401 (R714 s714) := by
                clear hp; have hp := hq714; clear hq714
                refine calls_go (N := 97) (args := [Value.int .i64 a0, Value.int .i64 a1.vars, Value.agg #[v381, v52], Value.int .i64 x410, v345, v335, Value.int .i64 y50.pivot]) Tryz.func167 rfl rfl rfl ?_
                refine FW.seq (FW.region ?_)
                obtain ⟨b720, w721, run722, S723⟩ := S403.box (P := Tryz.prog) 118 [v381, v52] (v := Value.agg #[v381, v52]) rfl (ones_cons (Ln.one (S403.row_ln (i := 2) rfl)) (ones_cons (Ln.one (S403.row_ln (i := 1) rfl)) ones_nil))
                refine FL.v (E.box rfl run722) ?_
                obtain ⟨b724, w725, run726, S727⟩ := S723.alloc (P := Tryz.prog) 118 [Value.slice none 0 0, Value.slice none 0 0] Tryz.zeroValue118 rfl (ones_cons rfl (ones_cons rfl ones_nil))
                refine FL.v (E.alloc run726) ?_
                refine FL.v (E.assign (v := Value.int .i64 0) rfl) ?_
                refine FL.nil (FW.seq (FW.seq (FW.region ?_)))
                refine FL.v (E.assign (v := Value.int .i64 0) rfl) ?_
                refine FL.nil ?_
                obtain ⟨q729, hq, hp⟩ := bndR hp
                refine FW.block ?_
                refine FW.mono (FW.forL (S := ((List PcStep) × Int)) (X := Empty) (fun (i729 : Nat) (s729 : ((List PcStep) × Int)) f w => ∃ H : GH, ∃ v809 : Value, ∃ n810 : Nat, ∃ cs811 : List Value, St Ha wa H w [.box b724 118 [Value.slice none 0 0, Value.slice none 0 0], .box b720 118 [v809, v52], .box b43 118 [v381, v52], .row 3 1 v52 n53 cs54, .row 129 6 v809 n810 cs811, .box b29 118 [Value.slice none 0 0, Value.slice none 0 0]] ∧ Inc H386 H ∧ Els (up wa.heap.size H) ePcStep 6 cs811 s729.1 ∧ (bl cs811).Nodup ∧ f 16 = Value.int .i64 ((i729 : Nat) : Int) ∧ f 0 = Value.int .i64 a0 ∧ f 1 = Value.int .i64 a1.vars ∧ f 3 = Value.int .i64 s729.2 ∧ f 4 = v345 ∧ f 5 = v335 ∧ f 6 = Value.int .i64 y50.pivot ∧ f 9 = Value.pointer (some (⟨b720, 0, none⟩ : Addr)) ∧ f 14 = Value.pointer (some (⟨b724, 0, none⟩ : Addr))) (fun (q : Rs ((List PcStep) × Int) Empty) e f w => match q with | .go s729 => e = Exit.exit 0 ∧ (∃ H : GH, ∃ v809 : Value, ∃ n810 : Nat, ∃ cs811 : List Value, St Ha wa H w [.box b724 118 [Value.slice none 0 0, Value.slice none 0 0], .box b720 118 [v809, v52], .box b43 118 [v381, v52], .row 3 1 v52 n53 cs54, .row 129 6 v809 n810 cs811, .box b29 118 [Value.slice none 0 0, Value.slice none 0 0]] ∧ Inc H386 H ∧ Els (up wa.heap.size H) ePcStep 6 cs811 s729.1 ∧ (bl cs811).Nodup ∧ f 3 = Value.int .i64 s729.2 ∧ f 9 = Value.pointer (some (⟨b720, 0, none⟩ : Addr)) ∧ f 14 = Value.pointer (some (⟨b724, 0, none⟩ : Addr))) | .rt x => x.elim) hq ⟨_, _, _, _, S727, (Inc.rfl _), els384, nd385, rfl, rfl, rfl, rfl, rfl, rfl, rfl, rfl, rfl⟩ ?_ ?_) ?_
                ·
                  clear hp hq
                  rintro i729 y728 s729 f970 w969 ⟨H966, v809, n810, cs811, S967, i968, els812, nd813, k971, k972, k973, k974, k975, k976, k977, k978, k979⟩ hx729 o1184 hp
                  refine FW.seq (FW.seq (FW.region ?_))
                  refine FL.v (E.move k971) ?_
                  refine FL.v (E.move k976) ?_
                  refine FL.v (E.lenP te39 rfl h336) ?_
                  refine FL.v (E.lssT rfl rfl (lss_len hx729)) ?_
                  refine FL.nil ?_
                  refine FW.condT rfl rfl ?_
                  refine FW.skip (FW.seq (FW.block (FW.seq (FW.seq (FW.region ?_)))))
                  refine FL.v (E.move k975) ?_
                  refine FL.v (E.move k976) ?_
                  refine FL.v (E.move k971) ?_
                  obtain ⟨p980, cs981, pt982, l983, at984, rel985⟩ := h336.at (ix_nat hx729)
                  obtain rfl := eI_open rel985
                  refine FL.v (E.indexAddr te39 rfl rfl pt982) ?_
                  refine FL.v (E.load rfl (run_load0 Tryz.isAgg3 ((at984.mono ((((i27.tr i64).tr i91).tr i388).tr i968)).now S967.sl) rfl)) ?_
                  obtain ⟨r986, hr987, hp⟩ := bnd hp
                  refine FL.call rfl rfl rfl (E.call Tryz.call198 (A2 rfl rfl)) (w_spec_l2Has S967.sl v345 x343.clause (h346.mono ((((i27.tr i64).tr i91).tr i388).tr i968)) y728 hr987) ?_
                  rintro e w988 ⟨rfl, r989⟩
                  refine ⟨_, rfl, ?_⟩
                  have S990 := S967.call r989
                  refine FL.v (E.move (v := Value.bool r986) rfl) ?_
                  refine FL.cut 8 (fun f w => ∃ H : GH, St Ha wa H w [.box b724 118 [Value.slice none 0 0, Value.slice none 0 0], .box b720 118 [v809, v52], .box b43 118 [v381, v52], .row 3 1 v52 n53 cs54, .row 129 6 v809 n810 cs811, .box b29 118 [Value.slice none 0 0, Value.slice none 0 0]] ∧ Inc H966 H ∧ f 0 = Value.int .i64 a0 ∧ f 1 = Value.int .i64 a1.vars ∧ f 3 = Value.int .i64 s729.2 ∧ f 4 = v345 ∧ f 5 = v335 ∧ f 6 = Value.int .i64 y50.pivot ∧ f 9 = Value.pointer (some (⟨b720, 0, none⟩ : Addr)) ∧ f 14 = Value.pointer (some (⟨b724, 0, none⟩ : Addr)) ∧ f 16 = Value.int .i64 ((i729 : Nat) : Int) ∧ f 40 = Value.bool (bif r986 then true else ((PF.spec_l2Var y728) == y50.pivot))) ?_ ?_
                  ·
                    rcases bcase r986 with c996 | c996
                    ·
                      refine FL.skip (wF_no rfl rfl rfl c996) rfl ?_
                      refine FL.skip (wF_no rfl rfl rfl c996) rfl ?_
                      refine FL.skip (wF_no rfl rfl rfl c996) rfl ?_
                      refine FL.skip (wF_no rfl rfl rfl c996) rfl ?_
                      refine FL.skip (wF_no rfl rfl rfl c996) rfl ?_
                      refine FL.skip (wF_no rfl rfl rfl c996) rfl ?_
                      refine FL.skip (wF_no rfl rfl rfl c996) rfl ?_
                      refine FL.v (E.pickT rfl c996 rfl) ?_
                      exact FL.nil ⟨rfl, _, S990, (Inc.rfl _), k972, k973, k974, k975, k976, k977, k978, k979, k971, (congrArg Value.bool (bifT c996).symm)⟩
                    ·
                      refine FL.val (wF_yes rfl rfl rfl c996) rfl rfl (E.move k976) ?_
                      refine FL.val (wF_yes rfl rfl rfl c996) rfl rfl (E.move k971) ?_
                      obtain ⟨p997, cs998, pt999, l1000, at1001, rel1002⟩ := h336.at (ix_nat hx729)
                      obtain rfl := eI_open rel1002
                      refine FL.val (wF_yes rfl rfl rfl c996) rfl rfl (E.indexAddr te39 rfl rfl pt999) ?_
                      refine FL.val (wF_yes rfl rfl rfl c996) rfl rfl (E.load rfl (run_load0 Tryz.isAgg3 ((at1001.mono ((((i27.tr i64).tr i91).tr i388).tr i968)).now S990.sl) rfl)) ?_
                      refine FL.call (wF_yes rfl rfl rfl c996) rfl rfl (E.call Tryz.call171 (A1 rfl)) (w_spec_l2Var S990.sl y728) ?_
                      rintro e w1003 ⟨rfl, r1004⟩
                      refine ⟨_, rfl, ?_⟩
                      have S1005 := S990.call r1004
                      refine FL.val (wF_yes rfl rfl rfl c996) rfl rfl (E.move k977) ?_
                      refine FL.val (wF_yes rfl rfl rfl c996) rfl rfl (E.eql rfl rfl) ?_
                      refine FL.v (E.pickF rfl c996 rfl) ?_
                      exact FL.nil ⟨rfl, _, S1005, (Inc.rfl _), k972, k973, k974, k975, k976, k977, k978, k979, k971, (congrArg Value.bool (bifF c996).symm)⟩
                  rintro f995 w994 ⟨H991, S992, i993, k1006, k1007, k1008, k1009, k1010, k1011, k1012, k1013, k1014, k1015⟩
                  refine FL.nil ?_
                  rcases ifB hp with ⟨c1016, hp⟩ | ⟨c1016, hp⟩
                  ·
                    refine FW.condT k1015 c1016 ?_
                    refine FW.exit ?_
                    refine FW.region ?_
                    refine FL.v (E.move k1014) ?_
                    refine FL.v (E.add rfl rfl) ?_
                    refine FL.v (E.assign (v := Value.int .i64 (wr (((i729 : Nat) : Int) + 1))) rfl) ?_
                    refine FL.nil ?_
                    obtain rfl := Option.some.inj hp
                    exact ⟨rfl, ⟨_, _, _, _, S992, (i968.tr i993), (els812.mono (up_mono i993)), nd813, (nat_succ rfl (lt_of_get hx729) (h336.mono (((((i27.tr i64).tr i91).tr i388).tr i968).tr i993)).le), k1006, k1007, k1008, k1009, k1010, k1011, k1012, k1013⟩⟩
                  ·
                    refine FW.condF k1015 c1016 ?_
                    refine FW.skip (FW.seq ?_)
                    refine FW.draw (fun w' => Run w994.heap.size H991 w994 H991 w') (by kernel_rfl) (by kernel_rfl) (run_drew S992.sl) ?_
                    refine FD.val rfl rfl rfl (fun w' hw' => (E.move k1010)) ?_
                    refine FD.val rfl rfl rfl (fun w' hw' => (E.move k1014)) ?_
                    obtain ⟨p1017, cs1018, pt1019, l1020, at1021, rel1022⟩ := h336.at (ix_nat hx729)
                    obtain rfl := eI_open rel1022
                    refine FD.val rfl rfl rfl (fun w' hw' => (E.indexAddr te39 rfl rfl pt1019)) ?_
                    refine FD.val rfl rfl rfl (fun w' hw' => (E.load rfl (run_load0 Tryz.isAgg3 ((at1021.mono (((((i27.tr i64).tr i91).tr i388).tr i968).tr i993)).now (S992.call hw').sl) rfl))) ?_
                    refine FD.call rfl rfl rfl (fun w' hw' => (E.call Tryz.call171 (A1 rfl))) (fun w' hw' => Calls.cls hw' (w_spec_l2Var (S992.call hw').sl y728)) ?_
                    refine FD.val rfl rfl rfl (fun w' hw' => (E.fieldAddr tf118_0 k1012)) ?_
                    refine FD.val rfl rfl rfl (fun w' hw' => (E.load rfl (run_load1 Tryz.isAgg55 ((S992.call hw').box_now (i := 1) rfl) rfl))) ?_
                    refine FD.val rfl rfl rfl (fun w' hw' => (E.move k1008)) ?_
                    obtain ⟨x1029, hx1030, hp⟩ := bnd hp
                    obtain ⟨p1023, cs1024, pt1025, l1026, at1027, rel1028⟩ := S992.row_at (i := 4) rfl els812 (by decide) hx1030
                    obtain ⟨v1031, rfl, h1032⟩ := ePcStep_open rel1028
                    refine FD.val rfl rfl rfl (fun w' hw' => (E.indexAddr te55 rfl rfl pt1025)) ?_
                    refine FD.val rfl rfl rfl (fun w' hw' => (E.fieldAddr tf129_1 rfl)) ?_
                    refine FD.val rfl rfl rfl (fun w' hw' => (E.load rfl (run_load1 Tryz.isAgg68 (at1027.cls hw') rfl))) ?_
                    refine FD.val rfl rfl rfl (fun w' hw' => (E.assign (v := Value.int .i64 (PF.spec_l2Var y728)) rfl)) ?_
                    refine FD.val rfl rfl rfl (fun w' hw' => (E.assign (v := v1031) rfl)) ?_
                    refine FD.nil ?_
                    intro w1033 r1035
                    have S1034 := S992.call r1035
                    refine FW.seq (FW.region ?_)
                    refine FL.v (E.move k1006) ?_
                    refine FL.v (E.move k1007) ?_
                    refine FL.v (E.move (v := v1031) rfl) ?_
                    refine FL.v (E.move (v := Value.int .i64 (PF.spec_l2Var y728)) rfl) ?_
                    obtain ⟨r1036, hr1037, hp⟩ := bnd hp
                    refine FL.call rfl rfl rfl (E.call Tryz.call188 (A4 rfl rfl rfl rfl)) (w_spec_l20Times S1034.sl a0 a1.vars v1031 x1029.poly (h1032.mono (upI.tr i993)) (PF.spec_l2Var y728) hr1037) ?_
                    rintro e w1039 ⟨H1038, v1042, n1043, cs1044, rfl, r1041, els1045⟩
                    refine ⟨_, rfl, ?_⟩
                    have els1045 := els1045.mono (up_le S1034.size)
                    have S1040 := S1034.join (l' := [.row 147 2 v1042 n1043 cs1044, .box b724 118 [Value.slice none 0 0, Value.slice none 0 0], .box b720 118 [v809, v52], .box b43 118 [v381, v52], .row 3 1 v52 n53 cs54, .row 129 6 v809 n810 cs811, .box b29 118 [Value.slice none 0 0, Value.slice none 0 0]]) r1041 rfl
                    refine FL.v (E.assign (v := v1042) rfl) ?_
                    refine FL.nil (FW.seq (FW.region ?_))
                    refine FL.v (E.fieldAddr tf118_0 k1012) ?_
                    refine FL.v (E.load rfl (run_load1 Tryz.isAgg55 (S1040.box_now (i := 2) rfl) rfl)) ?_
                    refine FL.v (E.move (v := v1042) rfl) ?_
                    refine FL.v (E.move k1008) ?_
                    refine FL.v (E.move (v := Value.int .i64 (PF.spec_l2Var y728)) rfl) ?_
                    refine FL.v (E.build (B4 rfl rfl rfl rfl) (run_build _ 129 #[(0, Value.int .i64 3), (1, v1042), (2, Value.int .i64 s729.2), (4, Value.int .i64 (PF.spec_l2Var y728))] #[Value.int .i64 3, v1042, Value.int .i64 s729.2, Value.int .i64 0, Value.int .i64 (PF.spec_l2Var y728), Value.int .i64 0] (by obtain ⟨_, _, rfl⟩ := S1040.row_ln (i := 0) rfl; rfl))) ?_
                    obtain ⟨H1046, S1047, i1048, h1049, nv1050⟩ := S1040.sealRowU (i := 0) (l' := [.box b724 118 [Value.slice none 0 0, Value.slice none 0 0], .box b720 118 [v809, v52], .box b43 118 [v381, v52], .row 3 1 v52 n53 cs54, .row 129 6 v809 n810 cs811, .box b29 118 [Value.slice none 0 0, Value.slice none 0 0]]) rfl els1045 (by decide) rfl
                    obtain ⟨v1051, w1052, run1053, S1054⟩ := S1047.buildSlice (P := Tryz.prog) te55 [Value.agg #[Value.int .i64 3, v1042, Value.int .i64 s729.2, Value.int .i64 0, Value.int .i64 (PF.spec_l2Var y728), Value.int .i64 0]] (parts := #[(0, Value.agg #[Value.int .i64 3, v1042, Value.int .i64 s729.2, Value.int .i64 0, Value.int .i64 (PF.spec_l2Var y728), Value.int .i64 0])]) (cells := [Value.int .i64 3, v1042, Value.int .i64 s729.2, Value.int .i64 0, Value.int .i64 (PF.spec_l2Var y728), Value.int .i64 0]) rfl (szs_cons rfl szs_nil) (fc_cons rfl fc_nil) (ones_cons rfl (ones_cons h1049.one (ones_cons rfl (ones_cons rfl (ones_cons rfl (ones_cons rfl ones_nil)))))) (Nat.le_of_ble_eq_true rfl)
                    have els1055 : Els (up wa.heap.size H1046) ePcStep 6 [Value.int .i64 3, v1042, Value.int .i64 s729.2, Value.int .i64 0, Value.int .i64 (PF.spec_l2Var y728), Value.int .i64 0] [(PcStep.mk 3 r1036 s729.2 0 (PF.spec_l2Var y728) 0)] := (Els.snoc (H := (up wa.heap.size H1046)) (E := ePcStep) (k := 6) (c := [Value.int .i64 3, v1042, Value.int .i64 s729.2, Value.int .i64 0, Value.int .i64 (PF.spec_l2Var y728), Value.int .i64 0]) (x := (PcStep.mk 3 r1036 s729.2 0 (PF.spec_l2Var y728) 0)) Els.nil rfl ⟨_, rfl, h1049⟩)
                    have nd1056 : (bl [Value.int .i64 3, v1042, Value.int .i64 s729.2, Value.int .i64 0, Value.int .i64 (PF.spec_l2Var y728), Value.int .i64 0]).Nodup := by exact nd_one v1042
                    refine FL.v (E.buildSlice (B1 rfl) run1053) ?_
                    obtain ⟨xs1057, hz1058, hp⟩ := bnd hp
                    obtain ⟨v1059, w1062, n1060, cs1061, run1063, S1064, els1065, ce1066⟩ := S1054.appendO (P := Tryz.prog) te55 (i := 5) (j := 0) rfl (els812.mono (up_mono ((i993.tr r1041.run.inc).tr i1048))) rfl els1055 hz1058
                    have S1064 : St Ha wa H1046 w1062 [.row 129 6 v1051 1 [Value.int .i64 3, v1042, Value.int .i64 s729.2, Value.int .i64 0, Value.int .i64 (PF.spec_l2Var y728), Value.int .i64 0], .box b724 118 [Value.slice none 0 0, Value.slice none 0 0], .box b720 118 [v809, v52], .box b43 118 [v381, v52], .row 3 1 v52 n53 cs54, .row 129 6 v1059 n1060 cs1061, .box b29 118 [Value.slice none 0 0, Value.slice none 0 0]] := S1064
                    have nd1067 : (bl cs1061).Nodup := by rw [ce1066]; exact nd_app nd813 nd1056 (Els.dom (els812.mono (upI.tr (i993.tr r1041.run.inc)))) (by exact nv1050)
                    have S1068 : St Ha wa H1046 w1062 [.box b724 118 [Value.slice none 0 0, Value.slice none 0 0], .box b720 118 [v809, v52], .box b43 118 [v381, v52], .row 3 1 v52 n53 cs54, .row 129 6 v1059 n1060 cs1061, .box b29 118 [Value.slice none 0 0, Value.slice none 0 0]] := S1064.drop 0
                    refine FL.v (E.append rfl rfl run1063) ?_
                    refine FL.v (E.fieldAddr tf118_0 k1012) ?_
                    obtain ⟨w1069, run1070, S1071⟩ := S1068.store (P := Tryz.prog) (t := 55) (i := 1) (j := 0) (cs' := [v1059, v52]) (l' := [.box b724 118 [Value.slice none 0 0, Value.slice none 0 0], .box b720 118 [v1059, v52], .box b43 118 [v381, v52], .row 3 1 v52 n53 cs54, .row 129 6 v1059 n1060 cs1061, .box b29 118 [Value.slice none 0 0, Value.slice none 0 0]]) (v := v1059) (c := [v1059]) rfl Tryz.sizeOf55 (Ln.cells (S1068.row_ln (i := 4) rfl)) rfl (ones_cons (Ln.one (S1068.row_ln (i := 4) rfl)) ones_nil) (Nat.le_of_ble_eq_true rfl) rfl rfl
                    refine FL.act rfl rfl (E.store rfl rfl run1070) ?_
                    refine FL.nil (FW.seq (FW.seq (FW.region ?_)))
                    refine FL.v (E.move k1010) ?_
                    refine FL.v (E.move k1014) ?_
                    obtain ⟨p1072, cs1073, pt1074, l1075, at1076, rel1077⟩ := h336.at (ix_nat hx729)
                    obtain rfl := eI_open rel1077
                    refine FL.v (E.indexAddr te39 rfl rfl pt1074) ?_
                    refine FL.v (E.load rfl (run_load0 Tryz.isAgg3 ((at1076.mono (((((((i27.tr i64).tr i91).tr i388).tr i968).tr i993).tr r1041.run.inc).tr i1048)).now S1071.sl) rfl)) ?_
                    refine FL.v (E.gtr rfl rfl) ?_
                    refine FL.nil ?_
                    rcases ifB hp with ⟨c1078, hp⟩ | ⟨c1078, hp⟩
                    ·
                      refine FW.condT rfl c1078 ?_
                      obtain ⟨r1130, hr1131, hp⟩ := bnd hp
                      obtain ⟨xs1151, hz1152, hp⟩ := bnd hp
                      refine FW.drawB (Sl H1046) (fun f w => ∃ H : GH, ∃ v1166 : Value, ∃ n1167 : Nat, ∃ cs1168 : List Value, St Ha wa H w [.box b724 118 [Value.slice none 0 0, Value.slice none 0 0], .box b720 118 [v1166, v52], .box b43 118 [v381, v52], .row 3 1 v52 n53 cs54, .row 129 6 v1166 n1167 cs1168, .box b29 118 [Value.slice none 0 0, Value.slice none 0 0]] ∧ Inc H1046 H ∧ Els (up wa.heap.size H) ePcStep 6 cs1168 xs1151 ∧ (bl cs1168).Nodup ∧ f 0 = Value.int .i64 a0 ∧ f 1 = Value.int .i64 a1.vars ∧ f 4 = v345 ∧ f 5 = v335 ∧ f 6 = Value.int .i64 y50.pivot ∧ f 9 = Value.pointer (some (⟨b720, 0, none⟩ : Addr)) ∧ f 14 = Value.pointer (some (⟨b724, 0, none⟩ : Addr)) ∧ f 16 = Value.int .i64 ((i729 : Nat) : Int)) (by kernel_rfl) S1071.sl ?_ ?_
                      ·
                        intro w1079 r1080
                        have S1081 := S1071.call r1080
                        refine FB.phase [20] (fun w => WAt w (Addr.add ⟨b720, 0, none⟩ 0) [v1059]) ?_
                        refine FB.t (i := 0) (bs 21 1) rfl (SP.on ((S1081.box_now (i := 1) rfl).sub (j := 0) (n := 1) (c := [v1059]) rfl) (SP.nil S1081.sl)) rfl (fun w' hw' => (E.fieldAddr tf118_0 k1012)) ?_
                        refine FB.p (i := 1) (bs 21 3) 0 [18, 19, 20] rfl (SP.on ((S1081.box_now (i := 1) rfl).sub (j := 0) (n := 1) (c := [v1059]) rfl) (SP.nil S1081.sl)) rfl rfl (fun w' hw' => (E.load rfl (run_load0 Tryz.isAgg55 hw' rfl))) ?_
                        refine FB.t (i := 2) (bs 21 7) rfl (SP.on ((S1081.box_now (i := 1) rfl).sub (j := 0) (n := 1) (c := [v1059]) rfl) (SP.nil S1081.sl)) rfl (fun w' hw' => (E.move k1006)) ?_
                        refine FB.t (i := 3) (bs 21 15) rfl (SP.on ((S1081.box_now (i := 1) rfl).sub (j := 0) (n := 1) (c := [v1059]) rfl) (SP.nil S1081.sl)) rfl (fun w' hw' => (E.move k1007)) ?_
                        refine FB.t (i := 4) (bs 21 31) rfl (SP.on ((S1081.box_now (i := 1) rfl).sub (j := 0) (n := 1) (c := [v1059]) rfl) (SP.nil S1081.sl)) rfl (fun w' hw' => (E.move (v := v1031) rfl)) ?_
                        refine FB.t (i := 5) (bs 21 63) rfl (SP.on ((S1081.box_now (i := 1) rfl).sub (j := 0) (n := 1) (c := [v1059]) rfl) (SP.nil S1081.sl)) rfl (fun w' hw' => (E.move (v := v1042) rfl)) ?_
                        refine FB.t (i := 6) (bs 21 127) rfl (SP.on ((S1081.box_now (i := 1) rfl).sub (j := 0) (n := 1) (c := [v1059]) rfl) (SP.nil S1081.sl)) rfl (fun w' hw' => (E.move k1006)) ?_
                        refine FB.t (i := 7) (bs 21 255) rfl (SP.on ((S1081.box_now (i := 1) rfl).sub (j := 0) (n := 1) (c := [v1059]) rfl) (SP.nil S1081.sl)) rfl (fun w' hw' => (E.sub rfl rfl)) ?_
                        refine FB.t (i := 9) (bs 21 767) rfl (SP.on ((S1081.box_now (i := 1) rfl).sub (j := 0) (n := 1) (c := [v1059]) rfl) (SP.nil S1081.sl)) rfl (fun w' hw' => (E.move k1008)) ?_
                        refine FB.t (i := 10) (bs 21 1791) rfl (SP.on ((S1081.box_now (i := 1) rfl).sub (j := 0) (n := 1) (c := [v1059]) rfl) (SP.nil S1081.sl)) rfl (fun w' hw' => (E.fieldAddr tf118_0 k1012)) ?_
                        refine FB.p (i := 11) (bs 21 3839) 0 [12, 13, 16, 17, 18, 19, 20] rfl (SP.on ((S1081.box_now (i := 1) rfl).sub (j := 0) (n := 1) (c := [v1059]) rfl) (SP.nil S1081.sl)) rfl rfl (fun w' hw' => (E.load rfl (run_load0 Tryz.isAgg55 hw' rfl))) ?_
                        refine FB.t (i := 12) (bs 21 7935) rfl (SP.on ((S1081.box_now (i := 1) rfl).sub (j := 0) (n := 1) (c := [v1059]) rfl) (SP.nil S1081.sl)) rfl (fun w' hw' => (E.lenOW te55 rfl S1081 (i := 4) rfl els1065 (by decide))) ?_
                        refine FB.t (i := 13) (bs 21 16127) rfl (SP.on ((S1081.box_now (i := 1) rfl).sub (j := 0) (n := 1) (c := [v1059]) rfl) (SP.nil S1081.sl)) rfl (fun w' hw' => (E.sub rfl rfl)) ?_
                        refine FB.t (i := 14) (bs 21 32511) rfl (SP.on ((S1081.box_now (i := 1) rfl).sub (j := 0) (n := 1) (c := [v1059]) rfl) (SP.nil S1081.sl)) rfl (fun w' hw' => (E.move k1006)) ?_
                        refine FB.t (i := 15) (bs 21 65279) rfl (SP.on ((S1081.box_now (i := 1) rfl).sub (j := 0) (n := 1) (c := [v1059]) rfl) (SP.nil S1081.sl)) rfl (fun w' hw' => (E.sub rfl rfl)) ?_
                        refine FB.all1 (i := 8) (by kernel_rfl) ?_
                        ·
                          refine FC.call (l' := (bs 21 65535)) rfl (by kernel_rfl) rfl rfl rfl (E.call Tryz.call168 (A6 rfl rfl rfl rfl rfl rfl)) (w_spec_l20Sum S1081.sl a0 a1.vars v1031 x1029.poly (h1032.mono (upI.tr ((i993.tr r1041.run.inc).tr i1048))) 1 v1042 r1036 (h1049.mono upI) (wr (a0 - 1)) hr1131) ?_
                          rintro e w1133 ⟨H1132, v1136, n1137, cs1138, rfl, r1135, els1139⟩
                          refine ⟨_, rfl, ?_⟩
                          have els1139 := els1139.mono (up_le S1081.size)
                          have S1134 := S1081.join (l' := [.row 147 2 v1136 n1137 cs1138, .box b724 118 [Value.slice none 0 0, Value.slice none 0 0], .box b720 118 [v1059, v52], .box b43 118 [v381, v52], .row 3 1 v52 n53 cs54, .row 129 6 v1059 n1060 cs1061, .box b29 118 [Value.slice none 0 0, Value.slice none 0 0]]) r1135 rfl
                          refine ⟨(SP.on ((S1134.box_now (i := 2) rfl).sub (j := 0) (n := 1) (c := [v1059]) rfl) (SP.nil (Sl.of_inc r1135.run.inc S1134.sl))), ?_⟩
                          obtain ⟨H1140, S1141, i1142, h1143, nv1144⟩ := S1134.sealRowU (i := 0) (l' := [.box b724 118 [Value.slice none 0 0, Value.slice none 0 0], .box b720 118 [v1059, v52], .box b43 118 [v381, v52], .row 3 1 v52 n53 cs54, .row 129 6 v1059 n1060 cs1061, .box b29 118 [Value.slice none 0 0, Value.slice none 0 0]]) rfl els1139 (by decide) rfl
                          refine FB.t (i := 16) (bs 21 131071) rfl (SP.on ((S1134.box_now (i := 2) rfl).sub (j := 0) (n := 1) (c := [v1059]) rfl) (SP.nil (Sl.of_inc r1135.run.inc S1134.sl))) rfl (fun w' hw' => (E.build (B6 rfl rfl rfl rfl rfl rfl) (run_build _ 129 #[(0, Value.int .i64 2), (1, v1136), (2, Value.int .i64 s729.2), (3, Value.int .i64 (wr ((len xs1057) - 1))), (4, Value.int .i64 1), (5, Value.int .i64 (wr (a0 - 1)))] #[Value.int .i64 2, v1136, Value.int .i64 s729.2, Value.int .i64 (wr ((len xs1057) - 1)), Value.int .i64 1, Value.int .i64 (wr (a0 - 1))] (by obtain ⟨_, _, rfl⟩ := RSl.ln (h1143.mono upI); rfl)))) ?_
                          refine FB.all1 (i := 17) (by kernel_rfl) ?_
                          ·
                            obtain ⟨v1145, w1146, run1147, S1148⟩ := S1141.buildSlice (P := Tryz.prog) te55 [Value.agg #[Value.int .i64 2, v1136, Value.int .i64 s729.2, Value.int .i64 (wr ((len xs1057) - 1)), Value.int .i64 1, Value.int .i64 (wr (a0 - 1))]] (parts := #[(0, Value.agg #[Value.int .i64 2, v1136, Value.int .i64 s729.2, Value.int .i64 (wr ((len xs1057) - 1)), Value.int .i64 1, Value.int .i64 (wr (a0 - 1))])]) (cells := [Value.int .i64 2, v1136, Value.int .i64 s729.2, Value.int .i64 (wr ((len xs1057) - 1)), Value.int .i64 1, Value.int .i64 (wr (a0 - 1))]) rfl (szs_cons rfl szs_nil) (fc_cons rfl fc_nil) (ones_cons rfl (ones_cons h1143.one (ones_cons rfl (ones_cons rfl (ones_cons rfl (ones_cons rfl ones_nil)))))) (Nat.le_of_ble_eq_true rfl)
                            have els1149 : Els (up wa.heap.size H1140) ePcStep 6 [Value.int .i64 2, v1136, Value.int .i64 s729.2, Value.int .i64 (wr ((len xs1057) - 1)), Value.int .i64 1, Value.int .i64 (wr (a0 - 1))] [(PcStep.mk 2 r1130 s729.2 (wr ((len xs1057) - 1)) 1 (wr (a0 - 1)))] := (Els.snoc (H := (up wa.heap.size H1140)) (E := ePcStep) (k := 6) (c := [Value.int .i64 2, v1136, Value.int .i64 s729.2, Value.int .i64 (wr ((len xs1057) - 1)), Value.int .i64 1, Value.int .i64 (wr (a0 - 1))]) (x := (PcStep.mk 2 r1130 s729.2 (wr ((len xs1057) - 1)) 1 (wr (a0 - 1)))) Els.nil rfl ⟨_, rfl, h1143⟩)
                            have nd1150 : (bl [Value.int .i64 2, v1136, Value.int .i64 s729.2, Value.int .i64 (wr ((len xs1057) - 1)), Value.int .i64 1, Value.int .i64 (wr (a0 - 1))]).Nodup := by exact nd_one v1136
                            refine FC.val (l' := (bs 21 262143)) rfl (by kernel_rfl) rfl rfl rfl (E.buildSlice (B1 rfl) run1147) ?_
                            refine ⟨(SP.on ((S1148.box_now (i := 2) rfl).sub (j := 0) (n := 1) (c := [v1059]) rfl) (SP.nil (Sl.of_inc (r1135.run.inc.tr i1142) S1148.sl))), ?_⟩
                            refine FB.all1 (i := 18) (by kernel_rfl) ?_
                            ·
                              obtain ⟨v1153, w1156, n1154, cs1155, run1157, S1158, els1159, ce1160⟩ := S1148.appendO (P := Tryz.prog) te55 (i := 5) (j := 0) rfl (els1065.mono (up_mono (r1135.run.inc.tr i1142))) rfl els1149 hz1152
                              have S1158 : St Ha wa H1140 w1156 [.row 129 6 v1145 1 [Value.int .i64 2, v1136, Value.int .i64 s729.2, Value.int .i64 (wr ((len xs1057) - 1)), Value.int .i64 1, Value.int .i64 (wr (a0 - 1))], .box b724 118 [Value.slice none 0 0, Value.slice none 0 0], .box b720 118 [v1059, v52], .box b43 118 [v381, v52], .row 3 1 v52 n53 cs54, .row 129 6 v1153 n1154 cs1155, .box b29 118 [Value.slice none 0 0, Value.slice none 0 0]] := S1158
                              have nd1161 : (bl cs1155).Nodup := by rw [ce1160]; exact nd_app nd1067 nd1150 (Els.dom (els1065.mono (upI.tr r1135.run.inc))) (by exact nv1144)
                              have S1162 : St Ha wa H1140 w1156 [.box b724 118 [Value.slice none 0 0, Value.slice none 0 0], .box b720 118 [v1059, v52], .box b43 118 [v381, v52], .row 3 1 v52 n53 cs54, .row 129 6 v1153 n1154 cs1155, .box b29 118 [Value.slice none 0 0, Value.slice none 0 0]] := S1158.drop 0
                              refine FC.val (l' := (bs 21 524287)) rfl (by kernel_rfl) rfl rfl rfl (E.append rfl rfl run1157) ?_
                              refine ⟨(SP.on ((S1162.box_now (i := 1) rfl).sub (j := 0) (n := 1) (c := [v1059]) rfl) (SP.nil (Sl.of_inc (r1135.run.inc.tr i1142) S1162.sl))), ?_⟩
                              refine FB.t (i := 19) (bs 21 1048575) rfl (SP.on ((S1162.box_now (i := 1) rfl).sub (j := 0) (n := 1) (c := [v1059]) rfl) (SP.nil (Sl.of_inc (r1135.run.inc.tr i1142) S1162.sl))) rfl (fun w' hw' => (E.fieldAddr tf118_0 k1012)) ?_
                              refine FB.all1 (i := 20) (by kernel_rfl) ?_
                              ·
                                obtain ⟨w1163, run1164, S1165⟩ := S1162.store (P := Tryz.prog) (t := 55) (i := 1) (j := 0) (cs' := [v1153, v52]) (l' := [.box b724 118 [Value.slice none 0 0, Value.slice none 0 0], .box b720 118 [v1153, v52], .box b43 118 [v381, v52], .row 3 1 v52 n53 cs54, .row 129 6 v1153 n1154 cs1155, .box b29 118 [Value.slice none 0 0, Value.slice none 0 0]]) (v := v1153) (c := [v1153]) rfl Tryz.sizeOf55 (Ln.cells (S1162.row_ln (i := 4) rfl)) rfl (ones_cons (Ln.one (S1162.row_ln (i := 4) rfl)) ones_nil) (Nat.le_of_ble_eq_true rfl) rfl rfl
                                refine FC.act (l' := (bs 21 2097151)) rfl (by kernel_rfl) rfl rfl (E.store rfl rfl run1164) ?_
                                refine ⟨(SP.o (SP.nil (Sl.of_inc (r1135.run.inc.tr i1142) S1165.sl))), ?_⟩
                                exact FB.done (by kernel_rfl) ⟨_, _, _, _, S1165, (r1135.run.inc.tr i1142), els1159, nd1161, k1006, k1007, k1009, k1010, k1011, k1012, k1013, k1014⟩
                      ·
                        rintro f1175 w1174 ⟨H1171, v1166, n1167, cs1168, S1172, i1173, els1169, nd1170, k1176, k1177, k1178, k1179, k1180, k1181, k1182, k1183⟩
                        refine FW.region ?_
                        refine FL.v (E.fieldAddr tf118_0 k1181) ?_
                        refine FL.v (E.load rfl (run_load1 Tryz.isAgg55 (S1172.box_now (i := 1) rfl) rfl)) ?_
                        refine FL.v (E.lenO te55 rfl S1172 (i := 4) rfl els1169 (by decide)) ?_
                        refine FL.v (E.sub rfl rfl) ?_
                        refine FL.v (E.assign (v := Value.int .i64 (wr ((len xs1151) - 1))) rfl) ?_
                        refine FL.nil (FW.region ?_)
                        refine FL.v (E.move k1183) ?_
                        refine FL.v (E.add rfl rfl) ?_
                        refine FL.v (E.assign (v := Value.int .i64 (wr (((i729 : Nat) : Int) + 1))) rfl) ?_
                        refine FL.nil ?_
                        obtain rfl := Option.some.inj hp
                        exact ⟨rfl, ⟨_, _, _, _, S1172, ((((i968.tr i993).tr r1041.run.inc).tr i1048).tr i1173), els1169, nd1170, (nat_succ rfl (lt_of_get hx729) (h336.mono ((((((((i27.tr i64).tr i91).tr i388).tr i968).tr i993).tr r1041.run.inc).tr i1048).tr i1173)).le), k1176, k1177, rfl, k1178, k1179, k1180, k1181, k1182⟩⟩
                    ·
                      refine FW.condF rfl c1078 ?_
                      refine FW.skip (FW.region ?_)
                      refine FL.v (E.fieldAddr tf118_0 k1012) ?_
                      refine FL.v (E.load rfl (run_load1 Tryz.isAgg55 (S1071.box_now (i := 1) rfl) rfl)) ?_
                      refine FL.v (E.lenO te55 rfl S1071 (i := 4) rfl els1065 (by decide)) ?_
                      refine FL.v (E.sub rfl rfl) ?_
                      refine FL.v (E.assign (v := Value.int .i64 (wr ((len xs1057) - 1))) rfl) ?_
                      refine FL.nil (FW.region ?_)
                      refine FL.v (E.move k1014) ?_
                      refine FL.v (E.add rfl rfl) ?_
                      refine FL.v (E.assign (v := Value.int .i64 (wr (((i729 : Nat) : Int) + 1))) rfl) ?_
                      refine FL.nil ?_
                      obtain rfl := Option.some.inj hp
                      exact ⟨rfl, ⟨_, _, _, _, S1071, (((i968.tr i993).tr r1041.run.inc).tr i1048), els1065, nd1067, (nat_succ rfl (lt_of_get hx729) (h336.mono (((((((i27.tr i64).tr i91).tr i388).tr i968).tr i993).tr r1041.run.inc).tr i1048)).le), k1006, k1007, rfl, k1009, k1010, k1011, k1012, k1013⟩⟩
                ·
                  clear hp hq
                  rintro s729 f1200 w1199 ⟨H1196, v809, n810, cs811, S1197, i1198, els812, nd813, k1201, k1202, k1203, k1204, k1205, k1206, k1207, k1208, k1209⟩
                  refine FW.seq (FW.seq (FW.region ?_))
                  refine FL.v (E.move k1201) ?_
                  refine FL.v (E.move k1206) ?_
                  refine FL.v (E.lenP te39 rfl h336) ?_
                  refine FL.v (E.lss rfl rfl) ?_
                  refine FL.nil ?_
                  refine FW.condF rfl dlt_len ?_
                  refine FW.exit ?_
                  exact ⟨nofun, rfl, ⟨_, _, _, _, S1197, i1198, els812, nd813, k1204, k1208, k1209⟩⟩
                ·
                  clear hq
                  intro e f1189 w1188 hD
                  rcases q729 with s729 | x729
                  ·
                    obtain ⟨rfl, hD⟩ := hD
                    obtain ⟨H1185, v809, n810, cs811, S1186, i1187, els812, nd813, k1190, k1191, k1192⟩ := hD
                    replace hp := el_go hp
                    refine FW.seq (FW.region ?_)
                    refine FL.v (E.load k1191 (run_loadA Tryz.isAgg118 Tryz.sizeOf118 (S1186.box_now (i := 1) rfl) rfl)) ?_
                    refine FL.v (E.move k1190) ?_
                    obtain ⟨w1193, run1194, S1195⟩ := S1186.store0 (P := Tryz.prog) (t := 118) (i := 0) (cs' := [v809, v52]) (l' := [.box b724 118 [v809, v52], .box b720 118 [v809, v52], .box b43 118 [v381, v52], .row 3 1 v52 n53 cs54, .row 129 6 v809 n810 cs811, .box b29 118 [Value.slice none 0 0, Value.slice none 0 0]]) (v := Value.agg #[v809, v52]) (c := [v809, v52]) rfl Tryz.sizeOf118 rfl rfl (ones_cons (Ln.one (S1186.row_ln (i := 4) rfl)) (ones_cons (Ln.one (S1186.row_ln (i := 3) rfl)) ones_nil)) (Nat.le_of_ble_eq_true rfl) rfl rfl
                    refine FL.act rfl rfl (E.store k1192 rfl run1194) ?_
                    refine FL.v (E.assign (v := Value.int .i64 s729.2) rfl) ?_
                    refine FL.nil ?_
                    refine FW.ret ?_
                    obtain rfl := Option.some.inj hp
                    exact ⟨.inr rfl, resC2 rfl k1192 (loadVar_A Tryz.isAgg118 Tryz.sizeOf118 (S1195.box_now (i := 0) rfl) rfl) rfl (by rw [hR714]; exact ⟨_, _, _, _, rfl, (S1195.sel [2, 3, 4, 5] (by decide) rfl), i1187, els812, nd813⟩)⟩
                  · exact x729.elim
              clear hq714
              refine FC.call (l' := (bs 20 32767)) rfl (by kernel_rfl) rfl rfl rfl (E.call Tryz.call167 (A7 rfl rfl rfl rfl rfl rfl rfl)) hc714 ?_
              intro e w1213 hQ714
              rw [hR714] at hQ714
              obtain ⟨H1210, v715, n716, cs717, rfl, S1211, i1212, els718, nd719⟩ := hQ714
              refine ⟨_, rfl, ?_⟩
              refine ⟨(SP.on (S1211.box_now (i := 0) rfl) (SP.on ((S1211.box_now (i := 0) rfl).sub (j := 1) (n := 1) (c := [v52]) rfl) (SP.nil ⟨_, (S1211.sel [1] (by decide) rfl), i1212⟩))), ?_⟩
              refine FB.t (i := 15) (bs 20 65535) rfl (SP.on (S1211.box_now (i := 0) rfl) (SP.on ((S1211.box_now (i := 0) rfl).sub (j := 1) (n := 1) (c := [v52]) rfl) (SP.nil ⟨_, (S1211.sel [1] (by decide) rfl), i1212⟩))) rfl (fun w' hw' => (E.move (v := Value.tuple #[Value.agg #[v715, v52], Value.int .i64 s714.2]) rfl)) ?_
              refine FB.t (i := 16) (bs 20 131071) rfl (SP.on (S1211.box_now (i := 0) rfl) (SP.on ((S1211.box_now (i := 0) rfl).sub (j := 1) (n := 1) (c := [v52]) rfl) (SP.nil ⟨_, (S1211.sel [1] (by decide) rfl), i1212⟩))) rfl (fun w' hw' => (E.extract (i := 0) rfl rfl)) ?_
              refine FB.t (i := 17) (bs 20 262143) rfl (SP.on (S1211.box_now (i := 0) rfl) (SP.on ((S1211.box_now (i := 0) rfl).sub (j := 1) (n := 1) (c := [v52]) rfl) (SP.nil ⟨_, (S1211.sel [1] (by decide) rfl), i1212⟩))) rfl (fun w' hw' => (E.extract (i := 1) rfl rfl)) ?_
              refine FB.all1 (i := 18) (by kernel_rfl) ?_
              ·
                obtain ⟨w413, run414, S415⟩ := S1211.store0 (P := Tryz.prog) (t := 118) (i := 0) (cs' := [v715, v52]) (l' := [.box b43 118 [v715, v52], .row 3 1 v52 n53 cs54, .row 129 6 v715 n716 cs717, .box b29 118 [Value.slice none 0 0, Value.slice none 0 0]]) (v := Value.agg #[v715, v52]) (c := [v715, v52]) rfl Tryz.sizeOf118 rfl rfl (ones_cons (Ln.one (S1211.row_ln (i := 2) rfl)) (ones_cons (Ln.one (S1211.row_ln (i := 1) rfl)) ones_nil)) (Nat.le_of_ble_eq_true rfl) rfl rfl
                refine FC.act (l' := (bs 20 524287)) rfl (by kernel_rfl) rfl rfl (E.store k395 rfl run414) ?_
                refine ⟨(SP.o (SP.on ((S415.box_now (i := 0) rfl).sub (j := 1) (n := 1) (c := [v52]) rfl) (SP.nil ⟨_, (S415.sel [1] (by decide) rfl), i1212⟩))), ?_⟩
                refine FB.t (i := 19) (bs 20 1048575) rfl (SP.o (SP.on ((S415.box_now (i := 0) rfl).sub (j := 1) (n := 1) (c := [v52]) rfl) (SP.nil ⟨_, (S415.sel [1] (by decide) rfl), i1212⟩))) rfl (fun w' hw' => (E.assign (v := Value.int .i64 s714.2) rfl)) ?_
                exact FB.done (by kernel_rfl) ⟨_, _, _, _, S415, i1212, els718, nd719, k391, k392, k393, k394, k395, k396, k400, rfl⟩
          ·
            rintro f425 w424 ⟨H421, v416, n417, cs418, S422, i423, els419, nd420, k426, k427, k428, k429, k430, k431, k432, k433⟩
            refine FW.seq ?_
            obtain ⟨x448, hx449, hp⟩ := bnd hp
            obtain ⟨x459, hx460, hp⟩ := bnd hp
            obtain ⟨r480, hr481, hp⟩ := bnd hp
            obtain ⟨xs501, hz502, hp⟩ := bnd hp
            refine FW.drawB (Sl H421) (fun f w => ∃ H : GH, ∃ v632 : Value, ∃ n633 : Nat, ∃ cs634 : List Value, St Ha wa H w [.box b43 118 [v632, v52], .row 3 1 v52 n53 cs54, .row 129 6 v632 n633 cs634, .box b29 118 [Value.slice none 0 0, Value.slice none 0 0]] ∧ Inc H421 H ∧ Els (up wa.heap.size H) ePcStep 6 cs634 xs501 ∧ (bl cs634).Nodup ∧ f 0 = Value.int .i64 a0 ∧ f 2 = v2 ∧ f 4 = Value.pointer (some ⟨b21, 0, none⟩) ∧ f 6 = Value.pointer (some (⟨b29, 0, none⟩ : Addr)) ∧ f 7 = Value.pointer (some (⟨b43, 0, none⟩ : Addr)) ∧ f 8 = Value.int .i64 ((i51 : Nat) : Int)) (by kernel_rfl) S422.sl ?_ ?_
            ·
              intro w434 r435
              have S436 := S422.call r435
              refine FB.phase [24] (fun w => WAt w (Addr.add ⟨b43, 0, none⟩ 0) [v416]) ?_
              refine FB.t (i := 0) (bs 25 1) rfl (SP.on ((S436.box_now (i := 0) rfl).sub (j := 0) (n := 1) (c := [v416]) rfl) (SP.nil S436.sl)) rfl (fun w' hw' => (E.fieldAddr tf118_0 k430)) ?_
              refine FB.p (i := 1) (bs 25 3) 0 [22, 23, 24] rfl (SP.on ((S436.box_now (i := 0) rfl).sub (j := 0) (n := 1) (c := [v416]) rfl) (SP.nil S436.sl)) rfl rfl (fun w' hw' => (E.load rfl (run_load0 Tryz.isAgg55 hw' rfl))) ?_
              refine FB.t (i := 2) (bs 25 7) rfl (SP.on ((S436.box_now (i := 0) rfl).sub (j := 0) (n := 1) (c := [v416]) rfl) (SP.nil S436.sl)) rfl (fun w' hw' => (E.move k426)) ?_
              refine FB.t (i := 3) (bs 25 15) rfl (SP.on ((S436.box_now (i := 0) rfl).sub (j := 0) (n := 1) (c := [v416]) rfl) (SP.nil S436.sl)) rfl (fun w' hw' => (E.fieldAddr tf31_0 k428)) ?_
              refine FB.t (i := 4) (bs 25 31) rfl (SP.on ((S436.box_now (i := 0) rfl).sub (j := 0) (n := 1) (c := [v416]) rfl) (SP.nil S436.sl)) rfl (fun w' hw' => (E.load rfl (run_load1 Tryz.isAgg3 ((at28.mono (((i64.tr i91).tr i388).tr i423)).now hw') rfl))) ?_
              refine FB.t (i := 5) (bs 25 63) rfl (SP.on ((S436.box_now (i := 0) rfl).sub (j := 0) (n := 1) (c := [v416]) rfl) (SP.nil S436.sl)) rfl (fun w' hw' => (E.fieldAddr tf118_0 k430)) ?_
              refine FB.p (i := 6) (bs 25 127) 0 [8, 9, 10, 17, 20, 21, 22, 23, 24] rfl (SP.on ((S436.box_now (i := 0) rfl).sub (j := 0) (n := 1) (c := [v416]) rfl) (SP.nil S436.sl)) rfl rfl (fun w' hw' => (E.load rfl (run_load0 Tryz.isAgg55 hw' rfl))) ?_
              refine FB.t (i := 7) (bs 25 255) rfl (SP.on ((S436.box_now (i := 0) rfl).sub (j := 0) (n := 1) (c := [v416]) rfl) (SP.nil S436.sl)) rfl (fun w' hw' => (E.move k432)) ?_
              obtain ⟨p442, cs443, pt444, l445, at446, rel447, hall450⟩ := S436.row_atA (i := 2) rfl els419 (by decide) hx449
              obtain ⟨v451, rfl, h452⟩ := ePcStep_open rel447
              refine FB.t (i := 8) (bs 25 511) rfl (SP.on ((S436.box_now (i := 0) rfl).sub (j := 0) (n := 1) (c := [v416]) rfl) (SP.nil S436.sl)) rfl (fun w' hw' => (E.indexAddr te55 rfl rfl pt444)) ?_
              refine FB.t (i := 9) (bs 25 1023) rfl (SP.on ((S436.box_now (i := 0) rfl).sub (j := 0) (n := 1) (c := [v416]) rfl) (SP.nil S436.sl)) rfl (fun w' hw' => (E.fieldAddr tf129_1 rfl)) ?_
              refine FB.phase [22] (fun w' => WAt w' p442 [Value.int .i64 x448.kind, v451, Value.int .i64 x448.a, Value.int .i64 x448.b, Value.int .i64 x448.x, Value.int .i64 x448.y]) ?_
              refine FB.p (i := 10) (bs 25 2047) 0 [17, 20, 21, 22, 23, 24] rfl (SP.on (hall450 _ _ _ 2 S436 rfl) (SP.on ((S436.box_now (i := 0) rfl).sub (j := 0) (n := 1) (c := [v416]) rfl) (SP.nil S436.sl))) rfl rfl (fun w' hw' => (E.load rfl (run_load1 Tryz.isAgg68 hw' rfl))) ?_
              refine FB.t (i := 11) (bs 25 4095) rfl (SP.on (hall450 _ _ _ 2 S436 rfl) (SP.on ((S436.box_now (i := 0) rfl).sub (j := 0) (n := 1) (c := [v416]) rfl) (SP.nil S436.sl))) rfl (fun w' hw' => (E.fieldAddr tf118_0 k430)) ?_
              refine FB.p (i := 12) (bs 25 8191) 1 [14, 15, 16, 17, 20, 21, 22, 23, 24] rfl (SP.on (hall450 _ _ _ 2 S436 rfl) (SP.on ((S436.box_now (i := 0) rfl).sub (j := 0) (n := 1) (c := [v416]) rfl) (SP.nil S436.sl))) rfl rfl (fun w' hw' => (E.load rfl (run_load0 Tryz.isAgg55 hw' rfl))) ?_
              refine FB.t (i := 13) (bs 25 16383) rfl (SP.on (hall450 _ _ _ 2 S436 rfl) (SP.on ((S436.box_now (i := 0) rfl).sub (j := 0) (n := 1) (c := [v416]) rfl) (SP.nil S436.sl))) rfl (fun w' hw' => (E.move k433)) ?_
              obtain ⟨p453, cs454, pt455, l456, at457, rel458, hall461⟩ := S436.row_atA (i := 2) rfl els419 (by decide) hx460
              obtain ⟨v462, rfl, h463⟩ := ePcStep_open rel458
              refine FB.t (i := 14) (bs 25 32767) rfl (SP.on (hall450 _ _ _ 2 S436 rfl) (SP.on ((S436.box_now (i := 0) rfl).sub (j := 0) (n := 1) (c := [v416]) rfl) (SP.nil S436.sl))) rfl (fun w' hw' => (E.indexAddr te55 rfl rfl pt455)) ?_
              refine FB.t (i := 15) (bs 25 65535) rfl (SP.on (hall450 _ _ _ 2 S436 rfl) (SP.on ((S436.box_now (i := 0) rfl).sub (j := 0) (n := 1) (c := [v416]) rfl) (SP.nil S436.sl))) rfl (fun w' hw' => (E.fieldAddr tf129_1 rfl)) ?_
              refine FB.phase [22] (fun w' => WAt w' p453 [Value.int .i64 x459.kind, v462, Value.int .i64 x459.a, Value.int .i64 x459.b, Value.int .i64 x459.x, Value.int .i64 x459.y]) ?_
              refine FB.p (i := 16) (bs 25 131071) 0 [17, 20, 21, 22, 23, 24] rfl (SP.on (hall461 _ _ _ 2 S436 rfl) (SP.on (hall450 _ _ _ 2 S436 rfl) (SP.on ((S436.box_now (i := 0) rfl).sub (j := 0) (n := 1) (c := [v416]) rfl) (SP.nil S436.sl)))) rfl rfl (fun w' hw' => (E.load rfl (run_load1 Tryz.isAgg68 hw' rfl))) ?_
              refine FB.t (i := 18) (bs 25 393215) rfl (SP.on (hall461 _ _ _ 2 S436 rfl) (SP.on (hall450 _ _ _ 2 S436 rfl) (SP.on ((S436.box_now (i := 0) rfl).sub (j := 0) (n := 1) (c := [v416]) rfl) (SP.nil S436.sl)))) rfl (fun w' hw' => (E.move k432)) ?_
              refine FB.t (i := 19) (bs 25 917503) rfl (SP.on (hall461 _ _ _ 2 S436 rfl) (SP.on (hall450 _ _ _ 2 S436 rfl) (SP.on ((S436.box_now (i := 0) rfl).sub (j := 0) (n := 1) (c := [v416]) rfl) (SP.nil S436.sl)))) rfl (fun w' hw' => (E.move k433)) ?_
              refine FB.all1 (i := 17) (by kernel_rfl) ?_
              ·
                refine FC.call (l' := (bs 25 1048575)) rfl (by kernel_rfl) rfl rfl rfl (E.call Tryz.call168 (A6 rfl rfl rfl rfl rfl rfl)) (w_spec_l20Sum S436.sl a0 a1.vars v451 x448.poly (h452.mono upI) 1 v462 x459.poly (h463.mono upI) 1 hr481) ?_
                rintro e w483 ⟨H482, v486, n487, cs488, rfl, r485, els489⟩
                refine ⟨_, rfl, ?_⟩
                have els489 := els489.mono (up_le S436.size)
                have S484 := S436.join (l' := [.row 147 2 v486 n487 cs488, .box b43 118 [v416, v52], .row 3 1 v52 n53 cs54, .row 129 6 v416 n417 cs418, .box b29 118 [Value.slice none 0 0, Value.slice none 0 0]]) r485 rfl
                refine ⟨(SP.on (hall461 _ _ _ 3 S484 rfl) (SP.on (hall450 _ _ _ 3 S484 rfl) (SP.on ((S484.box_now (i := 1) rfl).sub (j := 0) (n := 1) (c := [v416]) rfl) (SP.nil (Sl.of_inc r485.run.inc S484.sl))))), ?_⟩
                obtain ⟨H490, S491, i492, h493, nv494⟩ := S484.sealRowU (i := 0) (l' := [.box b43 118 [v416, v52], .row 3 1 v52 n53 cs54, .row 129 6 v416 n417 cs418, .box b29 118 [Value.slice none 0 0, Value.slice none 0 0]]) rfl els489 (by decide) rfl
                refine FB.t (i := 20) (bs 25 2097151) rfl (SP.on (hall461 _ _ _ 3 S484 rfl) (SP.on (hall450 _ _ _ 3 S484 rfl) (SP.on ((S484.box_now (i := 1) rfl).sub (j := 0) (n := 1) (c := [v416]) rfl) (SP.nil (Sl.of_inc r485.run.inc S484.sl))))) rfl (fun w' hw' => (E.build (B6 rfl rfl rfl rfl rfl rfl) (run_build _ 129 #[(0, Value.int .i64 2), (1, v486), (2, Value.int .i64 s464.2), (3, Value.int .i64 s714.2), (4, Value.int .i64 1), (5, Value.int .i64 1)] #[Value.int .i64 2, v486, Value.int .i64 s464.2, Value.int .i64 s714.2, Value.int .i64 1, Value.int .i64 1] (by obtain ⟨_, _, rfl⟩ := RSl.ln (h493.mono upI); rfl)))) ?_
                refine FB.all1 (i := 21) (by kernel_rfl) ?_
                ·
                  obtain ⟨v495, w496, run497, S498⟩ := S491.buildSlice (P := Tryz.prog) te55 [Value.agg #[Value.int .i64 2, v486, Value.int .i64 s464.2, Value.int .i64 s714.2, Value.int .i64 1, Value.int .i64 1]] (parts := #[(0, Value.agg #[Value.int .i64 2, v486, Value.int .i64 s464.2, Value.int .i64 s714.2, Value.int .i64 1, Value.int .i64 1])]) (cells := [Value.int .i64 2, v486, Value.int .i64 s464.2, Value.int .i64 s714.2, Value.int .i64 1, Value.int .i64 1]) rfl (szs_cons rfl szs_nil) (fc_cons rfl fc_nil) (ones_cons rfl (ones_cons h493.one (ones_cons rfl (ones_cons rfl (ones_cons rfl (ones_cons rfl ones_nil)))))) (Nat.le_of_ble_eq_true rfl)
                  have els499 : Els (up wa.heap.size H490) ePcStep 6 [Value.int .i64 2, v486, Value.int .i64 s464.2, Value.int .i64 s714.2, Value.int .i64 1, Value.int .i64 1] [(PcStep.mk 2 r480 s464.2 s714.2 1 1)] := (Els.snoc (H := (up wa.heap.size H490)) (E := ePcStep) (k := 6) (c := [Value.int .i64 2, v486, Value.int .i64 s464.2, Value.int .i64 s714.2, Value.int .i64 1, Value.int .i64 1]) (x := (PcStep.mk 2 r480 s464.2 s714.2 1 1)) Els.nil rfl ⟨_, rfl, h493⟩)
                  have nd500 : (bl [Value.int .i64 2, v486, Value.int .i64 s464.2, Value.int .i64 s714.2, Value.int .i64 1, Value.int .i64 1]).Nodup := by exact nd_one v486
                  refine FC.val (l' := (bs 25 4194303)) rfl (by kernel_rfl) rfl rfl rfl (E.buildSlice (B1 rfl) run497) ?_
                  refine ⟨(SP.on (hall461 _ _ _ 3 S498 rfl) (SP.on (hall450 _ _ _ 3 S498 rfl) (SP.on ((S498.box_now (i := 1) rfl).sub (j := 0) (n := 1) (c := [v416]) rfl) (SP.nil (Sl.of_inc (r485.run.inc.tr i492) S498.sl))))), ?_⟩
                  refine FB.all1 (i := 22) (by kernel_rfl) ?_
                  ·
                    obtain ⟨v503, w506, n504, cs505, run507, S508, els509, ce510⟩ := S498.appendO (P := Tryz.prog) te55 (i := 3) (j := 0) rfl (els419.mono (up_mono (r485.run.inc.tr i492))) rfl els499 hz502
                    have S508 : St Ha wa H490 w506 [.row 129 6 v495 1 [Value.int .i64 2, v486, Value.int .i64 s464.2, Value.int .i64 s714.2, Value.int .i64 1, Value.int .i64 1], .box b43 118 [v416, v52], .row 3 1 v52 n53 cs54, .row 129 6 v503 n504 cs505, .box b29 118 [Value.slice none 0 0, Value.slice none 0 0]] := S508
                    have nd511 : (bl cs505).Nodup := by rw [ce510]; exact nd_app nd420 nd500 (Els.dom (els419.mono (upI.tr r485.run.inc))) (by exact nv494)
                    have S512 : St Ha wa H490 w506 [.box b43 118 [v416, v52], .row 3 1 v52 n53 cs54, .row 129 6 v503 n504 cs505, .box b29 118 [Value.slice none 0 0, Value.slice none 0 0]] := S508.drop 0
                    refine FC.val (l' := (bs 25 8388607)) rfl (by kernel_rfl) rfl rfl rfl (E.append rfl rfl run507) ?_
                    refine ⟨(SP.o (SP.o (SP.on ((S512.box_now (i := 0) rfl).sub (j := 0) (n := 1) (c := [v416]) rfl) (SP.nil (Sl.of_inc (r485.run.inc.tr i492) S512.sl))))), ?_⟩
                    refine FB.t (i := 23) (bs 25 16777215) rfl (SP.o (SP.o (SP.on ((S512.box_now (i := 0) rfl).sub (j := 0) (n := 1) (c := [v416]) rfl) (SP.nil (Sl.of_inc (r485.run.inc.tr i492) S512.sl))))) rfl (fun w' hw' => (E.fieldAddr tf118_0 k430)) ?_
                    refine FB.all1 (i := 24) (by kernel_rfl) ?_
                    ·
                      obtain ⟨w629, run630, S631⟩ := S512.store (P := Tryz.prog) (t := 55) (i := 0) (j := 0) (cs' := [v503, v52]) (l' := [.box b43 118 [v503, v52], .row 3 1 v52 n53 cs54, .row 129 6 v503 n504 cs505, .box b29 118 [Value.slice none 0 0, Value.slice none 0 0]]) (v := v503) (c := [v503]) rfl Tryz.sizeOf55 (Ln.cells (S512.row_ln (i := 2) rfl)) rfl (ones_cons (Ln.one (S512.row_ln (i := 2) rfl)) ones_nil) (Nat.le_of_ble_eq_true rfl) rfl rfl
                      refine FC.act (l' := (bs 25 33554431)) rfl (by kernel_rfl) rfl rfl (E.store rfl rfl run630) ?_
                      refine ⟨(SP.o (SP.o (SP.o (SP.nil (Sl.of_inc (r485.run.inc.tr i492) S631.sl))))), ?_⟩
                      exact FB.done (by kernel_rfl) ⟨_, _, _, _, S631, (r485.run.inc.tr i492), els509, nd511, k426, k427, k428, k429, k430, k431⟩
            ·
              rintro f641 w640 ⟨H637, v632, n633, cs634, S638, i639, els635, nd636, k642, k643, k644, k645, k646, k647⟩
              refine FW.region ?_
              refine FL.v (E.fieldAddr tf118_0 k646) ?_
              refine FL.v (E.load rfl (run_load1 Tryz.isAgg55 (S638.box_now (i := 0) rfl) rfl)) ?_
              refine FL.v (E.lenO te55 rfl S638 (i := 2) rfl els635 (by decide)) ?_
              refine FL.v (E.sub rfl rfl) ?_
              refine FL.v (E.assign (v := Value.int .i64 (wr ((len xs501) - 1))) rfl) ?_
              refine FL.nil (FW.region ?_)
              refine FL.v (E.fieldAddr tf118_1 k646) ?_
              refine FL.v (E.load rfl (run_load1 Tryz.isAgg39 (S638.box_now (i := 0) rfl) rfl)) ?_
              refine FL.v (E.move (v := Value.int .i64 (wr ((len xs501) - 1))) rfl) ?_
              obtain ⟨v648, w649, run650, S651⟩ := S638.buildSlice (P := Tryz.prog) te39 [Value.int .i64 (wr ((len xs501) - 1))] (parts := #[(0, Value.int .i64 (wr ((len xs501) - 1)))]) (cells := [Value.int .i64 (wr ((len xs501) - 1))]) rfl (szs_cons rfl szs_nil) (fc_cons rfl fc_nil) (ones_cons rfl ones_nil) (Nat.le_of_ble_eq_true rfl)
              have els652 : Els (up wa.heap.size H637) eI 1 [Value.int .i64 (wr ((len xs501) - 1))] [(wr ((len xs501) - 1))] := (Els.snoc (H := (up wa.heap.size H637)) (E := eI) (k := 1) (c := [Value.int .i64 (wr ((len xs501) - 1))]) (x := (wr ((len xs501) - 1))) Els.nil rfl rfl)
              refine FL.v (E.buildSlice (B1 rfl) run650) ?_
              obtain ⟨xs653, hz654, hp⟩ := bnd hp
              obtain ⟨v655, w658, n656, cs657, run659, S660, els661, ce662⟩ := S651.appendO (P := Tryz.prog) te39 (i := 2) (j := 0) rfl (els56.mono (up_mono (((i91.tr i388).tr i423).tr i639))) rfl els652 hz654
              have S660 : St Ha wa H637 w658 [.row 3 1 v648 1 [Value.int .i64 (wr ((len xs501) - 1))], .box b43 118 [v632, v52], .row 3 1 v655 n656 cs657, .row 129 6 v632 n633 cs634, .box b29 118 [Value.slice none 0 0, Value.slice none 0 0]] := S660
              have S663 : St Ha wa H637 w658 [.box b43 118 [v632, v52], .row 3 1 v655 n656 cs657, .row 129 6 v632 n633 cs634, .box b29 118 [Value.slice none 0 0, Value.slice none 0 0]] := S660.drop 0
              refine FL.v (E.append rfl rfl run659) ?_
              refine FL.v (E.fieldAddr tf118_1 k646) ?_
              obtain ⟨w664, run665, S666⟩ := S663.store (P := Tryz.prog) (t := 39) (i := 0) (j := 1) (cs' := [v632, v655]) (l' := [.box b43 118 [v632, v655], .row 3 1 v655 n656 cs657, .row 129 6 v632 n633 cs634, .box b29 118 [Value.slice none 0 0, Value.slice none 0 0]]) (v := v655) (c := [v655]) rfl Tryz.sizeOf39 (Ln.cells (S663.row_ln (i := 1) rfl)) rfl (ones_cons (Ln.one (S663.row_ln (i := 1) rfl)) ones_nil) (Nat.le_of_ble_eq_true rfl) rfl rfl
              refine FL.act rfl rfl (E.store rfl rfl run665) ?_
              refine FL.nil (FW.region ?_)
              refine FL.v (E.move k647) ?_
              refine FL.v (E.add rfl rfl) ?_
              refine FL.v (E.assign (v := Value.int .i64 (wr (((i51 : Nat) : Int) + 1))) rfl) ?_
              refine FL.nil ?_
              obtain rfl := Option.some.inj hp
              exact ⟨rfl, ⟨_, _, _, _, _, _, _, S666, ((((i64.tr i91).tr i388).tr i423).tr i639), els661, els635, nd636, (nat_succ rfl (lt_of_get hx51) (p2.mono (((((i27.tr i64).tr i91).tr i388).tr i423).tr i639)).le), k642, k643, k644, k645, k646⟩⟩
  ·
    clear hp hq
    rintro s51 f697 w696 ⟨H693, v52, n53, cs54, v57, n58, cs59, S694, i695, els56, els60, nd61, k698, k699, k700, k701, k702, k703⟩
    refine FW.seq (FW.seq (FW.region ?_))
    refine FL.v (E.move k698) ?_
    refine FL.v (E.move k700) ?_
    refine FL.v (E.lenP te28 rfl p2) ?_
    refine FL.v (E.lss rfl rfl) ?_
    refine FL.nil ?_
    refine FW.condF rfl dlt_len ?_
    refine FW.exit ?_
    exact ⟨nofun, rfl, ⟨_, _, _, _, _, _, _, S694, i695, els56, els60, nd61, k702, k703⟩⟩
  ·
    clear hq
    intro e f672 w671 hD
    rcases q51 with s51 | x51
    ·
      obtain ⟨rfl, hD⟩ := hD
      obtain ⟨H668, v52, n53, cs54, v57, n58, cs59, S669, i670, els56, els60, nd61, k673, k674⟩ := hD
      replace hp := el_go hp
      refine FW.seq (FW.region ?_)
      refine FL.v (E.load k674 (run_loadA Tryz.isAgg118 Tryz.sizeOf118 (S669.box_now (i := 0) rfl) rfl)) ?_
      obtain ⟨w675, run676, S677⟩ := S669.store0 (P := Tryz.prog) (t := 118) (i := 3) (cs' := [v57, v52]) (l' := [.box b43 118 [v57, v52], .row 3 1 v52 n53 cs54, .row 129 6 v57 n58 cs59, .box b29 118 [v57, v52]]) (v := Value.agg #[v57, v52]) (c := [v57, v52]) rfl Tryz.sizeOf118 rfl rfl (ones_cons (Ln.one (S669.row_ln (i := 2) rfl)) (ones_cons (Ln.one (S669.row_ln (i := 1) rfl)) ones_nil)) (Nat.le_of_ble_eq_true rfl) rfl rfl
      refine FL.act rfl rfl (E.store k673 rfl run676) ?_
      obtain ⟨H678, S679, i680, ns683, nv682⟩ := S677.sealRowN (i := 2) (l' := [.box b43 118 [v57, v52], .row 3 1 v52 n53 cs54, .box b29 118 [v57, v52]]) rfl els60 nd61 (by decide) rfl
      have h681 := ns683.rsl
      obtain ⟨H684, S685, i686, h687, nv688⟩ := S679.sealRowU (i := 1) (l' := [.box b43 118 [v57, v52], .box b29 118 [v57, v52]]) rfl (els56.mono (up_mono i680)) (by decide) rfl
      obtain ⟨H689, S690, i691, at692⟩ := S685.sealBox (i := 1) (l' := [.box b43 118 [v57, v52]]) rfl rfl
      refine FL.nil ?_
      refine FW.ret ?_
      obtain rfl := Option.some.inj hp
      exact ⟨.inr rfl, resC rfl k673 (loadVar_A Tryz.isAgg118 Tryz.sizeOf118 (at692.now S690.sl) rfl) ⟨_, _, _, rfl, S690.run, ⟨_, (ns683.mono (up_mono (i686.tr i691)))⟩, (h687.mono (up_mono i691))⟩⟩
    · exact x51.elim

@[reducible] def p_spec_l21Pc (Ha : GH) (wa : World) (r : ((List PcStep) × Bool)) : Ending → World → Prop :=
 fun e w' => ∃ H' : GH, ∃ v0 : Value, e = .returned (Value.tuple #[v0, Value.bool r.2]) ∧ Run wa.heap.size Ha wa H' w' ∧ (∃ c, Nest (up wa.heap.size H') ePcStep 6 v0 r.1 c)
theorem w_spec_l21Pc {Ha : GH} {wa : World} (hs : Sl Ha wa) (a0 : Int) (a1 : Cnf) (v1_1 : Value) (p1_1 : RSl Ha (eL eI 1) 1 v1_1 a1.clauses) (v2 : Value) (a2 : List ResStep) (p2 : RSl Ha eResStep 4 v2 a2) {r : ((List PcStep) × Bool)} (hp : (PF.spec_l21Pc a0 a1 a2) = some r) :
  Calls Tryz.prog 100 #[Value.int .i64 a0, Value.agg #[Value.int .i64 a1.vars, v1_1], v2] wa (p_spec_l21Pc Ha wa r) := by
 unfold PF.spec_l21Pc at hp
 have S0 := St.init hs
 refine calls_go (N := 25) (args := [Value.int .i64 a0, Value.agg #[Value.int .i64 a1.vars, v1_1], v2]) Tryz.func100 rfl rfl rfl ?_
 refine FW.seq (FW.region ?_)
 obtain ⟨b21, w22, run23, S24⟩ := S0.box (P := Tryz.prog) 31 [Value.int .i64 a1.vars, v1_1] (v := Value.agg #[Value.int .i64 a1.vars, v1_1]) rfl (ones_cons rfl (ones_cons p1_1.one ones_nil))
 refine FL.v (E.box rfl run23) ?_
 obtain ⟨H25, S26, i27, at28⟩ := S24.sealBox (i := 0) (l' := []) rfl rfl
 refine FL.v (E.assign (v := Value.slice none 0 0) rfl) ?_
 refine FL.v (E.assign (v := Value.bool false) rfl) ?_
 refine FL.nil (FW.seq (FW.seq (FW.region ?_)))
 refine FL.v (E.move (v := Value.int .i64 a0) rfl) ?_
 refine FL.v (E.load rfl (run_loadA Tryz.isAgg31 Tryz.sizeOf31 (at28.now S26.sl) rfl)) ?_
 refine FL.v (E.move (v := v2) rfl) ?_
 obtain ⟨r29, hr30, hp⟩ := bnd hp
 refine FL.call rfl rfl rfl (E.call Tryz.call97 (A3 rfl rfl rfl)) (w_spec_l21Asked S26.sl a0 a1 v1_1 (p1_1.mono i27) v2 a2 (p2.mono i27) hr30) ?_
 rintro e w31 ⟨rfl, r32⟩
 refine ⟨_, rfl, ?_⟩
 have S33 := S26.call r32
 refine FL.v (E.not rfl) ?_
 refine FL.nil ?_
 rcases ifB hp with ⟨c34, hp⟩ | ⟨c34, hp⟩
 ·
  refine FW.condT rfl c34 ?_
  refine FW.seq (FW.region ?_)
  obtain ⟨v35, w36, run37, S38⟩ := S33.buildSlice (P := Tryz.prog) te55 [] (parts := #[]) (cells := []) rfl szs_nil fc_nil ones_nil (Nat.le_of_ble_eq_true rfl)
  have els39 : Els (up wa.heap.size H25) ePcStep 6 [] [] := Els.nil
  refine FL.v (E.buildSlice (B0) run37) ?_
  refine FL.v (E.assign (v := v35) rfl) ?_
  refine FL.v (E.assign (v := Value.bool false) rfl) ?_
  refine FL.nil ?_
  refine FW.ret ?_
  obtain ⟨H40, S41, i42, ns45, nv44⟩ := S38.sealRowN (i := 0) (l' := []) rfl els39 (show (bl []).Nodup from List.nodup_nil) (by decide) rfl
  have h43 := ns45.rsl
  obtain rfl := Option.some.inj hp
  exact ⟨.inr rfl, res2 rfl rfl rfl ⟨_, _, rfl, S41.run, ⟨_, ns45⟩⟩⟩
 ·
  refine FW.condF rfl c34 ?_
  refine FW.skip (FW.seq (FW.region ?_))
  refine FL.v (E.move (v := Value.int .i64 a0) rfl) ?_
  refine FL.v (E.load rfl (run_loadA Tryz.isAgg31 Tryz.sizeOf31 (at28.now S33.sl) rfl)) ?_
  refine FL.v (E.move (v := v2) rfl) ?_
  obtain ⟨r46, hr47, hp⟩ := bnd hp
  refine FL.call rfl rfl rfl (E.call Tryz.call98 (A3 rfl rfl rfl)) (w_spec_l21Translate S33.sl a0 a1 v1_1 (p1_1.mono i27) v2 a2 (p2.mono i27) hr47) ?_
  rintro e w49 ⟨H48, v52, v57, rfl, r51, ⟨c55, ns54⟩, h58⟩
  refine ⟨_, rfl, ?_⟩
  have h53 := ns54.rsl
  have nv56 : New H25 [v52] := New.of_up S33.sl h53.dom
  have h53 := h53.mono (up_le S33.size)
  have ns54 := ns54.mono (up_le S33.size)
  have nv59 : New H25 [v57] := New.of_up S33.sl h58.dom
  have h58 := h58.mono (up_le S33.size)
  have S50 := S33.call r51
  refine FL.v (E.field (fd118_0 rfl) rfl) ?_
  refine FL.v (E.assign (v := v52) rfl) ?_
  refine FL.nil (FW.seq (FW.seq (FW.region ?_)))
  refine FL.v (E.move (v := v52) rfl) ?_
  refine FL.v (E.lenP te55 rfl h53) ?_
  refine FL.v (E.gtr rfl rfl) ?_
  refine FL.nil ?_
  rcases ifB hp with ⟨c60, hp⟩ | ⟨c60, hp⟩
  ·
   refine FW.condT rfl c60 ?_
   refine FW.seq (FW.region ?_)
   obtain ⟨v61, w62, run63, S64⟩ := S50.buildSlice (P := Tryz.prog) te55 [] (parts := #[]) (cells := []) rfl szs_nil fc_nil ones_nil (Nat.le_of_ble_eq_true rfl)
   have els65 : Els (up wa.heap.size H48) ePcStep 6 [] [] := Els.nil
   refine FL.v (E.buildSlice (B0) run63) ?_
   refine FL.v (E.assign (v := v61) rfl) ?_
   refine FL.v (E.assign (v := Value.bool false) rfl) ?_
   refine FL.nil ?_
   refine FW.ret ?_
   obtain ⟨H66, S67, i68, ns71, nv70⟩ := S64.sealRowN (i := 0) (l' := []) rfl els65 (show (bl []).Nodup from List.nodup_nil) (by decide) rfl
   have h69 := ns71.rsl
   obtain rfl := Option.some.inj hp
   exact ⟨.inr rfl, res2 rfl rfl rfl ⟨_, _, rfl, S67.run, ⟨_, ns71⟩⟩⟩
  ·
   refine FW.condF rfl c60 ?_
   refine FW.skip (FW.seq (FW.region ?_))
   refine FL.v (E.move (v := v52) rfl) ?_
   refine FL.v (E.assign (v := v52) rfl) ?_
   refine FL.v (E.assign (v := Value.bool true) rfl) ?_
   refine FL.nil ?_
   refine FW.ret ?_
   obtain rfl := Option.some.inj hp
   exact ⟨.inr rfl, res2 rfl rfl rfl ⟨_, _, rfl, S50.run, ⟨_, ns54⟩⟩⟩

@[reducible] def p_spec_ResToPc (Ha : GH) (wa : World) (r : ((List PcStep) × Bool)) : Ending → World → Prop :=
 fun e w' => ∃ H' : GH, ∃ v0 : Value, e = .returned (Value.tuple #[v0, Value.bool r.2]) ∧ Run wa.heap.size Ha wa H' w' ∧ (∃ c, Nest (up wa.heap.size H') ePcStep 6 v0 r.1 c)
theorem w_spec_ResToPc {Ha : GH} {wa : World} (hs : Sl Ha wa) (a0 : Int) (a1 : Cnf) (v1_1 : Value) (p1_1 : RSl Ha (eL eI 1) 1 v1_1 a1.clauses) (v2 : Value) (a2 : List ResStep) (p2 : RSl Ha eResStep 4 v2 a2) {r : ((List PcStep) × Bool)} (hp : (PF.spec_ResToPc a0 a1 a2) = some r) :
  Calls Tryz.prog 43 #[Value.int .i64 a0, Value.agg #[Value.int .i64 a1.vars, v1_1], v2] wa (p_spec_ResToPc Ha wa r) := by
 unfold PF.spec_ResToPc at hp
 have S0 := St.init hs
 refine calls_go (N := 14) (args := [Value.int .i64 a0, Value.agg #[Value.int .i64 a1.vars, v1_1], v2]) Tryz.func43 rfl rfl rfl ?_
 refine FW.seq (FW.region ?_)
 obtain ⟨b21, w22, run23, S24⟩ := S0.box (P := Tryz.prog) 31 [Value.int .i64 a1.vars, v1_1] (v := Value.agg #[Value.int .i64 a1.vars, v1_1]) rfl (ones_cons rfl (ones_cons p1_1.one ones_nil))
 refine FL.v (E.box rfl run23) ?_
 obtain ⟨H25, S26, i27, at28⟩ := S24.sealBox (i := 0) (l' := []) rfl rfl
 refine FL.v (E.assign (v := Value.slice none 0 0) rfl) ?_
 refine FL.v (E.assign (v := Value.bool false) rfl) ?_
 refine FL.nil (FW.seq (FW.region ?_))
 refine FL.v (E.move (v := Value.int .i64 a0) rfl) ?_
 refine FL.v (E.load rfl (run_loadA Tryz.isAgg31 Tryz.sizeOf31 (at28.now S26.sl) rfl)) ?_
 refine FL.v (E.move (v := v2) rfl) ?_
 obtain ⟨r29, hr30, hp⟩ := bnd hp
 refine FL.call rfl rfl rfl (E.call Tryz.call100 (A3 rfl rfl rfl)) (w_spec_l21Pc S26.sl a0 a1 v1_1 (p1_1.mono i27) v2 a2 (p2.mono i27) hr30) ?_
 rintro e w32 ⟨H31, v35, rfl, r34, ⟨c38, ns37⟩⟩
 refine ⟨_, rfl, ?_⟩
 have h36 := ns37.rsl
 have nv39 : New H25 [v35] := New.of_up S26.sl h36.dom
 have h36 := h36.mono (up_le S26.size)
 have ns37 := ns37.mono (up_le S26.size)
 have S33 := S26.call r34
 refine FL.v (E.extract (i := 0) rfl rfl) ?_
 refine FL.v (E.extract (i := 1) rfl rfl) ?_
 refine FL.v (E.assign (v := v35) rfl) ?_
 refine FL.v (E.assign (v := Value.bool r29.2) rfl) ?_
 refine FL.nil ?_
 refine FW.ret ?_
 obtain rfl := Option.some.inj hp
 exact ⟨.inr rfl, res2 rfl rfl rfl ⟨_, _, rfl, S33.run, ⟨_, ns37⟩⟩⟩

theorem w_impl_within {Ha : GH} {wa : World} (hs : Sl Ha wa) (a0 : Int) (a1 : Int) (a2 : Int) :
  Calls Tryz.prog 192 #[Value.int .i64 a0, Value.int .i64 a1, Value.int .i64 a2] wa (Sc Ha wa (Value.bool (PF.impl_within a0 a1 a2))) := by
 obtain ⟨r, hp⟩ : ∃ r, (PF.impl_within a0 a1 a2) = r := ⟨_, rfl⟩
 rw [hp]
 unfold PF.impl_within at hp
 have S0 := St.init hs
 refine calls_go (N := 15) (args := [Value.int .i64 a0, Value.int .i64 a1, Value.int .i64 a2]) Tryz.func192 rfl rfl rfl ?_
 refine FW.seq (FW.region ?_)
 refine FL.v (E.assign (v := Value.bool false) rfl) ?_
 refine FL.nil (FW.seq (FW.region ?_))
 refine FL.v (E.move (v := Value.int .i64 a0) rfl) ?_
 refine FL.v (E.move (v := Value.int .i64 a1) rfl) ?_
 refine FL.v (E.geq rfl rfl) ?_
 refine FL.v (E.move (v := Value.bool (decide (a1 ≤ a0))) rfl) ?_
 refine FL.cut 4 (fun f w => ∃ H : GH, St Ha wa H w [] ∧ Inc Ha H ∧ f 14 = Value.bool (bif (decide (a1 ≤ a0)) then (decide (a0 ≤ a2)) else false)) ?_ ?_
 ·
  rcases bcase (decide (a1 ≤ a0)) with c27 | c27
  ·
   refine FL.val (wF_yes rfl rfl rfl c27) rfl rfl (E.move (v := Value.int .i64 a0) rfl) ?_
   refine FL.val (wF_yes rfl rfl rfl c27) rfl rfl (E.move (v := Value.int .i64 a2) rfl) ?_
   refine FL.val (wF_yes rfl rfl rfl c27) rfl rfl (E.leq rfl rfl) ?_
   refine FL.v (E.pickT rfl c27 rfl) ?_
   exact FL.nil ⟨rfl, _, S0, (Inc.rfl _), (congrArg Value.bool (bifT c27).symm)⟩
  ·
   refine FL.skip (wF_no rfl rfl rfl c27) rfl ?_
   refine FL.skip (wF_no rfl rfl rfl c27) rfl ?_
   refine FL.skip (wF_no rfl rfl rfl c27) rfl ?_
   refine FL.v (E.pickF rfl c27 rfl) ?_
   exact FL.nil ⟨rfl, _, S0, (Inc.rfl _), (congrArg Value.bool (bifF c27).symm)⟩
 rintro f26 w25 ⟨H22, S23, i24, k28⟩
 refine FL.v (E.assign k28) ?_
 refine FL.nil ?_
 refine FW.ret ?_
 obtain rfl := hp
 exact ⟨.inr rfl, res1 rfl rfl ⟨rfl, S23.back⟩⟩

theorem w_impl_ringOf {Ha : GH} {wa : World} (hs : Sl Ha wa) (a0 : Int) (a1 : Int) :
  Calls Tryz.prog 173 #[Value.int .i64 a0, Value.int .i64 a1] wa (Sc Ha wa (Value.tuple #[Value.agg #[Value.int .i64 (((PF.impl_ringOf a0 a1).1).p), Value.int .i64 (((PF.impl_ringOf a0 a1).1).vars)], Value.bool ((PF.impl_ringOf a0 a1).2)])) := by
 obtain ⟨r, hp⟩ : ∃ r, (PF.impl_ringOf a0 a1) = r := ⟨_, rfl⟩
 rw [hp]
 unfold PF.impl_ringOf at hp
 have S0 := St.init hs
 refine calls_go (N := 23) (args := [Value.int .i64 a0, Value.int .i64 a1]) Tryz.func173 rfl rfl rfl ?_
 refine FW.seq (FW.region ?_)
 obtain ⟨b21, w22, run23, S24⟩ := S0.alloc (P := Tryz.prog) 142 [Value.int .i64 0, Value.int .i64 0] Tryz.zeroValue142 rfl (ones_cons rfl (ones_cons rfl ones_nil))
 refine FL.v (E.alloc run23) ?_
 refine FL.v (E.assign (v := Value.bool false) rfl) ?_
 refine FL.nil (FW.seq (FW.region ?_))
 refine FL.v (E.move (v := Value.int .i64 a0) rfl) ?_
 refine FL.v (E.move (v := Value.int .i64 a1) rfl) ?_
 refine FL.v (E.build (B2 rfl rfl) (run_build _ 142 #[(0, Value.int .i64 a0), (1, Value.int .i64 a1)] #[Value.int .i64 a0, Value.int .i64 a1] (by rfl))) ?_
 refine FL.v (E.move (v := Value.int .i64 a0) rfl) ?_
 refine FL.v (E.eql rfl rfl) ?_
 refine FL.v (E.move (v := Value.bool (a0 == 2)) rfl) ?_
 refine FL.cut 3 (fun f w => ∃ H : GH, St Ha wa H w [.box b21 142 [Value.int .i64 0, Value.int .i64 0]] ∧ Inc Ha H ∧ f 0 = Value.int .i64 a0 ∧ f 1 = Value.int .i64 a1 ∧ f 4 = Value.pointer (some (⟨b21, 0, none⟩ : Addr)) ∧ f 8 = Value.agg #[Value.int .i64 a0, Value.int .i64 a1] ∧ f 14 = Value.bool (bif (a0 == 2) then true else (a0 == 3))) ?_ ?_
 ·
  rcases bcase (a0 == 2) with c31 | c31
  ·
   refine FL.skip (wF_no rfl rfl rfl c31) rfl ?_
   refine FL.skip (wF_no rfl rfl rfl c31) rfl ?_
   refine FL.v (E.pickT rfl c31 rfl) ?_
   exact FL.nil ⟨rfl, _, S24, (Inc.rfl _), rfl, rfl, rfl, rfl, (congrArg Value.bool (bifT c31).symm)⟩
  ·
   refine FL.val (wF_yes rfl rfl rfl c31) rfl rfl (E.move (v := Value.int .i64 a0) rfl) ?_
   refine FL.val (wF_yes rfl rfl rfl c31) rfl rfl (E.eql rfl rfl) ?_
   refine FL.v (E.pickF rfl c31 rfl) ?_
   exact FL.nil ⟨rfl, _, S24, (Inc.rfl _), rfl, rfl, rfl, rfl, (congrArg Value.bool (bifF c31).symm)⟩
 rintro f30 w29 ⟨H26, S27, i28, k32, k33, k34, k35, k36⟩
 refine FL.v (E.move k36) ?_
 refine FL.cut 3 (fun f w => ∃ H : GH, St Ha wa H w [.box b21 142 [Value.int .i64 0, Value.int .i64 0]] ∧ Inc H26 H ∧ f 1 = Value.int .i64 a1 ∧ f 4 = Value.pointer (some (⟨b21, 0, none⟩ : Addr)) ∧ f 8 = Value.agg #[Value.int .i64 a0, Value.int .i64 a1] ∧ f 18 = Value.bool (bif (bif (a0 == 2) then true else (a0 == 3)) then true else (a0 == 5))) ?_ ?_
 ·
  rcases bcase (bif (a0 == 2) then true else (a0 == 3)) with c43 | c43
  ·
   refine FL.skip (wF_no rfl rfl rfl c43) rfl ?_
   refine FL.skip (wF_no rfl rfl rfl c43) rfl ?_
   refine FL.v (E.pickT rfl c43 rfl) ?_
   exact FL.nil ⟨rfl, _, S27, (Inc.rfl _), k33, k34, k35, (congrArg Value.bool (bifT c43).symm)⟩
  ·
   refine FL.val (wF_yes rfl rfl rfl c43) rfl rfl (E.move k32) ?_
   refine FL.val (wF_yes rfl rfl rfl c43) rfl rfl (E.eql rfl rfl) ?_
   refine FL.v (E.pickF rfl c43 rfl) ?_
   exact FL.nil ⟨rfl, _, S27, (Inc.rfl _), k33, k34, k35, (congrArg Value.bool (bifF c43).symm)⟩
 rintro f42 w41 ⟨H38, S39, i40, k44, k45, k46, k47⟩
 refine FL.v (E.move k47) ?_
 refine FL.cut 3 (fun f w => ∃ H : GH, St Ha wa H w [.box b21 142 [Value.int .i64 0, Value.int .i64 0]] ∧ Inc H38 H ∧ f 4 = Value.pointer (some (⟨b21, 0, none⟩ : Addr)) ∧ f 8 = Value.agg #[Value.int .i64 a0, Value.int .i64 a1] ∧ f 22 = Value.bool (bif (bif (bif (a0 == 2) then true else (a0 == 3)) then true else (a0 == 5)) then (PF.impl_within a1 0 6) else false)) ?_ ?_
 ·
  rcases bcase (bif (bif (a0 == 2) then true else (a0 == 3)) then true else (a0 == 5)) with c57 | c57
  ·
   refine FL.val (wF_yes rfl rfl rfl c57) rfl rfl (E.move k44) ?_
   refine FL.call (wF_yes rfl rfl rfl c57) rfl rfl (E.call Tryz.call192 (A3 rfl rfl rfl)) (w_impl_within S39.sl a1 0 6) ?_
   rintro e w58 ⟨rfl, r59⟩
   refine ⟨_, rfl, ?_⟩
   have S60 := S39.call r59
   refine FL.v (E.pickT rfl c57 rfl) ?_
   exact FL.nil ⟨rfl, _, S60, (Inc.rfl _), k45, k46, (congrArg Value.bool (bifT c57).symm)⟩
  ·
   refine FL.skip (wF_no rfl rfl rfl c57) rfl ?_
   refine FL.skip (wF_no rfl rfl rfl c57) rfl ?_
   refine FL.v (E.pickF rfl c57 rfl) ?_
   exact FL.nil ⟨rfl, _, S39, (Inc.rfl _), k45, k46, (congrArg Value.bool (bifF c57).symm)⟩
 rintro f56 w55 ⟨H52, S53, i54, k61, k62, k63⟩
 obtain ⟨w64, run65, S66⟩ := S53.store0 (P := Tryz.prog) (t := 142) (i := 0) (cs' := [Value.int .i64 a0, Value.int .i64 a1]) (l' := [.box b21 142 [Value.int .i64 a0, Value.int .i64 a1]]) (v := Value.agg #[Value.int .i64 a0, Value.int .i64 a1]) (c := [Value.int .i64 a0, Value.int .i64 a1]) rfl Tryz.sizeOf142 rfl rfl (ones_cons rfl (ones_cons rfl ones_nil)) (Nat.le_of_ble_eq_true rfl) rfl rfl
 refine FL.act rfl rfl (E.store k61 k62 run65) ?_
 obtain ⟨H67, S68, i69, at70⟩ := S66.sealBox (i := 0) (l' := []) rfl rfl
 refine FL.v (E.assign k63) ?_
 refine FL.nil ?_
 refine FW.ret ?_
 obtain rfl := hp
 exact ⟨.inr rfl, resC2 rfl k61 (loadVar_A Tryz.isAgg142 Tryz.sizeOf142 (at70.now S68.sl) rfl) rfl ⟨rfl, S68.back⟩⟩

theorem w_impl_isLiteral {Ha : GH} {wa : World} (hs : Sl Ha wa) (a0 : Int) (a1 : Int) :
  Calls Tryz.prog 206 #[Value.int .i64 a0, Value.int .i64 a1] wa (Sc Ha wa (Value.bool (PF.impl_isLiteral a0 a1))) := by
 obtain ⟨r, hp⟩ : ∃ r, (PF.impl_isLiteral a0 a1) = r := ⟨_, rfl⟩
 rw [hp]
 unfold PF.impl_isLiteral at hp
 have S0 := St.init hs
 refine calls_go (N := 14) (args := [Value.int .i64 a0, Value.int .i64 a1]) Tryz.func206 rfl rfl rfl ?_
 refine FW.seq (FW.region ?_)
 refine FL.v (E.assign (v := Value.bool false) rfl) ?_
 refine FL.nil (FW.seq (FW.region ?_))
 refine FL.v (E.move (v := Value.int .i64 a1) rfl) ?_
 refine FL.v (E.neq rfl rfl) ?_
 refine FL.v (E.move (v := Value.bool (!(a1 == 0))) rfl) ?_
 refine FL.cut 6 (fun f w => ∃ H : GH, St Ha wa H w [] ∧ Inc Ha H ∧ f 13 = Value.bool (bif (!(a1 == 0)) then (PF.impl_within a1 (wr (-a0)) a0) else false)) ?_ ?_
 ·
  rcases bcase (!(a1 == 0)) with c30 | c30
  ·
   refine FL.val (wF_yes rfl rfl rfl c30) rfl rfl (E.move (v := Value.int .i64 a1) rfl) ?_
   refine FL.val (wF_yes rfl rfl rfl c30) rfl rfl (E.move (v := Value.int .i64 a0) rfl) ?_
   refine FL.val (wF_yes rfl rfl rfl c30) rfl rfl (E.neg rfl) ?_
   refine FL.val (wF_yes rfl rfl rfl c30) rfl rfl (E.move (v := Value.int .i64 a0) rfl) ?_
   refine FL.call (wF_yes rfl rfl rfl c30) rfl rfl (E.call Tryz.call192 (A3 rfl rfl rfl)) (w_impl_within S0.sl a1 (wr (-a0)) a0) ?_
   rintro e w31 ⟨rfl, r32⟩
   refine ⟨_, rfl, ?_⟩
   have S33 := S0.call r32
   refine FL.v (E.pickT rfl c30 rfl) ?_
   exact FL.nil ⟨rfl, _, S33, (Inc.rfl _), (congrArg Value.bool (bifT c30).symm)⟩
  ·
   refine FL.skip (wF_no rfl rfl rfl c30) rfl ?_
   refine FL.skip (wF_no rfl rfl rfl c30) rfl ?_
   refine FL.skip (wF_no rfl rfl rfl c30) rfl ?_
   refine FL.skip (wF_no rfl rfl rfl c30) rfl ?_
   refine FL.skip (wF_no rfl rfl rfl c30) rfl ?_
   refine FL.v (E.pickF rfl c30 rfl) ?_
   exact FL.nil ⟨rfl, _, S0, (Inc.rfl _), (congrArg Value.bool (bifF c30).symm)⟩
 rintro f29 w28 ⟨H25, S26, i27, k34⟩
 refine FL.v (E.assign k34) ?_
 refine FL.nil ?_
 refine FW.ret ?_
 obtain rfl := hp
 exact ⟨.inr rfl, res1 rfl rfl ⟨rfl, S26.back⟩⟩

theorem w_impl_abs {Ha : GH} {wa : World} (hs : Sl Ha wa) (a0 : Int) :
  Calls Tryz.prog 158 #[Value.int .i64 a0] wa (Sc Ha wa (Value.int .i64 (PF.impl_abs a0))) := by
 obtain ⟨r, hp⟩ : ∃ r, (PF.impl_abs a0) = r := ⟨_, rfl⟩
 rw [hp]
 unfold PF.impl_abs at hp
 have S0 := St.init hs
 refine calls_go (N := 7) (args := [Value.int .i64 a0]) Tryz.func158 rfl rfl rfl ?_
 refine FW.seq (FW.region ?_)
 refine FL.v (E.assign (v := Value.int .i64 0) rfl) ?_
 refine FL.nil (FW.seq (FW.region ?_))
 refine FL.v (E.move (v := Value.int .i64 a0) rfl) ?_
 refine FL.v (E.move (v := Value.int .i64 a0) rfl) ?_
 refine FL.v (E.neg rfl) ?_
 refine FL.v (E.max2 rfl rfl) ?_
 refine FL.v (E.assign (v := Value.int .i64 (mx a0 (wr (-a0)))) rfl) ?_
 refine FL.nil ?_
 refine FW.ret ?_
 obtain rfl := hp
 exact ⟨.inr rfl, res1 rfl rfl ⟨rfl, S0.back⟩⟩

theorem w_impl_varsOk {Ha : GH} {wa : World} (hs : Sl Ha wa) (a0 : Int) :
  Calls Tryz.prog 200 #[Value.int .i64 a0] wa (Sc Ha wa (Value.bool (PF.impl_varsOk a0))) := by
 obtain ⟨r, hp⟩ : ∃ r, (PF.impl_varsOk a0) = r := ⟨_, rfl⟩
 rw [hp]
 unfold PF.impl_varsOk at hp
 have S0 := St.init hs
 refine calls_go (N := 5) (args := [Value.int .i64 a0]) Tryz.func200 rfl rfl rfl ?_
 refine FW.seq (FW.region ?_)
 refine FL.v (E.assign (v := Value.bool false) rfl) ?_
 refine FL.nil (FW.seq (FW.region ?_))
 refine FL.v (E.move (v := Value.int .i64 a0) rfl) ?_
 refine FL.call rfl rfl rfl (E.call Tryz.call192 (A3 rfl rfl rfl)) (w_impl_within S0.sl a0 0 12) ?_
 rintro e w21 ⟨rfl, r22⟩
 refine ⟨_, rfl, ?_⟩
 have S23 := S0.call r22
 refine FL.v (E.assign (v := Value.bool (PF.impl_within a0 0 12)) rfl) ?_
 refine FL.nil ?_
 refine FW.ret ?_
 obtain rfl := hp
 exact ⟨.inr rfl, res1 rfl rfl ⟨rfl, S23.back⟩⟩

theorem w_impl_IsClause {Ha : GH} {wa : World} (hs : Sl Ha wa) (a0 : Int) (v1 : Value) (a1 : List Int) (p1 : RSl Ha eI 1 v1 a1) {r : Bool} (hp : (PF.impl_IsClause a0 a1) = some r) :
  Calls Tryz.prog 142 #[Value.int .i64 a0, v1] wa (Sc Ha wa (Value.bool r)) := by
 unfold PF.impl_IsClause at hp
 have S0 := St.init hs
 refine calls_go (N := 36) (args := [Value.int .i64 a0, v1]) Tryz.func142 rfl rfl rfl ?_
 refine FW.seq (FW.region ?_)
 refine FL.v (E.assign (v := Value.bool false) rfl) ?_
 refine FL.nil (FW.seq (FW.seq (FW.region ?_)))
 refine FL.v (E.move (v := v1) rfl) ?_
 refine FL.v (E.lenP te39 rfl p1) ?_
 refine FL.v (E.move (v := Value.int .i64 0) rfl) ?_
 refine FL.nil ?_
 obtain ⟨q22, hq, hp⟩ := bndR hp
 refine FW.block ?_
 refine FW.mono (FW.forL (S := Unit) (X := Bool) (fun (i22 : Nat) (s22 : Unit) f w => ∃ H : GH, St Ha wa H w [] ∧ Inc Ha H ∧ f 9 = Value.int .i64 ((i22 : Nat) : Int) ∧ f 0 = Value.int .i64 a0 ∧ f 1 = v1 ∧ f 7 = v1 ∧ f 8 = Value.int .i64 (len a1)) (fun q e f w => match q with | .go s22 => e = Exit.exit 0 ∧ (∃ H : GH, St Ha wa H w [] ∧ Inc Ha H ∧ f 0 = Value.int .i64 a0) | .rt x => ((e = Exit.ret) ∧ (fun e f w => (e = Exit.normal ∨ e = Exit.ret) ∧ ∀ a, Fr (δ := []) 36 a f → ∃ v, (results Tryz.f142 a.tmps).run Tryz.prog w = .ok v w ∧ (Sc Ha wa (Value.bool x)) (.returned v) w) e f w)) hq ⟨_, S0, (Inc.rfl _), rfl, rfl, rfl, rfl, rfl⟩ ?_ ?_) ?_
 ·
  clear hp hq
  rintro i22 y21 s22 f121 w120 ⟨H117, S118, i119, k122, k123, k124, k125, k126⟩ hx22 o211 hp
  refine FW.seq (FW.region ?_)
  refine FL.v (E.lssT k122 k126 (lss_len hx22)) ?_
  refine FL.nil (FW.seq ?_)
  refine FW.condT rfl rfl ?_
  refine FW.skip (FW.seq (FW.block (FW.seq (FW.region ?_))))
  refine FL.v (E.move k122) ?_
  obtain ⟨p127, cs128, pt129, l130, at131, rel132⟩ := p1.at (ix_nat hx22)
  obtain rfl := eI_open rel132
  refine FL.v (E.indexAddr te39 k125 k122 pt129) ?_
  refine FL.v (E.load rfl (run_load0 Tryz.isAgg3 ((at131.mono i119).now S118.sl) rfl)) ?_
  refine FL.v (E.assign (v := Value.int .i64 ((i22 : Nat) : Int)) rfl) ?_
  refine FL.v (E.assign (v := Value.int .i64 y21) rfl) ?_
  refine FL.nil (FW.seq ?_)
  refine FW.draw (fun w' => Run w120.heap.size H117 w120 H117 w') (by kernel_rfl) (by kernel_rfl) (run_drew S118.sl) ?_
  refine FD.val rfl rfl rfl (fun w' hw' => (E.move k123)) ?_
  refine FD.val rfl rfl rfl (fun w' hw' => (E.move (v := Value.int .i64 y21) rfl)) ?_
  refine FD.call rfl rfl rfl (fun w' hw' => (E.call Tryz.call206 (A2 rfl rfl))) (fun w' hw' => Calls.cls hw' (w_impl_isLiteral (S118.call hw').sl a0 y21)) ?_
  refine FD.val rfl rfl rfl (fun w' hw' => (E.not rfl)) ?_
  refine FD.val rfl rfl rfl (fun w' hw' => (E.move (v := Value.bool (!(PF.impl_isLiteral a0 y21))) rfl)) ?_
  obtain ⟨t164, hqt164, hp⟩ := bnd hp
  refine FD.cut 14 (fun f => f 0 = Value.int .i64 a0 ∧ f 1 = v1 ∧ f 7 = v1 ∧ f 8 = Value.int .i64 (len a1) ∧ f 9 = Value.int .i64 ((i22 : Nat) : Int) ∧ f 32 = Value.bool t164) ?_ ?_
  ·
   clear hp; have hp := hqt164; clear hqt164
   rcases ifB hp with ⟨c170, hp⟩ | ⟨c170, hp⟩
   ·
    refine FD.skip (wF_no rfl rfl rfl c170) rfl ?_
    refine FD.skip (wF_no rfl rfl rfl c170) rfl ?_
    refine FD.skip (wF_no rfl rfl rfl c170) rfl ?_
    refine FD.skip (wF_undef rfl rfl rfl) rfl ?_
    refine FD.skip (wF_undef rfl rfl rfl) rfl ?_
    refine FD.skip (wF_undef rfl rfl rfl) rfl ?_
    refine FD.skip (wF_undef rfl rfl rfl) rfl ?_
    refine FD.skip (wF_undef rfl rfl rfl) rfl ?_
    refine FD.skip (wF_undef rfl rfl rfl) rfl ?_
    refine FD.skip (wF_undef rfl rfl rfl) rfl ?_
    refine FD.skip (wF_undef rfl rfl rfl) rfl ?_
    refine FD.skip (wF_undef rfl rfl rfl) rfl ?_
    refine FD.skip (wF_no rfl rfl rfl c170) rfl ?_
    obtain rfl := Option.some.inj hp
    refine FD.val rfl rfl rfl (fun w' hw' => (E.pickT rfl c170 rfl)) ?_
    exact FD.nil ⟨k123, k124, k125, k126, k122, rfl⟩
   ·
    refine FD.val (wF_yes rfl rfl rfl c170) rfl rfl (fun w' hw' => (E.move (v := Value.int .i64 ((i22 : Nat) : Int)) rfl)) ?_
    refine FD.val (wF_yes rfl rfl rfl c170) rfl rfl (fun w' hw' => (E.gtr rfl rfl)) ?_
    refine FD.val (wF_yes rfl rfl rfl c170) rfl rfl (fun w' hw' => (E.move (v := Value.bool (decide (0 < ((i22 : Nat) : Int)))) rfl)) ?_
    obtain ⟨t179, hqt179, hp⟩ := bnd hp
    refine FD.cut 10 (fun f => f 0 = Value.int .i64 a0 ∧ f 1 = v1 ∧ f 7 = v1 ∧ f 8 = Value.int .i64 (len a1) ∧ f 9 = Value.int .i64 ((i22 : Nat) : Int) ∧ f 18 = Value.bool (!(PF.impl_isLiteral a0 y21)) ∧ f 31 = Value.bool t179) ?_ ?_
    ·
     clear hp; have hp := hqt179; clear hqt179
     rcases ifB hp with ⟨c185, hp⟩ | ⟨c185, hp⟩
     ·
      refine FD.val (wF_yes rfl rfl rfl c185) rfl rfl (fun w' hw' => (E.move (v := Value.int .i64 y21) rfl)) ?_
      refine FD.call (wF_yes rfl rfl rfl c185) rfl rfl (fun w' hw' => (E.call Tryz.call158 (A1 rfl))) (fun w' hw' => Calls.cls hw' (w_impl_abs (S118.call hw').sl y21)) ?_
      refine FD.val (wF_yes rfl rfl rfl c185) rfl rfl (fun w' hw' => (E.move k124)) ?_
      refine FD.val (wF_yes rfl rfl rfl c185) rfl rfl (fun w' hw' => (E.move (v := Value.int .i64 ((i22 : Nat) : Int)) rfl)) ?_
      refine FD.val (wF_yes rfl rfl rfl c185) rfl rfl (fun w' hw' => (E.sub rfl rfl)) ?_
      obtain ⟨x192, hx193, hp⟩ := bnd hp
      obtain ⟨p186, cs187, pt188, l189, at190, rel191⟩ := p1.at hx193
      obtain rfl := eI_open rel191
      refine FD.val (wF_yes rfl rfl rfl c185) rfl rfl (fun w' hw' => (E.indexAddr te39 rfl rfl pt188)) ?_
      refine FD.val (wF_yes rfl rfl rfl c185) rfl rfl (fun w' hw' => (E.load rfl (run_load0 Tryz.isAgg3 ((at190.mono i119).now (S118.call hw').sl) rfl))) ?_
      refine FD.call (wF_yes rfl rfl rfl c185) rfl rfl (fun w' hw' => (E.call Tryz.call158 (A1 rfl))) (fun w' hw' => Calls.cls hw' (w_impl_abs (S118.call hw').sl x192)) ?_
      refine FD.val (wF_yes rfl rfl rfl c185) rfl rfl (fun w' hw' => (E.leq rfl rfl)) ?_
      obtain rfl := Option.some.inj hp
      refine FD.val (wF_yes rfl rfl rfl c170) rfl rfl (fun w' hw' => (E.pickT rfl c185 rfl)) ?_
      exact FD.nil ⟨k123, k124, k125, k126, k122, rfl, rfl⟩
     ·
      refine FD.skip (wF_no rfl rfl rfl c185) rfl ?_
      refine FD.skip (wF_no rfl rfl rfl c185) rfl ?_
      refine FD.skip (wF_no rfl rfl rfl c185) rfl ?_
      refine FD.skip (wF_no rfl rfl rfl c185) rfl ?_
      refine FD.skip (wF_no rfl rfl rfl c185) rfl ?_
      refine FD.skip (wF_no rfl rfl rfl c185) rfl ?_
      refine FD.skip (wF_no rfl rfl rfl c185) rfl ?_
      refine FD.skip (wF_no rfl rfl rfl c185) rfl ?_
      refine FD.skip (wF_no rfl rfl rfl c185) rfl ?_
      obtain rfl := Option.some.inj hp
      refine FD.val (wF_yes rfl rfl rfl c170) rfl rfl (fun w' hw' => (E.pickF rfl c185 rfl)) ?_
      exact FD.nil ⟨k123, k124, k125, k126, k122, rfl, rfl⟩
    rintro f184 ⟨k194, k195, k196, k197, k198, k199, k200⟩
    obtain rfl := Option.some.inj hp
    refine FD.val rfl rfl rfl (fun w' hw' => (E.pickF k199 c170 k200)) ?_
    exact FD.nil ⟨k194, k195, k196, k197, k198, rfl⟩
  rintro f169 ⟨k201, k202, k203, k204, k205, k206⟩
  refine FD.nil ?_
  intro w207 r209
  have S208 := S118.call r209
  rcases ifB hp with ⟨c210, hp⟩ | ⟨c210, hp⟩
  ·
   refine FW.condT k206 c210 ?_
   refine FW.seq (FW.region ?_)
   refine FL.v (E.assign (v := Value.bool false) rfl) ?_
   refine FL.nil ?_
   refine FW.ret ?_
   obtain rfl := Option.some.inj hp
   exact ⟨nofun, rfl, ⟨.inr rfl, res1 rfl rfl ⟨rfl, S208.back⟩⟩⟩
  ·
   refine FW.condF k206 c210 ?_
   refine FW.skip (FW.region ?_)
   refine FL.v (E.add k205 rfl) ?_
   refine FL.v (E.move (v := Value.int .i64 (wr (((i22 : Nat) : Int) + 1))) rfl) ?_
   refine FL.nil ?_
   obtain rfl := Option.some.inj hp
   exact ⟨rfl, ⟨_, S208, i119, (nat_succ rfl (lt_of_get hx22) (p1.mono i119).le), k201, k202, k203, k204⟩⟩
 ·
  clear hp hq
  rintro s22 f225 w224 ⟨H221, S222, i223, k226, k227, k228, k229, k230⟩
  refine FW.seq (FW.region ?_)
  refine FL.v (E.lss k226 k230) ?_
  refine FL.nil (FW.seq ?_)
  refine FW.condF rfl dlt_len ?_
  refine FW.exit ?_
  exact ⟨nofun, rfl, ⟨_, S222, i223, k227⟩⟩
 ·
  clear hq
  intro e f216 w215 hD
  rcases q22 with s22 | x22
  ·
   obtain ⟨rfl, hD⟩ := hD
   obtain ⟨H212, S213, i214, k217⟩ := hD
   replace hp := el_go hp
   refine FW.seq (FW.region ?_)
   refine FL.v (E.move k217) ?_
   refine FL.call rfl rfl rfl (E.call Tryz.call200 (A1 rfl)) (w_impl_varsOk S213.sl a0) ?_
   rintro e w218 ⟨rfl, r219⟩
   refine ⟨_, rfl, ?_⟩
   have S220 := S213.call r219
   refine FL.v (E.assign (v := Value.bool (PF.impl_varsOk a0)) rfl) ?_
   refine FL.nil ?_
   refine FW.ret ?_
   obtain rfl := Option.some.inj hp
   exact ⟨.inr rfl, res1 rfl rfl ⟨rfl, S220.back⟩⟩
  ·
   obtain ⟨he, hL⟩ := hD
   replace hp := el_rt hp
   obtain rfl := Option.some.inj hp
   subst he
   exact hL

theorem w_impl_IsCnf {Ha : GH} {wa : World} (hs : Sl Ha wa) (a0 : Cnf) (v0_1 : Value) (p0_1 : RSl Ha (eL eI 1) 1 v0_1 a0.clauses) {r : Bool} (hp : (PF.impl_IsCnf a0) = some r) :
  Calls Tryz.prog 134 #[Value.agg #[Value.int .i64 a0.vars, v0_1]] wa (Sc Ha wa (Value.bool r)) := by
 unfold PF.impl_IsCnf at hp
 have S0 := St.init hs
 refine calls_go (N := 27) (args := [Value.agg #[Value.int .i64 a0.vars, v0_1]]) Tryz.func134 rfl rfl rfl ?_
 refine FW.seq (FW.region ?_)
 obtain ⟨b21, w22, run23, S24⟩ := S0.box (P := Tryz.prog) 31 [Value.int .i64 a0.vars, v0_1] (v := Value.agg #[Value.int .i64 a0.vars, v0_1]) rfl (ones_cons rfl (ones_cons p0_1.one ones_nil))
 refine FL.v (E.box rfl run23) ?_
 obtain ⟨H25, S26, i27, at28⟩ := S24.sealBox (i := 0) (l' := []) rfl rfl
 refine FL.v (E.assign (v := Value.bool false) rfl) ?_
 refine FL.nil (FW.seq (FW.seq (FW.region ?_)))
 refine FL.v (E.fieldAddr tf31_1 rfl) ?_
 refine FL.v (E.load rfl (run_load1 Tryz.isAgg22 (at28.now S26.sl) rfl)) ?_
 refine FL.v (E.lenP te22 rfl p0_1) ?_
 refine FL.v (E.move (v := Value.int .i64 0) rfl) ?_
 refine FL.nil ?_
 obtain ⟨q30, hq, hp⟩ := bndR hp
 refine FW.block ?_
 refine FW.mono (FW.forL (S := Unit) (X := Bool) (fun (i30 : Nat) (s30 : Unit) f w => ∃ H : GH, St Ha wa H w [] ∧ Inc H25 H ∧ f 8 = Value.int .i64 ((i30 : Nat) : Int) ∧ f 1 = Value.pointer (some ⟨b21, 0, none⟩) ∧ f 6 = v0_1 ∧ f 7 = Value.int .i64 (len a0.clauses)) (fun q e f w => match q with | .go s30 => e = Exit.exit 0 ∧ (∃ H : GH, St Ha wa H w [] ∧ Inc H25 H ∧ f 1 = Value.pointer (some ⟨b21, 0, none⟩)) | .rt x => ((e = Exit.ret) ∧ (fun e f w => (e = Exit.normal ∨ e = Exit.ret) ∧ ∀ a, Fr (δ := []) 27 a f → ∃ v, (results Tryz.f134 a.tmps).run Tryz.prog w = .ok v w ∧ (Sc Ha wa (Value.bool x)) (.returned v) w) e f w)) hq ⟨_, S26, (Inc.rfl _), rfl, rfl, rfl, rfl⟩ ?_ ?_) ?_
 ·
  clear hp hq
  rintro i30 y29 s30 f58 w57 ⟨H54, S55, i56, k59, k60, k61, k62⟩ hx30 o77 hp
  refine FW.seq (FW.region ?_)
  refine FL.v (E.lssT k59 k62 (lss_len hx30)) ?_
  refine FL.nil (FW.seq ?_)
  refine FW.condT rfl rfl ?_
  refine FW.skip (FW.seq (FW.block (FW.seq (FW.region ?_))))
  obtain ⟨p63, cs64, pt65, l66, at67, rel68⟩ := p0_1.at (ix_nat hx30)
  obtain ⟨v69, rfl, h70⟩ := eL_open rel68
  refine FL.v (E.indexAddr te22 k61 k59 pt65) ?_
  refine FL.v (E.load rfl (run_load0 Tryz.isAgg39 ((at67.mono (i27.tr i56)).now S55.sl) rfl)) ?_
  refine FL.v (E.assign (v := v69) rfl) ?_
  refine FL.nil (FW.seq (FW.region ?_))
  refine FL.v (E.fieldAddr tf31_0 k60) ?_
  refine FL.v (E.load rfl (run_load1 Tryz.isAgg3 ((at28.mono i56).now S55.sl) rfl)) ?_
  refine FL.v (E.move (v := v69) rfl) ?_
  obtain ⟨r71, hr72, hp⟩ := bnd hp
  refine FL.call rfl rfl rfl (E.call Tryz.call142 (A2 rfl rfl)) (w_impl_IsClause S55.sl a0.vars v69 y29 (h70.mono (i27.tr i56)) hr72) ?_
  rintro e w73 ⟨rfl, r74⟩
  refine ⟨_, rfl, ?_⟩
  have S75 := S55.call r74
  refine FL.v (E.not rfl) ?_
  refine FL.nil ?_
  rcases ifB hp with ⟨c76, hp⟩ | ⟨c76, hp⟩
  ·
   refine FW.condT rfl c76 ?_
   refine FW.seq (FW.region ?_)
   refine FL.v (E.assign (v := Value.bool false) rfl) ?_
   refine FL.nil ?_
   refine FW.ret ?_
   obtain rfl := Option.some.inj hp
   exact ⟨nofun, rfl, ⟨.inr rfl, res1 rfl rfl ⟨rfl, S75.back⟩⟩⟩
  ·
   refine FW.condF rfl c76 ?_
   refine FW.skip (FW.region ?_)
   refine FL.v (E.add k59 rfl) ?_
   refine FL.v (E.move (v := Value.int .i64 (wr (((i30 : Nat) : Int) + 1))) rfl) ?_
   refine FL.nil ?_
   obtain rfl := Option.some.inj hp
   exact ⟨rfl, ⟨_, S75, i56, (nat_succ rfl (lt_of_get hx30) (p0_1.mono (i27.tr i56)).le), k60, k61, k62⟩⟩
 ·
  clear hp hq
  rintro s30 f99 w98 ⟨H95, S96, i97, k100, k101, k102, k103⟩
  refine FW.seq (FW.region ?_)
  refine FL.v (E.lss k100 k103) ?_
  refine FL.nil (FW.seq ?_)
  refine FW.condF rfl dlt_len ?_
  refine FW.exit ?_
  exact ⟨nofun, rfl, ⟨_, S96, i97, k101⟩⟩
 ·
  clear hq
  intro e f82 w81 hD
  rcases q30 with s30 | x30
  ·
   obtain ⟨rfl, hD⟩ := hD
   obtain ⟨H78, S79, i80, k83⟩ := hD
   replace hp := el_go hp
   refine FW.seq (FW.region ?_)
   refine FL.v (E.fieldAddr tf31_0 k83) ?_
   refine FL.v (E.load rfl (run_load1 Tryz.isAgg3 ((at28.mono i80).now S79.sl) rfl)) ?_
   refine FL.call rfl rfl rfl (E.call Tryz.call200 (A1 rfl)) (w_impl_varsOk S79.sl a0.vars) ?_
   rintro e w84 ⟨rfl, r85⟩
   refine ⟨_, rfl, ?_⟩
   have S86 := S79.call r85
   refine FL.v (E.move (v := Value.bool (PF.impl_varsOk a0.vars)) rfl) ?_
   refine FL.cut 5 (fun f w => ∃ H : GH, St Ha wa H w [] ∧ Inc H78 H ∧ f 26 = Value.bool (bif (PF.impl_varsOk a0.vars) then (decide ((len a0.clauses) ≤ 60)) else false)) ?_ ?_
   ·
    rcases bcase (PF.impl_varsOk a0.vars) with c93 | c93
    ·
     refine FL.val (wF_yes rfl rfl rfl c93) rfl rfl (E.fieldAddr tf31_1 k83) ?_
     refine FL.val (wF_yes rfl rfl rfl c93) rfl rfl (E.load rfl (run_load1 Tryz.isAgg22 ((at28.mono i80).now S86.sl) rfl)) ?_
     refine FL.val (wF_yes rfl rfl rfl c93) rfl rfl (E.lenP te22 rfl p0_1) ?_
     refine FL.val (wF_yes rfl rfl rfl c93) rfl rfl (E.leq rfl rfl) ?_
     refine FL.v (E.pickT rfl c93 rfl) ?_
     exact FL.nil ⟨rfl, _, S86, (Inc.rfl _), (congrArg Value.bool (bifT c93).symm)⟩
    ·
     refine FL.skip (wF_no rfl rfl rfl c93) rfl ?_
     refine FL.skip (wF_no rfl rfl rfl c93) rfl ?_
     refine FL.skip (wF_no rfl rfl rfl c93) rfl ?_
     refine FL.skip (wF_no rfl rfl rfl c93) rfl ?_
     refine FL.v (E.pickF rfl c93 rfl) ?_
     exact FL.nil ⟨rfl, _, S86, (Inc.rfl _), (congrArg Value.bool (bifF c93).symm)⟩
   rintro f92 w91 ⟨H88, S89, i90, k94⟩
   refine FL.v (E.assign k94) ?_
   refine FL.nil ?_
   refine FW.ret ?_
   obtain rfl := Option.some.inj hp
   exact ⟨.inr rfl, res1 rfl rfl ⟨rfl, S89.back⟩⟩
  ·
   obtain ⟨he, hL⟩ := hD
   replace hp := el_rt hp
   obtain rfl := Option.some.inj hp
   subst he
   exact hL

@[reducible] def p_impl_ring_zero (Ha : GH) (wa : World) (r : (List Int)) : Ending → World → Prop :=
 fun e w' => ∃ H' : GH, ∃ v0 : Value, ∃ n0 : Nat, ∃ c0 : List Value, e = .returned (v0) ∧ St Ha wa H' w' [.row 3 1 v0 n0 c0] ∧ Els (up wa.heap.size H') eI 1 c0 r
theorem w_impl_ring_zero {Ha : GH} {wa : World} (hs : Sl Ha wa) (a0 : ring) {r : (List Int)} (hp : (PF.impl_ring_zero a0) = some r) :
  Calls Tryz.prog 195 #[Value.agg #[Value.int .i64 a0.p, Value.int .i64 a0.vars]] wa (p_impl_ring_zero Ha wa r) := by
 unfold PF.impl_ring_zero at hp
 have S0 := St.init hs
 refine calls_go (N := 7) (args := [Value.agg #[Value.int .i64 a0.p, Value.int .i64 a0.vars]]) Tryz.func195 rfl rfl rfl ?_
 refine FW.seq (FW.region ?_)
 obtain ⟨b21, w22, run23, S24⟩ := S0.box (P := Tryz.prog) 142 [Value.int .i64 a0.p, Value.int .i64 a0.vars] (v := Value.agg #[Value.int .i64 a0.p, Value.int .i64 a0.vars]) rfl (ones_cons rfl (ones_cons rfl ones_nil))
 refine FL.v (E.box rfl run23) ?_
 obtain ⟨H25, S26, i27, at28⟩ := S24.sealBox (i := 0) (l' := []) rfl rfl
 refine FL.v (E.assign (v := Value.slice none 0 0) rfl) ?_
 refine FL.nil (FW.seq (FW.region ?_))
 refine FL.v (E.fieldAddr tf142_1 rfl) ?_
 refine FL.v (E.load rfl (run_load1 Tryz.isAgg3 (at28.now S26.sl) rfl)) ?_
 obtain ⟨u30, z29, hp⟩ := bnd hp
 refine FL.v (E.shl rfl rfl (nn_ge z29)) ?_
 obtain ⟨xs31, hm32, hp⟩ := bnd hp
 obtain ⟨v33, w34, n38, cs39, run35, S36, els37, hbl40⟩ := S26.makeEls (P := Tryz.prog) te139 (G := (up wa.heap.size H25)) (En := eI) (x0 := (0 : Int)) hm32 rfl (ones_cons rfl ones_nil) .i64 .i64
 refine FL.v (E.makeSlice rfl rfl run35) ?_
 refine FL.v (E.assign (v := v33) rfl) ?_
 refine FL.nil ?_
 refine FW.ret ?_
 obtain rfl := Option.some.inj hp
 exact ⟨.inr rfl, res1 rfl rfl ⟨_, _, _, _, rfl, S36, els37⟩⟩

@[reducible] def p_impl_ring_mono (Ha : GH) (wa : World) (r : (List Int)) : Ending → World → Prop :=
 fun e w' => ∃ H' : GH, ∃ v0 : Value, ∃ n0 : Nat, ∃ c0 : List Value, e = .returned (v0) ∧ St Ha wa H' w' [.row 3 1 v0 n0 c0] ∧ Els (up wa.heap.size H') eI 1 c0 r
theorem w_impl_ring_mono {Ha : GH} {wa : World} (hs : Sl Ha wa) (a0 : ring) (a1 : Int) {r : (List Int)} (hp : (PF.impl_ring_mono a0 a1) = some r) :
  Calls Tryz.prog 175 #[Value.agg #[Value.int .i64 a0.p, Value.int .i64 a0.vars], Value.int .i64 a1] wa (p_impl_ring_mono Ha wa r) := by
 unfold PF.impl_ring_mono at hp
 have S0 := St.init hs
 refine calls_go (N := 12) (args := [Value.agg #[Value.int .i64 a0.p, Value.int .i64 a0.vars], Value.int .i64 a1]) Tryz.func175 rfl rfl rfl ?_
 refine FW.seq (FW.region ?_)
 obtain ⟨b21, w22, run23, S24⟩ := S0.box (P := Tryz.prog) 142 [Value.int .i64 a0.p, Value.int .i64 a0.vars] (v := Value.agg #[Value.int .i64 a0.p, Value.int .i64 a0.vars]) rfl (ones_cons rfl (ones_cons rfl ones_nil))
 refine FL.v (E.box rfl run23) ?_
 obtain ⟨H25, S26, i27, at28⟩ := S24.sealBox (i := 0) (l' := []) rfl rfl
 refine FL.v (E.assign (v := Value.slice none 0 0) rfl) ?_
 refine FL.nil (FW.seq (FW.region ?_))
 refine FL.v (E.load rfl (run_loadA Tryz.isAgg142 Tryz.sizeOf142 (at28.now S26.sl) rfl)) ?_
 obtain ⟨r29, hr30, hp⟩ := bnd hp
 refine FL.call rfl rfl rfl (E.call Tryz.call195 (A1 rfl)) (w_impl_ring_zero S26.sl a0 hr30) ?_
 rintro e w32 ⟨H31, v35, n36, cs37, rfl, r34, els38⟩
 refine ⟨_, rfl, ?_⟩
 have els38 := els38.mono (up_le S26.size)
 have S33 := S26.join (l' := [.row 3 1 v35 n36 cs37]) r34 rfl
 refine FL.v (E.assign (v := v35) rfl) ?_
 refine FL.nil (FW.seq (FW.region ?_))
 refine FL.v (E.move (v := v35) rfl) ?_
 refine FL.v (E.move (v := Value.int .i64 a1) rfl) ?_
 obtain ⟨x45, hx46, hp⟩ := bnd hp
 obtain ⟨p39, cs40, pt41, l42, at43, rel44⟩ := S33.row_at (i := 0) rfl els38 (by decide) hx46
 obtain rfl := eI_open rel44
 refine FL.v (E.indexAddr te139 rfl rfl pt41) ?_
 obtain ⟨xs50, hput51, hp⟩ := bnd hp
 obtain ⟨w47, cs53, run48, S49, els52, ce54⟩ := S33.putEls (P := Tryz.prog) (t := 3) (i := 0) rfl els38 hput51 pt41 Tryz.sizeOf3 (u := Value.int .i64 1) (c := [Value.int .i64 1]) rfl rfl (ones_cons rfl ones_nil) rfl
 have S49 : St Ha wa H31 w47 [.row 3 1 v35 n36 cs53] := S49
 refine FL.act rfl rfl (E.store rfl rfl run48) ?_
 refine FL.nil (FW.seq (FW.region ?_))
 refine FL.v (E.move (v := v35) rfl) ?_
 refine FL.v (E.assign (v := v35) rfl) ?_
 refine FL.nil ?_
 refine FW.ret ?_
 obtain rfl := Option.some.inj hp
 exact ⟨.inr rfl, res1 rfl rfl ⟨_, _, _, _, rfl, S49, els52⟩⟩

@[reducible] def p_slices_Clone_impl_dense_int (Ha : GH) (wa : World) (r : (List Int)) : Ending → World → Prop :=
 fun e w' => ∃ H' : GH, ∃ v0 : Value, ∃ n0 : Nat, ∃ c0 : List Value, e = .returned (v0) ∧ St Ha wa H' w' [.row 3 1 v0 n0 c0] ∧ Els (up wa.heap.size H') eI 1 c0 r
theorem w_slices_Clone_impl_dense_int {Ha : GH} {wa : World} (hs : Sl Ha wa) (v0 : Value) (a0 : List Int) (p0 : RSl Ha eI 1 v0 a0) {r : (List Int)} (hp : (PF.slices_Clone_impl_dense_int a0) = some r) :
  Calls Tryz.prog 238 #[v0] wa (p_slices_Clone_impl_dense_int Ha wa r) := by
 unfold PF.slices_Clone_impl_dense_int at hp
 have S0 := St.init hs
 refine calls_go (N := 8) (args := [v0]) Tryz.func238 rfl rfl rfl ?_
 refine FW.seq (FW.region ?_)
 refine FL.v (E.assign (v := Value.slice none 0 0) rfl) ?_
 refine FL.nil (FW.seq (FW.seq (FW.region ?_)))
 refine FL.v (E.move (v := v0) rfl) ?_
 obtain ⟨nb21, run22, hn23⟩ := RSl.nilTest te139 p0
 refine FL.v (run22 _ _ _ _ _ _ _ _ _ _ _ _ rfl rfl) ?_
 refine FL.nil ?_
 rcases bcase nb21 with c24 | c24
 ·
  refine FW.condT (b := nb21) rfl c24 ?_
  rw [hn23 c24, app_nil2] at hp
  refine FW.seq (FW.region ?_)
  refine FL.v (E.assign (v := Value.slice none 0 0) rfl) ?_
  refine FL.nil ?_
  refine FW.ret ?_
  obtain rfl := Option.some.inj hp
  exact ⟨.inr rfl, res1 rfl rfl ⟨_, _, _, _, rfl, (S0.nil 3 1), Els.nil⟩⟩
 ·
  refine FW.condF (b := nb21) rfl c24 ?_
  refine FW.skip (FW.seq (FW.region ?_))
  obtain ⟨v25, w26, run27, S28⟩ := S0.buildSlice (P := Tryz.prog) te139 [] (parts := #[]) (cells := []) rfl szs_nil fc_nil ones_nil (Nat.le_of_ble_eq_true rfl)
  have els29 : Els (up wa.heap.size Ha) eI 1 [] [] := Els.nil
  refine FL.v (E.buildSlice (B0) run27) ?_
  refine FL.v (E.move (v := v0) rfl) ?_
  obtain ⟨xs30, hz31, hp⟩ := bnd hp
  obtain ⟨v32, w35, n33, cs34, run36, S37, els38⟩ := S28.appendP (P := Tryz.prog) (Inc.rfl _) te139 (i := 0) rfl (els29.mono upI) p0 hz31
  have S37 : St Ha wa Ha w35 [.row 3 1 v32 n33 cs34] := S37
  have els38 : Els (up wa.heap.size Ha) eI 1 cs34 xs30 := els38.any (fun _ _ _ _ h => h)
  refine FL.v (E.append rfl rfl run36) ?_
  refine FL.v (E.assign (v := v32) rfl) ?_
  refine FL.nil ?_
  refine FW.ret ?_
  obtain rfl := Option.some.inj hp
  exact ⟨.inr rfl, res1 rfl rfl ⟨_, _, _, _, rfl, S37, els38⟩⟩

@[reducible] def p_impl_ring_plus (Ha : GH) (wa : World) (r : (List Int)) : Ending → World → Prop :=
  fun e w' => ∃ H' : GH, ∃ v0 : Value, ∃ n0 : Nat, ∃ c0 : List Value, e = .returned (v0) ∧ St Ha wa H' w' [.row 3 1 v0 n0 c0] ∧ Els (up wa.heap.size H') eI 1 c0 r
theorem w_impl_ring_plus {Ha : GH} {wa : World} (hs : Sl Ha wa) (a0 : ring) (v1 : Value) (a1 : List Int) (p1 : RSl Ha eI 1 v1 a1) (v2 : Value) (a2 : List Int) (p2 : RSl Ha eI 1 v2 a2) (a3 : Int) {r : (List Int)} (hp : (PF.impl_ring_plus a0 a1 a2 a3) = some r) :
    Calls Tryz.prog 194 #[Value.agg #[Value.int .i64 a0.p, Value.int .i64 a0.vars], v1, v2, Value.int .i64 a3] wa (p_impl_ring_plus Ha wa r) := by
  unfold PF.impl_ring_plus at hp
  have S0 := St.init hs
  refine calls_go (N := 37) (args := [Value.agg #[Value.int .i64 a0.p, Value.int .i64 a0.vars], v1, v2, Value.int .i64 a3]) Tryz.func194 rfl rfl rfl ?_
  refine FW.seq (FW.region ?_)
  obtain ⟨b21, w22, run23, S24⟩ := S0.box (P := Tryz.prog) 142 [Value.int .i64 a0.p, Value.int .i64 a0.vars] (v := Value.agg #[Value.int .i64 a0.p, Value.int .i64 a0.vars]) rfl (ones_cons rfl (ones_cons rfl ones_nil))
  refine FL.v (E.box rfl run23) ?_
  obtain ⟨H25, S26, i27, at28⟩ := S24.sealBox (i := 0) (l' := []) rfl rfl
  refine FL.v (E.assign (v := Value.slice none 0 0) rfl) ?_
  refine FL.nil (FW.seq (FW.region ?_))
  refine FL.v (E.move (v := v1) rfl) ?_
  obtain ⟨r29, hr30, hp⟩ := bnd hp
  refine FL.call rfl rfl rfl (E.call Tryz.call238 (A1 rfl)) (w_slices_Clone_impl_dense_int S26.sl v1 a1 (p1.mono i27) hr30) ?_
  rintro e w32 ⟨H31, v35, n36, cs37, rfl, r34, els38⟩
  refine ⟨_, rfl, ?_⟩
  have els38 := els38.mono (up_le S26.size)
  have S33 := S26.join (l' := [.row 3 1 v35 n36 cs37]) r34 rfl
  refine FL.v (E.assign (v := v35) rfl) ?_
  refine FL.nil (FW.seq (FW.seq (FW.region ?_)))
  refine FL.v (E.move (v := v2) rfl) ?_
  refine FL.v (E.lenP te139 rfl p2) ?_
  refine FL.v (E.move (v := Value.int .i64 0) rfl) ?_
  refine FL.nil ?_
  obtain ⟨q40, hq, hp⟩ := bndR hp
  refine FW.block ?_
  refine FW.mono (FW.forL (S := (List Int)) (X := Empty) (fun (i40 : Nat) (s40 : (List Int)) f w => ∃ H : GH, ∃ v41 : Value, ∃ n42 : Nat, ∃ cs43 : List Value, St Ha wa H w [.row 3 1 v41 n42 cs43] ∧ Inc H31 H ∧ Els (up wa.heap.size H) eI 1 cs43 s40 ∧ f 16 = Value.int .i64 ((i40 : Nat) : Int) ∧ f 3 = Value.int .i64 a3 ∧ f 4 = Value.pointer (some ⟨b21, 0, none⟩) ∧ f 9 = v41 ∧ f 14 = v2 ∧ f 15 = Value.int .i64 (len a2)) (fun (q : Rs (List Int) Empty) e f w => match q with | .go s40 => e = Exit.exit 0 ∧ (∃ H : GH, ∃ v41 : Value, ∃ n42 : Nat, ∃ cs43 : List Value, St Ha wa H w [.row 3 1 v41 n42 cs43] ∧ Inc H31 H ∧ Els (up wa.heap.size H) eI 1 cs43 s40 ∧ f 9 = v41) | .rt x => x.elim) hq ⟨_, _, _, _, S33, (Inc.rfl _), els38, rfl, rfl, rfl, rfl, rfl, rfl⟩ ?_ ?_) ?_
  ·
    clear hp hq
    rintro i40 y39 s40 f49 w48 ⟨H45, v41, n42, cs43, S46, i47, els44, k50, k51, k52, k53, k54, k55⟩ hx40 o108 hp
    refine FW.seq (FW.region ?_)
    refine FL.v (E.lssT k50 k55 (lss_len hx40)) ?_
    refine FL.nil (FW.seq ?_)
    refine FW.condT rfl rfl ?_
    refine FW.skip (FW.seq (FW.block (FW.seq (FW.region ?_))))
    refine FL.v (E.move k50) ?_
    obtain ⟨p56, cs57, pt58, l59, at60, rel61⟩ := p2.at (ix_nat hx40)
    obtain rfl := eI_open rel61
    refine FL.v (E.indexAddr te139 k54 k50 pt58) ?_
    refine FL.v (E.load rfl (run_load0 Tryz.isAgg3 ((at60.mono ((i27.tr r34.run.inc).tr i47)).now S46.sl) rfl)) ?_
    refine FL.v (E.assign (v := Value.int .i64 ((i40 : Nat) : Int)) rfl) ?_
    refine FL.v (E.assign (v := Value.int .i64 y39) rfl) ?_
    refine FL.nil ?_
    obtain ⟨x71, hx72, hp⟩ := bnd hp
    obtain ⟨u75, z74, hp⟩ := bnd hp
    obtain ⟨x82, hx83, hp⟩ := bnd hp
    obtain ⟨xs88, hput89, hp⟩ := bnd hp
    refine FW.drawB (Sl H45) (fun f w => ∃ H : GH, ∃ v93 : Value, ∃ n94 : Nat, ∃ cs95 : List Value, St Ha wa H w [.row 3 1 v93 n94 cs95] ∧ Inc H45 H ∧ Els (up wa.heap.size H) eI 1 cs95 xs88 ∧ f 3 = Value.int .i64 a3 ∧ f 4 = Value.pointer (some ⟨b21, 0, none⟩) ∧ f 9 = v93 ∧ f 14 = v2 ∧ f 15 = Value.int .i64 (len a2) ∧ f 16 = Value.int .i64 ((i40 : Nat) : Int)) (by kernel_rfl) S46.sl ?_ ?_
    ·
      intro w62 r63
      have S64 := S46.call r63
      refine FB.t (i := 0) (bs 15 1) rfl (SP.nil S64.sl) rfl (fun w' hw' => (E.move k53)) ?_
      refine FB.t (i := 1) (bs 15 3) rfl (SP.nil S64.sl) rfl (fun w' hw' => (E.move (v := Value.int .i64 ((i40 : Nat) : Int)) rfl)) ?_
      refine FB.t (i := 2) (bs 15 7) rfl (SP.nil S64.sl) rfl (fun w' hw' => (E.move k53)) ?_
      refine FB.t (i := 3) (bs 15 15) rfl (SP.nil S64.sl) rfl (fun w' hw' => (E.move (v := Value.int .i64 ((i40 : Nat) : Int)) rfl)) ?_
      obtain ⟨p65, cs66, pt67, l68, at69, rel70, hall73⟩ := S64.row_atA (i := 0) rfl els44 (by decide) hx72
      obtain rfl := eI_open rel70
      refine FB.t (i := 4) (bs 15 31) rfl (SP.nil S64.sl) rfl (fun w' hw' => (E.indexAddr te139 rfl rfl pt67)) ?_
      refine FB.phase [14] (fun w' => WAt w' p65 [Value.int .i64 x71]) ?_
      refine FB.p (i := 5) (bs 15 63) 0 [9, 12, 13, 14] rfl (SP.on (hall73 _ _ _ 0 S64 rfl) (SP.nil S64.sl)) rfl rfl (fun w' hw' => (E.load rfl (run_load0 Tryz.isAgg3 hw' rfl))) ?_
      refine FB.t (i := 6) (bs 15 127) rfl (SP.on (hall73 _ _ _ 0 S64 rfl) (SP.nil S64.sl)) rfl (fun w' hw' => (E.move k51)) ?_
      refine FB.t (i := 7) (bs 15 255) rfl (SP.on (hall73 _ _ _ 0 S64 rfl) (SP.nil S64.sl)) rfl (fun w' hw' => (E.move (v := Value.int .i64 y39) rfl)) ?_
      refine FB.t (i := 8) (bs 15 511) rfl (SP.on (hall73 _ _ _ 0 S64 rfl) (SP.nil S64.sl)) rfl (fun w' hw' => (E.mul rfl rfl)) ?_
      refine FB.t (i := 9) (bs 15 1023) rfl (SP.on (hall73 _ _ _ 0 S64 rfl) (SP.nil S64.sl)) rfl (fun w' hw' => (E.add rfl rfl)) ?_
      refine FB.t (i := 10) (bs 15 2047) rfl (SP.on (hall73 _ _ _ 0 S64 rfl) (SP.nil S64.sl)) rfl (fun w' hw' => (E.fieldAddr tf142_0 k52)) ?_
      refine FB.t (i := 11) (bs 15 4095) rfl (SP.on (hall73 _ _ _ 0 S64 rfl) (SP.nil S64.sl)) rfl (fun w' hw' => (E.load rfl (run_load1 Tryz.isAgg3 ((at28.mono (r34.run.inc.tr i47)).now hw') rfl))) ?_
      refine FB.t (i := 12) (bs 15 8191) rfl (SP.on (hall73 _ _ _ 0 S64 rfl) (SP.nil S64.sl)) rfl (fun w' hw' => (E.rem rfl rfl (nz_ne z74))) ?_
      obtain ⟨p76, cs77, pt78, l79, at80, rel81, hall84⟩ := S64.row_atA (i := 0) rfl els44 (by decide) hx83
      obtain rfl := eI_open rel81
      refine FB.t (i := 13) (bs 15 16383) rfl (SP.on (hall73 _ _ _ 0 S64 rfl) (SP.nil S64.sl)) rfl (fun w' hw' => (E.indexAddr te139 rfl rfl pt78)) ?_
      refine FB.all1 (i := 14) (by kernel_rfl) ?_
      ·
        obtain ⟨w85, cs91, run86, S87, els90, ce92⟩ := S64.putEls (P := Tryz.prog) (t := 3) (i := 0) rfl els44 hput89 pt78 Tryz.sizeOf3 (u := Value.int .i64 ((wr (x71 + (wr (a3 * y39)))).tmod a0.p)) (c := [Value.int .i64 ((wr (x71 + (wr (a3 * y39)))).tmod a0.p)]) rfl rfl (ones_cons rfl ones_nil) rfl
        have S87 : St Ha wa H45 w85 [.row 3 1 v41 n42 cs91] := S87
        refine FC.act (l' := (bs 15 32767)) rfl (by kernel_rfl) rfl rfl (E.store rfl rfl run86) ?_
        refine ⟨(SP.o (SP.nil S87.sl)), ?_⟩
        exact FB.done (by kernel_rfl) ⟨_, _, _, _, S87, (Inc.rfl _), els90, k51, k52, k53, k54, k55, k50⟩
    ·
      rintro f101 w100 ⟨H97, v93, n94, cs95, S98, i99, els96, k102, k103, k104, k105, k106, k107⟩
      refine FW.region ?_
      refine FL.v (E.add k107 rfl) ?_
      refine FL.v (E.move (v := Value.int .i64 (wr (((i40 : Nat) : Int) + 1))) rfl) ?_
      refine FL.nil ?_
      obtain rfl := Option.some.inj hp
      exact ⟨rfl, ⟨_, _, _, _, S98, (i47.tr i99), els96, (nat_succ rfl (lt_of_get hx40) (p2.mono (((i27.tr r34.run.inc).tr i47).tr i99)).le), k102, k103, k104, k105, k106⟩⟩
  ·
    clear hp hq
    rintro s40 f119 w118 ⟨H115, v41, n42, cs43, S116, i117, els44, k120, k121, k122, k123, k124, k125⟩
    refine FW.seq (FW.region ?_)
    refine FL.v (E.lss k120 k125) ?_
    refine FL.nil (FW.seq ?_)
    refine FW.condF rfl dlt_len ?_
    refine FW.exit ?_
    exact ⟨nofun, rfl, ⟨_, _, _, _, S116, i117, els44, k123⟩⟩
  ·
    clear hq
    intro e f113 w112 hD
    rcases q40 with s40 | x40
    ·
      obtain ⟨rfl, hD⟩ := hD
      obtain ⟨H109, v41, n42, cs43, S110, i111, els44, k114⟩ := hD
      replace hp := el_go hp
      refine FW.seq (FW.region ?_)
      refine FL.v (E.move k114) ?_
      refine FL.v (E.assign (v := v41) rfl) ?_
      refine FL.nil ?_
      refine FW.ret ?_
      obtain rfl := Option.some.inj hp
      exact ⟨.inr rfl, res1 rfl rfl ⟨_, _, _, _, rfl, S110, els44⟩⟩
    · exact x40.elim

@[reducible] def p_impl_ring_literal (Ha : GH) (wa : World) (r : (List Int)) : Ending → World → Prop :=
 fun e w' => ∃ H' : GH, ∃ v0 : Value, ∃ n0 : Nat, ∃ c0 : List Value, e = .returned (v0) ∧ St Ha wa H' w' [.row 3 1 v0 n0 c0] ∧ Els (up wa.heap.size H') eI 1 c0 r
theorem w_impl_ring_literal {Ha : GH} {wa : World} (hs : Sl Ha wa) (a0 : ring) (a1 : Int) {r : (List Int)} (hp : (PF.impl_ring_literal a0 a1) = some r) :
  Calls Tryz.prog 177 #[Value.agg #[Value.int .i64 a0.p, Value.int .i64 a0.vars], Value.int .i64 a1] wa (p_impl_ring_literal Ha wa r) := by
 unfold PF.impl_ring_literal at hp
 have S0 := St.init hs
 refine calls_go (N := 25) (args := [Value.agg #[Value.int .i64 a0.p, Value.int .i64 a0.vars], Value.int .i64 a1]) Tryz.func177 rfl rfl rfl ?_
 refine FW.seq (FW.region ?_)
 obtain ⟨b21, w22, run23, S24⟩ := S0.box (P := Tryz.prog) 142 [Value.int .i64 a0.p, Value.int .i64 a0.vars] (v := Value.agg #[Value.int .i64 a0.p, Value.int .i64 a0.vars]) rfl (ones_cons rfl (ones_cons rfl ones_nil))
 refine FL.v (E.box rfl run23) ?_
 obtain ⟨H25, S26, i27, at28⟩ := S24.sealBox (i := 0) (l' := []) rfl rfl
 refine FL.v (E.assign (v := Value.slice none 0 0) rfl) ?_
 refine FL.nil (FW.seq (FW.seq (FW.region ?_)))
 refine FL.v (E.move (v := Value.int .i64 a1) rfl) ?_
 refine FL.v (E.gtr rfl rfl) ?_
 refine FL.nil ?_
 rcases ifB hp with ⟨c29, hp⟩ | ⟨c29, hp⟩
 ·
  refine FW.condT rfl c29 ?_
  refine FW.seq ?_
  obtain ⟨u34, z33, hp⟩ := bnd hp
  obtain ⟨r35, hr36, hp⟩ := bnd hp
  refine FW.drawB (Sl H25) (fun f w => ∃ H : GH, ∃ v45 : Value, ∃ n46 : Nat, ∃ cs47 : List Value, St Ha wa H w [.row 3 1 v45 n46 cs47] ∧ Inc H25 H ∧ Els (up wa.heap.size H) eI 1 cs47 r35 ∧ f 4 = v45) (by kernel_rfl) S26.sl ?_ ?_
  ·
   intro w30 r31
   have S32 := S26.call r31
   refine FB.t (i := 0) (bs 6 1) rfl (SP.nil S32.sl) rfl (fun w' hw' => (E.load rfl (run_loadA Tryz.isAgg142 Tryz.sizeOf142 (at28.now hw') rfl))) ?_
   refine FB.t (i := 1) (bs 6 3) rfl (SP.nil S32.sl) rfl (fun w' hw' => (E.move (v := Value.int .i64 a1) rfl)) ?_
   refine FB.t (i := 2) (bs 6 7) rfl (SP.nil S32.sl) rfl (fun w' hw' => (E.sub rfl rfl)) ?_
   refine FB.t (i := 3) (bs 6 15) rfl (SP.nil S32.sl) rfl (fun w' hw' => (E.shl rfl rfl (nn_ge z33))) ?_
   refine FB.all1 (i := 4) (by kernel_rfl) ?_
   ·
    refine FC.call (l' := (bs 6 31)) rfl (by kernel_rfl) rfl rfl rfl (E.call Tryz.call175 (A2 rfl rfl)) (w_impl_ring_mono S32.sl a0 (shlK true 64 1 (wr (a1 - 1))) hr36) ?_
    rintro e w38 ⟨H37, v41, n42, cs43, rfl, r40, els44⟩
    refine ⟨_, rfl, ?_⟩
    have els44 := els44.mono (up_le S32.size)
    have S39 := S32.join (l' := [.row 3 1 v41 n42 cs43]) r40 rfl
    refine ⟨(SP.nil (Sl.of_inc r40.run.inc S39.sl)), ?_⟩
    refine FB.t (i := 5) (bs 6 63) rfl (SP.nil (Sl.of_inc r40.run.inc S39.sl)) rfl (fun w' hw' => (E.assign (v := v41) rfl)) ?_
    exact FB.done (by kernel_rfl) ⟨_, _, _, _, S39, r40.run.inc, els44, rfl⟩
  ·
   rintro f53 w52 ⟨H49, v45, n46, cs47, S50, i51, els48, k54⟩
   refine FW.ret ?_
   obtain rfl := Option.some.inj hp
   exact ⟨.inr rfl, res1 rfl k54 ⟨_, _, _, _, rfl, S50, els48⟩⟩
 ·
  refine FW.condF rfl c29 ?_
  refine FW.skip (FW.seq ?_)
  obtain ⟨r58, hr59, hp⟩ := bnd hp
  obtain ⟨u69, z68, hp⟩ := bnd hp
  obtain ⟨r70, hr71, hp⟩ := bnd hp
  obtain ⟨r90, hr91, hp⟩ := bnd hp
  refine FW.drawB (Sl H25) (fun f w => ∃ H : GH, ∃ v102 : Value, ∃ n103 : Nat, ∃ cs104 : List Value, St Ha wa H w [.row 3 1 v102 n103 cs104] ∧ Inc H25 H ∧ Els (up wa.heap.size H) eI 1 cs104 r90 ∧ f 4 = v102) (by kernel_rfl) S26.sl ?_ ?_
  ·
   intro w55 r56
   have S57 := S26.call r56
   refine FB.t (i := 0) (bs 14 1) rfl (SP.nil S57.sl) rfl (fun w' hw' => (E.load rfl (run_loadA Tryz.isAgg142 Tryz.sizeOf142 (at28.now hw') rfl))) ?_
   refine FB.t (i := 1) (bs 14 3) rfl (SP.nil S57.sl) rfl (fun w' hw' => (E.load rfl (run_loadA Tryz.isAgg142 Tryz.sizeOf142 (at28.now hw') rfl))) ?_
   refine FB.t (i := 3) (bs 14 11) rfl (SP.nil S57.sl) rfl (fun w' hw' => (E.load rfl (run_loadA Tryz.isAgg142 Tryz.sizeOf142 (at28.now hw') rfl))) ?_
   refine FB.t (i := 4) (bs 14 27) rfl (SP.nil S57.sl) rfl (fun w' hw' => (E.move (v := Value.int .i64 a1) rfl)) ?_
   refine FB.t (i := 5) (bs 14 59) rfl (SP.nil S57.sl) rfl (fun w' hw' => (E.neg rfl)) ?_
   refine FB.t (i := 6) (bs 14 123) rfl (SP.nil S57.sl) rfl (fun w' hw' => (E.sub rfl rfl)) ?_
   refine FB.t (i := 7) (bs 14 251) rfl (SP.nil S57.sl) rfl (fun w' hw' => (E.shl rfl rfl (nn_ge z68))) ?_
   refine FB.t (i := 9) (bs 14 763) rfl (SP.nil S57.sl) rfl (fun w' hw' => (E.fieldAddr tf142_0 rfl)) ?_
   refine FB.t (i := 10) (bs 14 1787) rfl (SP.nil S57.sl) rfl (fun w' hw' => (E.load rfl (run_load1 Tryz.isAgg3 (at28.now hw') rfl))) ?_
   refine FB.t (i := 11) (bs 14 3835) rfl (SP.nil S57.sl) rfl (fun w' hw' => (E.sub rfl rfl)) ?_
   refine FB.all1 (i := 2) (by kernel_rfl) ?_
   ·
    refine FC.call (l' := (bs 14 3839)) rfl (by kernel_rfl) rfl rfl rfl (E.call Tryz.call175 (A2 rfl rfl)) (w_impl_ring_mono S57.sl a0 0 hr59) ?_
    rintro e w61 ⟨H60, v64, n65, cs66, rfl, r63, els67⟩
    refine ⟨_, rfl, ?_⟩
    have els67 := els67.mono (up_le S57.size)
    have S62 := S57.join (l' := [.row 3 1 v64 n65 cs66]) r63 rfl
    refine ⟨(SP.nil (Sl.of_inc r63.run.inc S62.sl)), ?_⟩
    refine FB.all1 (i := 8) (by kernel_rfl) ?_
    ·
     refine FC.call (l' := (bs 14 4095)) rfl (by kernel_rfl) rfl rfl rfl (E.call Tryz.call175 (A2 rfl rfl)) (w_impl_ring_mono S62.sl a0 (shlK true 64 1 (wr ((wr (-a1)) - 1))) hr71) ?_
     rintro e w73 ⟨H72, v76, n77, cs78, rfl, r75, els79⟩
     refine ⟨_, rfl, ?_⟩
     have els79 := els79.mono (up_le S62.size)
     have S74 := S62.join (l' := [.row 3 1 v76 n77 cs78, .row 3 1 v64 n65 cs66]) r75 rfl
     refine ⟨(SP.nil (Sl.of_inc (r63.run.inc.tr r75.run.inc) S74.sl)), ?_⟩
     refine FB.all1 (i := 12) (by kernel_rfl) ?_
     ·
      obtain ⟨H80, S81, i82, h83, nv84⟩ := S74.sealRowU (i := 1) (l' := [.row 3 1 v76 n77 cs78]) rfl (els67.mono (up_mono r75.run.inc)) (by decide) rfl
      obtain ⟨H85, S86, i87, h88, nv89⟩ := S81.sealRowU (i := 0) (l' := []) rfl (els79.mono (up_mono i82)) (by decide) rfl
      refine FC.call (l' := (bs 14 8191)) rfl (by kernel_rfl) rfl rfl rfl (E.call Tryz.call194 (A4 rfl rfl rfl rfl)) (w_impl_ring_plus S86.sl a0 v64 r58 (h83.mono (upI.tr i87)) v76 r70 (h88.mono upI) (wr (a0.p - 1)) hr91) ?_
      rintro e w93 ⟨H92, v98, n99, cs100, rfl, r95, els101⟩
      refine ⟨_, rfl, ?_⟩
      obtain ⟨H96, r95, hU97⟩ := St.lendX (i82.tr i87) S74.sl r95
      have els101 := els101.mono (hU97.tr (up_le S74.size))
      have S94 := S74.join (l' := [.row 3 1 v98 n99 cs100, .row 3 1 v76 n77 cs78, .row 3 1 v64 n65 cs66]) r95 rfl
      refine ⟨(SP.nil (Sl.of_inc ((r63.run.inc.tr r75.run.inc).tr r95.run.inc) S94.sl)), ?_⟩
      refine FB.t (i := 13) (bs 14 16383) rfl (SP.nil (Sl.of_inc ((r63.run.inc.tr r75.run.inc).tr r95.run.inc) S94.sl)) rfl (fun w' hw' => (E.assign (v := v98) rfl)) ?_
      exact FB.done (by kernel_rfl) ⟨_, _, _, _, (S94.sel [0] (by decide) rfl), ((r63.run.inc.tr r75.run.inc).tr r95.run.inc), els101, rfl⟩
  ·
   rintro f110 w109 ⟨H106, v102, n103, cs104, S107, i108, els105, k111⟩
   refine FW.ret ?_
   obtain rfl := Option.some.inj hp
   exact ⟨.inr rfl, res1 rfl k111 ⟨_, _, _, _, rfl, S107, els105⟩⟩

@[reducible] def p_impl_ring_times (Ha : GH) (wa : World) (r : (List Int)) : Ending → World → Prop :=
  fun e w' => ∃ H' : GH, ∃ v0 : Value, ∃ n0 : Nat, ∃ c0 : List Value, e = .returned (v0) ∧ St Ha wa H' w' [.row 3 1 v0 n0 c0] ∧ Els (up wa.heap.size H') eI 1 c0 r
theorem w_impl_ring_times {Ha : GH} {wa : World} (hs : Sl Ha wa) (a0 : ring) (v1 : Value) (a1 : List Int) (p1 : RSl Ha eI 1 v1 a1) (v2 : Value) (a2 : List Int) (p2 : RSl Ha eI 1 v2 a2) {r : (List Int)} (hp : (PF.impl_ring_times a0 a1 a2) = some r) :
    Calls Tryz.prog 176 #[Value.agg #[Value.int .i64 a0.p, Value.int .i64 a0.vars], v1, v2] wa (p_impl_ring_times Ha wa r) := by
  unfold PF.impl_ring_times at hp
  have S0 := St.init hs
  refine calls_go (N := 49) (args := [Value.agg #[Value.int .i64 a0.p, Value.int .i64 a0.vars], v1, v2]) Tryz.func176 rfl rfl rfl ?_
  refine FW.seq (FW.region ?_)
  obtain ⟨b21, w22, run23, S24⟩ := S0.box (P := Tryz.prog) 142 [Value.int .i64 a0.p, Value.int .i64 a0.vars] (v := Value.agg #[Value.int .i64 a0.p, Value.int .i64 a0.vars]) rfl (ones_cons rfl (ones_cons rfl ones_nil))
  refine FL.v (E.box rfl run23) ?_
  obtain ⟨H25, S26, i27, at28⟩ := S24.sealBox (i := 0) (l' := []) rfl rfl
  refine FL.v (E.assign (v := Value.slice none 0 0) rfl) ?_
  refine FL.nil (FW.seq (FW.region ?_))
  refine FL.v (E.load rfl (run_loadA Tryz.isAgg142 Tryz.sizeOf142 (at28.now S26.sl) rfl)) ?_
  obtain ⟨r29, hr30, hp⟩ := bnd hp
  refine FL.call rfl rfl rfl (E.call Tryz.call195 (A1 rfl)) (w_impl_ring_zero S26.sl a0 hr30) ?_
  rintro e w32 ⟨H31, v35, n36, cs37, rfl, r34, els38⟩
  refine ⟨_, rfl, ?_⟩
  have els38 := els38.mono (up_le S26.size)
  have S33 := S26.join (l' := [.row 3 1 v35 n36 cs37]) r34 rfl
  refine FL.v (E.assign (v := v35) rfl) ?_
  refine FL.nil (FW.seq (FW.seq (FW.region ?_)))
  refine FL.v (E.move (v := v1) rfl) ?_
  refine FL.v (E.lenP te139 rfl p1) ?_
  refine FL.v (E.move (v := Value.int .i64 0) rfl) ?_
  refine FL.nil ?_
  obtain ⟨q40, hq, hp⟩ := bndR hp
  refine FW.block ?_
  refine FW.mono (FW.forL (S := (List Int)) (X := Empty) (fun (i40 : Nat) (s40 : (List Int)) f w => ∃ H : GH, ∃ v41 : Value, ∃ n42 : Nat, ∃ cs43 : List Value, St Ha wa H w [.row 3 1 v41 n42 cs43] ∧ Inc H31 H ∧ Els (up wa.heap.size H) eI 1 cs43 s40 ∧ f 16 = Value.int .i64 ((i40 : Nat) : Int) ∧ f 2 = v2 ∧ f 3 = Value.pointer (some ⟨b21, 0, none⟩) ∧ f 7 = v41 ∧ f 14 = v1 ∧ f 15 = Value.int .i64 (len a1)) (fun (q : Rs (List Int) Empty) e f w => match q with | .go s40 => e = Exit.exit 0 ∧ (∃ H : GH, ∃ v41 : Value, ∃ n42 : Nat, ∃ cs43 : List Value, St Ha wa H w [.row 3 1 v41 n42 cs43] ∧ Inc H31 H ∧ Els (up wa.heap.size H) eI 1 cs43 s40 ∧ f 7 = v41) | .rt x => x.elim) hq ⟨_, _, _, _, S33, (Inc.rfl _), els38, rfl, rfl, rfl, rfl, rfl, rfl⟩ ?_ ?_) ?_
  ·
    clear hp hq
    rintro i40 y39 s40 f49 w48 ⟨H45, v41, n42, cs43, S46, i47, els44, k50, k51, k52, k53, k54, k55⟩ hx40 o171 hp
    refine FW.seq (FW.region ?_)
    refine FL.v (E.lssT k50 k55 (lss_len hx40)) ?_
    refine FL.nil (FW.seq ?_)
    refine FW.condT rfl rfl ?_
    refine FW.skip (FW.seq (FW.block (FW.seq (FW.region ?_))))
    refine FL.v (E.move k50) ?_
    obtain ⟨p56, cs57, pt58, l59, at60, rel61⟩ := p1.at (ix_nat hx40)
    obtain rfl := eI_open rel61
    refine FL.v (E.indexAddr te139 k54 k50 pt58) ?_
    refine FL.v (E.load rfl (run_load0 Tryz.isAgg3 ((at60.mono ((i27.tr r34.run.inc).tr i47)).now S46.sl) rfl)) ?_
    refine FL.v (E.assign (v := Value.int .i64 ((i40 : Nat) : Int)) rfl) ?_
    refine FL.v (E.assign (v := Value.int .i64 y39) rfl) ?_
    refine FL.nil (FW.seq (FW.region ?_))
    refine FL.v (E.move k51) ?_
    refine FL.v (E.lenP te139 rfl p2) ?_
    refine FL.v (E.move (v := Value.int .i64 0) rfl) ?_
    refine FL.nil ?_
    obtain ⟨q63, hq, hp⟩ := bndR hp
    refine FW.block ?_
    refine FW.mono (FW.forL (S := (List Int)) (X := Empty) (fun (i63 : Nat) (s63 : (List Int)) f w => ∃ H : GH, ∃ v64 : Value, ∃ n65 : Nat, ∃ cs66 : List Value, St Ha wa H w [.row 3 1 v64 n65 cs66] ∧ Inc H45 H ∧ Els (up wa.heap.size H) eI 1 cs66 s63 ∧ f 23 = Value.int .i64 ((i63 : Nat) : Int) ∧ f 2 = v2 ∧ f 3 = Value.pointer (some ⟨b21, 0, none⟩) ∧ f 7 = v64 ∧ f 8 = Value.int .i64 ((i40 : Nat) : Int) ∧ f 9 = Value.int .i64 y39 ∧ f 14 = v1 ∧ f 15 = Value.int .i64 (len a1) ∧ f 16 = Value.int .i64 ((i40 : Nat) : Int) ∧ f 21 = v2 ∧ f 22 = Value.int .i64 (len a2)) (fun (q : Rs (List Int) Empty) e f w => match q with | .go s63 => e = Exit.exit 2 ∧ (∃ H : GH, ∃ v64 : Value, ∃ n65 : Nat, ∃ cs66 : List Value, St Ha wa H w [.row 3 1 v64 n65 cs66] ∧ Inc H45 H ∧ Els (up wa.heap.size H) eI 1 cs66 s63 ∧ f 2 = v2 ∧ f 3 = Value.pointer (some ⟨b21, 0, none⟩) ∧ f 7 = v64 ∧ f 14 = v1 ∧ f 15 = Value.int .i64 (len a1) ∧ f 16 = Value.int .i64 ((i40 : Nat) : Int)) | .rt x => x.elim) hq ⟨_, _, _, _, S46, (Inc.rfl _), els44, rfl, k51, k52, k53, rfl, rfl, k54, k55, k50, rfl, rfl⟩ ?_ ?_) ?_
    ·
      clear hp hq
      rintro i63 y62 s63 f72 w71 ⟨H68, v64, n65, cs66, S69, i70, els67, k73, k74, k75, k76, k77, k78, k79, k80, k81, k82, k83⟩ hx63 o143 hp
      refine FW.seq (FW.region ?_)
      refine FL.v (E.lssT k73 k83 (lss_len hx63)) ?_
      refine FL.nil (FW.seq ?_)
      refine FW.condT rfl rfl ?_
      refine FW.skip (FW.seq (FW.block (FW.seq (FW.region ?_))))
      refine FL.v (E.move k73) ?_
      obtain ⟨p84, cs85, pt86, l87, at88, rel89⟩ := p2.at (ix_nat hx63)
      obtain rfl := eI_open rel89
      refine FL.v (E.indexAddr te139 k82 k73 pt86) ?_
      refine FL.v (E.load rfl (run_load0 Tryz.isAgg3 ((at88.mono (((i27.tr r34.run.inc).tr i47).tr i70)).now S69.sl) rfl)) ?_
      refine FL.v (E.assign (v := Value.int .i64 ((i63 : Nat) : Int)) rfl) ?_
      refine FL.v (E.assign (v := Value.int .i64 y62) rfl) ?_
      refine FL.nil ?_
      obtain ⟨x99, hx100, hp⟩ := bnd hp
      obtain ⟨u103, z102, hp⟩ := bnd hp
      obtain ⟨x110, hx111, hp⟩ := bnd hp
      obtain ⟨xs116, hput117, hp⟩ := bnd hp
      refine FW.drawB (Sl H68) (fun f w => ∃ H : GH, ∃ v121 : Value, ∃ n122 : Nat, ∃ cs123 : List Value, St Ha wa H w [.row 3 1 v121 n122 cs123] ∧ Inc H68 H ∧ Els (up wa.heap.size H) eI 1 cs123 xs116 ∧ f 2 = v2 ∧ f 3 = Value.pointer (some ⟨b21, 0, none⟩) ∧ f 7 = v121 ∧ f 8 = Value.int .i64 ((i40 : Nat) : Int) ∧ f 9 = Value.int .i64 y39 ∧ f 14 = v1 ∧ f 15 = Value.int .i64 (len a1) ∧ f 16 = Value.int .i64 ((i40 : Nat) : Int) ∧ f 21 = v2 ∧ f 22 = Value.int .i64 (len a2) ∧ f 23 = Value.int .i64 ((i63 : Nat) : Int)) (by kernel_rfl) S69.sl ?_ ?_
      ·
        intro w90 r91
        have S92 := S69.call r91
        refine FB.t (i := 0) (bs 19 1) rfl (SP.nil S92.sl) rfl (fun w' hw' => (E.move k76)) ?_
        refine FB.t (i := 1) (bs 19 3) rfl (SP.nil S92.sl) rfl (fun w' hw' => (E.move k77)) ?_
        refine FB.t (i := 2) (bs 19 7) rfl (SP.nil S92.sl) rfl (fun w' hw' => (E.move (v := Value.int .i64 ((i63 : Nat) : Int)) rfl)) ?_
        refine FB.t (i := 3) (bs 19 15) rfl (SP.nil S92.sl) rfl (fun w' hw' => (E.or rfl rfl)) ?_
        refine FB.t (i := 4) (bs 19 31) rfl (SP.nil S92.sl) rfl (fun w' hw' => (E.move k76)) ?_
        refine FB.t (i := 5) (bs 19 63) rfl (SP.nil S92.sl) rfl (fun w' hw' => (E.move k77)) ?_
        refine FB.t (i := 6) (bs 19 127) rfl (SP.nil S92.sl) rfl (fun w' hw' => (E.move (v := Value.int .i64 ((i63 : Nat) : Int)) rfl)) ?_
        refine FB.t (i := 7) (bs 19 255) rfl (SP.nil S92.sl) rfl (fun w' hw' => (E.or rfl rfl)) ?_
        obtain ⟨p93, cs94, pt95, l96, at97, rel98, hall101⟩ := S92.row_atA (i := 0) rfl els67 (by decide) hx100
        obtain rfl := eI_open rel98
        refine FB.t (i := 8) (bs 19 511) rfl (SP.nil S92.sl) rfl (fun w' hw' => (E.indexAddr te139 rfl rfl pt95)) ?_
        refine FB.phase [18] (fun w' => WAt w' p93 [Value.int .i64 x99]) ?_
        refine FB.p (i := 9) (bs 19 1023) 0 [13, 16, 17, 18] rfl (SP.on (hall101 _ _ _ 0 S92 rfl) (SP.nil S92.sl)) rfl rfl (fun w' hw' => (E.load rfl (run_load0 Tryz.isAgg3 hw' rfl))) ?_
        refine FB.t (i := 10) (bs 19 2047) rfl (SP.on (hall101 _ _ _ 0 S92 rfl) (SP.nil S92.sl)) rfl (fun w' hw' => (E.move k78)) ?_
        refine FB.t (i := 11) (bs 19 4095) rfl (SP.on (hall101 _ _ _ 0 S92 rfl) (SP.nil S92.sl)) rfl (fun w' hw' => (E.move (v := Value.int .i64 y62) rfl)) ?_
        refine FB.t (i := 12) (bs 19 8191) rfl (SP.on (hall101 _ _ _ 0 S92 rfl) (SP.nil S92.sl)) rfl (fun w' hw' => (E.mul rfl rfl)) ?_
        refine FB.t (i := 13) (bs 19 16383) rfl (SP.on (hall101 _ _ _ 0 S92 rfl) (SP.nil S92.sl)) rfl (fun w' hw' => (E.add rfl rfl)) ?_
        refine FB.t (i := 14) (bs 19 32767) rfl (SP.on (hall101 _ _ _ 0 S92 rfl) (SP.nil S92.sl)) rfl (fun w' hw' => (E.fieldAddr tf142_0 k75)) ?_
        refine FB.t (i := 15) (bs 19 65535) rfl (SP.on (hall101 _ _ _ 0 S92 rfl) (SP.nil S92.sl)) rfl (fun w' hw' => (E.load rfl (run_load1 Tryz.isAgg3 ((at28.mono ((r34.run.inc.tr i47).tr i70)).now hw') rfl))) ?_
        refine FB.t (i := 16) (bs 19 131071) rfl (SP.on (hall101 _ _ _ 0 S92 rfl) (SP.nil S92.sl)) rfl (fun w' hw' => (E.rem rfl rfl (nz_ne z102))) ?_
        obtain ⟨p104, cs105, pt106, l107, at108, rel109, hall112⟩ := S92.row_atA (i := 0) rfl els67 (by decide) hx111
        obtain rfl := eI_open rel109
        refine FB.t (i := 17) (bs 19 262143) rfl (SP.on (hall101 _ _ _ 0 S92 rfl) (SP.nil S92.sl)) rfl (fun w' hw' => (E.indexAddr te139 rfl rfl pt106)) ?_
        refine FB.all1 (i := 18) (by kernel_rfl) ?_
        ·
          obtain ⟨w113, cs119, run114, S115, els118, ce120⟩ := S92.putEls (P := Tryz.prog) (t := 3) (i := 0) rfl els67 hput117 pt106 Tryz.sizeOf3 (u := Value.int .i64 ((wr (x99 + (wr (y39 * y62)))).tmod a0.p)) (c := [Value.int .i64 ((wr (x99 + (wr (y39 * y62)))).tmod a0.p)]) rfl rfl (ones_cons rfl ones_nil) rfl
          have S115 : St Ha wa H68 w113 [.row 3 1 v64 n65 cs119] := S115
          refine FC.act (l' := (bs 19 524287)) rfl (by kernel_rfl) rfl rfl (E.store rfl rfl run114) ?_
          refine ⟨(SP.o (SP.nil S115.sl)), ?_⟩
          exact FB.done (by kernel_rfl) ⟨_, _, _, _, S115, (Inc.rfl _), els118, k74, k75, k76, k77, k78, k79, k80, k81, k82, k83, k73⟩
      ·
        rintro f129 w128 ⟨H125, v121, n122, cs123, S126, i127, els124, k130, k131, k132, k133, k134, k135, k136, k137, k138, k140, k141⟩
        refine FW.region ?_
        refine FL.v (E.add k141 rfl) ?_
        refine FL.v (E.move (v := Value.int .i64 (wr (((i63 : Nat) : Int) + 1))) rfl) ?_
        refine FL.nil ?_
        obtain rfl := Option.some.inj hp
        exact ⟨rfl, ⟨_, _, _, _, S126, (i70.tr i127), els124, (nat_succ rfl (lt_of_get hx63) (p2.mono ((((i27.tr r34.run.inc).tr i47).tr i70).tr i127)).le), k130, k131, k132, k133, k134, k135, k136, k137, k138, k140⟩⟩
    ·
      clear hp hq
      rintro s63 f159 w158 ⟨H155, v64, n65, cs66, S156, i157, els67, k160, k161, k162, k163, k164, k165, k166, k167, k168, k169, k170⟩
      refine FW.seq (FW.region ?_)
      refine FL.v (E.lss k160 k170) ?_
      refine FL.nil (FW.seq ?_)
      refine FW.condF rfl dlt_len ?_
      refine FW.exit ?_
      exact ⟨nofun, rfl, ⟨_, _, _, _, S156, i157, els67, k161, k162, k163, k166, k167, k168⟩⟩
    ·
      clear hq
      intro e f148 w147 hD
      rcases q63 with s63 | x63
      ·
        obtain ⟨rfl, hD⟩ := hD
        obtain ⟨H144, v64, n65, cs66, S145, i146, els67, k149, k150, k151, k152, k153, k154⟩ := hD
        replace hp := el_go hp
        refine FW.region ?_
        refine FL.v (E.add k154 rfl) ?_
        refine FL.v (E.move (v := Value.int .i64 (wr (((i40 : Nat) : Int) + 1))) rfl) ?_
        refine FL.nil ?_
        obtain rfl := Option.some.inj hp
        exact ⟨rfl, ⟨_, _, _, _, S145, (i47.tr i146), els67, (nat_succ rfl (lt_of_get hx40) (p1.mono (((i27.tr r34.run.inc).tr i47).tr i146)).le), k149, k150, k151, k152, k153⟩⟩
      · exact x63.elim
  ·
    clear hp hq
    rintro s40 f182 w181 ⟨H178, v41, n42, cs43, S179, i180, els44, k183, k184, k185, k186, k187, k188⟩
    refine FW.seq (FW.region ?_)
    refine FL.v (E.lss k183 k188) ?_
    refine FL.nil (FW.seq ?_)
    refine FW.condF rfl dlt_len ?_
    refine FW.exit ?_
    exact ⟨nofun, rfl, ⟨_, _, _, _, S179, i180, els44, k186⟩⟩
  ·
    clear hq
    intro e f176 w175 hD
    rcases q40 with s40 | x40
    ·
      obtain ⟨rfl, hD⟩ := hD
      obtain ⟨H172, v41, n42, cs43, S173, i174, els44, k177⟩ := hD
      replace hp := el_go hp
      refine FW.seq (FW.region ?_)
      refine FL.v (E.move k177) ?_
      refine FL.v (E.assign (v := v41) rfl) ?_
      refine FL.nil ?_
      refine FW.ret ?_
      obtain rfl := Option.some.inj hp
      exact ⟨.inr rfl, res1 rfl rfl ⟨_, _, _, _, rfl, S173, els44⟩⟩
    · exact x40.elim

@[reducible] def p_impl_ring_clause (Ha : GH) (wa : World) (r : (List Int)) : Ending → World → Prop :=
  fun e w' => ∃ H' : GH, ∃ v0 : Value, ∃ n0 : Nat, ∃ c0 : List Value, e = .returned (v0) ∧ St Ha wa H' w' [.row 3 1 v0 n0 c0] ∧ Els (up wa.heap.size H') eI 1 c0 r
theorem w_impl_ring_clause {Ha : GH} {wa : World} (hs : Sl Ha wa) (a0 : ring) (v1 : Value) (a1 : List Int) (p1 : RSl Ha eI 1 v1 a1) {r : (List Int)} (hp : (PF.impl_ring_clause a0 a1) = some r) :
    Calls Tryz.prog 109 #[Value.agg #[Value.int .i64 a0.p, Value.int .i64 a0.vars], v1] wa (p_impl_ring_clause Ha wa r) := by
  unfold PF.impl_ring_clause at hp
  have S0 := St.init hs
  refine calls_go (N := 25) (args := [Value.agg #[Value.int .i64 a0.p, Value.int .i64 a0.vars], v1]) Tryz.func109 rfl rfl rfl ?_
  refine FW.seq (FW.region ?_)
  obtain ⟨b21, w22, run23, S24⟩ := S0.box (P := Tryz.prog) 142 [Value.int .i64 a0.p, Value.int .i64 a0.vars] (v := Value.agg #[Value.int .i64 a0.p, Value.int .i64 a0.vars]) rfl (ones_cons rfl (ones_cons rfl ones_nil))
  refine FL.v (E.box rfl run23) ?_
  obtain ⟨H25, S26, i27, at28⟩ := S24.sealBox (i := 0) (l' := []) rfl rfl
  refine FL.v (E.assign (v := Value.slice none 0 0) rfl) ?_
  refine FL.nil (FW.seq (FW.region ?_))
  refine FL.v (E.load rfl (run_loadA Tryz.isAgg142 Tryz.sizeOf142 (at28.now S26.sl) rfl)) ?_
  obtain ⟨r29, hr30, hp⟩ := bnd hp
  refine FL.call rfl rfl rfl (E.call Tryz.call175 (A2 rfl rfl)) (w_impl_ring_mono S26.sl a0 0 hr30) ?_
  rintro e w32 ⟨H31, v35, n36, cs37, rfl, r34, els38⟩
  refine ⟨_, rfl, ?_⟩
  have els38 := els38.mono (up_le S26.size)
  have S33 := S26.join (l' := [.row 3 1 v35 n36 cs37]) r34 rfl
  refine FL.v (E.assign (v := v35) rfl) ?_
  refine FL.nil (FW.seq (FW.seq (FW.region ?_)))
  refine FL.v (E.move (v := v1) rfl) ?_
  refine FL.v (E.lenP te39 rfl p1) ?_
  refine FL.v (E.move (v := Value.int .i64 0) rfl) ?_
  refine FL.nil ?_
  obtain ⟨q40, hq, hp⟩ := bndR hp
  refine FW.block ?_
  refine FW.mono (FW.forL (S := (List Int)) (X := Empty) (fun (i40 : Nat) (s40 : (List Int)) f w => ∃ H : GH, ∃ v41 : Value, ∃ n42 : Nat, ∃ cs43 : List Value, St Ha wa H w [.row 3 1 v41 n42 cs43] ∧ Inc H31 H ∧ Els (up wa.heap.size H) eI 1 cs43 s40 ∧ f 12 = Value.int .i64 ((i40 : Nat) : Int) ∧ f 2 = Value.pointer (some ⟨b21, 0, none⟩) ∧ f 5 = v41 ∧ f 10 = v1 ∧ f 11 = Value.int .i64 (len a1)) (fun (q : Rs (List Int) Empty) e f w => match q with | .go s40 => e = Exit.exit 0 ∧ (∃ H : GH, ∃ v41 : Value, ∃ n42 : Nat, ∃ cs43 : List Value, St Ha wa H w [.row 3 1 v41 n42 cs43] ∧ Inc H31 H ∧ Els (up wa.heap.size H) eI 1 cs43 s40 ∧ f 5 = v41) | .rt x => x.elim) hq ⟨_, _, _, _, S33, (Inc.rfl _), els38, rfl, rfl, rfl, rfl, rfl⟩ ?_ ?_) ?_
  ·
    clear hp hq
    rintro i40 y39 s40 f49 w48 ⟨H45, v41, n42, cs43, S46, i47, els44, k50, k51, k52, k53, k54⟩ hx40 o110 hp
    refine FW.seq (FW.region ?_)
    refine FL.v (E.lssT k50 k54 (lss_len hx40)) ?_
    refine FL.nil (FW.seq ?_)
    refine FW.condT rfl rfl ?_
    refine FW.skip (FW.seq (FW.block (FW.seq (FW.region ?_))))
    obtain ⟨p55, cs56, pt57, l58, at59, rel60⟩ := p1.at (ix_nat hx40)
    obtain rfl := eI_open rel60
    refine FL.v (E.indexAddr te39 k53 k50 pt57) ?_
    refine FL.v (E.load rfl (run_load0 Tryz.isAgg3 ((at59.mono ((i27.tr r34.run.inc).tr i47)).now S46.sl) rfl)) ?_
    refine FL.v (E.assign (v := Value.int .i64 y39) rfl) ?_
    refine FL.nil ?_
    obtain ⟨r64, hr65, hp⟩ := bnd hp
    obtain ⟨r84, hr85, hp⟩ := bnd hp
    refine FW.drawB (Sl H45) (fun f w => ∃ H : GH, ∃ v96 : Value, ∃ n97 : Nat, ∃ cs98 : List Value, St Ha wa H w [.row 3 1 v96 n97 cs98] ∧ Inc H45 H ∧ Els (up wa.heap.size H) eI 1 cs98 r84 ∧ f 2 = Value.pointer (some ⟨b21, 0, none⟩) ∧ f 5 = v96 ∧ f 10 = v1 ∧ f 11 = Value.int .i64 (len a1) ∧ f 12 = Value.int .i64 ((i40 : Nat) : Int)) (by kernel_rfl) S46.sl ?_ ?_
    ·
      intro w61 r62
      have S63 := S46.call r62
      refine FB.t (i := 0) (bs 8 1) rfl (SP.nil S63.sl) rfl (fun w' hw' => (E.load k51 (run_loadA Tryz.isAgg142 Tryz.sizeOf142 ((at28.mono (r34.run.inc.tr i47)).now hw') rfl))) ?_
      refine FB.t (i := 1) (bs 8 3) rfl (SP.nil S63.sl) rfl (fun w' hw' => (E.move k52)) ?_
      refine FB.t (i := 2) (bs 8 7) rfl (SP.nil S63.sl) rfl (fun w' hw' => (E.load k51 (run_loadA Tryz.isAgg142 Tryz.sizeOf142 ((at28.mono (r34.run.inc.tr i47)).now hw') rfl))) ?_
      refine FB.t (i := 3) (bs 8 15) rfl (SP.nil S63.sl) rfl (fun w' hw' => (E.move (v := Value.int .i64 y39) rfl)) ?_
      refine FB.t (i := 4) (bs 8 31) rfl (SP.nil S63.sl) rfl (fun w' hw' => (E.neg rfl)) ?_
      refine FB.all1 (i := 5) (by kernel_rfl) ?_
      ·
        refine FC.call (l' := (bs 8 63)) rfl (by kernel_rfl) rfl rfl rfl (E.call Tryz.call177 (A2 rfl rfl)) (w_impl_ring_literal S63.sl a0 (wr (-y39)) hr65) ?_
        rintro e w67 ⟨H66, v70, n71, cs72, rfl, r69, els73⟩
        refine ⟨_, rfl, ?_⟩
        have els73 := els73.mono (up_le S63.size)
        have S68 := S63.join (l' := [.row 3 1 v70 n71 cs72, .row 3 1 v41 n42 cs43]) r69 rfl
        refine ⟨(SP.nil (Sl.of_inc r69.run.inc S68.sl)), ?_⟩
        refine FB.all1 (i := 6) (by kernel_rfl) ?_
        ·
          obtain ⟨H74, S75, i76, h77, nv78⟩ := S68.sealRowU (i := 1) (l' := [.row 3 1 v70 n71 cs72]) rfl (els44.mono (up_mono r69.run.inc)) (by decide) rfl
          obtain ⟨H79, S80, i81, h82, nv83⟩ := S75.sealRowU (i := 0) (l' := []) rfl (els73.mono (up_mono i76)) (by decide) rfl
          refine FC.call (l' := (bs 8 127)) rfl (by kernel_rfl) rfl rfl rfl (E.call Tryz.call176 (A3 rfl rfl rfl)) (w_impl_ring_times S80.sl a0 v41 s40 (h77.mono (upI.tr i81)) v70 r64 (h82.mono upI) hr85) ?_
          rintro e w87 ⟨H86, v92, n93, cs94, rfl, r89, els95⟩
          refine ⟨_, rfl, ?_⟩
          obtain ⟨H90, r89, hU91⟩ := St.lendX (i76.tr i81) S68.sl r89
          have els95 := els95.mono (hU91.tr (up_le S68.size))
          have S88 := S68.join (l' := [.row 3 1 v92 n93 cs94, .row 3 1 v70 n71 cs72, .row 3 1 v41 n42 cs43]) r89 rfl
          refine ⟨(SP.nil (Sl.of_inc (r69.run.inc.tr r89.run.inc) S88.sl)), ?_⟩
          refine FB.t (i := 7) (bs 8 255) rfl (SP.nil (Sl.of_inc (r69.run.inc.tr r89.run.inc) S88.sl)) rfl (fun w' hw' => (E.assign (v := v92) rfl)) ?_
          exact FB.done (by kernel_rfl) ⟨_, _, _, _, (S88.sel [0] (by decide) rfl), (r69.run.inc.tr r89.run.inc), els95, k51, rfl, k53, k54, k50⟩
    ·
      rintro f104 w103 ⟨H100, v96, n97, cs98, S101, i102, els99, k105, k106, k107, k108, k109⟩
      refine FW.region ?_
      refine FL.v (E.add k109 rfl) ?_
      refine FL.v (E.move (v := Value.int .i64 (wr (((i40 : Nat) : Int) + 1))) rfl) ?_
      refine FL.nil ?_
      obtain rfl := Option.some.inj hp
      exact ⟨rfl, ⟨_, _, _, _, S101, (i47.tr i102), els99, (nat_succ rfl (lt_of_get hx40) (p1.mono (((i27.tr r34.run.inc).tr i47).tr i102)).le), k105, k106, k107, k108⟩⟩
  ·
    clear hp hq
    rintro s40 f121 w120 ⟨H117, v41, n42, cs43, S118, i119, els44, k122, k123, k124, k125, k126⟩
    refine FW.seq (FW.region ?_)
    refine FL.v (E.lss k122 k126) ?_
    refine FL.nil (FW.seq ?_)
    refine FW.condF rfl dlt_len ?_
    refine FW.exit ?_
    exact ⟨nofun, rfl, ⟨_, _, _, _, S118, i119, els44, k124⟩⟩
  ·
    clear hq
    intro e f115 w114 hD
    rcases q40 with s40 | x40
    ·
      obtain ⟨rfl, hD⟩ := hD
      obtain ⟨H111, v41, n42, cs43, S112, i113, els44, k116⟩ := hD
      replace hp := el_go hp
      refine FW.seq (FW.region ?_)
      refine FL.v (E.move k116) ?_
      refine FL.v (E.assign (v := v41) rfl) ?_
      refine FL.nil ?_
      refine FW.ret ?_
      obtain rfl := Option.some.inj hp
      exact ⟨.inr rfl, res1 rfl rfl ⟨_, _, _, _, rfl, S112, els44⟩⟩
    · exact x40.elim

end Go.Proofs
