/- Part of the walks and plain laws behind the claim: it proves helpers, under no condition beyond their own. -/
import Derived.Test.YtcdphhfmkkdpfaaGreatWk1
set_option linter.unusedVariables false
set_option maxRecDepth 100000
namespace Go.Proofs
open Go.Mr Go.Pu Go.PF Go.RowKit

@[reducible] def p_spec_l7Drop (Ha : GH) (wa : World) (r : (List ResStep)) : Ending → World → Prop :=
  fun e w' => ∃ H' : GH, ∃ v0 : Value, e = .returned (v0) ∧ Run wa.heap.size Ha wa H' w' ∧ RSl H' eResStep 4 v0 r
set_option maxHeartbeats 4000000 in
theorem w_spec_l7Drop {Ha : GH} {wa : World} (hs : Sl Ha wa) (v0 : Value) (a0 : List ResStep) (p0 : RSl Ha eResStep 4 v0 a0) {r : (List ResStep)} (hp : (PF.spec_l7Drop a0) = some r) :
    Calls Tryz.prog 71 #[v0] wa (p_spec_l7Drop Ha wa r) := by
  unfold PF.spec_l7Drop at hp
  have S0 := St.init hs
  refine calls_go (N := 61) (args := [v0]) Tryz.func71 rfl rfl rfl ?_
  refine FW.seq ?_
  refine FW.region ?_
  refine FL.val rfl rfl rfl (E.assign (v := Value.slice none 0 0) rfl) ?_
  refine FL.nil ?_
  refine FW.seq ?_
  refine FW.region ?_
  obtain ⟨v21, w22, run23, S24⟩ := S0.buildSlice (P := Tryz.prog) te28 [] (parts := #[]) (cells := []) rfl szs_nil fc_nil ones_nil (Nat.le_of_ble_eq_true rfl)
  have els25 : Els (up wa.heap.size Ha) eResStep 4 [] [] := Els.nil
  refine FL.val rfl rfl rfl (E.buildSlice (B0) run23) ?_
  obtain ⟨v26, w27, run28, S29⟩ := S24.buildSlice (P := Tryz.prog) te39 [] (parts := #[]) (cells := []) rfl szs_nil fc_nil ones_nil (Nat.le_of_ble_eq_true rfl)
  have els30 : Els (up wa.heap.size Ha) eI 1 [] [] := Els.nil
  refine FL.val rfl rfl rfl (E.buildSlice (B0) run28) ?_
  refine FL.val rfl rfl rfl (E.build (B2 rfl rfl) (run_build _ 170 #[(0, v21), (1, v26)] #[v21, v26] (by obtain ⟨_, _, rfl⟩ := S29.row_ln (i := 1) rfl; obtain ⟨_, _, rfl⟩ := S29.row_ln (i := 0) rfl; rfl))) ?_
  obtain ⟨b31, w32, run33, S34⟩ := S29.alloc (P := Tryz.prog) 170 [Value.slice none 0 0, Value.slice none 0 0] Tryz.zeroValue170 rfl (ones_cons rfl (ones_cons rfl ones_nil))
  refine FL.val rfl rfl rfl (E.alloc run33) ?_
  obtain ⟨w35, run36, S37⟩ := S34.store0 (P := Tryz.prog) (t := 170) (i := 0) (cs' := [v21, v26]) (l' := [.box b31 170 [v21, v26], .row 3 1 v26 0 [], .row 89 4 v21 0 []]) (v := Value.agg #[v21, v26]) (c := [v21, v26]) rfl Tryz.sizeOf170 rfl rfl (ones_cons (Ln.one (S34.row_ln (i := 2) rfl)) (ones_cons (Ln.one (S34.row_ln (i := 1) rfl)) ones_nil)) (Nat.le_of_ble_eq_true rfl) rfl rfl
  refine FL.act rfl rfl (E.store rfl rfl run36) ?_
  refine FL.nil ?_
  refine FW.seq ?_
  refine FW.seq ?_
  refine FW.region ?_
  refine FL.val rfl rfl rfl (E.assign (v := Value.int .i64 0) rfl) ?_
  refine FL.nil ?_
  obtain ⟨q39, hq, hp⟩ := bndR hp
  refine FW.block ?_
  refine FW.mono (FW.forL (S := ((List Int) × (List ResStep))) (X := Empty) (fun (i39 : Nat) (s39 : ((List Int) × (List ResStep))) f w => ∃ H : GH, ∃ v123115 : Value, ∃ n123116 : Nat, ∃ cs123117 : List Value, ∃ v123119 : Value, ∃ n123120 : Nat, ∃ cs123121 : List Value, St Ha wa H w [.box b31 170 [v123119, v123115], .row 3 1 v123115 n123116 cs123117, .row 89 4 v123119 n123120 cs123121] ∧ Inc Ha H ∧ Els (up wa.heap.size H) eI 1 cs123117 s39.1 ∧ Els (up wa.heap.size H) eResStep 4 cs123121 s39.2 ∧ (bl cs123121).Nodup ∧ f 4 = Value.int .i64 ((i39 : Nat) : Int) ∧ f 0 = v0 ∧ f 3 = Value.pointer (some (⟨b31, 0, none⟩ : Addr))) (fun (q : Rs ((List Int) × (List ResStep)) Empty) e f w => match q with | .go s39 => e = Exit.exit 0 ∧ (∃ H : GH, ∃ v123115 : Value, ∃ n123116 : Nat, ∃ cs123117 : List Value, ∃ v123119 : Value, ∃ n123120 : Nat, ∃ cs123121 : List Value, St Ha wa H w [.box b31 170 [v123119, v123115], .row 3 1 v123115 n123116 cs123117, .row 89 4 v123119 n123120 cs123121] ∧ Inc Ha H ∧ Els (up wa.heap.size H) eI 1 cs123117 s39.1 ∧ Els (up wa.heap.size H) eResStep 4 cs123121 s39.2 ∧ (bl cs123121).Nodup ∧ f 3 = Value.pointer (some (⟨b31, 0, none⟩ : Addr))) | .rt x => x.elim) hq ⟨_, _, _, _, _, _, _, S37, (Inc.rfl _), els30, els25, (show (bl []).Nodup from List.nodup_nil), rfl, rfl, rfl⟩ ?_ ?_) ?_
  ·
    clear hp hq
    rintro i39 y38 s39 f246203 w246202 ⟨H246199, v123115, n123116, cs123117, v123119, n123120, cs123121, S246200, i246201, els123118, els123122, nd123123, k246204, k246205, k246206⟩ hx39 o369277 hp
    refine FW.seq ?_
    refine FW.seq ?_
    refine FW.region ?_
    refine FL.val rfl rfl rfl (E.move k246204) ?_
    refine FL.val rfl rfl rfl (E.move k246205) ?_
    refine FL.val rfl rfl rfl (E.lenP te28 rfl p0) ?_
    refine FL.val rfl rfl rfl (E.lssT rfl rfl (lss_len hx39)) ?_
    refine FL.nil ?_
    refine FW.condT rfl rfl ?_
    refine FW.skip ?_
    refine FW.seq ?_
    refine FW.block ?_
    refine FW.seq ?_
    refine FW.region ?_
    refine FL.val rfl rfl rfl (E.move k246205) ?_
    refine FL.val rfl rfl rfl (E.move k246204) ?_
    obtain ⟨p246207, cs246208, pt246209, l246210, at246211, rel246212⟩ := p0.at (ix_nat hx39)
    obtain ⟨v246213, rfl, h246214⟩ := eResStep_open rel246212
    refine FL.val rfl rfl rfl (E.indexAddr te28 rfl rfl pt246209) ?_
    refine FL.val rfl rfl rfl (E.load rfl (run_loadA Tryz.isAgg89 Tryz.sizeOf89 ((at246211.mono i246201).now S246200.sl) rfl)) ?_
    obtain ⟨b246215, w246216, run246217, S246218⟩ := S246200.alloc (P := Tryz.prog) 89 [Value.slice none 0 0, Value.int .i64 0, Value.int .i64 0, Value.int .i64 0] Tryz.zeroValue89 rfl (ones_cons rfl (ones_cons rfl (ones_cons rfl (ones_cons rfl ones_nil))))
    refine FL.val rfl rfl rfl (E.alloc run246217) ?_
    obtain ⟨w246219, run246220, S246221⟩ := S246218.store0 (P := Tryz.prog) (t := 89) (i := 0) (cs' := [v246213, Value.int .i64 y38.left, Value.int .i64 y38.right, Value.int .i64 y38.pivot]) (l' := [.box b246215 89 [v246213, Value.int .i64 y38.left, Value.int .i64 y38.right, Value.int .i64 y38.pivot], .box b31 170 [v123119, v123115], .row 3 1 v123115 n123116 cs123117, .row 89 4 v123119 n123120 cs123121]) (v := Value.agg #[v246213, Value.int .i64 y38.left, Value.int .i64 y38.right, Value.int .i64 y38.pivot]) (c := [v246213, Value.int .i64 y38.left, Value.int .i64 y38.right, Value.int .i64 y38.pivot]) rfl Tryz.sizeOf89 rfl rfl (ones_cons h246214.one (ones_cons rfl (ones_cons rfl (ones_cons rfl ones_nil)))) (Nat.le_of_ble_eq_true rfl) rfl rfl
    refine FL.act rfl rfl (E.store rfl rfl run246220) ?_
    obtain ⟨H246222, S246223, i246224, at246225⟩ := S246221.sealBox (i := 0) (l' := [.box b31 170 [v123119, v123115], .row 3 1 v123115 n123116 cs123117, .row 89 4 v123119 n123120 cs123121]) rfl rfl
    refine FL.nil ?_
    refine FW.block ?_
    refine FW.seq ?_
    refine FW.region ?_
    refine FL.val rfl rfl rfl (E.fieldAddr tf89_1 rfl) ?_
    refine FL.val rfl rfl rfl (E.load rfl (run_load1 Tryz.isAgg3 (at246225.now S246223.sl) rfl)) ?_
    refine FL.val rfl rfl rfl (E.eql rfl rfl) ?_
    refine FL.val rfl rfl rfl (E.assign (v := Value.bool (y38.left == (-1))) rfl) ?_
    refine FL.nil ?_
    rcases ifB hp with ⟨c246226, hp⟩ | ⟨c246226, hp⟩
    ·
      refine FW.condT rfl c246226 ?_
      obtain ⟨r258232, hr258233, hp⟩ := bnd hp
      obtain ⟨s261286, hq261286, hp⟩ := bnd hp
      refine FW.drawB (Sl H246222) (fun f w => ∃ H : GH, ∃ v270227 : Value, ∃ n270228 : Nat, ∃ cs270229 : List Value, ∃ v270231 : Value, ∃ n270232 : Nat, ∃ cs270233 : List Value, St Ha wa H w [.box b31 170 [v270231, v270227], .row 3 1 v270227 n270228 cs270229, .row 89 4 v270231 n270232 cs270233] ∧ Inc H246222 H ∧ Els (up wa.heap.size H) eI 1 cs270229 s261286.1 ∧ Els (up wa.heap.size H) eResStep 4 cs270233 s261286.2 ∧ (bl cs270233).Nodup ∧ f 0 = v0 ∧ f 3 = Value.pointer (some (⟨b31, 0, none⟩ : Addr)) ∧ f 4 = Value.int .i64 ((i39 : Nat) : Int)) (by kernel_rfl) S246223.sl ?_ ?_
      ·
        intro w246227 r246228
        have S246229 := S246223.call r246228
        refine FB.phase [5] (fun w => WAt w (⟨b31, 0, none⟩ : Addr) [v123119, v123115]) ?_
        refine FB.takeP (i := 0) (l' := #[true, false, false, false, false, false]) 0 [4, 5] rfl rfl (by kernel_rfl) (by kernel_rfl) (by kernel_rfl) (by kernel_rfl) (by kernel_rfl) (by kernel_rfl) (SP.on (S246229.box_now (i := 0) rfl) (SP.nil S246229.sl)) rfl rfl rfl (fun w' hw' => (E.load k246206 (run_loadA Tryz.isAgg170 Tryz.sizeOf170 hw' rfl))) ?_
        refine FB.take (i := 1) (l' := #[true, true, false, false, false, false]) rfl (by kernel_rfl) (by kernel_rfl) (by kernel_rfl) (by kernel_rfl) (by kernel_rfl) (SP.on (S246229.box_now (i := 0) rfl) (SP.nil S246229.sl)) rfl rfl rfl (fun w' hw' => (E.load rfl (run_loadA Tryz.isAgg89 Tryz.sizeOf89 (at246225.now hw') rfl))) ?_
        refine FB.all1 (i := 2) (by kernel_rfl) ?_
        ·
          obtain ⟨v255227, w255228, run255229, S255230⟩ := S246229.buildSlice (P := Tryz.prog) te39 [] (parts := #[]) (cells := []) rfl szs_nil fc_nil ones_nil (Nat.le_of_ble_eq_true rfl)
          have els255231 : Els (up wa.heap.size H246222) eI 1 [] [] := Els.nil
          refine FC.val (l' := #[true, true, true, false, false, false]) rfl (by kernel_rfl) rfl rfl rfl (E.buildSlice (B0) run255229) ?_
          refine ⟨(SP.on (S255230.box_now (i := 1) rfl) (SP.nil S255230.sl)), ?_⟩
          refine FB.all1 (i := 3) (by kernel_rfl) ?_
          ·
            obtain ⟨H258227, S258228, i258229, h258230, nv258231⟩ := S255230.sealRowU (i := 0) (l' := [.box b31 170 [v123119, v123115], .row 3 1 v123115 n123116 cs123117, .row 89 4 v123119 n123120 cs123121]) rfl els255231 (by decide) rfl
            refine FC.call (l' := #[true, true, true, true, false, false]) rfl (by kernel_rfl) rfl rfl rfl (E.call Tryz.call131 (A2 rfl rfl)) (w_spec_l7Moved S258228.sl y38 v246213 (h246214.mono ((i246201.tr i246224).tr i258229)) v255227 [] (h258230.mono upI) hr258233) ?_
            rintro e w258235 ⟨H258234, v258240, rfl, r258237, h258241⟩
            refine ⟨_, rfl, ?_⟩
            obtain ⟨H258238, r258237, hU258239⟩ := Run.lendX i258229 S255230.sl r258237
            have nv258242 : New H246222 [v258240] := New.of_up S255230.sl h258241.dom
            have h258241 := h258241.mono (hU258239.tr (up_le S255230.size))
            have S258236 := S255230.call r258237
            refine ⟨(SP.on (S258236.box_now (i := 1) rfl) (SP.nil (Sl.of_inc r258237.inc S258236.sl))), ?_⟩
            refine FB.all1 (i := 4) (by kernel_rfl) ?_
            ·
              obtain ⟨R261286, hR261286⟩ : ∃ R261286 : ((List Int) × (List ResStep)) → Ending → World → Prop, R261286 = (fun s261286 e w => ∃ H : GH, ∃ v261287 : Value, ∃ n261288 : Nat, ∃ cs261289 : List Value, ∃ v261291 : Value, ∃ n261292 : Nat, ∃ cs261293 : List Value, e = Ending.returned (Value.agg #[v261291, v261287]) ∧ St Ha wa H w [.row 3 1 v255227 0 [], .box b31 170 [v123119, v123115], .row 3 1 v261287 n261288 cs261289, .row 89 4 v261291 n261292 cs261293] ∧ Inc H258238 H ∧ Els (up wa.heap.size H) eI 1 cs261289 s261286.1 ∧ Els (up wa.heap.size H) eResStep 4 cs261293 s261286.2 ∧ (bl cs261293).Nodup) := ⟨_, rfl⟩
              have hc261286 : Calls Tryz.prog 130 #[Value.agg #[v123119, v123115], Value.agg #[v258240, Value.int .i64 r258232.left, Value.int .i64 r258232.right, Value.int .i64 r258232.pivot]] w258235 (R261286 s261286) := by
                clear hp; have hp := hq261286; clear hq261286
                refine calls_go (N := 20) (args := [Value.agg #[v123119, v123115], Value.agg #[v258240, Value.int .i64 r258232.left, Value.int .i64 r258232.right, Value.int .i64 r258232.pivot]]) Tryz.func130 rfl rfl rfl ?_
                refine FW.seq ?_
                refine FW.region ?_
                obtain ⟨b261296, w261297, run261298, S261299⟩ := S258236.box (P := Tryz.prog) 170 [v123119, v123115] (v := Value.agg #[v123119, v123115]) rfl (ones_cons (Ln.one (S258236.row_ln (i := 3) rfl)) (ones_cons (Ln.one (S258236.row_ln (i := 2) rfl)) ones_nil))
                refine FL.val rfl rfl rfl (E.box rfl run261298) ?_
                obtain ⟨b261300, w261301, run261302, S261303⟩ := S261299.box (P := Tryz.prog) 89 [v258240, Value.int .i64 r258232.left, Value.int .i64 r258232.right, Value.int .i64 r258232.pivot] (v := Value.agg #[v258240, Value.int .i64 r258232.left, Value.int .i64 r258232.right, Value.int .i64 r258232.pivot]) rfl (ones_cons h258241.one (ones_cons rfl (ones_cons rfl (ones_cons rfl ones_nil))))
                refine FL.val rfl rfl rfl (E.box rfl run261302) ?_
                obtain ⟨H261304, S261305, i261306, at261307⟩ := S261303.sealBox (i := 0) (l' := [.box b261296 170 [v123119, v123115], .row 3 1 v255227 0 [], .box b31 170 [v123119, v123115], .row 3 1 v123115 n123116 cs123117, .row 89 4 v123119 n123120 cs123121]) rfl rfl
                obtain ⟨b261308, w261309, run261310, S261311⟩ := S261305.alloc (P := Tryz.prog) 170 [Value.slice none 0 0, Value.slice none 0 0] Tryz.zeroValue170 rfl (ones_cons rfl (ones_cons rfl ones_nil))
                refine FL.val rfl rfl rfl (E.alloc run261310) ?_
                refine FL.nil ?_
                refine FW.seq ?_
                refine FW.region ?_
                refine FL.val rfl rfl rfl (E.fieldAddr tf170_1 rfl) ?_
                refine FL.val rfl rfl rfl (E.load rfl (run_load1 Tryz.isAgg39 (S261311.box_now (i := 1) rfl) rfl)) ?_
                refine FL.val rfl rfl rfl (E.fieldAddr tf170_0 rfl) ?_
                refine FL.val rfl rfl rfl (E.load rfl (run_load1 Tryz.isAgg28 (S261311.box_now (i := 1) rfl) rfl)) ?_
                refine FL.val rfl rfl rfl (E.lenO te28 rfl S261311 (i := 5) rfl els123122 (by decide)) ?_
                obtain ⟨v261312, w261313, run261314, S261315⟩ := S261311.buildSlice (P := Tryz.prog) te39 [Value.int .i64 (len s39.2)] (parts := #[(0, Value.int .i64 (len s39.2))]) (cells := [Value.int .i64 (len s39.2)]) rfl (szs_cons rfl szs_nil) (fc_cons rfl fc_nil) (ones_cons rfl ones_nil) (Nat.le_of_ble_eq_true rfl)
                have els261316 : Els (up wa.heap.size H261304) eI 1 [Value.int .i64 (len s39.2)] [(len s39.2)] := (Els.snoc (H := (up wa.heap.size H261304)) (E := eI) (k := 1) (c := [Value.int .i64 (len s39.2)]) (x := (len s39.2)) Els.nil rfl rfl)
                refine FL.val rfl rfl rfl (E.buildSlice (B1 rfl) run261314) ?_
                obtain ⟨xs261317, hz261318, hp⟩ := bnd hp
                obtain ⟨v261319, w261322, n261320, cs261321, run261323, S261324, els261325, ce261326⟩ := S261315.appendO (P := Tryz.prog) te39 (i := 5) (j := 0) rfl (els123118.mono (up_mono ((i246224.tr r258237.inc).tr i261306))) rfl els261316 hz261318
                have S261324 : St Ha wa H261304 w261322 [.row 3 1 v261312 1 [Value.int .i64 (len s39.2)], .box b261308 170 [Value.slice none 0 0, Value.slice none 0 0], .box b261296 170 [v123119, v123115], .row 3 1 v255227 0 [], .box b31 170 [v123119, v123115], .row 3 1 v261319 n261320 cs261321, .row 89 4 v123119 n123120 cs123121] := S261324
                have S261327 : St Ha wa H261304 w261322 [.box b261308 170 [Value.slice none 0 0, Value.slice none 0 0], .box b261296 170 [v123119, v123115], .row 3 1 v255227 0 [], .box b31 170 [v123119, v123115], .row 3 1 v261319 n261320 cs261321, .row 89 4 v123119 n123120 cs123121] := S261324.drop 0
                refine FL.val rfl rfl rfl (E.append rfl rfl run261323) ?_
                refine FL.val rfl rfl rfl (E.fieldAddr tf170_1 rfl) ?_
                obtain ⟨w261328, run261329, S261330⟩ := S261327.store (P := Tryz.prog) (t := 39) (i := 1) (j := 1) (cs' := [v123119, v261319]) (l' := [.box b261308 170 [Value.slice none 0 0, Value.slice none 0 0], .box b261296 170 [v123119, v261319], .row 3 1 v255227 0 [], .box b31 170 [v123119, v123115], .row 3 1 v261319 n261320 cs261321, .row 89 4 v123119 n123120 cs123121]) (v := v261319) (c := [v261319]) rfl Tryz.sizeOf39 (Ln.cells (S261327.row_ln (i := 4) rfl)) rfl (ones_cons (Ln.one (S261327.row_ln (i := 4) rfl)) ones_nil) (Nat.le_of_ble_eq_true rfl) rfl rfl
                refine FL.act rfl rfl (E.store rfl rfl run261329) ?_
                refine FL.nil ?_
                refine FW.seq ?_
                refine FW.region ?_
                refine FL.val rfl rfl rfl (E.fieldAddr tf170_0 rfl) ?_
                refine FL.val rfl rfl rfl (E.load rfl (run_load1 Tryz.isAgg28 (S261330.box_now (i := 1) rfl) rfl)) ?_
                refine FL.val rfl rfl rfl (E.load rfl (run_loadA Tryz.isAgg89 Tryz.sizeOf89 (at261307.now S261330.sl) rfl)) ?_
                obtain ⟨v261331, w261332, run261333, S261334⟩ := S261330.buildSlice (P := Tryz.prog) te28 [Value.agg #[v258240, Value.int .i64 r258232.left, Value.int .i64 r258232.right, Value.int .i64 r258232.pivot]] (parts := #[(0, Value.agg #[v258240, Value.int .i64 r258232.left, Value.int .i64 r258232.right, Value.int .i64 r258232.pivot])]) (cells := [v258240, Value.int .i64 r258232.left, Value.int .i64 r258232.right, Value.int .i64 r258232.pivot]) rfl (szs_cons rfl szs_nil) (fc_cons rfl fc_nil) (ones_cons h258241.one (ones_cons rfl (ones_cons rfl (ones_cons rfl ones_nil)))) (Nat.le_of_ble_eq_true rfl)
                have els261335 : Els (up wa.heap.size H261304) eResStep 4 [v258240, Value.int .i64 r258232.left, Value.int .i64 r258232.right, Value.int .i64 r258232.pivot] [r258232] := (Els.snoc (H := (up wa.heap.size H261304)) (E := eResStep) (k := 4) (c := [v258240, Value.int .i64 r258232.left, Value.int .i64 r258232.right, Value.int .i64 r258232.pivot]) (x := r258232) Els.nil rfl ⟨_, rfl, (h258241.mono (up_mono i261306))⟩)
                have nd261336 : (bl [v258240, Value.int .i64 r258232.left, Value.int .i64 r258232.right, Value.int .i64 r258232.pivot]).Nodup := by exact nd_one v258240
                refine FL.val rfl rfl rfl (E.buildSlice (B1 rfl) run261333) ?_
                obtain ⟨xs261337, hz261338, hp⟩ := bnd hp
                obtain ⟨v261339, w261342, n261340, cs261341, run261343, S261344, els261345, ce261346⟩ := S261334.appendO (P := Tryz.prog) te28 (i := 6) (j := 0) rfl (els123122.mono (up_mono ((i246224.tr r258237.inc).tr i261306))) rfl els261335 hz261338
                have S261344 : St Ha wa H261304 w261342 [.row 89 4 v261331 1 [v258240, Value.int .i64 r258232.left, Value.int .i64 r258232.right, Value.int .i64 r258232.pivot], .box b261308 170 [Value.slice none 0 0, Value.slice none 0 0], .box b261296 170 [v123119, v261319], .row 3 1 v255227 0 [], .box b31 170 [v123119, v123115], .row 3 1 v261319 n261320 cs261321, .row 89 4 v261339 n261340 cs261341] := S261344
                have nd261347 : (bl cs261341).Nodup := by rw [ce261346]; exact nd_app nd123123 nd261336 (Els.dom (els123122.mono (upI.tr i246224))) (by exact nv258242)
                have S261348 : St Ha wa H261304 w261342 [.box b261308 170 [Value.slice none 0 0, Value.slice none 0 0], .box b261296 170 [v123119, v261319], .row 3 1 v255227 0 [], .box b31 170 [v123119, v123115], .row 3 1 v261319 n261320 cs261321, .row 89 4 v261339 n261340 cs261341] := S261344.drop 0
                refine FL.val rfl rfl rfl (E.append rfl rfl run261343) ?_
                refine FL.val rfl rfl rfl (E.fieldAddr tf170_0 rfl) ?_
                obtain ⟨w261349, run261350, S261351⟩ := S261348.store (P := Tryz.prog) (t := 28) (i := 1) (j := 0) (cs' := [v261339, v261319]) (l' := [.box b261308 170 [Value.slice none 0 0, Value.slice none 0 0], .box b261296 170 [v261339, v261319], .row 3 1 v255227 0 [], .box b31 170 [v123119, v123115], .row 3 1 v261319 n261320 cs261321, .row 89 4 v261339 n261340 cs261341]) (v := v261339) (c := [v261339]) rfl Tryz.sizeOf28 (Ln.cells (S261348.row_ln (i := 5) rfl)) rfl (ones_cons (Ln.one (S261348.row_ln (i := 5) rfl)) ones_nil) (Nat.le_of_ble_eq_true rfl) rfl rfl
                refine FL.act rfl rfl (E.store rfl rfl run261350) ?_
                refine FL.nil ?_
                refine FW.seq ?_
                refine FW.region ?_
                refine FL.val rfl rfl rfl (E.load rfl (run_loadA Tryz.isAgg170 Tryz.sizeOf170 (S261351.box_now (i := 1) rfl) rfl)) ?_
                obtain ⟨w261352, run261353, S261354⟩ := S261351.store0 (P := Tryz.prog) (t := 170) (i := 0) (cs' := [v261339, v261319]) (l' := [.box b261308 170 [v261339, v261319], .box b261296 170 [v261339, v261319], .row 3 1 v255227 0 [], .box b31 170 [v123119, v123115], .row 3 1 v261319 n261320 cs261321, .row 89 4 v261339 n261340 cs261341]) (v := Value.agg #[v261339, v261319]) (c := [v261339, v261319]) rfl Tryz.sizeOf170 rfl rfl (ones_cons (Ln.one (S261351.row_ln (i := 5) rfl)) (ones_cons (Ln.one (S261351.row_ln (i := 4) rfl)) ones_nil)) (Nat.le_of_ble_eq_true rfl) rfl rfl
                refine FL.act rfl rfl (E.store rfl rfl run261353) ?_
                refine FL.nil ?_
                refine FW.ret ?_
                obtain rfl := Option.some.inj hp
                exact ⟨.inr rfl, resC rfl rfl (loadVar_A Tryz.isAgg170 Tryz.sizeOf170 (S261354.box_now (i := 0) rfl) rfl) (by rw [hR261286]; exact ⟨_, _, _, _, _, _, _, rfl, (S261354.sel [2, 3, 4, 5] (by decide) rfl), i261306, els261325, els261345, nd261347⟩)⟩
              clear hq261286
              refine FC.call (l' := #[true, true, true, true, true, false]) rfl (by kernel_rfl) rfl rfl rfl (E.call Tryz.call130 (A2 rfl rfl)) hc261286 ?_
              intro e w261358 hQ261286
              rw [hR261286] at hQ261286
              obtain ⟨H261355, v261287, n261288, cs261289, v261291, n261292, cs261293, rfl, S261356, i261357, els261290, els261294, nd261295⟩ := hQ261286
              refine ⟨_, rfl, ?_⟩
              refine ⟨(SP.on (S261356.box_now (i := 1) rfl) (SP.nil (Sl.of_inc (r258237.inc.tr i261357) S261356.sl))), ?_⟩
              refine FB.all1 (i := 5) (by kernel_rfl) ?_
              ·
                obtain ⟨w264227, run264228, S264229⟩ := S261356.store0 (P := Tryz.prog) (t := 170) (i := 1) (cs' := [v261291, v261287]) (l' := [.row 3 1 v255227 0 [], .box b31 170 [v261291, v261287], .row 3 1 v261287 n261288 cs261289, .row 89 4 v261291 n261292 cs261293]) (v := Value.agg #[v261291, v261287]) (c := [v261291, v261287]) rfl Tryz.sizeOf170 rfl rfl (ones_cons (Ln.one (S261356.row_ln (i := 3) rfl)) (ones_cons (Ln.one (S261356.row_ln (i := 2) rfl)) ones_nil)) (Nat.le_of_ble_eq_true rfl) rfl rfl
                refine FC.act (l' := #[true, true, true, true, true, true]) rfl (by kernel_rfl) rfl rfl (E.store k246206 rfl run264228) ?_
                refine ⟨(SP.off (by kernel_rfl) (SP.nil (Sl.of_inc (r258237.inc.tr i261357) S264229.sl))), ?_⟩
                exact FB.done (by kernel_rfl) ⟨_, _, _, _, _, _, _, (S264229.sel [1, 2, 3] (by decide) rfl), (r258237.inc.tr i261357), els261290, els261294, nd261295, k246205, k246206, k246204⟩
      ·
        rintro f270241 w270240 ⟨H270237, v270227, n270228, cs270229, v270231, n270232, cs270233, S270238, i270239, els270230, els270234, nd270235, k270242, k270243, k270244⟩
        refine FW.region ?_
        refine FL.val rfl rfl rfl (E.move k270244) ?_
        refine FL.val rfl rfl rfl (E.add rfl rfl) ?_
        refine FL.val rfl rfl rfl (E.assign (v := Value.int .i64 (wr (((i39 : Nat) : Int) + 1))) rfl) ?_
        refine FL.nil ?_
        obtain rfl := Option.some.inj hp
        exact ⟨rfl, ⟨_, _, _, _, _, _, _, S270238, ((i246201.tr i246224).tr i270239), els270230, els270234, nd270235, (nat_succ rfl (lt_of_get hx39) (p0.mono ((i246201.tr i246224).tr i270239)).le), k270242, k270243⟩⟩
    ·
      refine FW.condF rfl c246226 ?_
      refine FW.seq ?_
      refine FW.region ?_
      refine FL.val rfl rfl rfl (E.fieldAddr tf89_2 rfl) ?_
      refine FL.val rfl rfl rfl (E.load rfl (run_load1 Tryz.isAgg3 (at246225.now S246223.sl) rfl)) ?_
      refine FL.val rfl rfl rfl (E.eql rfl rfl) ?_
      refine FL.val rfl rfl rfl (E.assign (v := Value.bool (y38.right == (-1))) rfl) ?_
      refine FL.nil ?_
      rcases ifB hp with ⟨c270245, hp⟩ | ⟨c270245, hp⟩
      ·
        refine FW.condT rfl c270245 ?_
        obtain ⟨x291252, hx291253, hp⟩ := bnd hp
        obtain ⟨xs300246, hz300247, hp⟩ := bnd hp
        refine FW.drawB (Sl H246222) (fun f w => ∃ H : GH, ∃ v312246 : Value, ∃ n312247 : Nat, ∃ cs312248 : List Value, St Ha wa H w [.box b31 170 [v123119, v312246], .row 3 1 v312246 n312247 cs312248, .row 89 4 v123119 n123120 cs123121] ∧ Inc H246222 H ∧ Els (up wa.heap.size H) eI 1 cs312248 xs300246 ∧ f 0 = v0 ∧ f 3 = Value.pointer (some (⟨b31, 0, none⟩ : Addr)) ∧ f 4 = Value.int .i64 ((i39 : Nat) : Int)) (by kernel_rfl) S246223.sl ?_ ?_
        ·
          intro w270246 r270247
          have S270248 := S246223.call r270247
          refine FB.phase [11] (fun w => WAt w (Addr.add ⟨b31, 0, none⟩ 1) [v123115]) ?_
          refine FB.take (i := 0) (l' := #[true, false, false, false, false, false, false, false, false, false, false, false]) rfl (by kernel_rfl) (by kernel_rfl) (by kernel_rfl) (by kernel_rfl) (by kernel_rfl) (SP.on ((S270248.box_now (i := 0) rfl).sub (j := 1) (n := 1) (c := [v123115]) rfl) (SP.nil S270248.sl)) rfl rfl rfl (fun w' hw' => (E.fieldAddr tf170_1 k246206)) ?_
          refine FB.takeP (i := 1) (l' := #[true, true, false, false, false, false, false, false, false, false, false, false]) 0 [9, 10, 11] rfl rfl (by kernel_rfl) (by kernel_rfl) (by kernel_rfl) (by kernel_rfl) (by kernel_rfl) (by kernel_rfl) (SP.on ((S270248.box_now (i := 0) rfl).sub (j := 1) (n := 1) (c := [v123115]) rfl) (SP.nil S270248.sl)) rfl rfl rfl (fun w' hw' => (E.load rfl (run_load0 Tryz.isAgg39 hw' rfl))) ?_
          refine FB.take (i := 2) (l' := #[true, true, true, false, false, false, false, false, false, false, false, false]) rfl (by kernel_rfl) (by kernel_rfl) (by kernel_rfl) (by kernel_rfl) (by kernel_rfl) (SP.on ((S270248.box_now (i := 0) rfl).sub (j := 1) (n := 1) (c := [v123115]) rfl) (SP.nil S270248.sl)) rfl rfl rfl (fun w' hw' => (E.fieldAddr tf170_1 k246206)) ?_
          refine FB.takeP (i := 3) (l' := #[true, true, true, true, false, false, false, false, false, false, false, false]) 0 [6, 7, 8, 9, 10, 11] rfl rfl (by kernel_rfl) (by kernel_rfl) (by kernel_rfl) (by kernel_rfl) (by kernel_rfl) (by kernel_rfl) (SP.on ((S270248.box_now (i := 0) rfl).sub (j := 1) (n := 1) (c := [v123115]) rfl) (SP.nil S270248.sl)) rfl rfl rfl (fun w' hw' => (E.load rfl (run_load0 Tryz.isAgg39 hw' rfl))) ?_
          refine FB.take (i := 4) (l' := #[true, true, true, true, true, false, false, false, false, false, false, false]) rfl (by kernel_rfl) (by kernel_rfl) (by kernel_rfl) (by kernel_rfl) (by kernel_rfl) (SP.on ((S270248.box_now (i := 0) rfl).sub (j := 1) (n := 1) (c := [v123115]) rfl) (SP.nil S270248.sl)) rfl rfl rfl (fun w' hw' => (E.fieldAddr tf89_1 rfl)) ?_
          refine FB.take (i := 5) (l' := #[true, true, true, true, true, true, false, false, false, false, false, false]) rfl (by kernel_rfl) (by kernel_rfl) (by kernel_rfl) (by kernel_rfl) (by kernel_rfl) (SP.on ((S270248.box_now (i := 0) rfl).sub (j := 1) (n := 1) (c := [v123115]) rfl) (SP.nil S270248.sl)) rfl rfl rfl (fun w' hw' => (E.load rfl (run_load1 Tryz.isAgg3 (at246225.now hw') rfl))) ?_
          refine FB.phase [8, 9, 11] (fun w' => w' = w270246) ?_
          obtain ⟨p291246, cs291247, pt291248, l291249, at291250, rel291251⟩ := S270248.row_at (i := 1) rfl els123118 (by decide) hx291253
          obtain rfl := eI_open rel291251
          refine FB.takeW (i := 6) (l' := #[true, true, true, true, true, true, true, false, false, false, false, false]) [7, 8, 9, 10, 11] rfl (by kernel_rfl) (by kernel_rfl) (by kernel_rfl) (by kernel_rfl) (by kernel_rfl) (by kernel_rfl) (SP.on rfl (SP.on ((S270248.box_now (i := 0) rfl).sub (j := 1) (n := 1) (c := [v123115]) rfl) (SP.nil S270248.sl))) rfl rfl rfl (E.indexAddr te39 rfl rfl pt291248) ?_
          refine FB.takeW (i := 7) (l' := #[true, true, true, true, true, true, true, true, false, false, false, false]) [8, 9, 10, 11] rfl (by kernel_rfl) (by kernel_rfl) (by kernel_rfl) (by kernel_rfl) (by kernel_rfl) (by kernel_rfl) (SP.on rfl (SP.on ((S270248.box_now (i := 0) rfl).sub (j := 1) (n := 1) (c := [v123115]) rfl) (SP.nil S270248.sl))) rfl rfl rfl (E.load rfl (run_load0 Tryz.isAgg3 at291250 rfl)) ?_
          refine FB.all1 (i := 8) (by kernel_rfl) ?_
          ·
            obtain ⟨v297246, w297247, run297248, S297249⟩ := S270248.buildSlice (P := Tryz.prog) te39 [Value.int .i64 x291252] (parts := #[(0, Value.int .i64 x291252)]) (cells := [Value.int .i64 x291252]) rfl (szs_cons rfl szs_nil) (fc_cons rfl fc_nil) (ones_cons rfl ones_nil) (Nat.le_of_ble_eq_true rfl)
            have els297250 : Els (up wa.heap.size H246222) eI 1 [Value.int .i64 x291252] [x291252] := (Els.snoc (H := (up wa.heap.size H246222)) (E := eI) (k := 1) (c := [Value.int .i64 x291252]) (x := x291252) Els.nil rfl rfl)
            refine FC.val (l' := #[true, true, true, true, true, true, true, true, true, false, false, false]) rfl (by kernel_rfl) rfl rfl rfl (E.buildSlice (B1 rfl) run297248) ?_
            refine ⟨(SP.off (by kernel_rfl) (SP.on ((S297249.box_now (i := 1) rfl).sub (j := 1) (n := 1) (c := [v123115]) rfl) (SP.nil S297249.sl))), ?_⟩
            refine FB.all1 (i := 9) (by kernel_rfl) ?_
            ·
              obtain ⟨v300248, w300251, n300249, cs300250, run300252, S300253, els300254, ce300255⟩ := S297249.appendO (P := Tryz.prog) te39 (i := 2) (j := 0) rfl (els123118.mono (up_mono i246224)) rfl els297250 hz300247
              have S300253 : St Ha wa H246222 w300251 [.row 3 1 v297246 1 [Value.int .i64 x291252], .box b31 170 [v123119, v123115], .row 3 1 v300248 n300249 cs300250, .row 89 4 v123119 n123120 cs123121] := S300253
              have S300256 : St Ha wa H246222 w300251 [.box b31 170 [v123119, v123115], .row 3 1 v300248 n300249 cs300250, .row 89 4 v123119 n123120 cs123121] := S300253.drop 0
              refine FC.val (l' := #[true, true, true, true, true, true, true, true, true, true, false, false]) rfl (by kernel_rfl) rfl rfl rfl (E.append rfl rfl run300252) ?_
              refine ⟨(SP.off (by kernel_rfl) (SP.on ((S300256.box_now (i := 0) rfl).sub (j := 1) (n := 1) (c := [v123115]) rfl) (SP.nil S300256.sl))), ?_⟩
              refine FB.take (i := 10) (l' := #[true, true, true, true, true, true, true, true, true, true, true, false]) rfl (by kernel_rfl) (by kernel_rfl) (by kernel_rfl) (by kernel_rfl) (by kernel_rfl) (SP.off (by kernel_rfl) (SP.on ((S300256.box_now (i := 0) rfl).sub (j := 1) (n := 1) (c := [v123115]) rfl) (SP.nil S300256.sl))) rfl rfl rfl (fun w' hw' => (E.fieldAddr tf170_1 k246206)) ?_
              refine FB.all1 (i := 11) (by kernel_rfl) ?_
              ·
                obtain ⟨w306246, run306247, S306248⟩ := S300256.store (P := Tryz.prog) (t := 39) (i := 0) (j := 1) (cs' := [v123119, v300248]) (l' := [.box b31 170 [v123119, v300248], .row 3 1 v300248 n300249 cs300250, .row 89 4 v123119 n123120 cs123121]) (v := v300248) (c := [v300248]) rfl Tryz.sizeOf39 (Ln.cells (S300256.row_ln (i := 1) rfl)) rfl (ones_cons (Ln.one (S300256.row_ln (i := 1) rfl)) ones_nil) (Nat.le_of_ble_eq_true rfl) rfl rfl
                refine FC.act (l' := #[true, true, true, true, true, true, true, true, true, true, true, true]) rfl (by kernel_rfl) rfl rfl (E.store rfl rfl run306247) ?_
                refine ⟨(SP.off (by kernel_rfl) (SP.off (by kernel_rfl) (SP.nil S306248.sl))), ?_⟩
                exact FB.done (by kernel_rfl) ⟨_, _, _, _, S306248, (Inc.rfl _), els300254, k246205, k246206, k246204⟩
        ·
          rintro f312255 w312254 ⟨H312251, v312246, n312247, cs312248, S312252, i312253, els312249, k312256, k312257, k312258⟩
          refine FW.region ?_
          refine FL.val rfl rfl rfl (E.move k312258) ?_
          refine FL.val rfl rfl rfl (E.add rfl rfl) ?_
          refine FL.val rfl rfl rfl (E.assign (v := Value.int .i64 (wr (((i39 : Nat) : Int) + 1))) rfl) ?_
          refine FL.nil ?_
          obtain rfl := Option.some.inj hp
          exact ⟨rfl, ⟨_, _, _, _, _, _, _, S312252, ((i246201.tr i246224).tr i312253), els312249, (els123122.mono (up_mono (i246224.tr i312253))), nd123123, (nat_succ rfl (lt_of_get hx39) (p0.mono ((i246201.tr i246224).tr i312253)).le), k312256, k312257⟩⟩
      ·
        refine FW.condF rfl c270245 ?_
        obtain ⟨x330265, hx330266, hp⟩ := bnd hp
        obtain ⟨x348265, hx348266, hp⟩ := bnd hp
        obtain ⟨s360499, hq360499, hp⟩ := bnd hp
        refine FW.drawB (Sl H246222) (fun f w => ∃ H : GH, ∃ v369259 : Value, ∃ n369260 : Nat, ∃ cs369261 : List Value, ∃ v369263 : Value, ∃ n369264 : Nat, ∃ cs369265 : List Value, St Ha wa H w [.box b31 170 [v369263, v369259], .row 3 1 v369259 n369260 cs369261, .row 89 4 v369263 n369264 cs369265] ∧ Inc H246222 H ∧ Els (up wa.heap.size H) eI 1 cs369261 s360499.1 ∧ Els (up wa.heap.size H) eResStep 4 cs369265 s360499.2 ∧ (bl cs369265).Nodup ∧ f 0 = v0 ∧ f 3 = Value.pointer (some (⟨b31, 0, none⟩ : Addr)) ∧ f 4 = Value.int .i64 ((i39 : Nat) : Int)) (by kernel_rfl) S246223.sl ?_ ?_
        ·
          intro w312259 r312260
          have S312261 := S246223.call r312260
          refine FB.phase [16] (fun w => WAt w (Addr.add ⟨b31, 0, none⟩ 1) [v123115]) ?_
          refine FB.phase [16] (fun w => WAt w (⟨b31, 0, none⟩ : Addr) [v123119, v123115]) ?_
          refine FB.takeP (i := 0) (l' := #[true, false, false, false, false, false, false, false, false, false, false, false, false, false, false, false, false]) 0 [15, 16] rfl rfl (by kernel_rfl) (by kernel_rfl) (by kernel_rfl) (by kernel_rfl) (by kernel_rfl) (by kernel_rfl) (SP.on (S312261.box_now (i := 0) rfl) (SP.on ((S312261.box_now (i := 0) rfl).sub (j := 1) (n := 1) (c := [v123115]) rfl) (SP.nil S312261.sl))) rfl rfl rfl (fun w' hw' => (E.load k246206 (run_loadA Tryz.isAgg170 Tryz.sizeOf170 hw' rfl))) ?_
          refine FB.take (i := 1) (l' := #[true, true, false, false, false, false, false, false, false, false, false, false, false, false, false, false, false]) rfl (by kernel_rfl) (by kernel_rfl) (by kernel_rfl) (by kernel_rfl) (by kernel_rfl) (SP.on (S312261.box_now (i := 0) rfl) (SP.on ((S312261.box_now (i := 0) rfl).sub (j := 1) (n := 1) (c := [v123115]) rfl) (SP.nil S312261.sl))) rfl rfl rfl (fun w' hw' => (E.fieldAddr tf170_1 k246206)) ?_
          refine FB.takeP (i := 2) (l' := #[true, true, true, false, false, false, false, false, false, false, false, false, false, false, false, false, false]) 1 [5, 6, 15, 16] rfl rfl (by kernel_rfl) (by kernel_rfl) (by kernel_rfl) (by kernel_rfl) (by kernel_rfl) (by kernel_rfl) (SP.on (S312261.box_now (i := 0) rfl) (SP.on ((S312261.box_now (i := 0) rfl).sub (j := 1) (n := 1) (c := [v123115]) rfl) (SP.nil S312261.sl))) rfl rfl rfl (fun w' hw' => (E.load rfl (run_load0 Tryz.isAgg39 hw' rfl))) ?_
          refine FB.take (i := 3) (l' := #[true, true, true, true, false, false, false, false, false, false, false, false, false, false, false, false, false]) rfl (by kernel_rfl) (by kernel_rfl) (by kernel_rfl) (by kernel_rfl) (by kernel_rfl) (SP.on (S312261.box_now (i := 0) rfl) (SP.on ((S312261.box_now (i := 0) rfl).sub (j := 1) (n := 1) (c := [v123115]) rfl) (SP.nil S312261.sl))) rfl rfl rfl (fun w' hw' => (E.fieldAddr tf89_1 rfl)) ?_
          refine FB.take (i := 4) (l' := #[true, true, true, true, true, false, false, false, false, false, false, false, false, false, false, false, false]) rfl (by kernel_rfl) (by kernel_rfl) (by kernel_rfl) (by kernel_rfl) (by kernel_rfl) (SP.on (S312261.box_now (i := 0) rfl) (SP.on ((S312261.box_now (i := 0) rfl).sub (j := 1) (n := 1) (c := [v123115]) rfl) (SP.nil S312261.sl))) rfl rfl rfl (fun w' hw' => (E.load rfl (run_load1 Tryz.isAgg3 (at246225.now hw') rfl))) ?_
          refine FB.take (i := 7) (l' := #[true, true, true, true, true, false, false, true, false, false, false, false, false, false, false, false, false]) rfl (by kernel_rfl) (by kernel_rfl) (by kernel_rfl) (by kernel_rfl) (by kernel_rfl) (SP.on (S312261.box_now (i := 0) rfl) (SP.on ((S312261.box_now (i := 0) rfl).sub (j := 1) (n := 1) (c := [v123115]) rfl) (SP.nil S312261.sl))) rfl rfl rfl (fun w' hw' => (E.fieldAddr tf170_1 k246206)) ?_
          refine FB.takeP (i := 8) (l' := #[true, true, true, true, true, false, false, true, true, false, false, false, false, false, false, false, false]) 1 [11, 12, 15, 16] rfl rfl (by kernel_rfl) (by kernel_rfl) (by kernel_rfl) (by kernel_rfl) (by kernel_rfl) (by kernel_rfl) (SP.on (S312261.box_now (i := 0) rfl) (SP.on ((S312261.box_now (i := 0) rfl).sub (j := 1) (n := 1) (c := [v123115]) rfl) (SP.nil S312261.sl))) rfl rfl rfl (fun w' hw' => (E.load rfl (run_load0 Tryz.isAgg39 hw' rfl))) ?_
          refine FB.take (i := 9) (l' := #[true, true, true, true, true, false, false, true, true, true, false, false, false, false, false, false, false]) rfl (by kernel_rfl) (by kernel_rfl) (by kernel_rfl) (by kernel_rfl) (by kernel_rfl) (SP.on (S312261.box_now (i := 0) rfl) (SP.on ((S312261.box_now (i := 0) rfl).sub (j := 1) (n := 1) (c := [v123115]) rfl) (SP.nil S312261.sl))) rfl rfl rfl (fun w' hw' => (E.fieldAddr tf89_2 rfl)) ?_
          refine FB.take (i := 10) (l' := #[true, true, true, true, true, false, false, true, true, true, true, false, false, false, false, false, false]) rfl (by kernel_rfl) (by kernel_rfl) (by kernel_rfl) (by kernel_rfl) (by kernel_rfl) (SP.on (S312261.box_now (i := 0) rfl) (SP.on ((S312261.box_now (i := 0) rfl).sub (j := 1) (n := 1) (c := [v123115]) rfl) (SP.nil S312261.sl))) rfl rfl rfl (fun w' hw' => (E.load rfl (run_load1 Tryz.isAgg3 (at246225.now hw') rfl))) ?_
          refine FB.take (i := 13) (l' := #[true, true, true, true, true, false, false, true, true, true, true, false, false, true, false, false, false]) rfl (by kernel_rfl) (by kernel_rfl) (by kernel_rfl) (by kernel_rfl) (by kernel_rfl) (SP.on (S312261.box_now (i := 0) rfl) (SP.on ((S312261.box_now (i := 0) rfl).sub (j := 1) (n := 1) (c := [v123115]) rfl) (SP.nil S312261.sl))) rfl rfl rfl (fun w' hw' => (E.fieldAddr tf89_3 rfl)) ?_
          refine FB.take (i := 14) (l' := #[true, true, true, true, true, false, false, true, true, true, true, false, false, true, true, false, false]) rfl (by kernel_rfl) (by kernel_rfl) (by kernel_rfl) (by kernel_rfl) (by kernel_rfl) (SP.on (S312261.box_now (i := 0) rfl) (SP.on ((S312261.box_now (i := 0) rfl).sub (j := 1) (n := 1) (c := [v123115]) rfl) (SP.nil S312261.sl))) rfl rfl rfl (fun w' hw' => (E.load rfl (run_load1 Tryz.isAgg3 (at246225.now hw') rfl))) ?_
          refine FB.phase [15, 16] (fun w' => w' = w312259) ?_
          obtain ⟨p330259, cs330260, pt330261, l330262, at330263, rel330264⟩ := S312261.row_at (i := 1) rfl els123118 (by decide) hx330266
          obtain rfl := eI_open rel330264
          refine FB.takeW (i := 5) (l' := #[true, true, true, true, true, true, false, true, true, true, true, false, false, true, true, false, false]) [6, 15, 16] rfl (by kernel_rfl) (by kernel_rfl) (by kernel_rfl) (by kernel_rfl) (by kernel_rfl) (by kernel_rfl) (SP.on rfl (SP.on (S312261.box_now (i := 0) rfl) (SP.on ((S312261.box_now (i := 0) rfl).sub (j := 1) (n := 1) (c := [v123115]) rfl) (SP.nil S312261.sl)))) rfl rfl rfl (E.indexAddr te39 rfl rfl pt330261) ?_
          refine FB.takeW (i := 6) (l' := #[true, true, true, true, true, true, true, true, true, true, true, false, false, true, true, false, false]) [15, 16] rfl (by kernel_rfl) (by kernel_rfl) (by kernel_rfl) (by kernel_rfl) (by kernel_rfl) (by kernel_rfl) (SP.on rfl (SP.on (S312261.box_now (i := 0) rfl) (SP.on ((S312261.box_now (i := 0) rfl).sub (j := 1) (n := 1) (c := [v123115]) rfl) (SP.nil S312261.sl)))) rfl rfl rfl (E.load rfl (run_load0 Tryz.isAgg3 at330263 rfl)) ?_
          obtain ⟨p348259, cs348260, pt348261, l348262, at348263, rel348264⟩ := S312261.row_at (i := 1) rfl els123118 (by decide) hx348266
          obtain rfl := eI_open rel348264
          refine FB.takeW (i := 11) (l' := #[true, true, true, true, true, true, true, true, true, true, true, true, false, true, true, false, false]) [12, 15, 16] rfl (by kernel_rfl) (by kernel_rfl) (by kernel_rfl) (by kernel_rfl) (by kernel_rfl) (by kernel_rfl) (SP.on rfl (SP.on (S312261.box_now (i := 0) rfl) (SP.on ((S312261.box_now (i := 0) rfl).sub (j := 1) (n := 1) (c := [v123115]) rfl) (SP.nil S312261.sl)))) rfl rfl rfl (E.indexAddr te39 rfl rfl pt348261) ?_
          refine FB.takeW (i := 12) (l' := #[true, true, true, true, true, true, true, true, true, true, true, true, true, true, true, false, false]) [15, 16] rfl (by kernel_rfl) (by kernel_rfl) (by kernel_rfl) (by kernel_rfl) (by kernel_rfl) (by kernel_rfl) (SP.on rfl (SP.on (S312261.box_now (i := 0) rfl) (SP.on ((S312261.box_now (i := 0) rfl).sub (j := 1) (n := 1) (c := [v123115]) rfl) (SP.nil S312261.sl)))) rfl rfl rfl (E.load rfl (run_load0 Tryz.isAgg3 at348263 rfl)) ?_
          refine FB.all1 (i := 15) (by kernel_rfl) ?_
          ·
            obtain ⟨R360499, hR360499⟩ : ∃ R360499 : ((List Int) × (List ResStep)) → Ending → World → Prop, R360499 = (fun s360499 e w => ∃ H : GH, ∃ v360500 : Value, ∃ n360501 : Nat, ∃ cs360502 : List Value, ∃ v360504 : Value, ∃ n360505 : Nat, ∃ cs360506 : List Value, e = Ending.returned (Value.agg #[v360504, v360500]) ∧ St Ha wa H w [.box b31 170 [v123119, v123115], .row 3 1 v360500 n360501 cs360502, .row 89 4 v360504 n360505 cs360506] ∧ Inc H246222 H ∧ Els (up wa.heap.size H) eI 1 cs360502 s360499.1 ∧ Els (up wa.heap.size H) eResStep 4 cs360506 s360499.2 ∧ (bl cs360506).Nodup) := ⟨_, rfl⟩
            have hc360499 : Calls Tryz.prog 132 #[Value.agg #[v123119, v123115], Value.int .i64 x330265, Value.int .i64 x348265, Value.int .i64 y38.pivot] w312259 (R360499 s360499) := by
              clear hp; have hp := hq360499; clear hq360499
              refine calls_go (N := 62) (args := [Value.agg #[v123119, v123115], Value.int .i64 x330265, Value.int .i64 x348265, Value.int .i64 y38.pivot]) Tryz.func132 rfl rfl rfl ?_
              refine FW.seq ?_
              refine FW.region ?_
              obtain ⟨b360509, w360510, run360511, S360512⟩ := S312261.box (P := Tryz.prog) 170 [v123119, v123115] (v := Value.agg #[v123119, v123115]) rfl (ones_cons (Ln.one (S312261.row_ln (i := 2) rfl)) (ones_cons (Ln.one (S312261.row_ln (i := 1) rfl)) ones_nil))
              refine FL.val rfl rfl rfl (E.box rfl run360511) ?_
              obtain ⟨b360513, w360514, run360515, S360516⟩ := S360512.alloc (P := Tryz.prog) 170 [Value.slice none 0 0, Value.slice none 0 0] Tryz.zeroValue170 rfl (ones_cons rfl (ones_cons rfl ones_nil))
              refine FL.val rfl rfl rfl (E.alloc run360515) ?_
              refine FL.nil ?_
              refine FW.seq ?_
              refine FW.draw (fun w' => Run w360514.heap.size H246222 w360514 H246222 w') (by kernel_rfl) (by kernel_rfl) (run_drew S360516.sl) ?_
              refine FD.val rfl rfl rfl (fun w' hw' => (E.fieldAddr tf170_0 rfl)) ?_
              refine FD.val rfl rfl rfl (fun w' hw' => (E.load rfl (run_load1 Tryz.isAgg28 ((S360516.call hw').box_now (i := 1) rfl) rfl))) ?_
              refine FD.val rfl rfl rfl (fun w' hw' => (E.move (v := Value.int .i64 x330265) rfl)) ?_
              obtain ⟨x360524, hx360525, hp⟩ := bnd hp
              obtain ⟨p360518, cs360519, pt360520, l360521, at360522, rel360523⟩ := S360516.row_at (i := 4) rfl els123122 (by decide) hx360525
              obtain ⟨v360526, rfl, h360527⟩ := eResStep_open rel360523
              refine FD.val rfl rfl rfl (fun w' hw' => (E.indexAddr te28 rfl rfl pt360520)) ?_
              refine FD.val rfl rfl rfl (fun w' hw' => (E.fieldAddr tf89_0 rfl)) ?_
              refine FD.val rfl rfl rfl (fun w' hw' => (E.load rfl (run_load1 Tryz.isAgg39 (at360522.cls hw') rfl))) ?_
              refine FD.val rfl rfl rfl (fun w' hw' => (E.fieldAddr tf170_0 rfl)) ?_
              refine FD.val rfl rfl rfl (fun w' hw' => (E.load rfl (run_load1 Tryz.isAgg28 ((S360516.call hw').box_now (i := 1) rfl) rfl))) ?_
              refine FD.val rfl rfl rfl (fun w' hw' => (E.move (v := Value.int .i64 x348265) rfl)) ?_
              obtain ⟨x360534, hx360535, hp⟩ := bnd hp
              obtain ⟨p360528, cs360529, pt360530, l360531, at360532, rel360533⟩ := S360516.row_at (i := 4) rfl els123122 (by decide) hx360535
              obtain ⟨v360536, rfl, h360537⟩ := eResStep_open rel360533
              refine FD.val rfl rfl rfl (fun w' hw' => (E.indexAddr te28 rfl rfl pt360530)) ?_
              refine FD.val rfl rfl rfl (fun w' hw' => (E.fieldAddr tf89_0 rfl)) ?_
              refine FD.val rfl rfl rfl (fun w' hw' => (E.load rfl (run_load1 Tryz.isAgg39 (at360532.cls hw') rfl))) ?_
              refine FD.val rfl rfl rfl (fun w' hw' => (E.assign (v := v360526) rfl)) ?_
              refine FD.val rfl rfl rfl (fun w' hw' => (E.assign (v := v360536) rfl)) ?_
              refine FD.nil ?_
              intro w360538 r360540
              have S360539 := S360516.call r360540
              refine FW.seq ?_
              refine FW.seq ?_
              refine FW.region ?_
              refine FL.val rfl rfl rfl (E.move (v := v360526) rfl) ?_
              refine FL.val rfl rfl rfl (E.move (v := Value.int .i64 y38.pivot) rfl) ?_
              obtain ⟨r360541, hr360542, hp⟩ := bnd hp
              refine FL.call rfl rfl rfl (E.call Tryz.call198 (A2 rfl rfl)) (w_spec_l2Has S360539.sl v360526 x360524.clause (h360527.mono (upI.tr i246224)) y38.pivot hr360542) ?_
              rintro e w360543 ⟨rfl, r360544⟩
              refine ⟨_, rfl, ?_⟩
              have S360545 := S360539.call r360544
              refine FL.val rfl rfl rfl (E.not rfl) ?_
              refine FL.nil ?_
              rcases ifB hp with ⟨c360546, hp⟩ | ⟨c360546, hp⟩
              ·
                refine FW.condT rfl c360546 ?_
                refine FW.seq ?_
                refine FW.region ?_
                refine FL.val rfl rfl rfl (E.fieldAddr tf170_1 rfl) ?_
                refine FL.val rfl rfl rfl (E.load rfl (run_load1 Tryz.isAgg39 (S360545.box_now (i := 1) rfl) rfl)) ?_
                refine FL.val rfl rfl rfl (E.move (v := Value.int .i64 x330265) rfl) ?_
                obtain ⟨v360547, w360548, run360549, S360550⟩ := S360545.buildSlice (P := Tryz.prog) te39 [Value.int .i64 x330265] (parts := #[(0, Value.int .i64 x330265)]) (cells := [Value.int .i64 x330265]) rfl (szs_cons rfl szs_nil) (fc_cons rfl fc_nil) (ones_cons rfl ones_nil) (Nat.le_of_ble_eq_true rfl)
                have els360551 : Els (up wa.heap.size H246222) eI 1 [Value.int .i64 x330265] [x330265] := (Els.snoc (H := (up wa.heap.size H246222)) (E := eI) (k := 1) (c := [Value.int .i64 x330265]) (x := x330265) Els.nil rfl rfl)
                refine FL.val rfl rfl rfl (E.buildSlice (B1 rfl) run360549) ?_
                obtain ⟨xs360552, hz360553, hp⟩ := bnd hp
                obtain ⟨v360554, w360557, n360555, cs360556, run360558, S360559, els360560, ce360561⟩ := S360550.appendO (P := Tryz.prog) te39 (i := 4) (j := 0) rfl (els123118.mono (up_mono i246224)) rfl els360551 hz360553
                have S360559 : St Ha wa H246222 w360557 [.row 3 1 v360547 1 [Value.int .i64 x330265], .box b360513 170 [Value.slice none 0 0, Value.slice none 0 0], .box b360509 170 [v123119, v123115], .box b31 170 [v123119, v123115], .row 3 1 v360554 n360555 cs360556, .row 89 4 v123119 n123120 cs123121] := S360559
                have S360562 : St Ha wa H246222 w360557 [.box b360513 170 [Value.slice none 0 0, Value.slice none 0 0], .box b360509 170 [v123119, v123115], .box b31 170 [v123119, v123115], .row 3 1 v360554 n360555 cs360556, .row 89 4 v123119 n123120 cs123121] := S360559.drop 0
                refine FL.val rfl rfl rfl (E.append rfl rfl run360558) ?_
                refine FL.val rfl rfl rfl (E.fieldAddr tf170_1 rfl) ?_
                obtain ⟨w360563, run360564, S360565⟩ := S360562.store (P := Tryz.prog) (t := 39) (i := 1) (j := 1) (cs' := [v123119, v360554]) (l' := [.box b360513 170 [Value.slice none 0 0, Value.slice none 0 0], .box b360509 170 [v123119, v360554], .box b31 170 [v123119, v123115], .row 3 1 v360554 n360555 cs360556, .row 89 4 v123119 n123120 cs123121]) (v := v360554) (c := [v360554]) rfl Tryz.sizeOf39 (Ln.cells (S360562.row_ln (i := 3) rfl)) rfl (ones_cons (Ln.one (S360562.row_ln (i := 3) rfl)) ones_nil) (Nat.le_of_ble_eq_true rfl) rfl rfl
                refine FL.act rfl rfl (E.store rfl rfl run360564) ?_
                refine FL.nil ?_
                refine FW.seq ?_
                refine FW.region ?_
                refine FL.val rfl rfl rfl (E.load rfl (run_loadA Tryz.isAgg170 Tryz.sizeOf170 (S360565.box_now (i := 1) rfl) rfl)) ?_
                obtain ⟨w360566, run360567, S360568⟩ := S360565.store0 (P := Tryz.prog) (t := 170) (i := 0) (cs' := [v123119, v360554]) (l' := [.box b360513 170 [v123119, v360554], .box b360509 170 [v123119, v360554], .box b31 170 [v123119, v123115], .row 3 1 v360554 n360555 cs360556, .row 89 4 v123119 n123120 cs123121]) (v := Value.agg #[v123119, v360554]) (c := [v123119, v360554]) rfl Tryz.sizeOf170 rfl rfl (ones_cons (Ln.one (S360565.row_ln (i := 4) rfl)) (ones_cons (Ln.one (S360565.row_ln (i := 3) rfl)) ones_nil)) (Nat.le_of_ble_eq_true rfl) rfl rfl
                refine FL.act rfl rfl (E.store rfl rfl run360567) ?_
                refine FL.nil ?_
                refine FW.ret ?_
                obtain rfl := Option.some.inj hp
                exact ⟨.inr rfl, resC rfl rfl (loadVar_A Tryz.isAgg170 Tryz.sizeOf170 (S360568.box_now (i := 0) rfl) rfl) (by rw [hR360499]; exact ⟨_, _, _, _, _, _, _, rfl, (S360568.sel [2, 3, 4] (by decide) rfl), (Inc.rfl _), els360560, (els123122.mono (up_mono i246224)), nd123123⟩)⟩
              ·
                refine FW.condF rfl c360546 ?_
                refine FW.skip ?_
                refine FW.seq ?_
                refine FW.seq ?_
                refine FW.region ?_
                refine FL.val rfl rfl rfl (E.move (v := v360536) rfl) ?_
                refine FL.val rfl rfl rfl (E.move (v := Value.int .i64 y38.pivot) rfl) ?_
                refine FL.val rfl rfl rfl (E.neg rfl) ?_
                obtain ⟨r360569, hr360570, hp⟩ := bnd hp
                refine FL.call rfl rfl rfl (E.call Tryz.call198 (A2 rfl rfl)) (w_spec_l2Has S360545.sl v360536 x360534.clause (h360537.mono (upI.tr i246224)) (wr (-y38.pivot)) hr360570) ?_
                rintro e w360571 ⟨rfl, r360572⟩
                refine ⟨_, rfl, ?_⟩
                have S360573 := S360545.call r360572
                refine FL.val rfl rfl rfl (E.not rfl) ?_
                refine FL.nil ?_
                rcases ifB hp with ⟨c360574, hp⟩ | ⟨c360574, hp⟩
                ·
                  refine FW.condT rfl c360574 ?_
                  refine FW.seq ?_
                  refine FW.region ?_
                  refine FL.val rfl rfl rfl (E.fieldAddr tf170_1 rfl) ?_
                  refine FL.val rfl rfl rfl (E.load rfl (run_load1 Tryz.isAgg39 (S360573.box_now (i := 1) rfl) rfl)) ?_
                  refine FL.val rfl rfl rfl (E.move (v := Value.int .i64 x348265) rfl) ?_
                  obtain ⟨v360575, w360576, run360577, S360578⟩ := S360573.buildSlice (P := Tryz.prog) te39 [Value.int .i64 x348265] (parts := #[(0, Value.int .i64 x348265)]) (cells := [Value.int .i64 x348265]) rfl (szs_cons rfl szs_nil) (fc_cons rfl fc_nil) (ones_cons rfl ones_nil) (Nat.le_of_ble_eq_true rfl)
                  have els360579 : Els (up wa.heap.size H246222) eI 1 [Value.int .i64 x348265] [x348265] := (Els.snoc (H := (up wa.heap.size H246222)) (E := eI) (k := 1) (c := [Value.int .i64 x348265]) (x := x348265) Els.nil rfl rfl)
                  refine FL.val rfl rfl rfl (E.buildSlice (B1 rfl) run360577) ?_
                  obtain ⟨xs360580, hz360581, hp⟩ := bnd hp
                  obtain ⟨v360582, w360585, n360583, cs360584, run360586, S360587, els360588, ce360589⟩ := S360578.appendO (P := Tryz.prog) te39 (i := 4) (j := 0) rfl (els123118.mono (up_mono i246224)) rfl els360579 hz360581
                  have S360587 : St Ha wa H246222 w360585 [.row 3 1 v360575 1 [Value.int .i64 x348265], .box b360513 170 [Value.slice none 0 0, Value.slice none 0 0], .box b360509 170 [v123119, v123115], .box b31 170 [v123119, v123115], .row 3 1 v360582 n360583 cs360584, .row 89 4 v123119 n123120 cs123121] := S360587
                  have S360590 : St Ha wa H246222 w360585 [.box b360513 170 [Value.slice none 0 0, Value.slice none 0 0], .box b360509 170 [v123119, v123115], .box b31 170 [v123119, v123115], .row 3 1 v360582 n360583 cs360584, .row 89 4 v123119 n123120 cs123121] := S360587.drop 0
                  refine FL.val rfl rfl rfl (E.append rfl rfl run360586) ?_
                  refine FL.val rfl rfl rfl (E.fieldAddr tf170_1 rfl) ?_
                  obtain ⟨w360591, run360592, S360593⟩ := S360590.store (P := Tryz.prog) (t := 39) (i := 1) (j := 1) (cs' := [v123119, v360582]) (l' := [.box b360513 170 [Value.slice none 0 0, Value.slice none 0 0], .box b360509 170 [v123119, v360582], .box b31 170 [v123119, v123115], .row 3 1 v360582 n360583 cs360584, .row 89 4 v123119 n123120 cs123121]) (v := v360582) (c := [v360582]) rfl Tryz.sizeOf39 (Ln.cells (S360590.row_ln (i := 3) rfl)) rfl (ones_cons (Ln.one (S360590.row_ln (i := 3) rfl)) ones_nil) (Nat.le_of_ble_eq_true rfl) rfl rfl
                  refine FL.act rfl rfl (E.store rfl rfl run360592) ?_
                  refine FL.nil ?_
                  refine FW.seq ?_
                  refine FW.region ?_
                  refine FL.val rfl rfl rfl (E.load rfl (run_loadA Tryz.isAgg170 Tryz.sizeOf170 (S360593.box_now (i := 1) rfl) rfl)) ?_
                  obtain ⟨w360594, run360595, S360596⟩ := S360593.store0 (P := Tryz.prog) (t := 170) (i := 0) (cs' := [v123119, v360582]) (l' := [.box b360513 170 [v123119, v360582], .box b360509 170 [v123119, v360582], .box b31 170 [v123119, v123115], .row 3 1 v360582 n360583 cs360584, .row 89 4 v123119 n123120 cs123121]) (v := Value.agg #[v123119, v360582]) (c := [v123119, v360582]) rfl Tryz.sizeOf170 rfl rfl (ones_cons (Ln.one (S360593.row_ln (i := 4) rfl)) (ones_cons (Ln.one (S360593.row_ln (i := 3) rfl)) ones_nil)) (Nat.le_of_ble_eq_true rfl) rfl rfl
                  refine FL.act rfl rfl (E.store rfl rfl run360595) ?_
                  refine FL.nil ?_
                  refine FW.ret ?_
                  obtain rfl := Option.some.inj hp
                  exact ⟨.inr rfl, resC rfl rfl (loadVar_A Tryz.isAgg170 Tryz.sizeOf170 (S360596.box_now (i := 0) rfl) rfl) (by rw [hR360499]; exact ⟨_, _, _, _, _, _, _, rfl, (S360596.sel [2, 3, 4] (by decide) rfl), (Inc.rfl _), els360588, (els123122.mono (up_mono i246224)), nd123123⟩)⟩
                ·
                  refine FW.condF rfl c360574 ?_
                  refine FW.skip ?_
                  refine FW.seq ?_
                  refine FW.region ?_
                  refine FL.val rfl rfl rfl (E.move (v := v360526) rfl) ?_
                  refine FL.val rfl rfl rfl (E.move (v := v360536) rfl) ?_
                  refine FL.val rfl rfl rfl (E.move (v := Value.int .i64 y38.pivot) rfl) ?_
                  obtain ⟨r360597, hr360598, hp⟩ := bnd hp
                  refine FL.call rfl rfl rfl (E.call Tryz.call199 (A3 rfl rfl rfl)) (w_spec_l2Resolve S360573.sl v360526 x360524.clause (h360527.mono (upI.tr i246224)) v360536 x360534.clause (h360537.mono (upI.tr i246224)) y38.pivot hr360598) ?_
                  rintro e w360600 ⟨H360599, v360603, n360604, cs360605, rfl, r360602, els360606⟩
                  refine ⟨_, rfl, ?_⟩
                  have els360606 := els360606.mono (up_le S360573.size)
                  have S360601 := S360573.join (l' := [.row 3 1 v360603 n360604 cs360605, .box b360513 170 [Value.slice none 0 0, Value.slice none 0 0], .box b360509 170 [v123119, v123115], .box b31 170 [v123119, v123115], .row 3 1 v123115 n123116 cs123117, .row 89 4 v123119 n123120 cs123121]) r360602 rfl
                  refine FL.val rfl rfl rfl (E.move (v := Value.tuple #[v360603, Value.bool r360597.2]) rfl) ?_
                  refine FL.val rfl rfl rfl (E.extract (i := 0) rfl rfl) ?_
                  refine FL.val rfl rfl rfl (E.extract (i := 1) rfl rfl) ?_
                  refine FL.val rfl rfl rfl (E.assign (v := v360603) rfl) ?_
                  refine FL.val rfl rfl rfl (E.assign (v := Value.bool r360597.2) rfl) ?_
                  refine FL.nil ?_
                  refine FW.seq ?_
                  refine FW.region ?_
                  refine FL.val rfl rfl rfl (E.load rfl (run_loadA Tryz.isAgg170 Tryz.sizeOf170 (S360601.box_now (i := 2) rfl) rfl)) ?_
                  refine FL.val rfl rfl rfl (E.move (v := v360603) rfl) ?_
                  refine FL.val rfl rfl rfl (E.move (v := Value.int .i64 x330265) rfl) ?_
                  refine FL.val rfl rfl rfl (E.move (v := Value.int .i64 x348265) rfl) ?_
                  refine FL.val rfl rfl rfl (E.move (v := Value.int .i64 y38.pivot) rfl) ?_
                  refine FL.val rfl rfl rfl (E.build (B4 rfl rfl rfl rfl) (run_build _ 89 #[(0, v360603), (1, Value.int .i64 x330265), (2, Value.int .i64 x348265), (3, Value.int .i64 y38.pivot)] #[v360603, Value.int .i64 x330265, Value.int .i64 x348265, Value.int .i64 y38.pivot] (by obtain ⟨_, _, rfl⟩ := S360601.row_ln (i := 0) rfl; rfl))) ?_
                  obtain ⟨H360667, S360668, i360669, h360670, nv360671⟩ := S360601.sealRowU (i := 0) (l' := [.box b360513 170 [Value.slice none 0 0, Value.slice none 0 0], .box b360509 170 [v123119, v123115], .box b31 170 [v123119, v123115], .row 3 1 v123115 n123116 cs123117, .row 89 4 v123119 n123120 cs123121]) rfl els360606 (by decide) rfl
                  obtain ⟨s360731, hq360731, hp⟩ := bnd hp
                  obtain ⟨R360731, hR360731⟩ : ∃ R360731 : ((List Int) × (List ResStep)) → Ending → World → Prop, R360731 = (fun s360731 e w => ∃ H : GH, ∃ v360732 : Value, ∃ n360733 : Nat, ∃ cs360734 : List Value, ∃ v360736 : Value, ∃ n360737 : Nat, ∃ cs360738 : List Value, e = Ending.returned (Value.agg #[v360736, v360732]) ∧ St Ha wa H w [.box b360513 170 [Value.slice none 0 0, Value.slice none 0 0], .box b360509 170 [v123119, v123115], .box b31 170 [v123119, v123115], .row 3 1 v360732 n360733 cs360734, .row 89 4 v360736 n360737 cs360738] ∧ Inc H360667 H ∧ Els (up wa.heap.size H) eI 1 cs360734 s360731.1 ∧ Els (up wa.heap.size H) eResStep 4 cs360738 s360731.2 ∧ (bl cs360738).Nodup) := ⟨_, rfl⟩
                  have hc360731 : Calls Tryz.prog 130 #[Value.agg #[v123119, v123115], Value.agg #[v360603, Value.int .i64 x330265, Value.int .i64 x348265, Value.int .i64 y38.pivot]] w360600 (R360731 s360731) := by
                    clear hp; have hp := hq360731; clear hq360731
                    refine calls_go (N := 20) (args := [Value.agg #[v123119, v123115], Value.agg #[v360603, Value.int .i64 x330265, Value.int .i64 x348265, Value.int .i64 y38.pivot]]) Tryz.func130 rfl rfl rfl ?_
                    refine FW.seq ?_
                    refine FW.region ?_
                    obtain ⟨b360741, w360742, run360743, S360744⟩ := S360668.box (P := Tryz.prog) 170 [v123119, v123115] (v := Value.agg #[v123119, v123115]) rfl (ones_cons (Ln.one (S360668.row_ln (i := 4) rfl)) (ones_cons (Ln.one (S360668.row_ln (i := 3) rfl)) ones_nil))
                    refine FL.val rfl rfl rfl (E.box rfl run360743) ?_
                    obtain ⟨b360745, w360746, run360747, S360748⟩ := S360744.box (P := Tryz.prog) 89 [v360603, Value.int .i64 x330265, Value.int .i64 x348265, Value.int .i64 y38.pivot] (v := Value.agg #[v360603, Value.int .i64 x330265, Value.int .i64 x348265, Value.int .i64 y38.pivot]) rfl (ones_cons h360670.one (ones_cons rfl (ones_cons rfl (ones_cons rfl ones_nil))))
                    refine FL.val rfl rfl rfl (E.box rfl run360747) ?_
                    obtain ⟨H360749, S360750, i360751, at360752⟩ := S360748.sealBox (i := 0) (l' := [.box b360741 170 [v123119, v123115], .box b360513 170 [Value.slice none 0 0, Value.slice none 0 0], .box b360509 170 [v123119, v123115], .box b31 170 [v123119, v123115], .row 3 1 v123115 n123116 cs123117, .row 89 4 v123119 n123120 cs123121]) rfl rfl
                    obtain ⟨b360753, w360754, run360755, S360756⟩ := S360750.alloc (P := Tryz.prog) 170 [Value.slice none 0 0, Value.slice none 0 0] Tryz.zeroValue170 rfl (ones_cons rfl (ones_cons rfl ones_nil))
                    refine FL.val rfl rfl rfl (E.alloc run360755) ?_
                    refine FL.nil ?_
                    refine FW.seq ?_
                    refine FW.region ?_
                    refine FL.val rfl rfl rfl (E.fieldAddr tf170_1 rfl) ?_
                    refine FL.val rfl rfl rfl (E.load rfl (run_load1 Tryz.isAgg39 (S360756.box_now (i := 1) rfl) rfl)) ?_
                    refine FL.val rfl rfl rfl (E.fieldAddr tf170_0 rfl) ?_
                    refine FL.val rfl rfl rfl (E.load rfl (run_load1 Tryz.isAgg28 (S360756.box_now (i := 1) rfl) rfl)) ?_
                    refine FL.val rfl rfl rfl (E.lenO te28 rfl S360756 (i := 6) rfl els123122 (by decide)) ?_
                    obtain ⟨v360757, w360758, run360759, S360760⟩ := S360756.buildSlice (P := Tryz.prog) te39 [Value.int .i64 (len s39.2)] (parts := #[(0, Value.int .i64 (len s39.2))]) (cells := [Value.int .i64 (len s39.2)]) rfl (szs_cons rfl szs_nil) (fc_cons rfl fc_nil) (ones_cons rfl ones_nil) (Nat.le_of_ble_eq_true rfl)
                    have els360761 : Els (up wa.heap.size H360749) eI 1 [Value.int .i64 (len s39.2)] [(len s39.2)] := (Els.snoc (H := (up wa.heap.size H360749)) (E := eI) (k := 1) (c := [Value.int .i64 (len s39.2)]) (x := (len s39.2)) Els.nil rfl rfl)
                    refine FL.val rfl rfl rfl (E.buildSlice (B1 rfl) run360759) ?_
                    obtain ⟨xs360762, hz360763, hp⟩ := bnd hp
                    obtain ⟨v360764, w360767, n360765, cs360766, run360768, S360769, els360770, ce360771⟩ := S360760.appendO (P := Tryz.prog) te39 (i := 6) (j := 0) rfl (els123118.mono (up_mono (((i246224.tr r360602.run.inc).tr i360669).tr i360751))) rfl els360761 hz360763
                    have S360769 : St Ha wa H360749 w360767 [.row 3 1 v360757 1 [Value.int .i64 (len s39.2)], .box b360753 170 [Value.slice none 0 0, Value.slice none 0 0], .box b360741 170 [v123119, v123115], .box b360513 170 [Value.slice none 0 0, Value.slice none 0 0], .box b360509 170 [v123119, v123115], .box b31 170 [v123119, v123115], .row 3 1 v360764 n360765 cs360766, .row 89 4 v123119 n123120 cs123121] := S360769
                    have S360772 : St Ha wa H360749 w360767 [.box b360753 170 [Value.slice none 0 0, Value.slice none 0 0], .box b360741 170 [v123119, v123115], .box b360513 170 [Value.slice none 0 0, Value.slice none 0 0], .box b360509 170 [v123119, v123115], .box b31 170 [v123119, v123115], .row 3 1 v360764 n360765 cs360766, .row 89 4 v123119 n123120 cs123121] := S360769.drop 0
                    refine FL.val rfl rfl rfl (E.append rfl rfl run360768) ?_
                    refine FL.val rfl rfl rfl (E.fieldAddr tf170_1 rfl) ?_
                    obtain ⟨w360773, run360774, S360775⟩ := S360772.store (P := Tryz.prog) (t := 39) (i := 1) (j := 1) (cs' := [v123119, v360764]) (l' := [.box b360753 170 [Value.slice none 0 0, Value.slice none 0 0], .box b360741 170 [v123119, v360764], .box b360513 170 [Value.slice none 0 0, Value.slice none 0 0], .box b360509 170 [v123119, v123115], .box b31 170 [v123119, v123115], .row 3 1 v360764 n360765 cs360766, .row 89 4 v123119 n123120 cs123121]) (v := v360764) (c := [v360764]) rfl Tryz.sizeOf39 (Ln.cells (S360772.row_ln (i := 5) rfl)) rfl (ones_cons (Ln.one (S360772.row_ln (i := 5) rfl)) ones_nil) (Nat.le_of_ble_eq_true rfl) rfl rfl
                    refine FL.act rfl rfl (E.store rfl rfl run360774) ?_
                    refine FL.nil ?_
                    refine FW.seq ?_
                    refine FW.region ?_
                    refine FL.val rfl rfl rfl (E.fieldAddr tf170_0 rfl) ?_
                    refine FL.val rfl rfl rfl (E.load rfl (run_load1 Tryz.isAgg28 (S360775.box_now (i := 1) rfl) rfl)) ?_
                    refine FL.val rfl rfl rfl (E.load rfl (run_loadA Tryz.isAgg89 Tryz.sizeOf89 (at360752.now S360775.sl) rfl)) ?_
                    obtain ⟨v360776, w360777, run360778, S360779⟩ := S360775.buildSlice (P := Tryz.prog) te28 [Value.agg #[v360603, Value.int .i64 x330265, Value.int .i64 x348265, Value.int .i64 y38.pivot]] (parts := #[(0, Value.agg #[v360603, Value.int .i64 x330265, Value.int .i64 x348265, Value.int .i64 y38.pivot])]) (cells := [v360603, Value.int .i64 x330265, Value.int .i64 x348265, Value.int .i64 y38.pivot]) rfl (szs_cons rfl szs_nil) (fc_cons rfl fc_nil) (ones_cons h360670.one (ones_cons rfl (ones_cons rfl (ones_cons rfl ones_nil)))) (Nat.le_of_ble_eq_true rfl)
                    have els360780 : Els (up wa.heap.size H360749) eResStep 4 [v360603, Value.int .i64 x330265, Value.int .i64 x348265, Value.int .i64 y38.pivot] [(ResStep.mk r360597.1 x330265 x348265 y38.pivot)] := (Els.snoc (H := (up wa.heap.size H360749)) (E := eResStep) (k := 4) (c := [v360603, Value.int .i64 x330265, Value.int .i64 x348265, Value.int .i64 y38.pivot]) (x := (ResStep.mk r360597.1 x330265 x348265 y38.pivot)) Els.nil rfl ⟨_, rfl, (h360670.mono (up_mono i360751))⟩)
                    have nd360781 : (bl [v360603, Value.int .i64 x330265, Value.int .i64 x348265, Value.int .i64 y38.pivot]).Nodup := by exact nd_one v360603
                    refine FL.val rfl rfl rfl (E.buildSlice (B1 rfl) run360778) ?_
                    obtain ⟨xs360782, hz360783, hp⟩ := bnd hp
                    obtain ⟨v360784, w360787, n360785, cs360786, run360788, S360789, els360790, ce360791⟩ := S360779.appendO (P := Tryz.prog) te28 (i := 7) (j := 0) rfl (els123122.mono (up_mono (((i246224.tr r360602.run.inc).tr i360669).tr i360751))) rfl els360780 hz360783
                    have S360789 : St Ha wa H360749 w360787 [.row 89 4 v360776 1 [v360603, Value.int .i64 x330265, Value.int .i64 x348265, Value.int .i64 y38.pivot], .box b360753 170 [Value.slice none 0 0, Value.slice none 0 0], .box b360741 170 [v123119, v360764], .box b360513 170 [Value.slice none 0 0, Value.slice none 0 0], .box b360509 170 [v123119, v123115], .box b31 170 [v123119, v123115], .row 3 1 v360764 n360765 cs360766, .row 89 4 v360784 n360785 cs360786] := S360789
                    have nd360792 : (bl cs360786).Nodup := by rw [ce360791]; exact nd_app nd123123 nd360781 (Els.dom (els123122.mono (upI.tr (i246224.tr r360602.run.inc)))) (by exact nv360671)
                    have S360793 : St Ha wa H360749 w360787 [.box b360753 170 [Value.slice none 0 0, Value.slice none 0 0], .box b360741 170 [v123119, v360764], .box b360513 170 [Value.slice none 0 0, Value.slice none 0 0], .box b360509 170 [v123119, v123115], .box b31 170 [v123119, v123115], .row 3 1 v360764 n360765 cs360766, .row 89 4 v360784 n360785 cs360786] := S360789.drop 0
                    refine FL.val rfl rfl rfl (E.append rfl rfl run360788) ?_
                    refine FL.val rfl rfl rfl (E.fieldAddr tf170_0 rfl) ?_
                    obtain ⟨w360794, run360795, S360796⟩ := S360793.store (P := Tryz.prog) (t := 28) (i := 1) (j := 0) (cs' := [v360784, v360764]) (l' := [.box b360753 170 [Value.slice none 0 0, Value.slice none 0 0], .box b360741 170 [v360784, v360764], .box b360513 170 [Value.slice none 0 0, Value.slice none 0 0], .box b360509 170 [v123119, v123115], .box b31 170 [v123119, v123115], .row 3 1 v360764 n360765 cs360766, .row 89 4 v360784 n360785 cs360786]) (v := v360784) (c := [v360784]) rfl Tryz.sizeOf28 (Ln.cells (S360793.row_ln (i := 6) rfl)) rfl (ones_cons (Ln.one (S360793.row_ln (i := 6) rfl)) ones_nil) (Nat.le_of_ble_eq_true rfl) rfl rfl
                    refine FL.act rfl rfl (E.store rfl rfl run360795) ?_
                    refine FL.nil ?_
                    refine FW.seq ?_
                    refine FW.region ?_
                    refine FL.val rfl rfl rfl (E.load rfl (run_loadA Tryz.isAgg170 Tryz.sizeOf170 (S360796.box_now (i := 1) rfl) rfl)) ?_
                    obtain ⟨w360797, run360798, S360799⟩ := S360796.store0 (P := Tryz.prog) (t := 170) (i := 0) (cs' := [v360784, v360764]) (l' := [.box b360753 170 [v360784, v360764], .box b360741 170 [v360784, v360764], .box b360513 170 [Value.slice none 0 0, Value.slice none 0 0], .box b360509 170 [v123119, v123115], .box b31 170 [v123119, v123115], .row 3 1 v360764 n360765 cs360766, .row 89 4 v360784 n360785 cs360786]) (v := Value.agg #[v360784, v360764]) (c := [v360784, v360764]) rfl Tryz.sizeOf170 rfl rfl (ones_cons (Ln.one (S360796.row_ln (i := 6) rfl)) (ones_cons (Ln.one (S360796.row_ln (i := 5) rfl)) ones_nil)) (Nat.le_of_ble_eq_true rfl) rfl rfl
                    refine FL.act rfl rfl (E.store rfl rfl run360798) ?_
                    refine FL.nil ?_
                    refine FW.ret ?_
                    obtain rfl := Option.some.inj hp
                    exact ⟨.inr rfl, resC rfl rfl (loadVar_A Tryz.isAgg170 Tryz.sizeOf170 (S360799.box_now (i := 0) rfl) rfl) (by rw [hR360731]; exact ⟨_, _, _, _, _, _, _, rfl, (S360799.sel [2, 3, 4, 5, 6] (by decide) rfl), i360751, els360770, els360790, nd360792⟩)⟩
                  clear hq360731
                  refine FL.call rfl rfl rfl (E.call Tryz.call130 (A2 rfl rfl)) hc360731 ?_
                  intro e w360803 hQ360731
                  rw [hR360731] at hQ360731
                  obtain ⟨H360800, v360732, n360733, cs360734, v360736, n360737, cs360738, rfl, S360801, i360802, els360735, els360739, nd360740⟩ := hQ360731
                  refine ⟨_, rfl, ?_⟩
                  obtain ⟨w360805, run360806, S360807⟩ := S360801.store0 (P := Tryz.prog) (t := 170) (i := 0) (cs' := [v360736, v360732]) (l' := [.box b360513 170 [v360736, v360732], .box b360509 170 [v123119, v123115], .box b31 170 [v123119, v123115], .row 3 1 v360732 n360733 cs360734, .row 89 4 v360736 n360737 cs360738]) (v := Value.agg #[v360736, v360732]) (c := [v360736, v360732]) rfl Tryz.sizeOf170 rfl rfl (ones_cons (Ln.one (S360801.row_ln (i := 4) rfl)) (ones_cons (Ln.one (S360801.row_ln (i := 3) rfl)) ones_nil)) (Nat.le_of_ble_eq_true rfl) rfl rfl
                  refine FL.act rfl rfl (E.store rfl rfl run360806) ?_
                  refine FL.nil ?_
                  refine FW.ret ?_
                  obtain rfl := Option.some.inj hp
                  exact ⟨.inr rfl, resC rfl rfl (loadVar_A Tryz.isAgg170 Tryz.sizeOf170 (S360807.box_now (i := 0) rfl) rfl) (by rw [hR360499]; exact ⟨_, _, _, _, _, _, _, rfl, (S360807.sel [2, 3, 4] (by decide) rfl), ((r360602.run.inc.tr i360669).tr i360802), els360735, els360739, nd360740⟩)⟩
            clear hq360499
            refine FC.call (l' := #[true, true, true, true, true, true, true, true, true, true, true, true, true, true, true, true, false]) rfl (by kernel_rfl) rfl rfl rfl (E.call Tryz.call132 (A4 rfl rfl rfl rfl)) hc360499 ?_
            intro e w360811 hQ360499
            rw [hR360499] at hQ360499
            obtain ⟨H360808, v360500, n360501, cs360502, v360504, n360505, cs360506, rfl, S360809, i360810, els360503, els360507, nd360508⟩ := hQ360499
            refine ⟨_, rfl, ?_⟩
            refine ⟨(SP.off (by kernel_rfl) (SP.on (S360809.box_now (i := 0) rfl) (SP.on ((S360809.box_now (i := 0) rfl).sub (j := 1) (n := 1) (c := [v123115]) rfl) (SP.nil (Sl.of_inc i360810 S360809.sl))))), ?_⟩
            refine FB.all1 (i := 16) (by kernel_rfl) ?_
            ·
              obtain ⟨w363259, run363260, S363261⟩ := S360809.store0 (P := Tryz.prog) (t := 170) (i := 0) (cs' := [v360504, v360500]) (l' := [.box b31 170 [v360504, v360500], .row 3 1 v360500 n360501 cs360502, .row 89 4 v360504 n360505 cs360506]) (v := Value.agg #[v360504, v360500]) (c := [v360504, v360500]) rfl Tryz.sizeOf170 rfl rfl (ones_cons (Ln.one (S360809.row_ln (i := 2) rfl)) (ones_cons (Ln.one (S360809.row_ln (i := 1) rfl)) ones_nil)) (Nat.le_of_ble_eq_true rfl) rfl rfl
              refine FC.act (l' := #[true, true, true, true, true, true, true, true, true, true, true, true, true, true, true, true, true]) rfl (by kernel_rfl) rfl rfl (E.store k246206 rfl run363260) ?_
              refine ⟨(SP.off (by kernel_rfl) (SP.off (by kernel_rfl) (SP.off (by kernel_rfl) (SP.nil (Sl.of_inc i360810 S363261.sl))))), ?_⟩
              exact FB.done (by kernel_rfl) ⟨_, _, _, _, _, _, _, S363261, i360810, els360503, els360507, nd360508, k246205, k246206, k246204⟩
        ·
          rintro f369273 w369272 ⟨H369269, v369259, n369260, cs369261, v369263, n369264, cs369265, S369270, i369271, els369262, els369266, nd369267, k369274, k369275, k369276⟩
          refine FW.region ?_
          refine FL.val rfl rfl rfl (E.move k369276) ?_
          refine FL.val rfl rfl rfl (E.add rfl rfl) ?_
          refine FL.val rfl rfl rfl (E.assign (v := Value.int .i64 (wr (((i39 : Nat) : Int) + 1))) rfl) ?_
          refine FL.nil ?_
          obtain rfl := Option.some.inj hp
          exact ⟨rfl, ⟨_, _, _, _, _, _, _, S369270, ((i246201.tr i246224).tr i369271), els369262, els369266, nd369267, (nat_succ rfl (lt_of_get hx39) (p0.mono ((i246201.tr i246224).tr i369271)).le), k369274, k369275⟩⟩
  ·
    clear hp hq
    rintro s39 f369307 w369306 ⟨H369303, v123115, n123116, cs123117, v123119, n123120, cs123121, S369304, i369305, els123118, els123122, nd123123, k369308, k369309, k369310⟩
    refine FW.seq ?_
    refine FW.seq ?_
    refine FW.region ?_
    refine FL.val rfl rfl rfl (E.move k369308) ?_
    refine FL.val rfl rfl rfl (E.move k369309) ?_
    refine FL.val rfl rfl rfl (E.lenP te28 rfl p0) ?_
    refine FL.val rfl rfl rfl (E.lss rfl rfl) ?_
    refine FL.nil ?_
    refine FW.condF rfl dlt_len ?_
    refine FW.exit ?_
    exact ⟨nofun, rfl, ⟨_, _, _, _, _, _, _, S369304, i369305, els123118, els123122, nd123123, k369310⟩⟩
  ·
    clear hq
    intro e f369282 w369281 hD
    rcases q39 with s39 | x39
    ·
      obtain ⟨rfl, hD⟩ := hD
      obtain ⟨H369278, v123115, n123116, cs123117, v123119, n123120, cs123121, S369279, i369280, els123118, els123122, nd123123, k369283⟩ := hD
      replace hp := el_go hp
      refine FW.seq ?_
      refine FW.region ?_
      refine FL.val rfl rfl rfl (E.load k369283 (run_loadA Tryz.isAgg170 Tryz.sizeOf170 (S369279.box_now (i := 0) rfl) rfl)) ?_
      obtain ⟨H369284, S369285, i369286, ns369289, nv369288⟩ := S369279.sealRowN (i := 2) (l' := [.box b31 170 [v123119, v123115], .row 3 1 v123115 n123116 cs123117]) rfl els123122 nd123123 (by decide) rfl
      have h369287 := ns369289.rsl
      obtain ⟨H369290, S369291, i369292, h369293, nv369294⟩ := S369285.sealRowU (i := 1) (l' := [.box b31 170 [v123119, v123115]]) rfl (els123118.mono (up_mono i369286)) (by decide) rfl
      obtain ⟨r369295, hr369296, hp⟩ := bnd hp
      refine FL.call rfl rfl rfl (E.call Tryz.call133 (A1 rfl)) (w_spec_l7End S369291.sl (l7Work.mk s39.2 s39.1) v123119 (h369287.mono (upI.tr i369292)) v123115 (h369293.mono upI) hr369296) ?_
      rintro e w369298 ⟨H369297, v369301, rfl, r369300, h369302⟩
      refine ⟨_, rfl, ?_⟩
      have S369299 := S369291.call r369300
      refine FL.val rfl rfl rfl (E.assign (v := v369301) rfl) ?_
      refine FL.nil ?_
      refine FW.ret ?_
      obtain rfl := Option.some.inj hp
      exact ⟨.inr rfl, res1 rfl rfl ⟨_, _, rfl, S369299.run, h369302⟩⟩
    · exact x39.elim

@[reducible] def p_spec_DropWeakenings (Ha : GH) (wa : World) (r : ((List ResStep) × Bool)) : Ending → World → Prop :=
  fun e w' => ∃ H' : GH, ∃ v0 : Value, e = .returned (Value.tuple #[v0, Value.bool r.2]) ∧ Run wa.heap.size Ha wa H' w' ∧ RSl H' eResStep 4 v0 r.1
theorem w_spec_DropWeakenings {Ha : GH} {wa : World} (hs : Sl Ha wa) (a0 : Cnf) (v0_1 : Value) (p0_1 : RSl Ha (eL eI 1) 1 v0_1 a0.clauses) (v1 : Value) (a1 : List ResStep) (p1 : RSl Ha eResStep 4 v1 a1) {r : ((List ResStep) × Bool)} (hp : (PF.spec_DropWeakenings a0 a1) = some r) :
    Calls Tryz.prog 17 #[Value.agg #[Value.int .i64 a0.vars, v0_1], v1] wa (p_spec_DropWeakenings Ha wa r) := by
  unfold PF.spec_DropWeakenings at hp
  have S0 := St.init hs
  refine calls_go (N := 13) (args := [Value.agg #[Value.int .i64 a0.vars, v0_1], v1]) Tryz.func17 rfl rfl rfl ?_
  refine FW.seq ?_
  refine FW.region ?_
  obtain ⟨b21, w22, run23, S24⟩ := S0.box (P := Tryz.prog) 31 [Value.int .i64 a0.vars, v0_1] (v := Value.agg #[Value.int .i64 a0.vars, v0_1]) rfl (ones_cons rfl (ones_cons p0_1.one ones_nil))
  refine FL.val rfl rfl rfl (E.box rfl run23) ?_
  obtain ⟨H25, S26, i27, at28⟩ := S24.sealBox (i := 0) (l' := []) rfl rfl
  refine FL.val rfl rfl rfl (E.assign (v := Value.slice none 0 0) rfl) ?_
  refine FL.val rfl rfl rfl (E.assign (v := Value.bool false) rfl) ?_
  refine FL.nil ?_
  refine FW.seq ?_
  refine FW.seq ?_
  refine FW.region ?_
  refine FL.val rfl rfl rfl (E.load rfl (run_loadA Tryz.isAgg31 Tryz.sizeOf31 (at28.now S26.sl) rfl)) ?_
  refine FL.val rfl rfl rfl (E.move (v := v1) rfl) ?_
  obtain ⟨r29, hr30, hp⟩ := bnd hp
  refine FL.call rfl rfl rfl (E.call Tryz.call70 (A2 rfl rfl)) (w_spec_l7Good S26.sl a0 v0_1 (p0_1.mono i27) v1 a1 (p1.mono i27) hr30) ?_
  rintro e w31 ⟨rfl, r32⟩
  refine ⟨_, rfl, ?_⟩
  have S33 := S26.call r32
  refine FL.val rfl rfl rfl (E.not rfl) ?_
  refine FL.nil ?_
  rcases ifB hp with ⟨c34, hp⟩ | ⟨c34, hp⟩
  ·
    refine FW.condT rfl c34 ?_
    refine FW.seq ?_
    refine FW.region ?_
    obtain ⟨v35, w36, run37, S38⟩ := S33.buildSlice (P := Tryz.prog) te28 [] (parts := #[]) (cells := []) rfl szs_nil fc_nil ones_nil (Nat.le_of_ble_eq_true rfl)
    have els39 : Els (up wa.heap.size H25) eResStep 4 [] [] := Els.nil
    refine FL.val rfl rfl rfl (E.buildSlice (B0) run37) ?_
    refine FL.val rfl rfl rfl (E.assign (v := v35) rfl) ?_
    refine FL.val rfl rfl rfl (E.assign (v := Value.bool false) rfl) ?_
    refine FL.nil ?_
    refine FW.ret ?_
    obtain ⟨H40, S41, i42, ns45, nv44⟩ := S38.sealRowN (i := 0) (l' := []) rfl els39 (show (bl []).Nodup from List.nodup_nil) (by decide) rfl
    have h43 := ns45.rsl
    obtain rfl := Option.some.inj hp
    exact ⟨.inr rfl, res2 rfl rfl rfl ⟨_, _, rfl, S41.run, (h43.mono upI)⟩⟩
  ·
    refine FW.condF rfl c34 ?_
    refine FW.skip ?_
    refine FW.seq ?_
    refine FW.region ?_
    refine FL.val rfl rfl rfl (E.move (v := v1) rfl) ?_
    obtain ⟨r46, hr47, hp⟩ := bnd hp
    refine FL.call rfl rfl rfl (E.call Tryz.call71 (A1 rfl)) (w_spec_l7Drop S33.sl v1 a1 (p1.mono i27) hr47) ?_
    rintro e w49 ⟨H48, v52, rfl, r51, h53⟩
    refine ⟨_, rfl, ?_⟩
    have S50 := S33.call r51
    refine FL.val rfl rfl rfl (E.assign (v := v52) rfl) ?_
    refine FL.val rfl rfl rfl (E.assign (v := Value.bool true) rfl) ?_
    refine FL.nil ?_
    refine FW.ret ?_
    obtain rfl := Option.some.inj hp
    exact ⟨.inr rfl, res2 rfl rfl rfl ⟨_, _, rfl, S50.run, h53⟩⟩

theorem w_impl_within {Ha : GH} {wa : World} (hs : Sl Ha wa) (a0 : Int) (a1 : Int) (a2 : Int) :
    Calls Tryz.prog 192 #[Value.int .i64 a0, Value.int .i64 a1, Value.int .i64 a2] wa (Sc Ha wa (Value.bool (PF.impl_within a0 a1 a2))) := by
  obtain ⟨r, hp⟩ : ∃ r, (PF.impl_within a0 a1 a2) = r := ⟨_, rfl⟩
  rw [hp]
  unfold PF.impl_within at hp
  have S0 := St.init hs
  refine calls_go (N := 15) (args := [Value.int .i64 a0, Value.int .i64 a1, Value.int .i64 a2]) Tryz.func192 rfl rfl rfl ?_
  refine FW.seq ?_
  refine FW.region ?_
  refine FL.val rfl rfl rfl (E.assign (v := Value.bool false) rfl) ?_
  refine FL.nil ?_
  refine FW.seq ?_
  refine FW.region ?_
  refine FL.val rfl rfl rfl (E.move (v := Value.int .i64 a0) rfl) ?_
  refine FL.val rfl rfl rfl (E.move (v := Value.int .i64 a1) rfl) ?_
  refine FL.val rfl rfl rfl (E.geq rfl rfl) ?_
  refine FL.val rfl rfl rfl (E.move (v := Value.bool (decide (a1 ≤ a0))) rfl) ?_
  refine FL.cut 4 (fun f w => ∃ H : GH, St Ha wa H w [] ∧ Inc Ha H ∧ f 14 = Value.bool (bif (decide (a1 ≤ a0)) then (decide (a0 ≤ a2)) else false)) ?_ ?_
  ·
    rcases bcase (decide (a1 ≤ a0)) with c27 | c27
    ·
      refine FL.val (wF_yes rfl rfl rfl c27) rfl rfl (E.move (v := Value.int .i64 a0) rfl) ?_
      refine FL.val (wF_yes rfl rfl rfl c27) rfl rfl (E.move (v := Value.int .i64 a2) rfl) ?_
      refine FL.val (wF_yes rfl rfl rfl c27) rfl rfl (E.leq rfl rfl) ?_
      refine FL.val rfl rfl rfl (E.pickT rfl c27 rfl) ?_
      exact FL.nil ⟨rfl, _, S0, (Inc.rfl _), (congrArg Value.bool (bifT c27).symm)⟩
    ·
      refine FL.skip (wF_no rfl rfl rfl c27) rfl ?_
      refine FL.skip (wF_no rfl rfl rfl c27) rfl ?_
      refine FL.skip (wF_no rfl rfl rfl c27) rfl ?_
      refine FL.val rfl rfl rfl (E.pickF rfl c27 rfl) ?_
      exact FL.nil ⟨rfl, _, S0, (Inc.rfl _), (congrArg Value.bool (bifF c27).symm)⟩
  rintro f26 w25 ⟨H22, S23, i24, k28⟩
  refine FL.val rfl rfl rfl (E.assign k28) ?_
  refine FL.nil ?_
  refine FW.ret ?_
  obtain rfl := hp
  exact ⟨.inr rfl, res1 rfl rfl ⟨rfl, S23.back⟩⟩

theorem w_impl_isLiteral {Ha : GH} {wa : World} (hs : Sl Ha wa) (a0 : Int) (a1 : Int) :
    Calls Tryz.prog 206 #[Value.int .i64 a0, Value.int .i64 a1] wa (Sc Ha wa (Value.bool (PF.impl_isLiteral a0 a1))) := by
  obtain ⟨r, hp⟩ : ∃ r, (PF.impl_isLiteral a0 a1) = r := ⟨_, rfl⟩
  rw [hp]
  unfold PF.impl_isLiteral at hp
  have S0 := St.init hs
  refine calls_go (N := 14) (args := [Value.int .i64 a0, Value.int .i64 a1]) Tryz.func206 rfl rfl rfl ?_
  refine FW.seq ?_
  refine FW.region ?_
  refine FL.val rfl rfl rfl (E.assign (v := Value.bool false) rfl) ?_
  refine FL.nil ?_
  refine FW.seq ?_
  refine FW.region ?_
  refine FL.val rfl rfl rfl (E.move (v := Value.int .i64 a1) rfl) ?_
  refine FL.val rfl rfl rfl (E.neq rfl rfl) ?_
  refine FL.val rfl rfl rfl (E.move (v := Value.bool (!(a1 == 0))) rfl) ?_
  refine FL.cut 6 (fun f w => ∃ H : GH, St Ha wa H w [] ∧ Inc Ha H ∧ f 13 = Value.bool (bif (!(a1 == 0)) then (PF.impl_within a1 (wr (-a0)) a0) else false)) ?_ ?_
  ·
    rcases bcase (!(a1 == 0)) with c30 | c30
    ·
      refine FL.val (wF_yes rfl rfl rfl c30) rfl rfl (E.move (v := Value.int .i64 a1) rfl) ?_
      refine FL.val (wF_yes rfl rfl rfl c30) rfl rfl (E.move (v := Value.int .i64 a0) rfl) ?_
      refine FL.val (wF_yes rfl rfl rfl c30) rfl rfl (E.neg rfl) ?_
      refine FL.val (wF_yes rfl rfl rfl c30) rfl rfl (E.move (v := Value.int .i64 a0) rfl) ?_
      refine FL.call (wF_yes rfl rfl rfl c30) rfl rfl (E.call Tryz.call192 (A3 rfl rfl rfl)) (w_impl_within S0.sl a1 (wr (-a0)) a0) ?_
      rintro e w31 ⟨rfl, r32⟩
      refine ⟨_, rfl, ?_⟩
      have S33 := S0.call r32
      refine FL.val rfl rfl rfl (E.pickT rfl c30 rfl) ?_
      exact FL.nil ⟨rfl, _, S33, (Inc.rfl _), (congrArg Value.bool (bifT c30).symm)⟩
    ·
      refine FL.skip (wF_no rfl rfl rfl c30) rfl ?_
      refine FL.skip (wF_no rfl rfl rfl c30) rfl ?_
      refine FL.skip (wF_no rfl rfl rfl c30) rfl ?_
      refine FL.skip (wF_no rfl rfl rfl c30) rfl ?_
      refine FL.skip (wF_no rfl rfl rfl c30) rfl ?_
      refine FL.val rfl rfl rfl (E.pickF rfl c30 rfl) ?_
      exact FL.nil ⟨rfl, _, S0, (Inc.rfl _), (congrArg Value.bool (bifF c30).symm)⟩
  rintro f29 w28 ⟨H25, S26, i27, k34⟩
  refine FL.val rfl rfl rfl (E.assign k34) ?_
  refine FL.nil ?_
  refine FW.ret ?_
  obtain rfl := hp
  exact ⟨.inr rfl, res1 rfl rfl ⟨rfl, S26.back⟩⟩

theorem w_impl_abs {Ha : GH} {wa : World} (hs : Sl Ha wa) (a0 : Int) :
    Calls Tryz.prog 158 #[Value.int .i64 a0] wa (Sc Ha wa (Value.int .i64 (PF.impl_abs a0))) := by
  obtain ⟨r, hp⟩ : ∃ r, (PF.impl_abs a0) = r := ⟨_, rfl⟩
  rw [hp]
  unfold PF.impl_abs at hp
  have S0 := St.init hs
  refine calls_go (N := 7) (args := [Value.int .i64 a0]) Tryz.func158 rfl rfl rfl ?_
  refine FW.seq ?_
  refine FW.region ?_
  refine FL.val rfl rfl rfl (E.assign (v := Value.int .i64 0) rfl) ?_
  refine FL.nil ?_
  refine FW.seq ?_
  refine FW.region ?_
  refine FL.val rfl rfl rfl (E.move (v := Value.int .i64 a0) rfl) ?_
  refine FL.val rfl rfl rfl (E.move (v := Value.int .i64 a0) rfl) ?_
  refine FL.val rfl rfl rfl (E.neg rfl) ?_
  refine FL.val rfl rfl rfl (E.max2 rfl rfl) ?_
  refine FL.val rfl rfl rfl (E.assign (v := Value.int .i64 (mx a0 (wr (-a0)))) rfl) ?_
  refine FL.nil ?_
  refine FW.ret ?_
  obtain rfl := hp
  exact ⟨.inr rfl, res1 rfl rfl ⟨rfl, S0.back⟩⟩

theorem w_impl_varsOk {Ha : GH} {wa : World} (hs : Sl Ha wa) (a0 : Int) :
    Calls Tryz.prog 200 #[Value.int .i64 a0] wa (Sc Ha wa (Value.bool (PF.impl_varsOk a0))) := by
  obtain ⟨r, hp⟩ : ∃ r, (PF.impl_varsOk a0) = r := ⟨_, rfl⟩
  rw [hp]
  unfold PF.impl_varsOk at hp
  have S0 := St.init hs
  refine calls_go (N := 5) (args := [Value.int .i64 a0]) Tryz.func200 rfl rfl rfl ?_
  refine FW.seq ?_
  refine FW.region ?_
  refine FL.val rfl rfl rfl (E.assign (v := Value.bool false) rfl) ?_
  refine FL.nil ?_
  refine FW.seq ?_
  refine FW.region ?_
  refine FL.val rfl rfl rfl (E.move (v := Value.int .i64 a0) rfl) ?_
  refine FL.call rfl rfl rfl (E.call Tryz.call192 (A3 rfl rfl rfl)) (w_impl_within S0.sl a0 0 12) ?_
  rintro e w21 ⟨rfl, r22⟩
  refine ⟨_, rfl, ?_⟩
  have S23 := S0.call r22
  refine FL.val rfl rfl rfl (E.assign (v := Value.bool (PF.impl_within a0 0 12)) rfl) ?_
  refine FL.nil ?_
  refine FW.ret ?_
  obtain rfl := hp
  exact ⟨.inr rfl, res1 rfl rfl ⟨rfl, S23.back⟩⟩

theorem w_impl_IsClause {Ha : GH} {wa : World} (hs : Sl Ha wa) (a0 : Int) (v1 : Value) (a1 : List Int) (p1 : RSl Ha eI 1 v1 a1) {r : Bool} (hp : (PF.impl_IsClause a0 a1) = some r) :
    Calls Tryz.prog 142 #[Value.int .i64 a0, v1] wa (Sc Ha wa (Value.bool r)) := by
  unfold PF.impl_IsClause at hp
  have S0 := St.init hs
  refine calls_go (N := 36) (args := [Value.int .i64 a0, v1]) Tryz.func142 rfl rfl rfl ?_
  refine FW.seq ?_
  refine FW.region ?_
  refine FL.val rfl rfl rfl (E.assign (v := Value.bool false) rfl) ?_
  refine FL.nil ?_
  refine FW.seq ?_
  refine FW.seq ?_
  refine FW.region ?_
  refine FL.val rfl rfl rfl (E.move (v := v1) rfl) ?_
  refine FL.val rfl rfl rfl (E.lenP te39 rfl p1) ?_
  refine FL.val rfl rfl rfl (E.move (v := Value.int .i64 0) rfl) ?_
  refine FL.nil ?_
  obtain ⟨q22, hq, hp⟩ := bndR hp
  refine FW.block ?_
  refine FW.mono (FW.forL (S := Unit) (X := Bool) (fun (i22 : Nat) (s22 : Unit) f w => ∃ H : GH, St Ha wa H w [] ∧ Inc Ha H ∧ f 9 = Value.int .i64 ((i22 : Nat) : Int) ∧ f 0 = Value.int .i64 a0 ∧ f 1 = v1 ∧ f 7 = v1 ∧ f 8 = Value.int .i64 (len a1)) (fun q e f w => match q with | .go s22 => e = Exit.exit 0 ∧ (∃ H : GH, St Ha wa H w [] ∧ Inc Ha H ∧ f 0 = Value.int .i64 a0) | .rt x => ((e = Exit.ret) ∧ (fun e f w => (e = Exit.normal ∨ e = Exit.ret) ∧ ∀ a, Fr (δ := []) 36 a f → ∃ v, (results Tryz.f142 a.tmps).run Tryz.prog w = .ok v w ∧ (Sc Ha wa (Value.bool x)) (.returned v) w) e f w)) hq ⟨_, S0, (Inc.rfl _), rfl, rfl, rfl, rfl, rfl⟩ ?_ ?_) ?_
  ·
    clear hp hq
    rintro i22 y21 s22 f121 w120 ⟨H117, S118, i119, k122, k123, k124, k125, k126⟩ hx22 o211 hp
    refine FW.seq ?_
    refine FW.region ?_
    refine FL.val rfl rfl rfl (E.lssT k122 k126 (lss_len hx22)) ?_
    refine FL.nil ?_
    refine FW.seq ?_
    refine FW.condT rfl rfl ?_
    refine FW.skip ?_
    refine FW.seq ?_
    refine FW.block ?_
    refine FW.seq ?_
    refine FW.region ?_
    refine FL.val rfl rfl rfl (E.move k122) ?_
    obtain ⟨p127, cs128, pt129, l130, at131, rel132⟩ := p1.at (ix_nat hx22)
    obtain rfl := eI_open rel132
    refine FL.val rfl rfl rfl (E.indexAddr te39 k125 k122 pt129) ?_
    refine FL.val rfl rfl rfl (E.load rfl (run_load0 Tryz.isAgg3 ((at131.mono i119).now S118.sl) rfl)) ?_
    refine FL.val rfl rfl rfl (E.assign (v := Value.int .i64 ((i22 : Nat) : Int)) rfl) ?_
    refine FL.val rfl rfl rfl (E.assign (v := Value.int .i64 y21) rfl) ?_
    refine FL.nil ?_
    refine FW.seq ?_
    refine FW.draw (fun w' => Run w120.heap.size H117 w120 H117 w') (by kernel_rfl) (by kernel_rfl) (run_drew S118.sl) ?_
    refine FD.val rfl rfl rfl (fun w' hw' => (E.move k123)) ?_
    refine FD.val rfl rfl rfl (fun w' hw' => (E.move (v := Value.int .i64 y21) rfl)) ?_
    refine FD.call rfl rfl rfl (fun w' hw' => (E.call Tryz.call206 (A2 rfl rfl))) (fun w' hw' => Calls.cls hw' (w_impl_isLiteral (S118.call hw').sl a0 y21)) ?_
    refine FD.val rfl rfl rfl (fun w' hw' => (E.not rfl)) ?_
    refine FD.val rfl rfl rfl (fun w' hw' => (E.move (v := Value.bool (!(PF.impl_isLiteral a0 y21))) rfl)) ?_
    obtain ⟨t164, hqt164, hp⟩ := bnd hp
    refine FD.cut 14 (fun f => f 0 = Value.int .i64 a0 ∧ f 1 = v1 ∧ f 7 = v1 ∧ f 8 = Value.int .i64 (len a1) ∧ f 9 = Value.int .i64 ((i22 : Nat) : Int) ∧ f 32 = Value.bool t164) ?_ ?_
    ·
      clear hp; have hp := hqt164; clear hqt164
      rcases ifB hp with ⟨c170, hp⟩ | ⟨c170, hp⟩
      ·
        refine FD.skip (wF_no rfl rfl rfl c170) rfl ?_
        refine FD.skip (wF_no rfl rfl rfl c170) rfl ?_
        refine FD.skip (wF_no rfl rfl rfl c170) rfl ?_
        refine FD.skip (wF_undef rfl rfl rfl) rfl ?_
        refine FD.skip (wF_undef rfl rfl rfl) rfl ?_
        refine FD.skip (wF_undef rfl rfl rfl) rfl ?_
        refine FD.skip (wF_undef rfl rfl rfl) rfl ?_
        refine FD.skip (wF_undef rfl rfl rfl) rfl ?_
        refine FD.skip (wF_undef rfl rfl rfl) rfl ?_
        refine FD.skip (wF_undef rfl rfl rfl) rfl ?_
        refine FD.skip (wF_undef rfl rfl rfl) rfl ?_
        refine FD.skip (wF_undef rfl rfl rfl) rfl ?_
        refine FD.skip (wF_no rfl rfl rfl c170) rfl ?_
        obtain rfl := Option.some.inj hp
        refine FD.val rfl rfl rfl (fun w' hw' => (E.pickT rfl c170 rfl)) ?_
        exact FD.nil ⟨k123, k124, k125, k126, k122, rfl⟩
      ·
        refine FD.val (wF_yes rfl rfl rfl c170) rfl rfl (fun w' hw' => (E.move (v := Value.int .i64 ((i22 : Nat) : Int)) rfl)) ?_
        refine FD.val (wF_yes rfl rfl rfl c170) rfl rfl (fun w' hw' => (E.gtr rfl rfl)) ?_
        refine FD.val (wF_yes rfl rfl rfl c170) rfl rfl (fun w' hw' => (E.move (v := Value.bool (decide (0 < ((i22 : Nat) : Int)))) rfl)) ?_
        obtain ⟨t179, hqt179, hp⟩ := bnd hp
        refine FD.cut 10 (fun f => f 0 = Value.int .i64 a0 ∧ f 1 = v1 ∧ f 7 = v1 ∧ f 8 = Value.int .i64 (len a1) ∧ f 9 = Value.int .i64 ((i22 : Nat) : Int) ∧ f 18 = Value.bool (!(PF.impl_isLiteral a0 y21)) ∧ f 31 = Value.bool t179) ?_ ?_
        ·
          clear hp; have hp := hqt179; clear hqt179
          rcases ifB hp with ⟨c185, hp⟩ | ⟨c185, hp⟩
          ·
            refine FD.val (wF_yes rfl rfl rfl c185) rfl rfl (fun w' hw' => (E.move (v := Value.int .i64 y21) rfl)) ?_
            refine FD.call (wF_yes rfl rfl rfl c185) rfl rfl (fun w' hw' => (E.call Tryz.call158 (A1 rfl))) (fun w' hw' => Calls.cls hw' (w_impl_abs (S118.call hw').sl y21)) ?_
            refine FD.val (wF_yes rfl rfl rfl c185) rfl rfl (fun w' hw' => (E.move k124)) ?_
            refine FD.val (wF_yes rfl rfl rfl c185) rfl rfl (fun w' hw' => (E.move (v := Value.int .i64 ((i22 : Nat) : Int)) rfl)) ?_
            refine FD.val (wF_yes rfl rfl rfl c185) rfl rfl (fun w' hw' => (E.sub rfl rfl)) ?_
            obtain ⟨x192, hx193, hp⟩ := bnd hp
            obtain ⟨p186, cs187, pt188, l189, at190, rel191⟩ := p1.at hx193
            obtain rfl := eI_open rel191
            refine FD.val (wF_yes rfl rfl rfl c185) rfl rfl (fun w' hw' => (E.indexAddr te39 rfl rfl pt188)) ?_
            refine FD.val (wF_yes rfl rfl rfl c185) rfl rfl (fun w' hw' => (E.load rfl (run_load0 Tryz.isAgg3 ((at190.mono i119).now (S118.call hw').sl) rfl))) ?_
            refine FD.call (wF_yes rfl rfl rfl c185) rfl rfl (fun w' hw' => (E.call Tryz.call158 (A1 rfl))) (fun w' hw' => Calls.cls hw' (w_impl_abs (S118.call hw').sl x192)) ?_
            refine FD.val (wF_yes rfl rfl rfl c185) rfl rfl (fun w' hw' => (E.leq rfl rfl)) ?_
            obtain rfl := Option.some.inj hp
            refine FD.val (wF_yes rfl rfl rfl c170) rfl rfl (fun w' hw' => (E.pickT rfl c185 rfl)) ?_
            exact FD.nil ⟨k123, k124, k125, k126, k122, rfl, rfl⟩
          ·
            refine FD.skip (wF_no rfl rfl rfl c185) rfl ?_
            refine FD.skip (wF_no rfl rfl rfl c185) rfl ?_
            refine FD.skip (wF_no rfl rfl rfl c185) rfl ?_
            refine FD.skip (wF_no rfl rfl rfl c185) rfl ?_
            refine FD.skip (wF_no rfl rfl rfl c185) rfl ?_
            refine FD.skip (wF_no rfl rfl rfl c185) rfl ?_
            refine FD.skip (wF_no rfl rfl rfl c185) rfl ?_
            refine FD.skip (wF_no rfl rfl rfl c185) rfl ?_
            refine FD.skip (wF_no rfl rfl rfl c185) rfl ?_
            obtain rfl := Option.some.inj hp
            refine FD.val (wF_yes rfl rfl rfl c170) rfl rfl (fun w' hw' => (E.pickF rfl c185 rfl)) ?_
            exact FD.nil ⟨k123, k124, k125, k126, k122, rfl, rfl⟩
        rintro f184 ⟨k194, k195, k196, k197, k198, k199, k200⟩
        obtain rfl := Option.some.inj hp
        refine FD.val rfl rfl rfl (fun w' hw' => (E.pickF k199 c170 k200)) ?_
        exact FD.nil ⟨k194, k195, k196, k197, k198, rfl⟩
    rintro f169 ⟨k201, k202, k203, k204, k205, k206⟩
    refine FD.nil ?_
    intro w207 r209
    have S208 := S118.call r209
    rcases ifB hp with ⟨c210, hp⟩ | ⟨c210, hp⟩
    ·
      refine FW.condT k206 c210 ?_
      refine FW.seq ?_
      refine FW.region ?_
      refine FL.val rfl rfl rfl (E.assign (v := Value.bool false) rfl) ?_
      refine FL.nil ?_
      refine FW.ret ?_
      obtain rfl := Option.some.inj hp
      exact ⟨nofun, rfl, ⟨.inr rfl, res1 rfl rfl ⟨rfl, S208.back⟩⟩⟩
    ·
      refine FW.condF k206 c210 ?_
      refine FW.skip ?_
      refine FW.region ?_
      refine FL.val rfl rfl rfl (E.add k205 rfl) ?_
      refine FL.val rfl rfl rfl (E.move (v := Value.int .i64 (wr (((i22 : Nat) : Int) + 1))) rfl) ?_
      refine FL.nil ?_
      obtain rfl := Option.some.inj hp
      exact ⟨rfl, ⟨_, S208, i119, (nat_succ rfl (lt_of_get hx22) (p1.mono i119).le), k201, k202, k203, k204⟩⟩
  ·
    clear hp hq
    rintro s22 f225 w224 ⟨H221, S222, i223, k226, k227, k228, k229, k230⟩
    refine FW.seq ?_
    refine FW.region ?_
    refine FL.val rfl rfl rfl (E.lss k226 k230) ?_
    refine FL.nil ?_
    refine FW.seq ?_
    refine FW.condF rfl dlt_len ?_
    refine FW.exit ?_
    exact ⟨nofun, rfl, ⟨_, S222, i223, k227⟩⟩
  ·
    clear hq
    intro e f216 w215 hD
    rcases q22 with s22 | x22
    ·
      obtain ⟨rfl, hD⟩ := hD
      obtain ⟨H212, S213, i214, k217⟩ := hD
      replace hp := el_go hp
      refine FW.seq ?_
      refine FW.region ?_
      refine FL.val rfl rfl rfl (E.move k217) ?_
      refine FL.call rfl rfl rfl (E.call Tryz.call200 (A1 rfl)) (w_impl_varsOk S213.sl a0) ?_
      rintro e w218 ⟨rfl, r219⟩
      refine ⟨_, rfl, ?_⟩
      have S220 := S213.call r219
      refine FL.val rfl rfl rfl (E.assign (v := Value.bool (PF.impl_varsOk a0)) rfl) ?_
      refine FL.nil ?_
      refine FW.ret ?_
      obtain rfl := Option.some.inj hp
      exact ⟨.inr rfl, res1 rfl rfl ⟨rfl, S220.back⟩⟩
    ·
      obtain ⟨he, hL⟩ := hD
      replace hp := el_rt hp
      obtain rfl := Option.some.inj hp
      subst he
      exact hL

theorem w_impl_IsCnf {Ha : GH} {wa : World} (hs : Sl Ha wa) (a0 : Cnf) (v0_1 : Value) (p0_1 : RSl Ha (eL eI 1) 1 v0_1 a0.clauses) {r : Bool} (hp : (PF.impl_IsCnf a0) = some r) :
    Calls Tryz.prog 134 #[Value.agg #[Value.int .i64 a0.vars, v0_1]] wa (Sc Ha wa (Value.bool r)) := by
  unfold PF.impl_IsCnf at hp
  have S0 := St.init hs
  refine calls_go (N := 27) (args := [Value.agg #[Value.int .i64 a0.vars, v0_1]]) Tryz.func134 rfl rfl rfl ?_
  refine FW.seq ?_
  refine FW.region ?_
  obtain ⟨b21, w22, run23, S24⟩ := S0.box (P := Tryz.prog) 31 [Value.int .i64 a0.vars, v0_1] (v := Value.agg #[Value.int .i64 a0.vars, v0_1]) rfl (ones_cons rfl (ones_cons p0_1.one ones_nil))
  refine FL.val rfl rfl rfl (E.box rfl run23) ?_
  obtain ⟨H25, S26, i27, at28⟩ := S24.sealBox (i := 0) (l' := []) rfl rfl
  refine FL.val rfl rfl rfl (E.assign (v := Value.bool false) rfl) ?_
  refine FL.nil ?_
  refine FW.seq ?_
  refine FW.seq ?_
  refine FW.region ?_
  refine FL.val rfl rfl rfl (E.fieldAddr tf31_1 rfl) ?_
  refine FL.val rfl rfl rfl (E.load rfl (run_load1 Tryz.isAgg22 (at28.now S26.sl) rfl)) ?_
  refine FL.val rfl rfl rfl (E.lenP te22 rfl p0_1) ?_
  refine FL.val rfl rfl rfl (E.move (v := Value.int .i64 0) rfl) ?_
  refine FL.nil ?_
  obtain ⟨q30, hq, hp⟩ := bndR hp
  refine FW.block ?_
  refine FW.mono (FW.forL (S := Unit) (X := Bool) (fun (i30 : Nat) (s30 : Unit) f w => ∃ H : GH, St Ha wa H w [] ∧ Inc H25 H ∧ f 8 = Value.int .i64 ((i30 : Nat) : Int) ∧ f 1 = Value.pointer (some ⟨b21, 0, none⟩) ∧ f 6 = v0_1 ∧ f 7 = Value.int .i64 (len a0.clauses)) (fun q e f w => match q with | .go s30 => e = Exit.exit 0 ∧ (∃ H : GH, St Ha wa H w [] ∧ Inc H25 H ∧ f 1 = Value.pointer (some ⟨b21, 0, none⟩)) | .rt x => ((e = Exit.ret) ∧ (fun e f w => (e = Exit.normal ∨ e = Exit.ret) ∧ ∀ a, Fr (δ := []) 27 a f → ∃ v, (results Tryz.f134 a.tmps).run Tryz.prog w = .ok v w ∧ (Sc Ha wa (Value.bool x)) (.returned v) w) e f w)) hq ⟨_, S26, (Inc.rfl _), rfl, rfl, rfl, rfl⟩ ?_ ?_) ?_
  ·
    clear hp hq
    rintro i30 y29 s30 f58 w57 ⟨H54, S55, i56, k59, k60, k61, k62⟩ hx30 o77 hp
    refine FW.seq ?_
    refine FW.region ?_
    refine FL.val rfl rfl rfl (E.lssT k59 k62 (lss_len hx30)) ?_
    refine FL.nil ?_
    refine FW.seq ?_
    refine FW.condT rfl rfl ?_
    refine FW.skip ?_
    refine FW.seq ?_
    refine FW.block ?_
    refine FW.seq ?_
    refine FW.region ?_
    obtain ⟨p63, cs64, pt65, l66, at67, rel68⟩ := p0_1.at (ix_nat hx30)
    obtain ⟨v69, rfl, h70⟩ := eL_open rel68
    refine FL.val rfl rfl rfl (E.indexAddr te22 k61 k59 pt65) ?_
    refine FL.val rfl rfl rfl (E.load rfl (run_load0 Tryz.isAgg39 ((at67.mono (i27.tr i56)).now S55.sl) rfl)) ?_
    refine FL.val rfl rfl rfl (E.assign (v := v69) rfl) ?_
    refine FL.nil ?_
    refine FW.seq ?_
    refine FW.region ?_
    refine FL.val rfl rfl rfl (E.fieldAddr tf31_0 k60) ?_
    refine FL.val rfl rfl rfl (E.load rfl (run_load1 Tryz.isAgg3 ((at28.mono i56).now S55.sl) rfl)) ?_
    refine FL.val rfl rfl rfl (E.move (v := v69) rfl) ?_
    obtain ⟨r71, hr72, hp⟩ := bnd hp
    refine FL.call rfl rfl rfl (E.call Tryz.call142 (A2 rfl rfl)) (w_impl_IsClause S55.sl a0.vars v69 y29 (h70.mono (i27.tr i56)) hr72) ?_
    rintro e w73 ⟨rfl, r74⟩
    refine ⟨_, rfl, ?_⟩
    have S75 := S55.call r74
    refine FL.val rfl rfl rfl (E.not rfl) ?_
    refine FL.nil ?_
    rcases ifB hp with ⟨c76, hp⟩ | ⟨c76, hp⟩
    ·
      refine FW.condT rfl c76 ?_
      refine FW.seq ?_
      refine FW.region ?_
      refine FL.val rfl rfl rfl (E.assign (v := Value.bool false) rfl) ?_
      refine FL.nil ?_
      refine FW.ret ?_
      obtain rfl := Option.some.inj hp
      exact ⟨nofun, rfl, ⟨.inr rfl, res1 rfl rfl ⟨rfl, S75.back⟩⟩⟩
    ·
      refine FW.condF rfl c76 ?_
      refine FW.skip ?_
      refine FW.region ?_
      refine FL.val rfl rfl rfl (E.add k59 rfl) ?_
      refine FL.val rfl rfl rfl (E.move (v := Value.int .i64 (wr (((i30 : Nat) : Int) + 1))) rfl) ?_
      refine FL.nil ?_
      obtain rfl := Option.some.inj hp
      exact ⟨rfl, ⟨_, S75, i56, (nat_succ rfl (lt_of_get hx30) (p0_1.mono (i27.tr i56)).le), k60, k61, k62⟩⟩
  ·
    clear hp hq
    rintro s30 f99 w98 ⟨H95, S96, i97, k100, k101, k102, k103⟩
    refine FW.seq ?_
    refine FW.region ?_
    refine FL.val rfl rfl rfl (E.lss k100 k103) ?_
    refine FL.nil ?_
    refine FW.seq ?_
    refine FW.condF rfl dlt_len ?_
    refine FW.exit ?_
    exact ⟨nofun, rfl, ⟨_, S96, i97, k101⟩⟩
  ·
    clear hq
    intro e f82 w81 hD
    rcases q30 with s30 | x30
    ·
      obtain ⟨rfl, hD⟩ := hD
      obtain ⟨H78, S79, i80, k83⟩ := hD
      replace hp := el_go hp
      refine FW.seq ?_
      refine FW.region ?_
      refine FL.val rfl rfl rfl (E.fieldAddr tf31_0 k83) ?_
      refine FL.val rfl rfl rfl (E.load rfl (run_load1 Tryz.isAgg3 ((at28.mono i80).now S79.sl) rfl)) ?_
      refine FL.call rfl rfl rfl (E.call Tryz.call200 (A1 rfl)) (w_impl_varsOk S79.sl a0.vars) ?_
      rintro e w84 ⟨rfl, r85⟩
      refine ⟨_, rfl, ?_⟩
      have S86 := S79.call r85
      refine FL.val rfl rfl rfl (E.move (v := Value.bool (PF.impl_varsOk a0.vars)) rfl) ?_
      refine FL.cut 5 (fun f w => ∃ H : GH, St Ha wa H w [] ∧ Inc H78 H ∧ f 26 = Value.bool (bif (PF.impl_varsOk a0.vars) then (decide ((len a0.clauses) ≤ 60)) else false)) ?_ ?_
      ·
        rcases bcase (PF.impl_varsOk a0.vars) with c93 | c93
        ·
          refine FL.val (wF_yes rfl rfl rfl c93) rfl rfl (E.fieldAddr tf31_1 k83) ?_
          refine FL.val (wF_yes rfl rfl rfl c93) rfl rfl (E.load rfl (run_load1 Tryz.isAgg22 ((at28.mono i80).now S86.sl) rfl)) ?_
          refine FL.val (wF_yes rfl rfl rfl c93) rfl rfl (E.lenP te22 rfl p0_1) ?_
          refine FL.val (wF_yes rfl rfl rfl c93) rfl rfl (E.leq rfl rfl) ?_
          refine FL.val rfl rfl rfl (E.pickT rfl c93 rfl) ?_
          exact FL.nil ⟨rfl, _, S86, (Inc.rfl _), (congrArg Value.bool (bifT c93).symm)⟩
        ·
          refine FL.skip (wF_no rfl rfl rfl c93) rfl ?_
          refine FL.skip (wF_no rfl rfl rfl c93) rfl ?_
          refine FL.skip (wF_no rfl rfl rfl c93) rfl ?_
          refine FL.skip (wF_no rfl rfl rfl c93) rfl ?_
          refine FL.val rfl rfl rfl (E.pickF rfl c93 rfl) ?_
          exact FL.nil ⟨rfl, _, S86, (Inc.rfl _), (congrArg Value.bool (bifF c93).symm)⟩
      rintro f92 w91 ⟨H88, S89, i90, k94⟩
      refine FL.val rfl rfl rfl (E.assign k94) ?_
      refine FL.nil ?_
      refine FW.ret ?_
      obtain rfl := Option.some.inj hp
      exact ⟨.inr rfl, res1 rfl rfl ⟨rfl, S89.back⟩⟩
    ·
      obtain ⟨he, hL⟩ := hD
      replace hp := el_rt hp
      obtain rfl := Option.some.inj hp
      subst he
      exact hL

theorem w_slices_Equal_int_int {Ha : GH} {wa : World} (hs : Sl Ha wa) (v0 : Value) (a0 : List Int) (p0 : RSl Ha eI 1 v0 a0) (v1 : Value) (a1 : List Int) (p1 : RSl Ha eI 1 v1 a1) {r : Bool} (hp : (PF.slices_Equal_int_int a0 a1) = some r) :
    Calls Tryz.prog 245 #[v0, v1] wa (Sc Ha wa (Value.bool r)) := by
  unfold PF.slices_Equal_int_int at hp
  have S0 := St.init hs
  refine calls_go (N := 26) (args := [v0, v1]) Tryz.func245 rfl rfl rfl ?_
  refine FW.seq ?_
  refine FW.region ?_
  refine FL.val rfl rfl rfl (E.assign (v := Value.bool false) rfl) ?_
  refine FL.nil ?_
  refine FW.seq ?_
  refine FW.seq ?_
  refine FW.region ?_
  refine FL.val rfl rfl rfl (E.move (v := v0) rfl) ?_
  refine FL.val rfl rfl rfl (E.lenP te39 rfl p0) ?_
  refine FL.val rfl rfl rfl (E.move (v := v1) rfl) ?_
  refine FL.val rfl rfl rfl (E.lenP te39 rfl p1) ?_
  refine FL.val rfl rfl rfl (E.neq rfl rfl) ?_
  refine FL.nil ?_
  rcases ifB hp with ⟨c21, hp⟩ | ⟨c21, hp⟩
  ·
    refine FW.condT rfl c21 ?_
    refine FW.seq ?_
    refine FW.region ?_
    refine FL.val rfl rfl rfl (E.assign (v := Value.bool false) rfl) ?_
    refine FL.nil ?_
    refine FW.ret ?_
    obtain rfl := Option.some.inj hp
    exact ⟨.inr rfl, res1 rfl rfl ⟨rfl, S0.back⟩⟩
  ·
    refine FW.condF rfl c21 ?_
    refine FW.skip ?_
    refine FW.seq ?_
    refine FW.seq ?_
    refine FW.region ?_
    refine FL.val rfl rfl rfl (E.move (v := v0) rfl) ?_
    refine FL.val rfl rfl rfl (E.lenP te39 rfl p0) ?_
    refine FL.val rfl rfl rfl (E.move (v := Value.int .i64 0) rfl) ?_
    refine FL.nil ?_
    obtain ⟨q23, hq, hp⟩ := bndR hp
    refine FW.block ?_
    refine FW.mono (FW.forL (S := Unit) (X := Bool) (fun (i23 : Nat) (s23 : Unit) f w => ∃ H : GH, St Ha wa H w [] ∧ Inc Ha H ∧ f 13 = Value.int .i64 ((i23 : Nat) : Int) ∧ f 0 = v0 ∧ f 1 = v1 ∧ f 12 = Value.int .i64 (len a0)) (fun q e f w => match q with | .go s23 => e = Exit.exit 0 ∧ (∃ H : GH, St Ha wa H w [] ∧ Inc Ha H) | .rt x => ((e = Exit.ret) ∧ (fun e f w => (e = Exit.normal ∨ e = Exit.ret) ∧ ∀ a, Fr (δ := []) 26 a f → ∃ v, (results Tryz.f245 a.tmps).run Tryz.prog w = .ok v w ∧ (Sc Ha wa (Value.bool x)) (.returned v) w) e f w)) hq ⟨_, S0, (Inc.rfl _), rfl, rfl, rfl, rfl⟩ ?_ ?_) ?_
    ·
      clear hp hq
      rintro i23 y22 s23 f56 w55 ⟨H52, S53, i54, k57, k58, k59, k60⟩ hx23 o80 hp
      refine FW.seq ?_
      refine FW.region ?_
      refine FL.val rfl rfl rfl (E.lssT k57 k60 (lss_len hx23)) ?_
      refine FL.nil ?_
      refine FW.seq ?_
      refine FW.condT rfl rfl ?_
      refine FW.skip ?_
      refine FW.seq ?_
      refine FW.block ?_
      refine FW.seq ?_
      refine FW.region ?_
      refine FL.val rfl rfl rfl (E.move k57) ?_
      refine FL.val rfl rfl rfl (E.assign (v := Value.int .i64 ((i23 : Nat) : Int)) rfl) ?_
      refine FL.nil ?_
      refine FW.seq ?_
      refine FW.draw (fun w' => Run w55.heap.size H52 w55 H52 w') (by kernel_rfl) (by kernel_rfl) (run_drew S53.sl) ?_
      refine FD.val rfl rfl rfl (fun w' hw' => (E.move k58)) ?_
      refine FD.val rfl rfl rfl (fun w' hw' => (E.move (v := Value.int .i64 ((i23 : Nat) : Int)) rfl)) ?_
      obtain ⟨p62, cs63, pt64, l65, at66, rel67⟩ := p0.at (ix_nat hx23)
      obtain rfl := eI_open rel67
      refine FD.val rfl rfl rfl (fun w' hw' => (E.indexAddr te39 rfl rfl pt64)) ?_
      refine FD.val rfl rfl rfl (fun w' hw' => (E.load rfl (run_load0 Tryz.isAgg3 ((at66.mono i54).now (S53.call hw').sl) rfl))) ?_
      refine FD.val rfl rfl rfl (fun w' hw' => (E.move k59)) ?_
      refine FD.val rfl rfl rfl (fun w' hw' => (E.move (v := Value.int .i64 ((i23 : Nat) : Int)) rfl)) ?_
      obtain ⟨x74, hx75, hp⟩ := bnd hp
      obtain ⟨p68, cs69, pt70, l71, at72, rel73⟩ := p1.at hx75
      obtain rfl := eI_open rel73
      refine FD.val rfl rfl rfl (fun w' hw' => (E.indexAddr te39 rfl rfl pt70)) ?_
      refine FD.val rfl rfl rfl (fun w' hw' => (E.load rfl (run_load0 Tryz.isAgg3 ((at72.mono i54).now (S53.call hw').sl) rfl))) ?_
      refine FD.val rfl rfl rfl (fun w' hw' => (E.neq rfl rfl)) ?_
      refine FD.nil ?_
      intro w76 r78
      have S77 := S53.call r78
      rcases ifB hp with ⟨c79, hp⟩ | ⟨c79, hp⟩
      ·
        refine FW.condT rfl c79 ?_
        refine FW.seq ?_
        refine FW.region ?_
        refine FL.val rfl rfl rfl (E.assign (v := Value.bool false) rfl) ?_
        refine FL.nil ?_
        refine FW.ret ?_
        obtain rfl := Option.some.inj hp
        exact ⟨nofun, rfl, ⟨.inr rfl, res1 rfl rfl ⟨rfl, S77.back⟩⟩⟩
      ·
        refine FW.condF rfl c79 ?_
        refine FW.skip ?_
        refine FW.region ?_
        refine FL.val rfl rfl rfl (E.add k57 rfl) ?_
        refine FL.val rfl rfl rfl (E.move (v := Value.int .i64 (wr (((i23 : Nat) : Int) + 1))) rfl) ?_
        refine FL.nil ?_
        obtain rfl := Option.some.inj hp
        exact ⟨rfl, ⟨_, S77, i54, (nat_succ rfl (lt_of_get hx23) (p0.mono i54).le), k58, k59, k60⟩⟩
    ·
      clear hp hq
      rintro s23 f90 w89 ⟨H86, S87, i88, k91, k92, k93, k94⟩
      refine FW.seq ?_
      refine FW.region ?_
      refine FL.val rfl rfl rfl (E.lss k91 k94) ?_
      refine FL.nil ?_
      refine FW.seq ?_
      refine FW.condF rfl dlt_len ?_
      refine FW.exit ?_
      exact ⟨nofun, rfl, ⟨_, S87, i88⟩⟩
    ·
      clear hq
      intro e f85 w84 hD
      rcases q23 with s23 | x23
      ·
        obtain ⟨rfl, hD⟩ := hD
        obtain ⟨H81, S82, i83⟩ := hD
        replace hp := el_go hp
        refine FW.seq ?_
        refine FW.region ?_
        refine FL.val rfl rfl rfl (E.assign (v := Value.bool true) rfl) ?_
        refine FL.nil ?_
        refine FW.ret ?_
        obtain rfl := Option.some.inj hp
        exact ⟨.inr rfl, res1 rfl rfl ⟨rfl, S82.back⟩⟩
      ·
        obtain ⟨he, hL⟩ := hD
        replace hp := el_rt hp
        obtain rfl := Option.some.inj hp
        subst he
        exact hL

@[reducible] def p_impl_earlier (Ha : GH) (wa : World) (r : ((List Int) × Bool)) : Ending → World → Prop :=
  fun e w' => ∃ H' : GH, ∃ v0 : Value, e = .returned (Value.tuple #[v0, Value.bool r.2]) ∧ Run wa.heap.size Ha wa H' w' ∧ RSl H' eI 1 v0 r.1
theorem w_impl_earlier {Ha : GH} {wa : World} (hs : Sl Ha wa) (a0 : Cnf) (v0_1 : Value) (p0_1 : RSl Ha (eL eI 1) 1 v0_1 a0.clauses) (v1 : Value) (a1 : List ResStep) (p1 : RSl Ha eResStep 4 v1 a1) (a2 : Int) (a3 : Int) {r : ((List Int) × Bool)} (hp : (PF.impl_earlier a0 a1 a2 a3) = some r) :
    Calls Tryz.prog 246 #[Value.agg #[Value.int .i64 a0.vars, v0_1], v1, Value.int .i64 a2, Value.int .i64 a3] wa (p_impl_earlier Ha wa r) := by
  unfold PF.impl_earlier at hp
  have S0 := St.init hs
  refine calls_go (N := 31) (args := [Value.agg #[Value.int .i64 a0.vars, v0_1], v1, Value.int .i64 a2, Value.int .i64 a3]) Tryz.func246 rfl rfl rfl ?_
  refine FW.seq ?_
  refine FW.region ?_
  obtain ⟨b21, w22, run23, S24⟩ := S0.box (P := Tryz.prog) 31 [Value.int .i64 a0.vars, v0_1] (v := Value.agg #[Value.int .i64 a0.vars, v0_1]) rfl (ones_cons rfl (ones_cons p0_1.one ones_nil))
  refine FL.val rfl rfl rfl (E.box rfl run23) ?_
  obtain ⟨H25, S26, i27, at28⟩ := S24.sealBox (i := 0) (l' := []) rfl rfl
  refine FL.val rfl rfl rfl (E.assign (v := Value.slice none 0 0) rfl) ?_
  refine FL.val rfl rfl rfl (E.assign (v := Value.bool false) rfl) ?_
  refine FL.nil ?_
  refine FW.seq ?_
  refine FW.seq ?_
  refine FW.draw (fun w' => Run w22.heap.size H25 w22 H25 w') (by kernel_rfl) (by kernel_rfl) (run_drew S26.sl) ?_
  refine FD.val rfl rfl rfl (fun w' hw' => (E.move (v := Value.int .i64 a3) rfl)) ?_
  refine FD.val rfl rfl rfl (fun w' hw' => (E.move (v := Value.int .i64 a2) rfl)) ?_
  refine FD.val rfl rfl rfl (fun w' hw' => (E.sub rfl rfl)) ?_
  refine FD.call rfl rfl rfl (fun w' hw' => (E.call Tryz.call192 (A3 rfl rfl rfl))) (fun w' hw' => Calls.cls hw' (w_impl_within (S26.call hw').sl a3 0 (wr (a2 - 1)))) ?_
  refine FD.val rfl rfl rfl (fun w' hw' => (E.not rfl)) ?_
  refine FD.val rfl rfl rfl (fun w' hw' => (E.move (v := Value.bool (!(PF.impl_within a3 0 (wr (a2 - 1))))) rfl)) ?_
  obtain ⟨t42, hqt42, hp⟩ := bnd hp
  refine FD.cut 10 (fun f => f 1 = v1 ∧ f 3 = Value.int .i64 a3 ∧ f 25 = Value.bool t42) ?_ ?_
  ·
    clear hp; have hp := hqt42; clear hqt42
    rcases ifB hp with ⟨c48, hp⟩ | ⟨c48, hp⟩
    ·
      refine FD.skip (wF_no rfl rfl rfl c48) rfl ?_
      refine FD.skip (wF_no rfl rfl rfl c48) rfl ?_
      refine FD.skip (wF_no rfl rfl rfl c48) rfl ?_
      refine FD.skip (wF_no rfl rfl rfl c48) rfl ?_
      refine FD.skip (wF_no rfl rfl rfl c48) rfl ?_
      refine FD.skip (wF_no rfl rfl rfl c48) rfl ?_
      refine FD.skip (wF_no rfl rfl rfl c48) rfl ?_
      refine FD.skip (wF_no rfl rfl rfl c48) rfl ?_
      refine FD.skip (wF_no rfl rfl rfl c48) rfl ?_
      obtain rfl := Option.some.inj hp
      refine FD.val rfl rfl rfl (fun w' hw' => (E.pickT rfl c48 rfl)) ?_
      exact FD.nil ⟨rfl, rfl, rfl⟩
    ·
      refine FD.val (wF_yes rfl rfl rfl c48) rfl rfl (fun w' hw' => (E.fieldAddr tf31_0 rfl)) ?_
      refine FD.val (wF_yes rfl rfl rfl c48) rfl rfl (fun w' hw' => (E.load rfl (run_load1 Tryz.isAgg3 (at28.now (S26.call hw').sl) rfl))) ?_
      refine FD.val (wF_yes rfl rfl rfl c48) rfl rfl (fun w' hw' => (E.move (v := v1) rfl)) ?_
      refine FD.val (wF_yes rfl rfl rfl c48) rfl rfl (fun w' hw' => (E.move (v := Value.int .i64 a3) rfl)) ?_
      obtain ⟨x55, hx56, hp⟩ := bnd hp
      obtain ⟨p49, cs50, pt51, l52, at53, rel54⟩ := p1.at hx56
      obtain ⟨v57, rfl, h58⟩ := eResStep_open rel54
      refine FD.val (wF_yes rfl rfl rfl c48) rfl rfl (fun w' hw' => (E.indexAddr te28 rfl rfl pt51)) ?_
      refine FD.val (wF_yes rfl rfl rfl c48) rfl rfl (fun w' hw' => (E.fieldAddr tf89_0 rfl)) ?_
      refine FD.val (wF_yes rfl rfl rfl c48) rfl rfl (fun w' hw' => (E.load rfl (run_load1 Tryz.isAgg39 ((at53.mono i27).now (S26.call hw').sl) rfl))) ?_
      obtain ⟨r59, hr60, hp⟩ := bnd hp
      refine FD.call (wF_yes rfl rfl rfl c48) rfl rfl (fun w' hw' => (E.call Tryz.call142 (A2 rfl rfl))) (fun w' hw' => Calls.cls hw' (w_impl_IsClause (S26.call hw').sl a0.vars v57 x55.clause (h58.mono i27) hr60)) ?_
      refine FD.val (wF_yes rfl rfl rfl c48) rfl rfl (fun w' hw' => (E.not rfl)) ?_
      obtain rfl := Option.some.inj hp
      refine FD.val rfl rfl rfl (fun w' hw' => (E.pickF rfl c48 rfl)) ?_
      exact FD.nil ⟨rfl, rfl, rfl⟩
  rintro f47 ⟨k61, k62, k63⟩
  refine FD.nil ?_
  intro w64 r66
  have S65 := S26.call r66
  rcases ifB hp with ⟨c67, hp⟩ | ⟨c67, hp⟩
  ·
    refine FW.condT k63 c67 ?_
    refine FW.seq ?_
    refine FW.region ?_
    refine FL.val rfl rfl rfl (E.assign (v := Value.slice none 0 0) rfl) ?_
    refine FL.val rfl rfl rfl (E.assign (v := Value.bool false) rfl) ?_
    refine FL.nil ?_
    refine FW.ret ?_
    obtain rfl := Option.some.inj hp
    exact ⟨.inr rfl, res2 rfl rfl rfl ⟨_, _, rfl, S65.run, (RSl.nil _ _ _)⟩⟩
  ·
    refine FW.condF k63 c67 ?_
    refine FW.skip ?_
    refine FW.seq ?_
    refine FW.region ?_
    refine FL.val rfl rfl rfl (E.move k61) ?_
    refine FL.val rfl rfl rfl (E.move k62) ?_
    obtain ⟨x74, hx75, hp⟩ := bnd hp
    obtain ⟨p68, cs69, pt70, l71, at72, rel73⟩ := p1.at hx75
    obtain ⟨v76, rfl, h77⟩ := eResStep_open rel73
    refine FL.val rfl rfl rfl (E.indexAddr te28 rfl rfl pt70) ?_
    refine FL.val rfl rfl rfl (E.fieldAddr tf89_0 rfl) ?_
    refine FL.val rfl rfl rfl (E.load rfl (run_load1 Tryz.isAgg39 ((at72.mono i27).now S65.sl) rfl)) ?_
    refine FL.val rfl rfl rfl (E.assign (v := v76) rfl) ?_
    refine FL.val rfl rfl rfl (E.assign (v := Value.bool true) rfl) ?_
    refine FL.nil ?_
    refine FW.ret ?_
    obtain rfl := Option.some.inj hp
    exact ⟨.inr rfl, res2 rfl rfl rfl ⟨_, _, rfl, S65.run, (h77.mono i27)⟩⟩

theorem w_slices_IndexFunc_int_int {Ha : GH} {wa : World} (hs : Sl Ha wa) (v0 : Value) (a0 : List Int) (p0 : RSl Ha eI 1 v0 a0) (v1 : Value) (a1 : Int → Option Bool) (p1 : Fn_I_to_B Tryz.prog Ha v1 a1) {r : Int} (hp : (PF.slices_IndexFunc_int_int a0 a1) = some r) :
    Calls Tryz.prog 211 #[v0, v1] wa (Sc Ha wa (Value.int .i64 r)) := by
  unfold PF.slices_IndexFunc_int_int at hp
  have S0 := St.init hs
  refine calls_go (N := 19) (args := [v0, v1]) Tryz.func211 rfl rfl rfl ?_
  refine FW.seq ?_
  refine FW.region ?_
  refine FL.val rfl rfl rfl (E.assign (v := Value.int .i64 0) rfl) ?_
  refine FL.nil ?_
  refine FW.seq ?_
  refine FW.seq ?_
  refine FW.region ?_
  refine FL.val rfl rfl rfl (E.move (v := v0) rfl) ?_
  refine FL.val rfl rfl rfl (E.lenP te39 rfl p0) ?_
  refine FL.val rfl rfl rfl (E.move (v := Value.int .i64 0) rfl) ?_
  refine FL.nil ?_
  obtain ⟨q22, hq, hp⟩ := bndR hp
  refine FW.block ?_
  refine FW.mono (FW.forL (S := Unit) (X := Int) (fun (i22 : Nat) (s22 : Unit) f w => ∃ H : GH, St Ha wa H w [] ∧ Inc Ha H ∧ f 8 = Value.int .i64 ((i22 : Nat) : Int) ∧ f 0 = v0 ∧ f 1 = v1 ∧ f 7 = Value.int .i64 (len a0)) (fun q e f w => match q with | .go s22 => e = Exit.exit 0 ∧ (∃ H : GH, St Ha wa H w [] ∧ Inc Ha H) | .rt x => ((e = Exit.ret) ∧ (fun e f w => (e = Exit.normal ∨ e = Exit.ret) ∧ ∀ a, Fr (δ := []) 19 a f → ∃ v, (results Tryz.f211 a.tmps).run Tryz.prog w = .ok v w ∧ (Sc Ha wa (Value.int .i64 x)) (.returned v) w) e f w)) hq ⟨_, S0, (Inc.rfl _), rfl, rfl, rfl, rfl⟩ ?_ ?_) ?_
  ·
    clear hp hq
    rintro i22 y21 s22 f53 w52 ⟨H49, S50, i51, k54, k55, k56, k57⟩ hx22 o75 hp
    refine FW.seq ?_
    refine FW.region ?_
    refine FL.val rfl rfl rfl (E.lssT k54 k57 (lss_len hx22)) ?_
    refine FL.nil ?_
    refine FW.seq ?_
    refine FW.condT rfl rfl ?_
    refine FW.skip ?_
    refine FW.seq ?_
    refine FW.block ?_
    refine FW.seq ?_
    refine FW.region ?_
    refine FL.val rfl rfl rfl (E.move k54) ?_
    refine FL.val rfl rfl rfl (E.assign (v := Value.int .i64 ((i22 : Nat) : Int)) rfl) ?_
    refine FL.nil ?_
    refine FW.seq ?_
    refine FW.region ?_
    refine FL.val rfl rfl rfl (E.move k56) ?_
    refine FL.val rfl rfl rfl (E.move k55) ?_
    refine FL.val rfl rfl rfl (E.move (v := Value.int .i64 ((i22 : Nat) : Int)) rfl) ?_
    obtain ⟨p58, cs59, pt60, l61, at62, rel63⟩ := p0.at (ix_nat hx22)
    obtain rfl := eI_open rel63
    refine FL.val rfl rfl rfl (E.indexAddr te39 rfl rfl pt60) ?_
    refine FL.val rfl rfl rfl (E.load rfl (run_load0 Tryz.isAgg3 ((at62.mono i51).now S50.sl) rfl)) ?_
    obtain ⟨r64, hr65, hp⟩ := bnd hp
    obtain ⟨fi69, cs70, hv71, he72, hc73⟩ := (p1.mono i51) H49 w52 (Inc.rfl _) S50.sl y21 r64 hr65
    refine FL.call rfl rfl rfl (E.callV he72 (Eq.trans rfl hv71) (appA (A1 rfl) cs70)) hc73 ?_
    rintro e w66 ⟨rfl, r67⟩
    refine ⟨_, rfl, ?_⟩
    have S68 := S50.call r67
    refine FL.nil ?_
    rcases ifB hp with ⟨c74, hp⟩ | ⟨c74, hp⟩
    ·
      refine FW.condT rfl c74 ?_
      refine FW.seq ?_
      refine FW.region ?_
      refine FL.val rfl rfl rfl (E.move (v := Value.int .i64 ((i22 : Nat) : Int)) rfl) ?_
      refine FL.val rfl rfl rfl (E.assign (v := Value.int .i64 ((i22 : Nat) : Int)) rfl) ?_
      refine FL.nil ?_
      refine FW.ret ?_
      obtain rfl := Option.some.inj hp
      exact ⟨nofun, rfl, ⟨.inr rfl, res1 rfl rfl ⟨rfl, S68.back⟩⟩⟩
    ·
      refine FW.condF rfl c74 ?_
      refine FW.skip ?_
      refine FW.region ?_
      refine FL.val rfl rfl rfl (E.add k54 rfl) ?_
      refine FL.val rfl rfl rfl (E.move (v := Value.int .i64 (wr (((i22 : Nat) : Int) + 1))) rfl) ?_
      refine FL.nil ?_
      obtain rfl := Option.some.inj hp
      exact ⟨rfl, ⟨_, S68, i51, (nat_succ rfl (lt_of_get hx22) (p0.mono i51).le), k55, k56, k57⟩⟩
  ·
    clear hp hq
    rintro s22 f85 w84 ⟨H81, S82, i83, k86, k87, k88, k89⟩
    refine FW.seq ?_
    refine FW.region ?_
    refine FL.val rfl rfl rfl (E.lss k86 k89) ?_
    refine FL.nil ?_
    refine FW.seq ?_
    refine FW.condF rfl dlt_len ?_
    refine FW.exit ?_
    exact ⟨nofun, rfl, ⟨_, S82, i83⟩⟩
  ·
    clear hq
    intro e f80 w79 hD
    rcases q22 with s22 | x22
    ·
      obtain ⟨rfl, hD⟩ := hD
      obtain ⟨H76, S77, i78⟩ := hD
      replace hp := el_go hp
      refine FW.seq ?_
      refine FW.region ?_
      refine FL.val rfl rfl rfl (E.assign (v := Value.int .i64 (-1)) rfl) ?_
      refine FL.nil ?_
      refine FW.ret ?_
      obtain rfl := Option.some.inj hp
      exact ⟨.inr rfl, res1 rfl rfl ⟨rfl, S77.back⟩⟩
    ·
      obtain ⟨he, hL⟩ := hD
      replace hp := el_rt hp
      obtain rfl := Option.some.inj hp
      subst he
      exact hL

theorem w_slices_ContainsFunc_int_int {Ha : GH} {wa : World} (hs : Sl Ha wa) (v0 : Value) (a0 : List Int) (p0 : RSl Ha eI 1 v0 a0) (v1 : Value) (a1 : Int → Option Bool) (p1 : Fn_I_to_B Tryz.prog Ha v1 a1) {r : Bool} (hp : (PF.slices_ContainsFunc_int_int a0 a1) = some r) :
    Calls Tryz.prog 215 #[v0, v1] wa (Sc Ha wa (Value.bool r)) := by
  unfold PF.slices_ContainsFunc_int_int at hp
  have S0 := St.init hs
  refine calls_go (N := 9) (args := [v0, v1]) Tryz.func215 rfl rfl rfl ?_
  refine FW.seq ?_
  refine FW.region ?_
  refine FL.val rfl rfl rfl (E.assign (v := Value.bool false) rfl) ?_
  refine FL.nil ?_
  refine FW.seq ?_
  refine FW.region ?_
  refine FL.val rfl rfl rfl (E.move (v := v0) rfl) ?_
  refine FL.val rfl rfl rfl (E.move (v := v1) rfl) ?_
  obtain ⟨r21, hr22, hp⟩ := bnd hp
  refine FL.call rfl rfl rfl (E.call Tryz.call211 (A2 rfl rfl)) (w_slices_IndexFunc_int_int S0.sl v0 a0 p0 v1 a1 p1 hr22) ?_
  rintro e w23 ⟨rfl, r24⟩
  refine ⟨_, rfl, ?_⟩
  have S25 := S0.call r24
  refine FL.val rfl rfl rfl (E.geq rfl rfl) ?_
  refine FL.val rfl rfl rfl (E.assign (v := Value.bool (decide (0 ≤ r21))) rfl) ?_
  refine FL.nil ?_
  refine FW.ret ?_
  obtain rfl := Option.some.inj hp
  exact ⟨.inr rfl, res1 rfl rfl ⟨rfl, S25.back⟩⟩

theorem w_slices_Index_int_int {Ha : GH} {wa : World} (hs : Sl Ha wa) (v0 : Value) (a0 : List Int) (p0 : RSl Ha eI 1 v0 a0) (a1 : Int) {r : Int} (hp : (PF.slices_Index_int_int a0 a1) = some r) :
    Calls Tryz.prog 212 #[v0, Value.int .i64 a1] wa (Sc Ha wa (Value.int .i64 r)) := by
  unfold PF.slices_Index_int_int at hp
  have S0 := St.init hs
  refine calls_go (N := 19) (args := [v0, Value.int .i64 a1]) Tryz.func212 rfl rfl rfl ?_
  refine FW.seq ?_
  refine FW.region ?_
  refine FL.val rfl rfl rfl (E.assign (v := Value.int .i64 0) rfl) ?_
  refine FL.nil ?_
  refine FW.seq ?_
  refine FW.seq ?_
  refine FW.region ?_
  refine FL.val rfl rfl rfl (E.move (v := v0) rfl) ?_
  refine FL.val rfl rfl rfl (E.lenP te39 rfl p0) ?_
  refine FL.val rfl rfl rfl (E.move (v := Value.int .i64 0) rfl) ?_
  refine FL.nil ?_
  obtain ⟨q22, hq, hp⟩ := bndR hp
  refine FW.block ?_
  refine FW.mono (FW.forL (S := Unit) (X := Int) (fun (i22 : Nat) (s22 : Unit) f w => ∃ H : GH, St Ha wa H w [] ∧ Inc Ha H ∧ f 8 = Value.int .i64 ((i22 : Nat) : Int) ∧ f 0 = v0 ∧ f 1 = Value.int .i64 a1 ∧ f 7 = Value.int .i64 (len a0)) (fun q e f w => match q with | .go s22 => e = Exit.exit 0 ∧ (∃ H : GH, St Ha wa H w [] ∧ Inc Ha H) | .rt x => ((e = Exit.ret) ∧ (fun e f w => (e = Exit.normal ∨ e = Exit.ret) ∧ ∀ a, Fr (δ := []) 19 a f → ∃ v, (results Tryz.f212 a.tmps).run Tryz.prog w = .ok v w ∧ (Sc Ha wa (Value.int .i64 x)) (.returned v) w) e f w)) hq ⟨_, S0, (Inc.rfl _), rfl, rfl, rfl, rfl⟩ ?_ ?_) ?_
  ·
    clear hp hq
    rintro i22 y21 s22 f43 w42 ⟨H39, S40, i41, k44, k45, k46, k47⟩ hx22 o55 hp
    refine FW.seq ?_
    refine FW.region ?_
    refine FL.val rfl rfl rfl (E.lssT k44 k47 (lss_len hx22)) ?_
    refine FL.nil ?_
    refine FW.seq ?_
    refine FW.condT rfl rfl ?_
    refine FW.skip ?_
    refine FW.seq ?_
    refine FW.block ?_
    refine FW.seq ?_
    refine FW.region ?_
    refine FL.val rfl rfl rfl (E.move k44) ?_
    refine FL.val rfl rfl rfl (E.assign (v := Value.int .i64 ((i22 : Nat) : Int)) rfl) ?_
    refine FL.nil ?_
    refine FW.seq ?_
    refine FW.region ?_
    refine FL.val rfl rfl rfl (E.move k46) ?_
    refine FL.val rfl rfl rfl (E.move k45) ?_
    refine FL.val rfl rfl rfl (E.move (v := Value.int .i64 ((i22 : Nat) : Int)) rfl) ?_
    obtain ⟨p48, cs49, pt50, l51, at52, rel53⟩ := p0.at (ix_nat hx22)
    obtain rfl := eI_open rel53
    refine FL.val rfl rfl rfl (E.indexAddr te39 rfl rfl pt50) ?_
    refine FL.val rfl rfl rfl (E.load rfl (run_load0 Tryz.isAgg3 ((at52.mono i41).now S40.sl) rfl)) ?_
    refine FL.val rfl rfl rfl (E.eql rfl rfl) ?_
    refine FL.nil ?_
    rcases ifB hp with ⟨c54, hp⟩ | ⟨c54, hp⟩
    ·
      refine FW.condT rfl c54 ?_
      refine FW.seq ?_
      refine FW.region ?_
      refine FL.val rfl rfl rfl (E.move (v := Value.int .i64 ((i22 : Nat) : Int)) rfl) ?_
      refine FL.val rfl rfl rfl (E.assign (v := Value.int .i64 ((i22 : Nat) : Int)) rfl) ?_
      refine FL.nil ?_
      refine FW.ret ?_
      obtain rfl := Option.some.inj hp
      exact ⟨nofun, rfl, ⟨.inr rfl, res1 rfl rfl ⟨rfl, S40.back⟩⟩⟩
    ·
      refine FW.condF rfl c54 ?_
      refine FW.skip ?_
      refine FW.region ?_
      refine FL.val rfl rfl rfl (E.add k44 rfl) ?_
      refine FL.val rfl rfl rfl (E.move (v := Value.int .i64 (wr (((i22 : Nat) : Int) + 1))) rfl) ?_
      refine FL.nil ?_
      obtain rfl := Option.some.inj hp
      exact ⟨rfl, ⟨_, S40, i41, (nat_succ rfl (lt_of_get hx22) (p0.mono i41).le), k45, k46, k47⟩⟩
  ·
    clear hp hq
    rintro s22 f65 w64 ⟨H61, S62, i63, k66, k67, k68, k69⟩
    refine FW.seq ?_
    refine FW.region ?_
    refine FL.val rfl rfl rfl (E.lss k66 k69) ?_
    refine FL.nil ?_
    refine FW.seq ?_
    refine FW.condF rfl dlt_len ?_
    refine FW.exit ?_
    exact ⟨nofun, rfl, ⟨_, S62, i63⟩⟩
  ·
    clear hq
    intro e f60 w59 hD
    rcases q22 with s22 | x22
    ·
      obtain ⟨rfl, hD⟩ := hD
      obtain ⟨H56, S57, i58⟩ := hD
      replace hp := el_go hp
      refine FW.seq ?_
      refine FW.region ?_
      refine FL.val rfl rfl rfl (E.assign (v := Value.int .i64 (-1)) rfl) ?_
      refine FL.nil ?_
      refine FW.ret ?_
      obtain rfl := Option.some.inj hp
      exact ⟨.inr rfl, res1 rfl rfl ⟨rfl, S57.back⟩⟩
    ·
      obtain ⟨he, hL⟩ := hD
      replace hp := el_rt hp
      obtain rfl := Option.some.inj hp
      subst he
      exact hL

theorem w_slices_Contains_int_int {Ha : GH} {wa : World} (hs : Sl Ha wa) (v0 : Value) (a0 : List Int) (p0 : RSl Ha eI 1 v0 a0) (a1 : Int) {r : Bool} (hp : (PF.slices_Contains_int_int a0 a1) = some r) :
    Calls Tryz.prog 162 #[v0, Value.int .i64 a1] wa (Sc Ha wa (Value.bool r)) := by
  unfold PF.slices_Contains_int_int at hp
  have S0 := St.init hs
  refine calls_go (N := 9) (args := [v0, Value.int .i64 a1]) Tryz.func162 rfl rfl rfl ?_
  refine FW.seq ?_
  refine FW.region ?_
  refine FL.val rfl rfl rfl (E.assign (v := Value.bool false) rfl) ?_
  refine FL.nil ?_
  refine FW.seq ?_
  refine FW.region ?_
  refine FL.val rfl rfl rfl (E.move (v := v0) rfl) ?_
  refine FL.val rfl rfl rfl (E.move (v := Value.int .i64 a1) rfl) ?_
  obtain ⟨r21, hr22, hp⟩ := bnd hp
  refine FL.call rfl rfl rfl (E.call Tryz.call212 (A2 rfl rfl)) (w_slices_Index_int_int S0.sl v0 a0 p0 a1 hr22) ?_
  rintro e w23 ⟨rfl, r24⟩
  refine ⟨_, rfl, ?_⟩
  have S25 := S0.call r24
  refine FL.val rfl rfl rfl (E.geq rfl rfl) ?_
  refine FL.val rfl rfl rfl (E.assign (v := Value.bool (decide (0 ≤ r21))) rfl) ?_
  refine FL.nil ?_
  refine FW.ret ?_
  obtain rfl := Option.some.inj hp
  exact ⟨.inr rfl, res1 rfl rfl ⟨rfl, S25.back⟩⟩

theorem w_impl_part_1 {Ha : GH} {wa : World} (hs : Sl Ha wa) (a0 : Int) (q0 : Addr) (b0 : List Int) (u0_0 : Value) (g0_0 : RSl Ha eI 1 u0_0 b0) (c0 : CAt Ha q0 [u0_0]) {r : Bool} (hp : (PF.impl_part_1 a0 b0) = some r) :
    Calls Tryz.prog 263 #[Value.int .i64 a0, Value.pointer (some q0)] wa (Sc Ha wa (Value.bool r)) := by
  unfold PF.impl_part_1 at hp
  have S0 := St.init hs
  refine calls_go (N := 8) (args := [Value.int .i64 a0, Value.pointer (some q0)]) Tryz.func263 rfl rfl rfl ?_
  refine FW.seq ?_
  refine FW.region ?_
  refine FL.val rfl rfl rfl (E.assign (v := Value.bool false) rfl) ?_
  refine FL.nil ?_
  refine FW.seq ?_
  refine FW.region ?_
  refine FL.val rfl rfl rfl (E.load rfl (run_load0 Tryz.isAgg39 (c0.now S0.sl) rfl)) ?_
  refine FL.val rfl rfl rfl (E.move (v := Value.int .i64 a0) rfl) ?_
  obtain ⟨r21, hr22, hp⟩ := bnd hp
  refine FL.call rfl rfl rfl (E.call Tryz.call162 (A2 rfl rfl)) (w_slices_Contains_int_int S0.sl u0_0 b0 g0_0 a0 hr22) ?_
  rintro e w23 ⟨rfl, r24⟩
  refine ⟨_, rfl, ?_⟩
  have S25 := S0.call r24
  refine FL.val rfl rfl rfl (E.not rfl) ?_
  refine FL.val rfl rfl rfl (E.assign (v := Value.bool (!r21)) rfl) ?_
  refine FL.nil ?_
  refine FW.ret ?_
  obtain rfl := Option.some.inj hp
  exact ⟨.inr rfl, res1 rfl rfl ⟨rfl, S25.back⟩⟩

theorem w_impl_part {Ha : GH} {wa : World} (hs : Sl Ha wa) (v0 : Value) (a0 : List Int) (p0 : RSl Ha eI 1 v0 a0) (v1 : Value) (a1 : List Int) (p1 : RSl Ha eI 1 v1 a1) {r : Bool} (hp : (PF.impl_part a0 a1) = some r) :
    Calls Tryz.prog 247 #[v0, v1] wa (Sc Ha wa (Value.bool r)) := by
  unfold PF.impl_part at hp
  have S0 := St.init hs
  refine calls_go (N := 9) (args := [v0, v1]) Tryz.func247 rfl rfl rfl ?_
  refine FW.seq ?_
  refine FW.region ?_
  obtain ⟨b21, w22, run23, S24⟩ := S0.box (P := Tryz.prog) 39 [v1] (v := v1) p1.cells (ones_cons p1.one ones_nil)
  refine FL.val rfl rfl rfl (E.box rfl run23) ?_
  obtain ⟨H25, S26, i27, at28⟩ := S24.sealBox (i := 0) (l' := []) rfl rfl
  refine FL.val rfl rfl rfl (E.assign (v := Value.bool false) rfl) ?_
  refine FL.nil ?_
  refine FW.seq ?_
  refine FW.region ?_
  refine FL.val rfl rfl rfl (E.move (v := v0) rfl) ?_
  refine FL.val rfl rfl rfl (E.makeFunc A0 (A1 rfl)) ?_
  obtain ⟨r29, hr30, hp⟩ := bnd hp
  refine FL.call rfl rfl rfl (E.call Tryz.call215 (A2 rfl rfl)) (w_slices_ContainsFunc_int_int S26.sl v0 a0 (p0.mono i27) (Value.func (.func 263) #[] #[Value.pointer (some ⟨b21, 0, none⟩)]) (fun x0 => PF.impl_part_1 x0 a1) (fun H2 w2 hi2 hs2 x0 r hr => ⟨263, #[Value.pointer (some ⟨b21, 0, none⟩)], rfl, Tryz.call263, w_impl_part_1 hs2 x0 ⟨b21, 0, none⟩ a1 v1 ((p1.mono i27).mono hi2) (at28.mono hi2) hr⟩) hr30) ?_
  rintro e w31 ⟨rfl, r32⟩
  refine ⟨_, rfl, ?_⟩
  have S33 := S26.call r32
  refine FL.val rfl rfl rfl (E.not rfl) ?_
  refine FL.val rfl rfl rfl (E.assign (v := Value.bool (!r29)) rfl) ?_
  refine FL.nil ?_
  refine FW.ret ?_
  obtain rfl := Option.some.inj hp
  exact ⟨.inr rfl, res1 rfl rfl ⟨rfl, S33.back⟩⟩

theorem w_impl_isVar {Ha : GH} {wa : World} (hs : Sl Ha wa) (a0 : Int) (a1 : Int) :
    Calls Tryz.prog 248 #[Value.int .i64 a0, Value.int .i64 a1] wa (Sc Ha wa (Value.bool (PF.impl_isVar a0 a1))) := by
  obtain ⟨r, hp⟩ : ∃ r, (PF.impl_isVar a0 a1) = r := ⟨_, rfl⟩
  rw [hp]
  unfold PF.impl_isVar at hp
  have S0 := St.init hs
  refine calls_go (N := 8) (args := [Value.int .i64 a0, Value.int .i64 a1]) Tryz.func248 rfl rfl rfl ?_
  refine FW.seq ?_
  refine FW.region ?_
  refine FL.val rfl rfl rfl (E.assign (v := Value.bool false) rfl) ?_
  refine FL.nil ?_
  refine FW.seq ?_
  refine FW.region ?_
  refine FL.val rfl rfl rfl (E.move (v := Value.int .i64 a1) rfl) ?_
  refine FL.val rfl rfl rfl (E.move (v := Value.int .i64 a0) rfl) ?_
  refine FL.call rfl rfl rfl (E.call Tryz.call192 (A3 rfl rfl rfl)) (w_impl_within S0.sl a1 1 a0) ?_
  rintro e w21 ⟨rfl, r22⟩
  refine ⟨_, rfl, ?_⟩
  have S23 := S0.call r22
  refine FL.val rfl rfl rfl (E.assign (v := Value.bool (PF.impl_within a1 1 a0)) rfl) ?_
  refine FL.nil ?_
  refine FW.ret ?_
  obtain rfl := hp
  exact ⟨.inr rfl, res1 rfl rfl ⟨rfl, S23.back⟩⟩

@[reducible] def p_slices_Clone_int_int (Ha : GH) (wa : World) (r : (List Int)) : Ending → World → Prop :=
  fun e w' => ∃ H' : GH, ∃ v0 : Value, ∃ n0 : Nat, ∃ c0 : List Value, e = .returned (v0) ∧ St Ha wa H' w' [.row 3 1 v0 n0 c0] ∧ Els (up wa.heap.size H') eI 1 c0 r
theorem w_slices_Clone_int_int {Ha : GH} {wa : World} (hs : Sl Ha wa) (v0 : Value) (a0 : List Int) (p0 : RSl Ha eI 1 v0 a0) {r : (List Int)} (hp : (PF.slices_Clone_int_int a0) = some r) :
    Calls Tryz.prog 160 #[v0] wa (p_slices_Clone_int_int Ha wa r) := by
  unfold PF.slices_Clone_int_int at hp
  have S0 := St.init hs
  refine calls_go (N := 8) (args := [v0]) Tryz.func160 rfl rfl rfl ?_
  refine FW.seq ?_
  refine FW.region ?_
  refine FL.val rfl rfl rfl (E.assign (v := Value.slice none 0 0) rfl) ?_
  refine FL.nil ?_
  refine FW.seq ?_
  refine FW.seq ?_
  refine FW.region ?_
  refine FL.val rfl rfl rfl (E.move (v := v0) rfl) ?_
  obtain ⟨nb21, run22, hn23⟩ := RSl.nilTest te39 p0
  refine FL.val rfl rfl rfl (run22 _ _ _ _ _ _ _ _ _ _ _ _ rfl rfl) ?_
  refine FL.nil ?_
  rcases bcase nb21 with c24 | c24
  ·
    refine FW.condT (b := nb21) rfl c24 ?_
    rw [hn23 c24, app_nil2] at hp
    refine FW.seq ?_
    refine FW.region ?_
    refine FL.val rfl rfl rfl (E.assign (v := Value.slice none 0 0) rfl) ?_
    refine FL.nil ?_
    refine FW.ret ?_
    obtain rfl := Option.some.inj hp
    exact ⟨.inr rfl, res1 rfl rfl ⟨_, _, _, _, rfl, (S0.nil 3 1), Els.nil⟩⟩
  ·
    refine FW.condF (b := nb21) rfl c24 ?_
    refine FW.skip ?_
    refine FW.seq ?_
    refine FW.region ?_
    obtain ⟨v25, w26, run27, S28⟩ := S0.buildSlice (P := Tryz.prog) te39 [] (parts := #[]) (cells := []) rfl szs_nil fc_nil ones_nil (Nat.le_of_ble_eq_true rfl)
    have els29 : Els (up wa.heap.size Ha) eI 1 [] [] := Els.nil
    refine FL.val rfl rfl rfl (E.buildSlice (B0) run27) ?_
    refine FL.val rfl rfl rfl (E.move (v := v0) rfl) ?_
    obtain ⟨xs30, hz31, hp⟩ := bnd hp
    obtain ⟨v32, w35, n33, cs34, run36, S37, els38⟩ := S28.appendP (P := Tryz.prog) (Inc.rfl _) te39 (i := 0) rfl (els29.mono upI) p0 hz31
    have S37 : St Ha wa Ha w35 [.row 3 1 v32 n33 cs34] := S37
    have els38 : Els (up wa.heap.size Ha) eI 1 cs34 xs30 := els38.any (fun _ _ _ _ h => h)
    refine FL.val rfl rfl rfl (E.append rfl rfl run36) ?_
    refine FL.val rfl rfl rfl (E.assign (v := v32) rfl) ?_
    refine FL.nil ?_
    refine FW.ret ?_
    obtain rfl := Option.some.inj hp
    exact ⟨.inr rfl, res1 rfl rfl ⟨_, _, _, _, rfl, S37, els38⟩⟩

@[reducible] def p_slices_DeleteFunc_int_int (H0 : GH) (w0 : World) (Ha : GH) (L : List MO) (r : (List Int)) : Ending → World → Prop :=
  fun e w' => ∃ H' : GH, ∃ v0r : Value, ∃ n0r : Nat, ∃ c0r : List Value, e = .returned (v0r) ∧ (St H0 w0 H' w' (.row 3 1 v0r n0r c0r :: L) ∧ Inc Ha H') ∧ Els (up w0.heap.size H') eI 1 c0r r
theorem w_slices_DeleteFunc_int_int {H0 Ha : GH} {w0 wa : World} {L : List MO} {v0 : Value} {n0 : Nat} {k0 : List Value} (S0 : St H0 w0 Ha wa (.row 3 1 v0 n0 k0 :: L)) (a0 : List Int) (p0 : Els (up w0.heap.size Ha) eI 1 k0 a0) (v1 : Value) (a1 : Int → Option Bool) (p1 : Fn_I_to_B Tryz.prog Ha v1 a1) {r : (List Int)} (hp : (PF.slices_DeleteFunc_int_int a0 a1) = some r) :
    Calls Tryz.prog 159 #[v0, v1] wa (p_slices_DeleteFunc_int_int H0 w0 Ha L r) := by
  unfold PF.slices_DeleteFunc_int_int at hp
  refine calls_go (N := 42) (args := [v0, v1]) Tryz.func159 rfl rfl rfl ?_
  refine FW.seq ?_
  refine FW.region ?_
  refine FL.val rfl rfl rfl (E.assign (v := Value.slice none 0 0) rfl) ?_
  refine FL.nil ?_
  refine FW.seq ?_
  refine FW.region ?_
  refine FL.val rfl rfl rfl (E.move (v := v0) rfl) ?_
  refine FL.val rfl rfl rfl (E.move (v := v1) rfl) ?_
  obtain ⟨H21, S22, i23, h24, nv25⟩ := S0.sealRowU (i := 0) (l' := L) rfl p0 (by decide) rfl
  obtain ⟨r26, hr27, hp⟩ := bnd hp
  refine FL.call rfl rfl rfl (E.call Tryz.call211 (A2 rfl rfl)) (w_slices_IndexFunc_int_int S22.sl v0 a0 (h24.mono upI) v1 a1 (p1.mono i23) hr27) ?_
  rintro e w28 ⟨rfl, r29⟩
  refine ⟨_, rfl, ?_⟩
  have r29 := Run.lend i23 S0.sl r29
  have S30 := S0.call r29
  refine FL.val rfl rfl rfl (E.assign (v := Value.int .i64 r26) rfl) ?_
  refine FL.nil ?_
  refine FW.seq ?_
  refine FW.seq ?_
  refine FW.region ?_
  refine FL.val rfl rfl rfl (E.move (v := Value.int .i64 r26) rfl) ?_
  refine FL.val rfl rfl rfl (E.eql rfl rfl) ?_
  refine FL.nil ?_
  rcases ifB hp with ⟨c31, hp⟩ | ⟨c31, hp⟩
  ·
    refine FW.condT rfl c31 ?_
    refine FW.seq ?_
    refine FW.region ?_
    refine FL.val rfl rfl rfl (E.move (v := v0) rfl) ?_
    refine FL.val rfl rfl rfl (E.assign (v := v0) rfl) ?_
    refine FL.nil ?_
    refine FW.ret ?_
    obtain rfl := Option.some.inj hp
    exact ⟨.inr rfl, res1 rfl rfl ⟨_, _, _, _, rfl, ⟨S30, (Inc.rfl _)⟩, p0⟩⟩
  ·
    refine FW.condF rfl c31 ?_
    refine FW.skip ?_
    refine FW.seq ?_
    refine FW.seq ?_
    refine FW.region ?_
    refine FL.val rfl rfl rfl (E.move (v := Value.int .i64 r26) rfl) ?_
    refine FL.val rfl rfl rfl (E.add rfl rfl) ?_
    refine FL.val rfl rfl rfl (E.assign (v := Value.int .i64 (wr (r26 + 1))) rfl) ?_
    refine FL.nil ?_
    obtain ⟨q32, hq, hp⟩ := bndR hp
    refine FW.block ?_
    refine FW.mono (FW.iter (S := ((List Int) × Int × Int)) (X := Empty) (fun (s32 : ((List Int) × Int × Int)) f w => ∃ H : GH, ∃ cs78 : List Value, St H0 w0 H w (.row 3 1 v0 n0 cs78 :: L) ∧ Inc Ha H ∧ Els (up w0.heap.size H) eI 1 cs78 s32.1 ∧ f 0 = v0 ∧ f 1 = v1 ∧ f 5 = Value.int .i64 s32.2.1 ∧ f 6 = Value.int .i64 s32.2.2) (fun (q : Rs ((List Int) × Int × Int) Empty) e f w => match q with | .go s32 => e = Exit.exit 0 ∧ (∃ H : GH, ∃ cs78 : List Value, St H0 w0 H w (.row 3 1 v0 n0 cs78 :: L) ∧ Inc Ha H ∧ Els (up w0.heap.size H) eI 1 cs78 s32.1 ∧ f 0 = v0 ∧ f 5 = Value.int .i64 s32.2.1) | .rt x => x.elim) hq ⟨_, _, S30, (Inc.rfl _), p0, rfl, rfl, rfl, rfl⟩ ?_) ?_
    ·
      clear hp hq
      rintro s32 f129 w128 ⟨H125, cs78, S126, i127, els79, k130, k131, k132, k133⟩ o170 hp
      refine FW.seq ?_
      refine FW.seq ?_
      refine FW.region ?_
      refine FL.val rfl rfl rfl (E.move k133) ?_
      refine FL.val rfl rfl rfl (E.move k130) ?_
      refine FL.val rfl rfl rfl (E.lenO te39 rfl S126 (i := 0) rfl els79 (by decide)) ?_
      refine FL.val rfl rfl rfl (E.lss rfl rfl) ?_
      refine FL.nil ?_
      rcases ifB hp with ⟨c134, hp⟩ | ⟨c134, hp⟩
      ·
        refine FW.condT rfl c134 ?_
        refine FW.skip ?_
        refine FW.seq ?_
        refine FW.block ?_
        refine FW.seq ?_
        refine FW.region ?_
        refine FL.val rfl rfl rfl (E.move k130) ?_
        refine FL.val rfl rfl rfl (E.move k133) ?_
        obtain ⟨x141, hx142, hp⟩ := bnd hp
        obtain ⟨p135, cs136, pt137, l138, at139, rel140⟩ := S126.row_at (i := 0) rfl els79 (by decide) hx142
        obtain rfl := eI_open rel140
        refine FL.val rfl rfl rfl (E.indexAddr te39 rfl rfl pt137) ?_
        refine FL.val rfl rfl rfl (E.load rfl (run_load0 Tryz.isAgg3 at139 rfl)) ?_
        refine FL.val rfl rfl rfl (E.assign (v := Value.int .i64 x141) rfl) ?_
        refine FL.nil ?_
        refine FW.seq ?_
        refine FW.region ?_
        refine FL.val rfl rfl rfl (E.move k131) ?_
        refine FL.val rfl rfl rfl (E.move (v := Value.int .i64 x141) rfl) ?_
        obtain ⟨r143, hr144, hp⟩ := bnd hp
        obtain ⟨fi148, cs149, hv150, he151, hc152⟩ := (p1.mono i127) H125 w128 (Inc.rfl _) S126.sl x141 r143 hr144
        refine FL.call rfl rfl rfl (E.callV he151 (Eq.trans rfl hv150) (appA (A1 rfl) cs149)) hc152 ?_
        rintro e w145 ⟨rfl, r146⟩
        refine ⟨_, rfl, ?_⟩
        have S147 := S126.call r146
        refine FL.val rfl rfl rfl (E.not rfl) ?_
        refine FL.nil ?_
        rcases ifB hp with ⟨c153, hp⟩ | ⟨c153, hp⟩
        ·
          refine FW.condT rfl c153 ?_
          refine FW.seq ?_
          refine FW.region ?_
          refine FL.val rfl rfl rfl (E.move k130) ?_
          refine FL.val rfl rfl rfl (E.move k132) ?_
          refine FL.val rfl rfl rfl (E.move (v := Value.int .i64 x141) rfl) ?_
          obtain ⟨x160, hx161, hp⟩ := bnd hp
          obtain ⟨p154, cs155, pt156, l157, at158, rel159⟩ := S147.row_at (i := 0) rfl els79 (by decide) hx161
          obtain rfl := eI_open rel159
          refine FL.val rfl rfl rfl (E.indexAddr te39 rfl rfl pt156) ?_
          obtain ⟨xs165, hput166, hp⟩ := bnd hp
          obtain ⟨w162, cs168, run163, S164, els167, ce169⟩ := S147.putEls (P := Tryz.prog) (t := 3) (i := 0) rfl els79 hput166 pt156 Tryz.sizeOf3 (u := Value.int .i64 x141) (c := [Value.int .i64 x141]) rfl rfl (ones_cons rfl ones_nil) rfl
          have S164 : St H0 w0 H125 w162 (.row 3 1 v0 n0 cs168 :: L) := S164
          refine FL.act rfl rfl (E.store rfl rfl run163) ?_
          refine FL.nil ?_
          refine FW.region ?_
          refine FL.val rfl rfl rfl (E.move k132) ?_
          refine FL.val rfl rfl rfl (E.add rfl rfl) ?_
          refine FL.val rfl rfl rfl (E.assign (v := Value.int .i64 (wr (s32.2.1 + 1))) rfl) ?_
          refine FL.nil ?_
          refine FW.region ?_
          refine FL.val rfl rfl rfl (E.move k133) ?_
          refine FL.val rfl rfl rfl (E.add rfl rfl) ?_
          refine FL.val rfl rfl rfl (E.assign (v := Value.int .i64 (wr (s32.2.2 + 1))) rfl) ?_
          refine FL.nil ?_
          obtain rfl := Option.some.inj hp
          exact ⟨rfl, ⟨_, _, S164, i127, els167, k130, k131, rfl, rfl⟩⟩
        ·
          refine FW.condF rfl c153 ?_
          refine FW.skip ?_
          refine FW.region ?_
          refine FL.val rfl rfl rfl (E.move k133) ?_
          refine FL.val rfl rfl rfl (E.add rfl rfl) ?_
          refine FL.val rfl rfl rfl (E.assign (v := Value.int .i64 (wr (s32.2.2 + 1))) rfl) ?_
          refine FL.nil ?_
          obtain rfl := Option.some.inj hp
          exact ⟨rfl, ⟨_, _, S147, i127, els79, k130, k131, k132, rfl⟩⟩
      ·
        refine FW.condF rfl c134 ?_
        refine FW.exit ?_
        obtain rfl := Option.some.inj hp
        exact ⟨nofun, rfl, ⟨_, _, S126, i127, els79, k130, k132⟩⟩
    ·
      clear hq
      intro e f175 w174 hD
      rcases q32 with s32 | x32
      ·
        obtain ⟨rfl, hD⟩ := hD
        obtain ⟨H171, cs78, S172, i173, els79, k176, k177⟩ := hD
        replace hp := el_go hp
        refine FW.seq ?_
        refine FW.region ?_
        refine FL.val rfl rfl rfl (E.move k176) ?_
        refine FL.val rfl rfl rfl (E.move k177) ?_
        obtain ⟨xs178, hc179, hp⟩ := bnd hp
        obtain ⟨v180, run181, h182⟩ := S172.tail te39 (kk := .i64) (i := 0) rfl els79 hc179
        refine FL.val rfl rfl rfl (E.slice te39 rfl (congrArg some rfl) rfl rfl (run181 _)) ?_
        obtain ⟨w183, cs184, run185, S186, els187⟩ := S172.clearTail (P := Tryz.prog) te39 (i := 0) rfl els79 h182 rfl (ones_cons rfl ones_nil)
        have S186 : St H0 w0 H171 w183 (.row 3 1 v0 n0 cs184 :: L) := S186
        refine FL.val0 rfl rfl (E.clear rfl run185) ?_
        refine FL.nil ?_
        refine FW.seq ?_
        refine FW.region ?_
        refine FL.val rfl rfl rfl (E.move k176) ?_
        refine FL.val rfl rfl rfl (E.move k177) ?_
        obtain ⟨xs188, hc189, hp⟩ := bnd hp
        obtain ⟨v190, n191, cs192, run193, S194, els195, nd196⟩ := S186.cutRow te39 (kk := .i64) (i := 0) rfl els187 hc189
        have S194 : St H0 w0 H171 w183 (.row 3 1 v190 n191 cs192 :: L) := S194
        refine FL.val rfl rfl rfl (E.slice te39 rfl rfl (congrArg some rfl) rfl (run193 _)) ?_
        refine FL.val rfl rfl rfl (E.assign (v := v190) rfl) ?_
        refine FL.nil ?_
        refine FW.ret ?_
        obtain rfl := Option.some.inj hp
        exact ⟨.inr rfl, res1 rfl rfl ⟨_, _, _, _, rfl, ⟨S194, i173⟩, els195⟩⟩
      · exact x32.elim

theorem w_impl_withoutVar_1 {Ha : GH} {wa : World} (hs : Sl Ha wa) (a0 : Int) (q0 : Addr) (b0 : Int) (c0 : CAt Ha q0 [Value.int .i64 b0]) :
    Calls Tryz.prog 252 #[Value.int .i64 a0, Value.pointer (some q0)] wa (Sc Ha wa (Value.bool (PF.impl_withoutVar_1 a0 b0))) := by
  obtain ⟨r, hp⟩ : ∃ r, (PF.impl_withoutVar_1 a0 b0) = r := ⟨_, rfl⟩
  rw [hp]
  unfold PF.impl_withoutVar_1 at hp
  have S0 := St.init hs
  refine calls_go (N := 8) (args := [Value.int .i64 a0, Value.pointer (some q0)]) Tryz.func252 rfl rfl rfl ?_
  refine FW.seq ?_
  refine FW.region ?_
  refine FL.val rfl rfl rfl (E.assign (v := Value.bool false) rfl) ?_
  refine FL.nil ?_
  refine FW.seq ?_
  refine FW.draw (fun w' => Run wa.heap.size Ha wa Ha w') (by kernel_rfl) (by kernel_rfl) (run_drew S0.sl) ?_
  refine FD.val rfl rfl rfl (fun w' hw' => (E.move (v := Value.int .i64 a0) rfl)) ?_
  refine FD.call rfl rfl rfl (fun w' hw' => (E.call Tryz.call158 (A1 rfl))) (fun w' hw' => Calls.cls hw' (w_impl_abs (S0.call hw').sl a0)) ?_
  refine FD.val rfl rfl rfl (fun w' hw' => (E.load rfl (run_load0 Tryz.isAgg3 (c0.now (S0.call hw').sl) rfl))) ?_
  refine FD.val rfl rfl rfl (fun w' hw' => (E.eql rfl rfl)) ?_
  refine FD.val rfl rfl rfl (fun w' hw' => (E.assign (v := Value.bool ((PF.impl_abs a0) == b0)) rfl)) ?_
  refine FD.nil ?_
  intro w22 r24
  have S23 := S0.call r24
  refine FW.ret ?_
  obtain rfl := hp
  exact ⟨.inr rfl, res1 rfl rfl ⟨rfl, S23.back⟩⟩

@[reducible] def p_impl_withoutVar (Ha : GH) (wa : World) (r : (List Int)) : Ending → World → Prop :=
  fun e w' => ∃ H' : GH, ∃ v0 : Value, ∃ n0 : Nat, ∃ c0 : List Value, e = .returned (v0) ∧ St Ha wa H' w' [.row 3 1 v0 n0 c0] ∧ Els (up wa.heap.size H') eI 1 c0 r
theorem w_impl_withoutVar {Ha : GH} {wa : World} (hs : Sl Ha wa) (v0 : Value) (a0 : List Int) (p0 : RSl Ha eI 1 v0 a0) (a1 : Int) {r : (List Int)} (hp : (PF.impl_withoutVar a0 a1) = some r) :
    Calls Tryz.prog 222 #[v0, Value.int .i64 a1] wa (p_impl_withoutVar Ha wa r) := by
  unfold PF.impl_withoutVar at hp
  have S0 := St.init hs
  refine calls_go (N := 9) (args := [v0, Value.int .i64 a1]) Tryz.func222 rfl rfl rfl ?_
  refine FW.seq ?_
  refine FW.region ?_
  obtain ⟨b21, w22, run23, S24⟩ := S0.box (P := Tryz.prog) 3 [Value.int .i64 a1] (v := Value.int .i64 a1) rfl (ones_cons rfl ones_nil)
  refine FL.val rfl rfl rfl (E.box rfl run23) ?_
  obtain ⟨H25, S26, i27, at28⟩ := S24.sealBox (i := 0) (l' := []) rfl rfl
  refine FL.val rfl rfl rfl (E.assign (v := Value.slice none 0 0) rfl) ?_
  refine FL.nil ?_
  refine FW.seq ?_
  refine FW.region ?_
  refine FL.val rfl rfl rfl (E.move (v := v0) rfl) ?_
  obtain ⟨r29, hr30, hp⟩ := bnd hp
  refine FL.call rfl rfl rfl (E.call Tryz.call160 (A1 rfl)) (w_slices_Clone_int_int S26.sl v0 a0 (p0.mono i27) hr30) ?_
  rintro e w32 ⟨H31, v35, n36, cs37, rfl, r34, els38⟩
  refine ⟨_, rfl, ?_⟩
  have els38 := els38.mono (up_le S26.size)
  have S33 := S26.join (l' := [.row 3 1 v35 n36 cs37]) r34 rfl
  refine FL.val rfl rfl rfl (E.makeFunc A0 (A1 rfl)) ?_
  obtain ⟨r39, hr40, hp⟩ := bnd hp
  refine FL.call rfl rfl rfl (E.call Tryz.call159 (A2 rfl rfl)) (w_slices_DeleteFunc_int_int (L := []) S33 r29 els38 (Value.func (.func 252) #[] #[Value.pointer (some ⟨b21, 0, none⟩)]) (fun x0 => some (PF.impl_withoutVar_1 x0 a1)) (fun H2 w2 hi2 hs2 x0 r hr => ⟨252, #[Value.pointer (some ⟨b21, 0, none⟩)], rfl, Tryz.call252, by cases hr; exact w_impl_withoutVar_1 hs2 x0 ⟨b21, 0, none⟩ a1 ((at28.mono r34.run.inc).mono hi2)⟩) hr40) ?_
  rintro e w42 ⟨H41, v45, n46, cs47, rfl, ⟨S43, i44⟩, els48⟩
  refine ⟨_, rfl, ?_⟩
  have S43 : St Ha wa H41 w42 [.row 3 1 v45 n46 cs47] := S43
  refine FL.val rfl rfl rfl (E.assign (v := v45) rfl) ?_
  refine FL.nil ?_
  refine FW.ret ?_
  obtain rfl := Option.some.inj hp
  exact ⟨.inr rfl, res1 rfl rfl ⟨_, _, _, _, rfl, S43, els48⟩⟩

@[reducible] def p_slices_Grow_int_int (Ha : GH) (wa : World) (r : List Int) : Ending → World → Prop :=
  fun e w' => ∃ H' : GH, ∃ v0 : Value, ∃ n0 : Nat, ∃ c0 : List Value, e = .returned (v0) ∧ St Ha wa H' w' [.row 3 1 v0 n0 c0] ∧ Els (up wa.heap.size H') eI 1 c0 r
theorem w_slices_Grow_int_int {Ha : GH} {wa : World} (hs : Sl Ha wa) (a1 : Int) {r : List Int} (hp : PF.slices_Grow_int_int a1 = some r) :
    Calls Tryz.prog 267 #[.slice none 0 0, .int .i64 a1] wa (p_slices_Grow_int_int Ha wa r) := by
  unfold PF.slices_Grow_int_int at hp
  split at hp
  · rename_i h
    cases hp
    refine (growNil (En := eI) te39 hs h.1 h.2 (fun w => Any8.slices_Grow_room (P := Tryz.prog) Tryz.grow267 none 0 0 0 w (Nat.le_refl _) (by decide) (by decide) (by decide))
      (fun n w h0 hl => ?_)).mono ?_
    · have h := Any8.slices_Grow_grow (P := Tryz.prog) Tryz.grow267 _ _ Tryz.type3 rfl (by decide) none 0 0 n [] w (Nat.le_refl _) (by omega) ?_ (by unfold lim at hl; omega) (by simp) (fun _ => rfl) (by simp)
      · refine h.mono ?_
        rintro _ _ ⟨rfl, rfl⟩
        refine ⟨by simp; rfl, ?_⟩
        simp
        rfl
      · rw [Nat.zero_add]; refine Nat.le_trans (Nat.mul_le_mul hl (show _ ≤ 4096 by decide)) (by decide)
    · rintro e w' ⟨v, n, c, rfl, h1, h2⟩
      exact ⟨_, _, _, _, rfl, h1, h2 _⟩
  · cases hp

@[reducible] def p_slices_Concat_int_int (Ha : GH) (wa : World) (r : (List Int)) : Ending → World → Prop :=
  fun e w' => ∃ H' : GH, ∃ v0 : Value, ∃ n0 : Nat, ∃ c0 : List Value, e = .returned (v0) ∧ St Ha wa H' w' [.row 3 1 v0 n0 c0] ∧ Els (up wa.heap.size H') eI 1 c0 r
theorem w_slices_Concat_int_int {Ha : GH} {wa : World} (hs : Sl Ha wa) (v0 : Value) (a0 : List (List Int)) (p0 : RSl Ha (eL eI 1) 1 v0 a0) {r : (List Int)} (hp : (PF.slices_Concat_int_int a0) = some r) :
    Calls Tryz.prog 250 #[v0] wa (p_slices_Concat_int_int Ha wa r) := by
  unfold PF.slices_Concat_int_int at hp
  have S0 := St.init hs
  refine calls_go (N := 36) (args := [v0]) Tryz.func250 rfl rfl rfl ?_
  refine FW.seq ?_
  refine FW.region ?_
  refine FL.val rfl rfl rfl (E.assign (v := Value.slice none 0 0) rfl) ?_
  refine FL.nil ?_
  refine FW.seq ?_
  refine FW.region ?_
  refine FL.val rfl rfl rfl (E.assign (v := Value.int .i64 0) rfl) ?_
  refine FL.nil ?_
  refine FW.seq ?_
  refine FW.seq ?_
  refine FW.region ?_
  refine FL.val rfl rfl rfl (E.move (v := v0) rfl) ?_
  refine FL.val rfl rfl rfl (E.lenP te22 rfl p0) ?_
  refine FL.val rfl rfl rfl (E.move (v := Value.int .i64 0) rfl) ?_
  refine FL.nil ?_
  obtain ⟨q22, hq, hp⟩ := bndR hp
  refine FW.block ?_
  refine FW.mono (FW.forL (S := Int) (X := Empty) (fun (i22 : Nat) (s22 : Int) f w => ∃ H : GH, St Ha wa H w [] ∧ Inc Ha H ∧ f 11 = Value.int .i64 ((i22 : Nat) : Int) ∧ f 0 = v0 ∧ f 3 = Value.int .i64 s22 ∧ f 9 = v0 ∧ f 10 = Value.int .i64 (len a0)) (fun (q : Rs Int Empty) e f w => match q with | .go s22 => e = Exit.exit 0 ∧ (∃ H : GH, St Ha wa H w [] ∧ Inc Ha H ∧ f 0 = v0 ∧ f 3 = Value.int .i64 s22) | .rt x => x.elim) hq ⟨_, S0, (Inc.rfl _), rfl, rfl, rfl, rfl, rfl⟩ ?_ ?_) ?_
  ·
    clear hp hq
    rintro i22 y21 s22 f46 w45 ⟨H42, S43, i44, k47, k48, k49, k50, k51⟩ hx22 o61 hp
    refine FW.seq ?_
    refine FW.region ?_
    refine FL.val rfl rfl rfl (E.lssT k47 k51 (lss_len hx22)) ?_
    refine FL.nil ?_
    refine FW.seq ?_
    refine FW.condT rfl rfl ?_
    refine FW.skip ?_
    refine FW.seq ?_
    refine FW.block ?_
    refine FW.seq ?_
    refine FW.region ?_
    obtain ⟨p52, cs53, pt54, l55, at56, rel57⟩ := p0.at (ix_nat hx22)
    obtain ⟨v58, rfl, h59⟩ := eL_open rel57
    refine FL.val rfl rfl rfl (E.indexAddr te22 k50 k47 pt54) ?_
    refine FL.val rfl rfl rfl (E.load rfl (run_load0 Tryz.isAgg39 ((at56.mono i44).now S43.sl) rfl)) ?_
    refine FL.val rfl rfl rfl (E.assign (v := v58) rfl) ?_
    refine FL.nil ?_
    refine FW.seq ?_
    refine FW.region ?_
    refine FL.val rfl rfl rfl (E.move k49) ?_
    refine FL.val rfl rfl rfl (E.move (v := v58) rfl) ?_
    refine FL.val rfl rfl rfl (E.lenP te39 rfl h59) ?_
    refine FL.val rfl rfl rfl (E.add rfl rfl) ?_
    refine FL.val rfl rfl rfl (E.assign (v := Value.int .i64 (wr (s22 + (len y21)))) rfl) ?_
    refine FL.nil ?_
    refine FW.seq ?_
    refine FW.region ?_
    refine FL.val rfl rfl rfl (E.move (v := Value.int .i64 (wr (s22 + (len y21)))) rfl) ?_
    refine FL.val rfl rfl rfl (E.lss rfl rfl) ?_
    refine FL.nil ?_
    rcases ifB hp with ⟨c60, hp⟩ | ⟨c60, hp⟩
    ·
      refine FW.condT rfl c60 ?_
      cases hp
    ·
      refine FW.condF rfl c60 ?_
      refine FW.skip ?_
      refine FW.region ?_
      refine FL.val rfl rfl rfl (E.add k47 rfl) ?_
      refine FL.val rfl rfl rfl (E.move (v := Value.int .i64 (wr (((i22 : Nat) : Int) + 1))) rfl) ?_
      refine FL.nil ?_
      obtain rfl := Option.some.inj hp
      exact ⟨rfl, ⟨_, S43, i44, (nat_succ rfl (lt_of_get hx22) (p0.mono i44).le), k48, rfl, k50, k51⟩⟩
  ·
    clear hp hq
    rintro s22 f159 w158 ⟨H155, S156, i157, k160, k161, k162, k163, k164⟩
    refine FW.seq ?_
    refine FW.region ?_
    refine FL.val rfl rfl rfl (E.lss k160 k164) ?_
    refine FL.nil ?_
    refine FW.seq ?_
    refine FW.condF rfl dlt_len ?_
    refine FW.exit ?_
    exact ⟨nofun, rfl, ⟨_, S156, i157, k161, k162⟩⟩
  ·
    clear hq
    intro e f66 w65 hD
    rcases q22 with s22 | x22
    ·
      obtain ⟨rfl, hD⟩ := hD
      obtain ⟨H62, S63, i64, k67, k68⟩ := hD
      replace hp := el_go hp
      refine FW.seq ?_
      refine FW.region ?_
      refine FL.val rfl rfl rfl (E.move k68) ?_
      obtain ⟨r69, hr70, hp⟩ := bnd hp
      refine FL.call rfl rfl rfl (E.call Tryz.call267 (A2 rfl rfl)) (w_slices_Grow_int_int S63.sl s22 hr70) ?_
      rintro e w72 ⟨H71, v75, n76, cs77, rfl, r74, els78⟩
      refine ⟨_, rfl, ?_⟩
      have els78 := els78.mono (up_le S63.size)
      have S73 := S63.join (l' := [.row 3 1 v75 n76 cs77]) r74 rfl
      refine FL.val rfl rfl rfl (E.assign (v := v75) rfl) ?_
      refine FL.nil ?_
      refine FW.seq ?_
      refine FW.seq ?_
      refine FW.region ?_
      refine FL.val rfl rfl rfl (E.move k67) ?_
      refine FL.val rfl rfl rfl (E.lenP te22 rfl p0) ?_
      refine FL.val rfl rfl rfl (E.move (v := Value.int .i64 0) rfl) ?_
      refine FL.nil ?_
      obtain ⟨q80, hq, hp⟩ := bndR hp
      refine FW.block ?_
      refine FW.mono (FW.forL (S := (List Int)) (X := Empty) (fun (i80 : Nat) (s80 : (List Int)) f w => ∃ H : GH, ∃ v81 : Value, ∃ n82 : Nat, ∃ cs83 : List Value, St Ha wa H w [.row 3 1 v81 n82 cs83] ∧ Inc H71 H ∧ Els (up wa.heap.size H) eI 1 cs83 s80 ∧ f 27 = Value.int .i64 ((i80 : Nat) : Int) ∧ f 6 = v81 ∧ f 25 = v0 ∧ f 26 = Value.int .i64 (len a0)) (fun (q : Rs (List Int) Empty) e f w => match q with | .go s80 => e = Exit.exit 2 ∧ (∃ H : GH, ∃ v81 : Value, ∃ n82 : Nat, ∃ cs83 : List Value, St Ha wa H w [.row 3 1 v81 n82 cs83] ∧ Inc H71 H ∧ Els (up wa.heap.size H) eI 1 cs83 s80 ∧ f 6 = v81) | .rt x => x.elim) hq ⟨_, _, _, _, S73, (Inc.rfl _), els78, rfl, rfl, rfl, rfl⟩ ?_ ?_) ?_
      ·
        clear hp hq
        rintro i80 y79 s80 f116 w115 ⟨H112, v81, n82, cs83, S113, i114, els84, k117, k118, k119, k120⟩ hx80 o139 hp
        refine FW.seq ?_
        refine FW.region ?_
        refine FL.val rfl rfl rfl (E.lssT k117 k120 (lss_len hx80)) ?_
        refine FL.nil ?_
        refine FW.seq ?_
        refine FW.condT rfl rfl ?_
        refine FW.skip ?_
        refine FW.seq ?_
        refine FW.block ?_
        refine FW.seq ?_
        refine FW.region ?_
        obtain ⟨p121, cs122, pt123, l124, at125, rel126⟩ := p0.at (ix_nat hx80)
        obtain ⟨v127, rfl, h128⟩ := eL_open rel126
        refine FL.val rfl rfl rfl (E.indexAddr te22 k119 k117 pt123) ?_
        refine FL.val rfl rfl rfl (E.load rfl (run_load0 Tryz.isAgg39 ((at125.mono ((i64.tr r74.run.inc).tr i114)).now S113.sl) rfl)) ?_
        refine FL.val rfl rfl rfl (E.assign (v := v127) rfl) ?_
        refine FL.nil ?_
        refine FW.region ?_
        refine FL.val rfl rfl rfl (E.move k118) ?_
        refine FL.val rfl rfl rfl (E.move (v := v127) rfl) ?_
        obtain ⟨xs129, hz130, hp⟩ := bnd hp
        obtain ⟨v131, w134, n132, cs133, run135, S136, els137⟩ := S113.appendP (P := Tryz.prog) (Inc.rfl _) te39 (i := 0) rfl (els84.mono upI) (h128.mono ((i64.tr r74.run.inc).tr i114)) hz130
        have S136 : St Ha wa H112 w134 [.row 3 1 v131 n132 cs133] := S136
        have els137 : Els (up wa.heap.size H112) eI 1 cs133 xs129 := els137.any (fun _ _ _ _ h => h)
        refine FL.val rfl rfl rfl (E.append rfl rfl run135) ?_
        refine FL.val rfl rfl rfl (E.assign (v := v131) rfl) ?_
        refine FL.nil ?_
        refine FW.region ?_
        refine FL.val rfl rfl rfl (E.add k117 rfl) ?_
        refine FL.val rfl rfl rfl (E.move (v := Value.int .i64 (wr (((i80 : Nat) : Int) + 1))) rfl) ?_
        refine FL.nil ?_
        obtain rfl := Option.some.inj hp
        exact ⟨rfl, ⟨_, _, _, _, S136, i114, els137, (nat_succ rfl (lt_of_get hx80) (p0.mono ((i64.tr r74.run.inc).tr i114)).le), rfl, k119, k120⟩⟩
      ·
        clear hp hq
        rintro s80 f150 w149 ⟨H146, v81, n82, cs83, S147, i148, els84, k151, k152, k153, k154⟩
        refine FW.seq ?_
        refine FW.region ?_
        refine FL.val rfl rfl rfl (E.lss k151 k154) ?_
        refine FL.nil ?_
        refine FW.seq ?_
        refine FW.condF rfl dlt_len ?_
        refine FW.exit ?_
        exact ⟨nofun, rfl, ⟨_, _, _, _, S147, i148, els84, k152⟩⟩
      ·
        clear hq
        intro e f144 w143 hD
        rcases q80 with s80 | x80
        ·
          obtain ⟨rfl, hD⟩ := hD
          obtain ⟨H140, v81, n82, cs83, S141, i142, els84, k145⟩ := hD
          replace hp := el_go hp
          refine FW.seq ?_
          refine FW.region ?_
          refine FL.val rfl rfl rfl (E.move k145) ?_
          refine FL.val rfl rfl rfl (E.assign (v := v81) rfl) ?_
          refine FL.nil ?_
          refine FW.ret ?_
          obtain rfl := Option.some.inj hp
          exact ⟨.inr rfl, res1 rfl rfl ⟨_, _, _, _, rfl, S141, els84⟩⟩
        · exact x80.elim
    · exact x22.elim

@[reducible] def p_slices_SortFunc_int_int (H0 : GH) (w0 : World) (Ha : GH) (L : List MO) (v0 : Value) (n0 : Nat) (r : (List Int)) : Ending → World → Prop :=
  fun e w' => ∃ H' : GH, ∃ c0k : List Value, e = .returned (Value.tuple #[]) ∧ (St H0 w0 H' w' (.row 3 1 v0 n0 c0k :: L) ∧ Inc Ha H') ∧ Els (up w0.heap.size H') eI 1 c0k r
theorem w_slices_SortFunc_int_int {H0 Ha : GH} {w0 wa : World} {L : List MO} {v0 : Value} {n0 : Nat} {k0 : List Value} (S0 : St H0 w0 Ha wa (.row 3 1 v0 n0 k0 :: L)) (a0 : List Int) (p0 : Els (up w0.heap.size Ha) eI 1 k0 a0) (v1 : Value) (a1 : Int → Int → Option Int) (p1 : Fn_I_I_to_I Tryz.prog Ha v1 a1) {r : (List Int)} (hp : (PF.slices_SortFunc_int_int a0 a1) = some r) :
    Calls Tryz.prog 264 #[v0, v1] wa (p_slices_SortFunc_int_int H0 w0 Ha L v0 n0 r) := by
  refine (St.sortF (l := .row 3 1 v0 n0 k0 :: L) (i := 0) upI S0 rfl p0 (fun H2 w2 hi hs2 c x hc d y hd r hr => by cases eI_open hc; cases eI_open hd; exact p1 H2 w2 hi hs2 x y r hr) (fun p cap fv w => AnyF.slices_SortFunc_none (P := Tryz.prog) (ρ := Tryz.sort264_ren) { Tryz.sort264 with } p cap fv w) (fun α _ enc h1 cf hO g cb blk off cap d w eg hc hH hb hs => Any.slices_SortFunc Tryz.sort264 enc h1 cf hO g cb blk off cap d w eg hc hH hb hs) hp).mono ?_
  rintro e w' ⟨rfl, c', h1, h2⟩
  exact ⟨_, _, rfl, ⟨h1, Inc.rfl _⟩, h2⟩

theorem w_cmp_isNaN_int {Ha : GH} {wa : World} (hs : Sl Ha wa) (a0 : Int) :
    Calls Tryz.prog 281 #[Value.int .i64 a0] wa (Sc Ha wa (Value.bool (PF.cmp_isNaN_int a0))) := by
  obtain ⟨r, hp⟩ : ∃ r, (PF.cmp_isNaN_int a0) = r := ⟨_, rfl⟩
  rw [hp]
  unfold PF.cmp_isNaN_int at hp
  have S0 := St.init hs
  refine calls_go (N := 6) (args := [Value.int .i64 a0]) Tryz.func281 rfl rfl rfl ?_
  refine FW.seq ?_
  refine FW.region ?_
  refine FL.val rfl rfl rfl (E.assign (v := Value.bool false) rfl) ?_
  refine FL.nil ?_
  refine FW.seq ?_
  refine FW.region ?_
  refine FL.val rfl rfl rfl (E.move (v := Value.int .i64 a0) rfl) ?_
  refine FL.val rfl rfl rfl (E.move (v := Value.int .i64 a0) rfl) ?_
  refine FL.val rfl rfl rfl (E.neq rfl rfl) ?_
  refine FL.val rfl rfl rfl (E.assign (v := Value.bool (!(a0 == a0))) rfl) ?_
  refine FL.nil ?_
  refine FW.ret ?_
  obtain rfl := hp
  exact ⟨.inr rfl, res1 rfl rfl ⟨rfl, S0.back⟩⟩

theorem w_cmp_Compare_int {Ha : GH} {wa : World} (hs : Sl Ha wa) (a0 : Int) (a1 : Int) :
    Calls Tryz.prog 261 #[Value.int .i64 a0, Value.int .i64 a1] wa (Sc Ha wa (Value.int .i64 (PF.cmp_Compare_int a0 a1))) := by
  obtain ⟨r, hp⟩ : ∃ r, (PF.cmp_Compare_int a0 a1) = r := ⟨_, rfl⟩
  rw [hp]
  unfold PF.cmp_Compare_int at hp
  have S0 := St.init hs
  refine calls_go (N := 20) (args := [Value.int .i64 a0, Value.int .i64 a1]) Tryz.func261 rfl rfl rfl ?_
  refine FW.seq ?_
  refine FW.region ?_
  refine FL.val rfl rfl rfl (E.assign (v := Value.int .i64 0) rfl) ?_
  refine FL.nil ?_
  refine FW.seq ?_
  refine FW.region ?_
  refine FL.val rfl rfl rfl (E.move (v := Value.int .i64 a0) rfl) ?_
  refine FL.call rfl rfl rfl (E.call Tryz.call281 (A1 rfl)) (w_cmp_isNaN_int S0.sl a0) ?_
  rintro e w21 ⟨rfl, r22⟩
  refine ⟨_, rfl, ?_⟩
  have S23 := S0.call r22
  refine FL.val rfl rfl rfl (E.assign (v := Value.bool (PF.cmp_isNaN_int a0)) rfl) ?_
  refine FL.nil ?_
  refine FW.seq ?_
  refine FW.region ?_
  refine FL.val rfl rfl rfl (E.move (v := Value.int .i64 a1) rfl) ?_
  refine FL.call rfl rfl rfl (E.call Tryz.call281 (A1 rfl)) (w_cmp_isNaN_int S23.sl a1) ?_
  rintro e w24 ⟨rfl, r25⟩
  refine ⟨_, rfl, ?_⟩
  have S26 := S23.call r25
  refine FL.val rfl rfl rfl (E.assign (v := Value.bool (PF.cmp_isNaN_int a1)) rfl) ?_
  refine FL.nil ?_
  refine FW.seq ?_
  refine FW.seq ?_
  refine FW.region ?_
  refine FL.val rfl rfl rfl (E.move (v := Value.bool (PF.cmp_isNaN_int a0)) rfl) ?_
  refine FL.nil ?_
  rcases ifT hp with ⟨c27, hp⟩ | ⟨c27, hp⟩
  ·
    refine FW.condT rfl c27 ?_
    refine FW.seq ?_
    refine FW.seq ?_
    refine FW.region ?_
    refine FL.val rfl rfl rfl (E.move (v := Value.bool (PF.cmp_isNaN_int a1)) rfl) ?_
    refine FL.nil ?_
    rcases ifT hp with ⟨c28, hp⟩ | ⟨c28, hp⟩
    ·
      refine FW.condT rfl c28 ?_
      refine FW.seq ?_
      refine FW.region ?_
      refine FL.val rfl rfl rfl (E.assign (v := Value.int .i64 0) rfl) ?_
      refine FL.nil ?_
      refine FW.ret ?_
      obtain rfl := hp
      exact ⟨.inr rfl, res1 rfl rfl ⟨rfl, S26.back⟩⟩
    ·
      refine FW.condF rfl c28 ?_
      refine FW.skip ?_
      refine FW.seq ?_
      refine FW.region ?_
      refine FL.val rfl rfl rfl (E.assign (v := Value.int .i64 (-1)) rfl) ?_
      refine FL.nil ?_
      refine FW.ret ?_
      obtain rfl := hp
      exact ⟨.inr rfl, res1 rfl rfl ⟨rfl, S26.back⟩⟩
  ·
    refine FW.condF rfl c27 ?_
    refine FW.skip ?_
    refine FW.seq ?_
    refine FW.seq ?_
    refine FW.region ?_
    refine FL.val rfl rfl rfl (E.move (v := Value.bool (PF.cmp_isNaN_int a1)) rfl) ?_
    refine FL.nil ?_
    rcases ifT hp with ⟨c29, hp⟩ | ⟨c29, hp⟩
    ·
      refine FW.condT rfl c29 ?_
      refine FW.seq ?_
      refine FW.region ?_
      refine FL.val rfl rfl rfl (E.assign (v := Value.int .i64 1) rfl) ?_
      refine FL.nil ?_
      refine FW.ret ?_
      obtain rfl := hp
      exact ⟨.inr rfl, res1 rfl rfl ⟨rfl, S26.back⟩⟩
    ·
      refine FW.condF rfl c29 ?_
      refine FW.skip ?_
      refine FW.seq ?_
      refine FW.seq ?_
      refine FW.region ?_
      refine FL.val rfl rfl rfl (E.move (v := Value.int .i64 a0) rfl) ?_
      refine FL.val rfl rfl rfl (E.move (v := Value.int .i64 a1) rfl) ?_
      refine FL.val rfl rfl rfl (E.lss rfl rfl) ?_
      refine FL.nil ?_
      rcases ifT hp with ⟨c30, hp⟩ | ⟨c30, hp⟩
      ·
        refine FW.condT rfl c30 ?_
        refine FW.seq ?_
        refine FW.region ?_
        refine FL.val rfl rfl rfl (E.assign (v := Value.int .i64 (-1)) rfl) ?_
        refine FL.nil ?_
        refine FW.ret ?_
        obtain rfl := hp
        exact ⟨.inr rfl, res1 rfl rfl ⟨rfl, S26.back⟩⟩
      ·
        refine FW.condF rfl c30 ?_
        refine FW.skip ?_
        refine FW.seq ?_
        refine FW.seq ?_
        refine FW.region ?_
        refine FL.val rfl rfl rfl (E.move (v := Value.int .i64 a0) rfl) ?_
        refine FL.val rfl rfl rfl (E.move (v := Value.int .i64 a1) rfl) ?_
        refine FL.val rfl rfl rfl (E.gtr rfl rfl) ?_
        refine FL.nil ?_
        rcases ifT hp with ⟨c31, hp⟩ | ⟨c31, hp⟩
        ·
          refine FW.condT rfl c31 ?_
          refine FW.seq ?_
          refine FW.region ?_
          refine FL.val rfl rfl rfl (E.assign (v := Value.int .i64 1) rfl) ?_
          refine FL.nil ?_
          refine FW.ret ?_
          obtain rfl := hp
          exact ⟨.inr rfl, res1 rfl rfl ⟨rfl, S26.back⟩⟩
        ·
          refine FW.condF rfl c31 ?_
          refine FW.skip ?_
          refine FW.seq ?_
          refine FW.region ?_
          refine FL.val rfl rfl rfl (E.assign (v := Value.int .i64 0) rfl) ?_
          refine FL.nil ?_
          refine FW.ret ?_
          obtain rfl := hp
          exact ⟨.inr rfl, res1 rfl rfl ⟨rfl, S26.back⟩⟩

theorem w_cmp_Or_int {Ha : GH} {wa : World} (hs : Sl Ha wa) (v0 : Value) (a0 : List Int) (p0 : RSl Ha eI 1 v0 a0) {r : Int} (hp : (PF.cmp_Or_int a0) = some r) :
    Calls Tryz.prog 260 #[v0] wa (Sc Ha wa (Value.int .i64 r)) := by
  unfold PF.cmp_Or_int at hp
  have S0 := St.init hs
  refine calls_go (N := 18) (args := [v0]) Tryz.func260 rfl rfl rfl ?_
  refine FW.seq ?_
  refine FW.region ?_
  refine FL.val rfl rfl rfl (E.assign (v := Value.int .i64 0) rfl) ?_
  refine FL.nil ?_
  refine FW.seq ?_
  refine FW.region ?_
  refine FL.val rfl rfl rfl (E.assign (v := Value.int .i64 0) rfl) ?_
  refine FL.nil ?_
  refine FW.seq ?_
  refine FW.seq ?_
  refine FW.region ?_
  refine FL.val rfl rfl rfl (E.move (v := v0) rfl) ?_
  refine FL.val rfl rfl rfl (E.lenP te39 rfl p0) ?_
  refine FL.val rfl rfl rfl (E.move (v := Value.int .i64 0) rfl) ?_
  refine FL.nil ?_
  obtain ⟨q22, hq, hp⟩ := bndR hp
  refine FW.block ?_
  refine FW.mono (FW.forL (S := Unit) (X := Int) (fun (i22 : Nat) (s22 : Unit) f w => ∃ H : GH, St Ha wa H w [] ∧ Inc Ha H ∧ f 8 = Value.int .i64 ((i22 : Nat) : Int) ∧ f 3 = Value.int .i64 0 ∧ f 6 = v0 ∧ f 7 = Value.int .i64 (len a0)) (fun q e f w => match q with | .go s22 => e = Exit.exit 0 ∧ (∃ H : GH, St Ha wa H w [] ∧ Inc Ha H ∧ f 3 = Value.int .i64 0) | .rt x => ((e = Exit.ret) ∧ (fun e f w => (e = Exit.normal ∨ e = Exit.ret) ∧ ∀ a, Fr (δ := []) 18 a f → ∃ v, (results Tryz.f260 a.tmps).run Tryz.prog w = .ok v w ∧ (Sc Ha wa (Value.int .i64 x)) (.returned v) w) e f w)) hq ⟨_, S0, (Inc.rfl _), rfl, rfl, rfl, rfl⟩ ?_ ?_) ?_
  ·
    clear hp hq
    rintro i22 y21 s22 f43 w42 ⟨H39, S40, i41, k44, k45, k46, k47⟩ hx22 o55 hp
    refine FW.seq ?_
    refine FW.region ?_
    refine FL.val rfl rfl rfl (E.lssT k44 k47 (lss_len hx22)) ?_
    refine FL.nil ?_
    refine FW.seq ?_
    refine FW.condT rfl rfl ?_
    refine FW.skip ?_
    refine FW.seq ?_
    refine FW.block ?_
    refine FW.seq ?_
    refine FW.region ?_
    obtain ⟨p48, cs49, pt50, l51, at52, rel53⟩ := p0.at (ix_nat hx22)
    obtain rfl := eI_open rel53
    refine FL.val rfl rfl rfl (E.indexAddr te39 k46 k44 pt50) ?_
    refine FL.val rfl rfl rfl (E.load rfl (run_load0 Tryz.isAgg3 ((at52.mono i41).now S40.sl) rfl)) ?_
    refine FL.val rfl rfl rfl (E.assign (v := Value.int .i64 y21) rfl) ?_
    refine FL.nil ?_
    refine FW.seq ?_
    refine FW.region ?_
    refine FL.val rfl rfl rfl (E.move (v := Value.int .i64 y21) rfl) ?_
    refine FL.val rfl rfl rfl (E.move k45) ?_
    refine FL.val rfl rfl rfl (E.neq rfl rfl) ?_
    refine FL.nil ?_
    rcases ifB hp with ⟨c54, hp⟩ | ⟨c54, hp⟩
    ·
      refine FW.condT rfl c54 ?_
      refine FW.seq ?_
      refine FW.region ?_
      refine FL.val rfl rfl rfl (E.move (v := Value.int .i64 y21) rfl) ?_
      refine FL.val rfl rfl rfl (E.assign (v := Value.int .i64 y21) rfl) ?_
      refine FL.nil ?_
      refine FW.ret ?_
      obtain rfl := Option.some.inj hp
      exact ⟨nofun, rfl, ⟨.inr rfl, res1 rfl rfl ⟨rfl, S40.back⟩⟩⟩
    ·
      refine FW.condF rfl c54 ?_
      refine FW.skip ?_
      refine FW.region ?_
      refine FL.val rfl rfl rfl (E.add k44 rfl) ?_
      refine FL.val rfl rfl rfl (E.move (v := Value.int .i64 (wr (((i22 : Nat) : Int) + 1))) rfl) ?_
      refine FL.nil ?_
      obtain rfl := Option.some.inj hp
      exact ⟨rfl, ⟨_, S40, i41, (nat_succ rfl (lt_of_get hx22) (p0.mono i41).le), k45, k46, k47⟩⟩
  ·
    clear hp hq
    rintro s22 f66 w65 ⟨H62, S63, i64, k67, k68, k69, k70⟩
    refine FW.seq ?_
    refine FW.region ?_
    refine FL.val rfl rfl rfl (E.lss k67 k70) ?_
    refine FL.nil ?_
    refine FW.seq ?_
    refine FW.condF rfl dlt_len ?_
    refine FW.exit ?_
    exact ⟨nofun, rfl, ⟨_, S63, i64, k68⟩⟩
  ·
    clear hq
    intro e f60 w59 hD
    rcases q22 with s22 | x22
    ·
      obtain ⟨rfl, hD⟩ := hD
      obtain ⟨H56, S57, i58, k61⟩ := hD
      replace hp := el_go hp
      refine FW.seq ?_
      refine FW.region ?_
      refine FL.val rfl rfl rfl (E.move k61) ?_
      refine FL.val rfl rfl rfl (E.assign (v := Value.int .i64 0) rfl) ?_
      refine FL.nil ?_
      refine FW.ret ?_
      obtain rfl := Option.some.inj hp
      exact ⟨.inr rfl, res1 rfl rfl ⟨rfl, S57.back⟩⟩
    ·
      obtain ⟨he, hL⟩ := hD
      replace hp := el_rt hp
      obtain rfl := Option.some.inj hp
      subst he
      exact hL

theorem w_impl_compareLiterals {Ha : GH} {wa : World} (hs : Sl Ha wa) (a0 : Int) (a1 : Int) {r : Int} (hp : (PF.impl_compareLiterals a0 a1) = some r) :
    Calls Tryz.prog 265 #[Value.int .i64 a0, Value.int .i64 a1] wa (Sc Ha wa (Value.int .i64 r)) := by
  unfold PF.impl_compareLiterals at hp
  have S0 := St.init hs
  refine calls_go (N := 15) (args := [Value.int .i64 a0, Value.int .i64 a1]) Tryz.func265 rfl rfl rfl ?_
  refine FW.seq ?_
  refine FW.region ?_
  refine FL.val rfl rfl rfl (E.assign (v := Value.int .i64 0) rfl) ?_
  refine FL.nil ?_
  refine FW.seq ?_
  refine FW.region ?_
  refine FL.val rfl rfl rfl (E.move (v := Value.int .i64 a0) rfl) ?_
  refine FL.call rfl rfl rfl (E.call Tryz.call158 (A1 rfl)) (w_impl_abs S0.sl a0) ?_
  rintro e w21 ⟨rfl, r22⟩
  refine ⟨_, rfl, ?_⟩
  have S23 := S0.call r22
  refine FL.val rfl rfl rfl (E.move (v := Value.int .i64 a1) rfl) ?_
  refine FL.call rfl rfl rfl (E.call Tryz.call158 (A1 rfl)) (w_impl_abs S23.sl a1) ?_
  rintro e w24 ⟨rfl, r25⟩
  refine ⟨_, rfl, ?_⟩
  have S26 := S23.call r25
  refine FL.call rfl rfl rfl (E.call Tryz.call261 (A2 rfl rfl)) (w_cmp_Compare_int S26.sl (PF.impl_abs a0) (PF.impl_abs a1)) ?_
  rintro e w27 ⟨rfl, r28⟩
  refine ⟨_, rfl, ?_⟩
  have S29 := S26.call r28
  refine FL.val rfl rfl rfl (E.move (v := Value.int .i64 a1) rfl) ?_
  refine FL.val rfl rfl rfl (E.move (v := Value.int .i64 a0) rfl) ?_
  refine FL.call rfl rfl rfl (E.call Tryz.call261 (A2 rfl rfl)) (w_cmp_Compare_int S29.sl a1 a0) ?_
  rintro e w30 ⟨rfl, r31⟩
  refine ⟨_, rfl, ?_⟩
  have S32 := S29.call r31
  obtain ⟨v33, w34, run35, S36⟩ := S32.buildSlice (P := Tryz.prog) te39 [Value.int .i64 (PF.cmp_Compare_int (PF.impl_abs a0) (PF.impl_abs a1)), Value.int .i64 (PF.cmp_Compare_int a1 a0)] (parts := #[(0, Value.int .i64 (PF.cmp_Compare_int (PF.impl_abs a0) (PF.impl_abs a1))), (1, Value.int .i64 (PF.cmp_Compare_int a1 a0))]) (cells := [Value.int .i64 (PF.cmp_Compare_int (PF.impl_abs a0) (PF.impl_abs a1)), Value.int .i64 (PF.cmp_Compare_int a1 a0)]) rfl (szs_cons rfl (szs_cons rfl szs_nil)) (fc_cons rfl (fc_cons rfl fc_nil)) (ones_cons rfl (ones_cons rfl ones_nil)) (Nat.le_of_ble_eq_true rfl)
  have els37 : Els (up wa.heap.size Ha) eI 1 [Value.int .i64 (PF.cmp_Compare_int (PF.impl_abs a0) (PF.impl_abs a1)), Value.int .i64 (PF.cmp_Compare_int a1 a0)] [(PF.cmp_Compare_int (PF.impl_abs a0) (PF.impl_abs a1)), (PF.cmp_Compare_int a1 a0)] := (Els.snoc (H := (up wa.heap.size Ha)) (E := eI) (k := 1) (c := [Value.int .i64 (PF.cmp_Compare_int a1 a0)]) (x := (PF.cmp_Compare_int a1 a0)) (Els.snoc (H := (up wa.heap.size Ha)) (E := eI) (k := 1) (c := [Value.int .i64 (PF.cmp_Compare_int (PF.impl_abs a0) (PF.impl_abs a1))]) (x := (PF.cmp_Compare_int (PF.impl_abs a0) (PF.impl_abs a1))) Els.nil rfl rfl) rfl rfl)
  refine FL.val rfl rfl rfl (E.buildSlice (B2 rfl rfl) run35) ?_
  obtain ⟨H38, S39, i40, h41, nv42⟩ := S36.sealRowU (i := 0) (l' := []) rfl els37 (by decide) rfl
  obtain ⟨r43, hr44, hp⟩ := bnd hp
  refine FL.call rfl rfl rfl (E.call Tryz.call260 (A1 rfl)) (w_cmp_Or_int S39.sl v33 [(PF.cmp_Compare_int (PF.impl_abs a0) (PF.impl_abs a1)), (PF.cmp_Compare_int a1 a0)] (h41.mono upI) hr44) ?_
  rintro e w45 ⟨rfl, r46⟩
  refine ⟨_, rfl, ?_⟩
  have r46 := Run.lend i40 S36.sl r46
  have S47 := S36.call r46
  refine FL.val rfl rfl rfl (E.assign (v := Value.int .i64 r43) rfl) ?_
  refine FL.nil ?_
  refine FW.ret ?_
  obtain rfl := Option.some.inj hp
  exact ⟨.inr rfl, res1 rfl rfl ⟨rfl, S47.back⟩⟩

@[reducible] def p_slices_Compact_int_int (H0 : GH) (w0 : World) (Ha : GH) (L : List MO) (r : (List Int)) : Ending → World → Prop :=
  fun e w' => ∃ H' : GH, ∃ v0r : Value, ∃ n0r : Nat, ∃ c0r : List Value, e = .returned (v0r) ∧ (St H0 w0 H' w' (.row 3 1 v0r n0r c0r :: L) ∧ Inc Ha H') ∧ Els (up w0.heap.size H') eI 1 c0r r
theorem w_slices_Compact_int_int {H0 Ha : GH} {w0 wa : World} {L : List MO} {v0 : Value} {n0 : Nat} {k0 : List Value} (S0 : St H0 w0 Ha wa (.row 3 1 v0 n0 k0 :: L)) (a0 : List Int) (p0 : Els (up w0.heap.size Ha) eI 1 k0 a0) {r : (List Int)} (hp : (PF.slices_Compact_int_int a0) = some r) :
    Calls Tryz.prog 266 #[v0] wa (p_slices_Compact_int_int H0 w0 Ha L r) := by
  cases hp
  refine (St.compactF (l := .row 3 1 v0 n0 k0 :: L) (i := 0) S0 rfl p0 (enc := Value.int .i64) (fun _ => rfl) (fun _ _ _ h => by cases eI_open h; rfl) (fun _ _ => rfl) 0 (fun w => compact_none Tryz.comp266 w) (fun blk off cap d w hH hs hc => AnyE.slices_Compact Tryz.comp266 (Value.int .i64) (fun _ => rfl) (EqlAt.intD _ _ _) (NeqAt.intD _ _ _) 0 (fun w => Tryz.zeroValue3 w) blk off cap d w hH hs hc)).mono ?_
  rintro e w' ⟨v', n', c', rfl, h1, h2⟩
  exact ⟨_, _, _, _, rfl, ⟨h1, Inc.rfl _⟩, h2⟩

@[reducible] def p_impl_clause (Ha : GH) (wa : World) (r : ((List Int) × Bool)) : Ending → World → Prop :=
  fun e w' => ∃ H' : GH, ∃ v0 : Value, ∃ n0 : Nat, ∃ c0 : List Value, e = .returned (Value.tuple #[v0, Value.bool r.2]) ∧ St Ha wa H' w' [.row 3 1 v0 n0 c0] ∧ Els (up wa.heap.size H') eI 1 c0 r.1
theorem w_impl_clause {Ha : GH} {wa : World} (hs : Sl Ha wa) (v0 : Value) (a0 : List Int) (p0 : RSl Ha eI 1 v0 a0) {r : ((List Int) × Bool)} (hp : (PF.impl_clause a0) = some r) :
    Calls Tryz.prog 249 #[v0] wa (p_impl_clause Ha wa r) := by
  unfold PF.impl_clause at hp
  have S0 := St.init hs
  refine calls_go (N := 30) (args := [v0]) Tryz.func249 rfl rfl rfl ?_
  refine FW.seq ?_
  refine FW.region ?_
  refine FL.val rfl rfl rfl (E.assign (v := Value.slice none 0 0) rfl) ?_
  refine FL.val rfl rfl rfl (E.assign (v := Value.bool false) rfl) ?_
  refine FL.nil ?_
  refine FW.seq ?_
  refine FW.region ?_
  refine FL.val rfl rfl rfl (E.move (v := v0) rfl) ?_
  obtain ⟨r21, hr22, hp⟩ := bnd hp
  refine FL.call rfl rfl rfl (E.call Tryz.call160 (A1 rfl)) (w_slices_Clone_int_int S0.sl v0 a0 p0 hr22) ?_
  rintro e w24 ⟨H23, v27, n28, cs29, rfl, r26, els30⟩
  refine ⟨_, rfl, ?_⟩
  have els30 := els30.mono (up_le S0.size)
  have S25 := S0.join (l' := [.row 3 1 v27 n28 cs29]) r26 rfl
  refine FL.val rfl rfl rfl (E.assign (v := v27) rfl) ?_
  refine FL.nil ?_
  refine FW.seq ?_
  refine FW.region ?_
  refine FL.val rfl rfl rfl (E.move (v := v27) rfl) ?_
  obtain ⟨r31, hr32, hp⟩ := bnd hp
  refine FL.call rfl rfl rfl (E.call Tryz.call264 (A2 rfl rfl)) (w_slices_SortFunc_int_int (L := []) S25 r21 els30 (Value.func (.func 265) #[] #[]) (fun x0 x1 => PF.impl_compareLiterals x0 x1) (fun H2 w2 hi2 hs2 x0 x1 r hr => ⟨265, #[], rfl, Tryz.call265, w_impl_compareLiterals hs2 x0 x1  hr⟩) hr32) ?_
  rintro e w34 ⟨H33, cs37, rfl, ⟨S35, i36⟩, els38⟩
  refine ⟨_, rfl, ?_⟩
  have S35 : St Ha wa H33 w34 [.row 3 1 v27 n28 cs37] := S35
  refine FL.nil ?_
  refine FW.seq ?_
  refine FW.region ?_
  refine FL.val rfl rfl rfl (E.move (v := v27) rfl) ?_
  obtain ⟨r39, hr40, hp⟩ := bnd hp
  refine FL.call rfl rfl rfl (E.call Tryz.call266 (A1 rfl)) (w_slices_Compact_int_int (L := []) S35 r31 els38 hr40) ?_
  rintro e w42 ⟨H41, v45, n46, cs47, rfl, ⟨S43, i44⟩, els48⟩
  refine ⟨_, rfl, ?_⟩
  have S43 : St Ha wa H41 w42 [.row 3 1 v45 n46 cs47] := S43
  refine FL.val rfl rfl rfl (E.assign (v := v45) rfl) ?_
  refine FL.nil ?_
  refine FW.seq ?_
  refine FW.seq ?_
  refine FW.region ?_
  refine FL.val rfl rfl rfl (E.assign (v := Value.int .i64 1) rfl) ?_
  refine FL.nil ?_
  obtain ⟨q49, hq, hp⟩ := bndR hp
  refine FW.block ?_
  refine FW.mono (FW.iter (S := Int) (X := ((List Int) × Bool)) (fun (s49 : Int) f w => ∃ H : GH, St Ha wa H w [.row 3 1 v45 n46 cs47] ∧ Inc H41 H ∧ f 4 = v45 ∧ f 5 = Value.int .i64 s49) (fun q e f w => match q with | .go s49 => e = Exit.exit 0 ∧ (∃ H : GH, St Ha wa H w [.row 3 1 v45 n46 cs47] ∧ Inc H41 H ∧ f 4 = v45) | .rt x => ((e = Exit.ret) ∧ (fun e f w => (e = Exit.normal ∨ e = Exit.ret) ∧ ∀ a, Fr (δ := []) 30 a f → ∃ v, (results Tryz.f249 a.tmps).run Tryz.prog w = .ok v w ∧ (p_impl_clause Ha wa x) (.returned v) w) e f w)) hq ⟨_, S43, (Inc.rfl _), rfl, rfl⟩ ?_) ?_
  ·
    clear hp hq
    rintro s49 f83 w82 ⟨H79, S80, i81, k84, k85⟩ o108 hp
    refine FW.seq ?_
    refine FW.seq ?_
    refine FW.region ?_
    refine FL.val rfl rfl rfl (E.move k85) ?_
    refine FL.val rfl rfl rfl (E.move k84) ?_
    refine FL.val rfl rfl rfl (E.lenO te39 rfl S80 (i := 0) rfl els48 (by decide)) ?_
    refine FL.val rfl rfl rfl (E.lss rfl rfl) ?_
    refine FL.nil ?_
    rcases ifB hp with ⟨c86, hp⟩ | ⟨c86, hp⟩
    ·
      refine FW.condT rfl c86 ?_
      refine FW.skip ?_
      refine FW.seq ?_
      refine FW.block ?_
      refine FW.seq ?_
      refine FW.draw (fun w' => Run w82.heap.size H79 w82 H79 w') (by kernel_rfl) (by kernel_rfl) (run_drew S80.sl) ?_
      refine FD.val rfl rfl rfl (fun w' hw' => (E.move k84)) ?_
      refine FD.val rfl rfl rfl (fun w' hw' => (E.move k85)) ?_
      obtain ⟨x94, hx95, hp⟩ := bnd hp
      obtain ⟨p88, cs89, pt90, l91, at92, rel93⟩ := S80.row_at (i := 0) rfl els48 (by decide) hx95
      obtain rfl := eI_open rel93
      refine FD.val rfl rfl rfl (fun w' hw' => (E.indexAddr te39 rfl rfl pt90)) ?_
      refine FD.val rfl rfl rfl (fun w' hw' => (E.load rfl (run_load0 Tryz.isAgg3 (at92.cls hw') rfl))) ?_
      refine FD.val rfl rfl rfl (fun w' hw' => (E.move k84)) ?_
      refine FD.val rfl rfl rfl (fun w' hw' => (E.move k85)) ?_
      refine FD.val rfl rfl rfl (fun w' hw' => (E.sub rfl rfl)) ?_
      obtain ⟨x102, hx103, hp⟩ := bnd hp
      obtain ⟨p96, cs97, pt98, l99, at100, rel101⟩ := S80.row_at (i := 0) rfl els48 (by decide) hx103
      obtain rfl := eI_open rel101
      refine FD.val rfl rfl rfl (fun w' hw' => (E.indexAddr te39 rfl rfl pt98)) ?_
      refine FD.val rfl rfl rfl (fun w' hw' => (E.load rfl (run_load0 Tryz.isAgg3 (at100.cls hw') rfl))) ?_
      refine FD.val rfl rfl rfl (fun w' hw' => (E.neg rfl)) ?_
      refine FD.val rfl rfl rfl (fun w' hw' => (E.eql rfl rfl)) ?_
      refine FD.nil ?_
      intro w104 r106
      have S105 := S80.call r106
      rcases ifB hp with ⟨c107, hp⟩ | ⟨c107, hp⟩
      ·
        refine FW.condT rfl c107 ?_
        refine FW.seq ?_
        refine FW.region ?_
        refine FL.val rfl rfl rfl (E.assign (v := Value.slice none 0 0) rfl) ?_
        refine FL.val rfl rfl rfl (E.assign (v := Value.bool false) rfl) ?_
        refine FL.nil ?_
        refine FW.ret ?_
        obtain rfl := Option.some.inj hp
        exact ⟨nofun, rfl, ⟨.inr rfl, res2 rfl rfl rfl ⟨_, _, _, _, rfl, ((S105.nil 3 1).sel [0] (by decide) rfl), Els.nil⟩⟩⟩
      ·
        refine FW.condF rfl c107 ?_
        refine FW.skip ?_
        refine FW.region ?_
        refine FL.val rfl rfl rfl (E.move k85) ?_
        refine FL.val rfl rfl rfl (E.add rfl rfl) ?_
        refine FL.val rfl rfl rfl (E.assign (v := Value.int .i64 (wr (s49 + 1))) rfl) ?_
        refine FL.nil ?_
        obtain rfl := Option.some.inj hp
        exact ⟨rfl, ⟨_, S105, i81, k84, rfl⟩⟩
    ·
      refine FW.condF rfl c86 ?_
      refine FW.exit ?_
      obtain rfl := Option.some.inj hp
      exact ⟨nofun, rfl, ⟨_, S80, i81, k84⟩⟩
  ·
    clear hq
    intro e f113 w112 hD
    rcases q49 with s49 | x49
    ·
      obtain ⟨rfl, hD⟩ := hD
      obtain ⟨H109, S110, i111, k114⟩ := hD
      replace hp := el_go hp
      refine FW.seq ?_
      refine FW.region ?_
      refine FL.val rfl rfl rfl (E.move k114) ?_
      refine FL.val rfl rfl rfl (E.assign (v := v45) rfl) ?_
      refine FL.val rfl rfl rfl (E.assign (v := Value.bool true) rfl) ?_
      refine FL.nil ?_
      refine FW.ret ?_
      obtain rfl := Option.some.inj hp
      exact ⟨.inr rfl, res2 rfl rfl rfl ⟨_, _, _, _, rfl, S110, (els48.mono (up_mono i111))⟩⟩
    ·
      obtain ⟨he, hL⟩ := hD
      replace hp := el_rt hp
      obtain rfl := Option.some.inj hp
      subst he
      exact hL

@[reducible] def p_impl_resolve (Ha : GH) (wa : World) (r : ((List Int) × Bool)) : Ending → World → Prop :=
  fun e w' => ∃ H' : GH, ∃ v0 : Value, ∃ n0 : Nat, ∃ c0 : List Value, e = .returned (Value.tuple #[v0, Value.bool r.2]) ∧ St Ha wa H' w' [.row 3 1 v0 n0 c0] ∧ Els (up wa.heap.size H') eI 1 c0 r.1
theorem w_impl_resolve {Ha : GH} {wa : World} (hs : Sl Ha wa) (v0 : Value) (a0 : List Int) (p0 : RSl Ha eI 1 v0 a0) (v1 : Value) (a1 : List Int) (p1 : RSl Ha eI 1 v1 a1) (a2 : Int) {r : ((List Int) × Bool)} (hp : (PF.impl_resolve a0 a1 a2) = some r) :
    Calls Tryz.prog 203 #[v0, v1, Value.int .i64 a2] wa (p_impl_resolve Ha wa r) := by
  unfold PF.impl_resolve at hp
  have S0 := St.init hs
  refine calls_go (N := 30) (args := [v0, v1, Value.int .i64 a2]) Tryz.func203 rfl rfl rfl ?_
  refine FW.seq ?_
  refine FW.region ?_
  refine FL.val rfl rfl rfl (E.assign (v := Value.slice none 0 0) rfl) ?_
  refine FL.val rfl rfl rfl (E.assign (v := Value.bool false) rfl) ?_
  refine FL.nil ?_
  refine FW.seq ?_
  refine FW.seq ?_
  refine FW.region ?_
  refine FL.val rfl rfl rfl (E.move (v := v0) rfl) ?_
  refine FL.val rfl rfl rfl (E.move (v := Value.int .i64 a2) rfl) ?_
  obtain ⟨r21, hr22, hp⟩ := bnd hp
  refine FL.call rfl rfl rfl (E.call Tryz.call162 (A2 rfl rfl)) (w_slices_Contains_int_int S0.sl v0 a0 p0 a2 hr22) ?_
  rintro e w23 ⟨rfl, r24⟩
  refine ⟨_, rfl, ?_⟩
  have S25 := S0.call r24
  refine FL.val rfl rfl rfl (E.not rfl) ?_
  refine FL.val rfl rfl rfl (E.move (v := Value.bool (!r21)) rfl) ?_
  obtain ⟨t31, hqt31, hp⟩ := bnd hp
  refine FL.cut 6 (fun f w => ∃ H : GH, St Ha wa H w [] ∧ Inc Ha H ∧ f 0 = v0 ∧ f 1 = v1 ∧ f 2 = Value.int .i64 a2 ∧ f 18 = Value.bool t31) ?_ ?_
  ·
    clear hp; have hp := hqt31; clear hqt31
    rcases ifB hp with ⟨c37, hp⟩ | ⟨c37, hp⟩
    ·
      refine FL.skip (wF_no rfl rfl rfl c37) rfl ?_
      refine FL.skip (wF_no rfl rfl rfl c37) rfl ?_
      refine FL.skip (wF_no rfl rfl rfl c37) rfl ?_
      refine FL.skip (wF_no rfl rfl rfl c37) rfl ?_
      refine FL.skip (wF_no rfl rfl rfl c37) rfl ?_
      obtain rfl := Option.some.inj hp
      refine FL.val rfl rfl rfl (E.pickT rfl c37 rfl) ?_
      exact FL.nil ⟨rfl, _, S25, (Inc.rfl _), rfl, rfl, rfl, rfl⟩
    ·
      refine FL.val (wF_yes rfl rfl rfl c37) rfl rfl (E.move (v := v1) rfl) ?_
      refine FL.val (wF_yes rfl rfl rfl c37) rfl rfl (E.move (v := Value.int .i64 a2) rfl) ?_
      refine FL.val (wF_yes rfl rfl rfl c37) rfl rfl (E.neg rfl) ?_
      obtain ⟨r38, hr39, hp⟩ := bnd hp
      refine FL.call (wF_yes rfl rfl rfl c37) rfl rfl (E.call Tryz.call162 (A2 rfl rfl)) (w_slices_Contains_int_int S25.sl v1 a1 p1 (wr (-a2)) hr39) ?_
      rintro e w40 ⟨rfl, r41⟩
      refine ⟨_, rfl, ?_⟩
      have S42 := S25.call r41
      refine FL.val (wF_yes rfl rfl rfl c37) rfl rfl (E.not rfl) ?_
      obtain rfl := Option.some.inj hp
      refine FL.val rfl rfl rfl (E.pickF rfl c37 rfl) ?_
      exact FL.nil ⟨rfl, _, S42, (Inc.rfl _), rfl, rfl, rfl, rfl⟩
  rintro f36 w35 ⟨H32, S33, i34, k43, k44, k45, k46⟩
  refine FL.nil ?_
  rcases ifB hp with ⟨c47, hp⟩ | ⟨c47, hp⟩
  ·
    refine FW.condT k46 c47 ?_
    refine FW.seq ?_
    refine FW.region ?_
    refine FL.val rfl rfl rfl (E.assign (v := Value.slice none 0 0) rfl) ?_
    refine FL.val rfl rfl rfl (E.assign (v := Value.bool false) rfl) ?_
    refine FL.nil ?_
    refine FW.ret ?_
    obtain rfl := Option.some.inj hp
    exact ⟨.inr rfl, res2 rfl rfl rfl ⟨_, _, _, _, rfl, (S33.nil 3 1), Els.nil⟩⟩
  ·
    refine FW.condF k46 c47 ?_
    refine FW.skip ?_
    refine FW.seq ?_
    refine FW.region ?_
    refine FL.val rfl rfl rfl (E.move k43) ?_
    refine FL.val rfl rfl rfl (E.move k45) ?_
    obtain ⟨r48, hr49, hp⟩ := bnd hp
    refine FL.call rfl rfl rfl (E.call Tryz.call222 (A2 rfl rfl)) (w_impl_withoutVar S33.sl v0 a0 (p0.mono i34) a2 hr49) ?_
    rintro e w51 ⟨H50, v54, n55, cs56, rfl, r53, els57⟩
    refine ⟨_, rfl, ?_⟩
    have els57 := els57.mono (up_le S33.size)
    have S52 := S33.join (l' := [.row 3 1 v54 n55 cs56]) r53 rfl
    refine FL.val rfl rfl rfl (E.move k44) ?_
    refine FL.val rfl rfl rfl (E.move k45) ?_
    obtain ⟨r58, hr59, hp⟩ := bnd hp
    refine FL.call rfl rfl rfl (E.call Tryz.call222 (A2 rfl rfl)) (w_impl_withoutVar S52.sl v1 a1 (p1.mono (i34.tr r53.run.inc)) a2 hr59) ?_
    rintro e w61 ⟨H60, v64, n65, cs66, rfl, r63, els67⟩
    refine ⟨_, rfl, ?_⟩
    have els67 := els67.mono (up_le S52.size)
    have S62 := S52.join (l' := [.row 3 1 v64 n65 cs66, .row 3 1 v54 n55 cs56]) r63 rfl
    obtain ⟨H68, S69, i70, h71, nv72⟩ := S62.sealRowU (i := 1) (l' := [.row 3 1 v64 n65 cs66]) rfl (els57.mono (up_mono r63.run.inc)) (by decide) rfl
    obtain ⟨H73, S74, i75, h76, nv77⟩ := S69.sealRowU (i := 0) (l' := []) rfl (els67.mono (up_mono i70)) (by decide) rfl
    obtain ⟨v78, w79, run80, S81⟩ := S74.buildSlice (P := Tryz.prog) te22 [v54, v64] (parts := #[(0, v54), (1, v64)]) (cells := [v54, v64]) rfl (szs_cons (cells_size h71.cells) (szs_cons (cells_size h76.cells) szs_nil)) (fc_cons h71.cells (fc_cons h76.cells fc_nil)) (ones_cons h71.one (ones_cons h76.one ones_nil)) (Nat.le_of_ble_eq_true rfl)
    have els82 : Els (up wa.heap.size H73) (eL eI 1) 1 [v54, v64] [r48, r58] := (Els.snoc (H := (up wa.heap.size H73)) (E := (eL eI 1)) (k := 1) (c := [v64]) (x := r58) (Els.snoc (H := (up wa.heap.size H73)) (E := (eL eI 1)) (k := 1) (c := [v54]) (x := r48) Els.nil rfl ⟨_, rfl, (h71.mono (up_mono i75))⟩) rfl ⟨_, rfl, h76⟩)
    refine FL.val rfl rfl rfl (E.buildSlice (B2 rfl rfl) run80) ?_
    obtain ⟨H83, S84, i85, h86, nv87⟩ := S81.sealRowU (i := 0) (l' := []) rfl els82 (by decide) rfl
    obtain ⟨r88, hr89, hp⟩ := bnd hp
    refine FL.call rfl rfl rfl (E.call Tryz.call250 (A1 rfl)) (w_slices_Concat_int_int S84.sl v78 [r48, r58] (h86.mono upI) hr89) ?_
    rintro e w91 ⟨H90, v96, n97, cs98, rfl, r93, els99⟩
    refine ⟨_, rfl, ?_⟩
    obtain ⟨H94, r93, hU95⟩ := St.lendX i85 S81.sl r93
    have els99 := els99.mono (hU95.tr (up_le S81.size))
    have S92 := S81.join (l' := [.row 3 1 v96 n97 cs98, .row 39 1 v78 2 [v54, v64]]) r93 rfl
    obtain ⟨H100, S101, i102, h103, nv104⟩ := S92.sealRowU (i := 0) (l' := [.row 39 1 v78 2 [v54, v64]]) rfl els99 (by decide) rfl
    obtain ⟨r105, hr106, hp⟩ := bnd hp
    refine FL.call rfl rfl rfl (E.call Tryz.call249 (A1 rfl)) (w_impl_clause S101.sl v96 r88 (h103.mono upI) hr106) ?_
    rintro e w108 ⟨H107, v113, n114, cs115, rfl, r110, els116⟩
    refine ⟨_, rfl, ?_⟩
    obtain ⟨H111, r110, hU112⟩ := St.lendX i102 S92.sl r110
    have els116 := els116.mono (hU112.tr (up_le S92.size))
    have S109 := S92.join (l' := [.row 3 1 v113 n114 cs115, .row 3 1 v96 n97 cs98, .row 39 1 v78 2 [v54, v64]]) r110 rfl
    refine FL.val rfl rfl rfl (E.extract (i := 0) rfl rfl) ?_
    refine FL.val rfl rfl rfl (E.extract (i := 1) rfl rfl) ?_
    refine FL.val rfl rfl rfl (E.assign (v := v113) rfl) ?_
    refine FL.val rfl rfl rfl (E.assign (v := Value.bool r105.2) rfl) ?_
    refine FL.nil ?_
    refine FW.ret ?_
    obtain rfl := Option.some.inj hp
    exact ⟨.inr rfl, res2 rfl rfl rfl ⟨_, _, _, _, rfl, (S109.sel [0] (by decide) rfl), els116⟩⟩

set_option maxHeartbeats 4000000 in
theorem w_impl_correct {Ha : GH} {wa : World} (hs : Sl Ha wa) (a0 : Cnf) (v0_1 : Value) (p0_1 : RSl Ha (eL eI 1) 1 v0_1 a0.clauses) (v1 : Value) (a1 : List ResStep) (p1 : RSl Ha eResStep 4 v1 a1) (a2 : Int) {r : Bool} (hp : (PF.impl_correct a0 a1 a2) = some r) :
    Calls Tryz.prog 201 #[Value.agg #[Value.int .i64 a0.vars, v0_1], v1, Value.int .i64 a2] wa (Sc Ha wa (Value.bool r)) := by
  unfold PF.impl_correct at hp
  have S0 := St.init hs
  refine calls_go (N := 105) (args := [Value.agg #[Value.int .i64 a0.vars, v0_1], v1, Value.int .i64 a2]) Tryz.func201 rfl rfl rfl ?_
  refine FW.seq ?_
  refine FW.region ?_
  obtain ⟨b21, w22, run23, S24⟩ := S0.box (P := Tryz.prog) 31 [Value.int .i64 a0.vars, v0_1] (v := Value.agg #[Value.int .i64 a0.vars, v0_1]) rfl (ones_cons rfl (ones_cons p0_1.one ones_nil))
  refine FL.val rfl rfl rfl (E.box rfl run23) ?_
  obtain ⟨H25, S26, i27, at28⟩ := S24.sealBox (i := 0) (l' := []) rfl rfl
  refine FL.val rfl rfl rfl (E.assign (v := Value.bool false) rfl) ?_
  refine FL.nil ?_
  refine FW.seq ?_
  refine FW.region ?_
  refine FL.val rfl rfl rfl (E.move (v := v1) rfl) ?_
  refine FL.val rfl rfl rfl (E.move (v := Value.int .i64 a2) rfl) ?_
  obtain ⟨x35, hx36, hp⟩ := bnd hp
  obtain ⟨p29, cs30, pt31, l32, at33, rel34⟩ := p1.at hx36
  obtain ⟨v37, rfl, h38⟩ := eResStep_open rel34
  refine FL.val rfl rfl rfl (E.indexAddr te28 rfl rfl pt31) ?_
  refine FL.val rfl rfl rfl (E.load rfl (run_loadA Tryz.isAgg89 Tryz.sizeOf89 ((at33.mono i27).now S26.sl) rfl)) ?_
  obtain ⟨b39, w40, run41, S42⟩ := S26.alloc (P := Tryz.prog) 89 [Value.slice none 0 0, Value.int .i64 0, Value.int .i64 0, Value.int .i64 0] Tryz.zeroValue89 rfl (ones_cons rfl (ones_cons rfl (ones_cons rfl (ones_cons rfl ones_nil))))
  refine FL.val rfl rfl rfl (E.alloc run41) ?_
  obtain ⟨w43, run44, S45⟩ := S42.store0 (P := Tryz.prog) (t := 89) (i := 0) (cs' := [v37, Value.int .i64 x35.left, Value.int .i64 x35.right, Value.int .i64 x35.pivot]) (l' := [.box b39 89 [v37, Value.int .i64 x35.left, Value.int .i64 x35.right, Value.int .i64 x35.pivot]]) (v := Value.agg #[v37, Value.int .i64 x35.left, Value.int .i64 x35.right, Value.int .i64 x35.pivot]) (c := [v37, Value.int .i64 x35.left, Value.int .i64 x35.right, Value.int .i64 x35.pivot]) rfl Tryz.sizeOf89 rfl rfl (ones_cons h38.one (ones_cons rfl (ones_cons rfl (ones_cons rfl ones_nil)))) (Nat.le_of_ble_eq_true rfl) rfl rfl
  refine FL.act rfl rfl (E.store rfl rfl run44) ?_
  obtain ⟨H46, S47, i48, at49⟩ := S45.sealBox (i := 0) (l' := []) rfl rfl
  refine FL.nil ?_
  refine FW.seq ?_
  refine FW.seq ?_
  refine FW.region ?_
  refine FL.val rfl rfl rfl (E.fieldAddr tf31_0 rfl) ?_
  refine FL.val rfl rfl rfl (E.load rfl (run_load1 Tryz.isAgg3 ((at28.mono i48).now S47.sl) rfl)) ?_
  refine FL.val rfl rfl rfl (E.fieldAddr tf89_0 rfl) ?_
  refine FL.val rfl rfl rfl (E.load rfl (run_load1 Tryz.isAgg39 (at49.now S47.sl) rfl)) ?_
  obtain ⟨r50, hr51, hp⟩ := bnd hp
  refine FL.call rfl rfl rfl (E.call Tryz.call142 (A2 rfl rfl)) (w_impl_IsClause S47.sl a0.vars v37 x35.clause (h38.mono (i27.tr i48)) hr51) ?_
  rintro e w52 ⟨rfl, r53⟩
  refine ⟨_, rfl, ?_⟩
  have S54 := S47.call r53
  refine FL.val rfl rfl rfl (E.not rfl) ?_
  refine FL.nil ?_
  rcases ifB hp with ⟨c55, hp⟩ | ⟨c55, hp⟩
  ·
    refine FW.condT rfl c55 ?_
    refine FW.seq ?_
    refine FW.region ?_
    refine FL.val rfl rfl rfl (E.assign (v := Value.bool false) rfl) ?_
    refine FL.nil ?_
    refine FW.ret ?_
    obtain rfl := Option.some.inj hp
    exact ⟨.inr rfl, res1 rfl rfl ⟨rfl, S54.back⟩⟩
  ·
    refine FW.condF rfl c55 ?_
    refine FW.skip ?_
    refine FW.seq ?_
    refine FW.seq ?_
    refine FW.region ?_
    refine FL.val rfl rfl rfl (E.fieldAddr tf89_1 rfl) ?_
    refine FL.val rfl rfl rfl (E.load rfl (run_load1 Tryz.isAgg3 (at49.now S54.sl) rfl)) ?_
    refine FL.val rfl rfl rfl (E.eql rfl rfl) ?_
    refine FL.nil ?_
    rcases ifB hp with ⟨c56, hp⟩ | ⟨c56, hp⟩
    ·
      refine FW.condT rfl c56 ?_
      refine FW.seq ?_
      refine FW.draw (fun w' => Run w52.heap.size H46 w52 H46 w') (by kernel_rfl) (by kernel_rfl) (run_drew S54.sl) ?_
      refine FD.val rfl rfl rfl (fun w' hw' => (E.fieldAddr tf89_3 rfl)) ?_
      refine FD.val rfl rfl rfl (fun w' hw' => (E.load rfl (run_load1 Tryz.isAgg3 (at49.now (S54.call hw').sl) rfl))) ?_
      refine FD.val rfl rfl rfl (fun w' hw' => (E.eql rfl rfl)) ?_
      refine FD.val rfl rfl rfl (fun w' hw' => (E.move (v := Value.bool (x35.pivot == 0)) rfl)) ?_
      refine FD.cut 8 (fun f => f 3 = Value.pointer (some ⟨b21, 0, none⟩) ∧ f 7 = Value.pointer (some ⟨b39, 0, none⟩) ∧ f 36 = Value.bool (bif (x35.pivot == 0) then (PF.impl_within x35.right 0 (wr ((len a0.clauses) - 1))) else false)) ?_ ?_
      ·
        rcases bcase (x35.pivot == 0) with c64 | c64
        ·
          refine FD.val (wF_yes rfl rfl rfl c64) rfl rfl (fun w' hw' => (E.fieldAddr tf89_2 rfl)) ?_
          refine FD.val (wF_yes rfl rfl rfl c64) rfl rfl (fun w' hw' => (E.load rfl (run_load1 Tryz.isAgg3 (at49.now (S54.call hw').sl) rfl))) ?_
          refine FD.val (wF_yes rfl rfl rfl c64) rfl rfl (fun w' hw' => (E.fieldAddr tf31_1 rfl)) ?_
          refine FD.val (wF_yes rfl rfl rfl c64) rfl rfl (fun w' hw' => (E.load rfl (run_load1 Tryz.isAgg22 ((at28.mono i48).now (S54.call hw').sl) rfl))) ?_
          refine FD.val (wF_yes rfl rfl rfl c64) rfl rfl (fun w' hw' => (E.lenP te22 rfl p0_1)) ?_
          refine FD.val (wF_yes rfl rfl rfl c64) rfl rfl (fun w' hw' => (E.sub rfl rfl)) ?_
          refine FD.call (wF_yes rfl rfl rfl c64) rfl rfl (fun w' hw' => (E.call Tryz.call192 (A3 rfl rfl rfl))) (fun w' hw' => Calls.cls hw' (w_impl_within (S54.call hw').sl x35.right 0 (wr ((len a0.clauses) - 1)))) ?_
          refine FD.val rfl rfl rfl (fun w' hw' => (E.pickT rfl c64 rfl)) ?_
          exact FD.nil ⟨rfl, rfl, (congrArg Value.bool (bifT c64).symm)⟩
        ·
          refine FD.skip (wF_no rfl rfl rfl c64) rfl ?_
          refine FD.skip (wF_no rfl rfl rfl c64) rfl ?_
          refine FD.skip (wF_no rfl rfl rfl c64) rfl ?_
          refine FD.skip (wF_no rfl rfl rfl c64) rfl ?_
          refine FD.skip (wF_no rfl rfl rfl c64) rfl ?_
          refine FD.skip (wF_no rfl rfl rfl c64) rfl ?_
          refine FD.skip (wF_no rfl rfl rfl c64) rfl ?_
          refine FD.val rfl rfl rfl (fun w' hw' => (E.pickF rfl c64 rfl)) ?_
          exact FD.nil ⟨rfl, rfl, (congrArg Value.bool (bifF c64).symm)⟩
      rintro f63 ⟨k65, k66, k67⟩
      refine FD.val rfl rfl rfl (fun w' hw' => (E.move k67)) ?_
      obtain ⟨t80, hqt80, hp⟩ := bnd hp
      refine FD.cut 10 (fun f => f 47 = Value.bool t80) ?_ ?_
      ·
        clear hp; have hp := hqt80; clear hqt80
        rcases ifB hp with ⟨c86, hp⟩ | ⟨c86, hp⟩
        ·
          refine FD.val (wF_yes rfl rfl rfl c86) rfl rfl (fun w' hw' => (E.fieldAddr tf31_1 k65)) ?_
          refine FD.val (wF_yes rfl rfl rfl c86) rfl rfl (fun w' hw' => (E.load rfl (run_load1 Tryz.isAgg22 ((at28.mono i48).now (S54.call hw').sl) rfl))) ?_
          refine FD.val (wF_yes rfl rfl rfl c86) rfl rfl (fun w' hw' => (E.fieldAddr tf89_2 k66)) ?_
          refine FD.val (wF_yes rfl rfl rfl c86) rfl rfl (fun w' hw' => (E.load rfl (run_load1 Tryz.isAgg3 (at49.now (S54.call hw').sl) rfl))) ?_
          obtain ⟨x93, hx94, hp⟩ := bnd hp
          obtain ⟨p87, cs88, pt89, l90, at91, rel92⟩ := p0_1.at hx94
          obtain ⟨v95, rfl, h96⟩ := eL_open rel92
          refine FD.val (wF_yes rfl rfl rfl c86) rfl rfl (fun w' hw' => (E.indexAddr te22 rfl rfl pt89)) ?_
          refine FD.val (wF_yes rfl rfl rfl c86) rfl rfl (fun w' hw' => (E.load rfl (run_load0 Tryz.isAgg39 ((at91.mono (i27.tr i48)).now (S54.call hw').sl) rfl))) ?_
          refine FD.val (wF_yes rfl rfl rfl c86) rfl rfl (fun w' hw' => (E.fieldAddr tf89_0 k66)) ?_
          refine FD.val (wF_yes rfl rfl rfl c86) rfl rfl (fun w' hw' => (E.load rfl (run_load1 Tryz.isAgg39 (at49.now (S54.call hw').sl) rfl))) ?_
          obtain ⟨r97, hr98, hp⟩ := bnd hp
          refine FD.call (wF_yes rfl rfl rfl c86) rfl rfl (fun w' hw' => (E.call Tryz.call245 (A2 rfl rfl))) (fun w' hw' => Calls.cls hw' (w_slices_Equal_int_int (S54.call hw').sl v95 x93 (h96.mono (i27.tr i48)) v37 x35.clause (h38.mono (i27.tr i48)) hr98)) ?_
          obtain rfl := Option.some.inj hp
          refine FD.val rfl rfl rfl (fun w' hw' => (E.pickT rfl c86 rfl)) ?_
          exact FD.nil rfl
        ·
          refine FD.skip (wF_no rfl rfl rfl c86) rfl ?_
          refine FD.skip (wF_no rfl rfl rfl c86) rfl ?_
          refine FD.skip (wF_no rfl rfl rfl c86) rfl ?_
          refine FD.skip (wF_no rfl rfl rfl c86) rfl ?_
          refine FD.skip (wF_no rfl rfl rfl c86) rfl ?_
          refine FD.skip (wF_no rfl rfl rfl c86) rfl ?_
          refine FD.skip (wF_no rfl rfl rfl c86) rfl ?_
          refine FD.skip (wF_no rfl rfl rfl c86) rfl ?_
          refine FD.skip (wF_no rfl rfl rfl c86) rfl ?_
          obtain rfl := Option.some.inj hp
          refine FD.val rfl rfl rfl (fun w' hw' => (E.pickF rfl c86 rfl)) ?_
          exact FD.nil rfl
      intro f85 k99
      refine FD.val rfl rfl rfl (fun w' hw' => (E.assign k99)) ?_
      refine FD.nil ?_
      intro w100 r102
      have S101 := S54.call r102
      refine FW.ret ?_
      obtain rfl := Option.some.inj hp
      exact ⟨.inr rfl, res1 rfl rfl ⟨rfl, S101.back⟩⟩
    ·
      refine FW.condF rfl c56 ?_
      refine FW.skip ?_
      refine FW.seq ?_
      refine FW.region ?_
      refine FL.val rfl rfl rfl (E.load rfl (run_loadA Tryz.isAgg31 Tryz.sizeOf31 ((at28.mono i48).now S54.sl) rfl)) ?_
      refine FL.val rfl rfl rfl (E.move (v := v1) rfl) ?_
      refine FL.val rfl rfl rfl (E.move (v := Value.int .i64 a2) rfl) ?_
      refine FL.val rfl rfl rfl (E.fieldAddr tf89_1 rfl) ?_
      refine FL.val rfl rfl rfl (E.load rfl (run_load1 Tryz.isAgg3 (at49.now S54.sl) rfl)) ?_
      obtain ⟨r103, hr104, hp⟩ := bnd hp
      refine FL.call rfl rfl rfl (E.call Tryz.call246 (A4 rfl rfl rfl rfl)) (w_impl_earlier S54.sl a0 v0_1 (p0_1.mono (i27.tr i48)) v1 a1 (p1.mono (i27.tr i48)) a2 x35.left hr104) ?_
      rintro e w106 ⟨H105, v109, rfl, r108, h110⟩
      refine ⟨_, rfl, ?_⟩
      have S107 := S54.call r108
      refine FL.val rfl rfl rfl (E.move (v := Value.tuple #[v109, Value.bool r103.2]) rfl) ?_
      refine FL.val rfl rfl rfl (E.extract (i := 0) rfl rfl) ?_
      refine FL.val rfl rfl rfl (E.extract (i := 1) rfl rfl) ?_
      refine FL.val rfl rfl rfl (E.assign (v := v109) rfl) ?_
      refine FL.val rfl rfl rfl (E.assign (v := Value.bool r103.2) rfl) ?_
      refine FL.nil ?_
      refine FW.seq ?_
      refine FW.seq ?_
      refine FW.region ?_
      refine FL.val rfl rfl rfl (E.move (v := Value.bool r103.2) rfl) ?_
      refine FL.val rfl rfl rfl (E.not rfl) ?_
      refine FL.nil ?_
      rcases ifB hp with ⟨c111, hp⟩ | ⟨c111, hp⟩
      ·
        refine FW.condT rfl c111 ?_
        refine FW.seq ?_
        refine FW.region ?_
        refine FL.val rfl rfl rfl (E.assign (v := Value.bool false) rfl) ?_
        refine FL.nil ?_
        refine FW.ret ?_
        obtain rfl := Option.some.inj hp
        exact ⟨.inr rfl, res1 rfl rfl ⟨rfl, S107.back⟩⟩
      ·
        refine FW.condF rfl c111 ?_
        refine FW.skip ?_
        refine FW.seq ?_
        refine FW.seq ?_
        refine FW.region ?_
        refine FL.val rfl rfl rfl (E.fieldAddr tf89_2 rfl) ?_
        refine FL.val rfl rfl rfl (E.load rfl (run_load1 Tryz.isAgg3 ((at49.mono r108.inc).now S107.sl) rfl)) ?_
        refine FL.val rfl rfl rfl (E.eql rfl rfl) ?_
        refine FL.nil ?_
        rcases ifB hp with ⟨c112, hp⟩ | ⟨c112, hp⟩
        ·
          refine FW.condT rfl c112 ?_
          refine FW.seq ?_
          refine FW.region ?_
          refine FL.val rfl rfl rfl (E.fieldAddr tf89_3 rfl) ?_
          refine FL.val rfl rfl rfl (E.load rfl (run_load1 Tryz.isAgg3 ((at49.mono r108.inc).now S107.sl) rfl)) ?_
          refine FL.val rfl rfl rfl (E.eql rfl rfl) ?_
          refine FL.val rfl rfl rfl (E.move (v := Value.bool (x35.pivot == 0)) rfl) ?_
          obtain ⟨t118, hqt118, hp⟩ := bnd hp
          refine FL.cut 5 (fun f w => ∃ H : GH, St Ha wa H w [] ∧ Inc H105 H ∧ f 70 = Value.bool t118) ?_ ?_
          ·
            clear hp; have hp := hqt118; clear hqt118
            rcases ifB hp with ⟨c124, hp⟩ | ⟨c124, hp⟩
            ·
              refine FL.val (wF_yes rfl rfl rfl c124) rfl rfl (E.move (v := v109) rfl) ?_
              refine FL.val (wF_yes rfl rfl rfl c124) rfl rfl (E.fieldAddr tf89_0 rfl) ?_
              refine FL.val (wF_yes rfl rfl rfl c124) rfl rfl (E.load rfl (run_load1 Tryz.isAgg39 ((at49.mono r108.inc).now S107.sl) rfl)) ?_
              obtain ⟨r125, hr126, hp⟩ := bnd hp
              refine FL.call (wF_yes rfl rfl rfl c124) rfl rfl (E.call Tryz.call247 (A2 rfl rfl)) (w_impl_part S107.sl v109 r103.1 h110 v37 x35.clause (h38.mono ((i27.tr i48).tr r108.inc)) hr126) ?_
              rintro e w127 ⟨rfl, r128⟩
              refine ⟨_, rfl, ?_⟩
              have S129 := S107.call r128
              obtain rfl := Option.some.inj hp
              refine FL.val rfl rfl rfl (E.pickT rfl c124 rfl) ?_
              exact FL.nil ⟨rfl, _, S129, (Inc.rfl _), rfl⟩
            ·
              refine FL.skip (wF_no rfl rfl rfl c124) rfl ?_
              refine FL.skip (wF_no rfl rfl rfl c124) rfl ?_
              refine FL.skip (wF_no rfl rfl rfl c124) rfl ?_
              refine FL.skip (wF_no rfl rfl rfl c124) rfl ?_
              obtain rfl := Option.some.inj hp
              refine FL.val rfl rfl rfl (E.pickF rfl c124 rfl) ?_
              exact FL.nil ⟨rfl, _, S107, (Inc.rfl _), rfl⟩
          rintro f123 w122 ⟨H119, S120, i121, k130⟩
          refine FL.val rfl rfl rfl (E.assign k130) ?_
          refine FL.nil ?_
          refine FW.ret ?_
          obtain rfl := Option.some.inj hp
          exact ⟨.inr rfl, res1 rfl rfl ⟨rfl, S120.back⟩⟩
        ·
          refine FW.condF rfl c112 ?_
          refine FW.skip ?_
          refine FW.seq ?_
          refine FW.region ?_
          refine FL.val rfl rfl rfl (E.load rfl (run_loadA Tryz.isAgg31 Tryz.sizeOf31 ((at28.mono (i48.tr r108.inc)).now S107.sl) rfl)) ?_
          refine FL.val rfl rfl rfl (E.move (v := v1) rfl) ?_
          refine FL.val rfl rfl rfl (E.move (v := Value.int .i64 a2) rfl) ?_
          refine FL.val rfl rfl rfl (E.fieldAddr tf89_2 rfl) ?_
          refine FL.val rfl rfl rfl (E.load rfl (run_load1 Tryz.isAgg3 ((at49.mono r108.inc).now S107.sl) rfl)) ?_
          obtain ⟨r131, hr132, hp⟩ := bnd hp
          refine FL.call rfl rfl rfl (E.call Tryz.call246 (A4 rfl rfl rfl rfl)) (w_impl_earlier S107.sl a0 v0_1 (p0_1.mono ((i27.tr i48).tr r108.inc)) v1 a1 (p1.mono ((i27.tr i48).tr r108.inc)) a2 x35.right hr132) ?_
          rintro e w134 ⟨H133, v137, rfl, r136, h138⟩
          refine ⟨_, rfl, ?_⟩
          have S135 := S107.call r136
          refine FL.val rfl rfl rfl (E.move (v := Value.tuple #[v137, Value.bool r131.2]) rfl) ?_
          refine FL.val rfl rfl rfl (E.extract (i := 0) rfl rfl) ?_
          refine FL.val rfl rfl rfl (E.extract (i := 1) rfl rfl) ?_
          refine FL.val rfl rfl rfl (E.assign (v := v137) rfl) ?_
          refine FL.val rfl rfl rfl (E.assign (v := Value.bool r131.2) rfl) ?_
          refine FL.nil ?_
          refine FW.seq ?_
          refine FW.seq ?_
          refine FW.region ?_
          refine FL.val rfl rfl rfl (E.move (v := Value.bool r131.2) rfl) ?_
          refine FL.val rfl rfl rfl (E.not rfl) ?_
          refine FL.val rfl rfl rfl (E.move (v := Value.bool (!r131.2)) rfl) ?_
          refine FL.cut 7 (fun f w => ∃ H : GH, St Ha wa H w [] ∧ Inc H133 H ∧ f 7 = Value.pointer (some ⟨b39, 0, none⟩) ∧ f 8 = v109 ∧ f 10 = v137 ∧ f 89 = Value.bool (bif (!r131.2) then true else (!(PF.impl_isVar a0.vars x35.pivot)))) ?_ ?_
          ·
            rcases bcase (!r131.2) with c148 | c148
            ·
              refine FL.skip (wF_no rfl rfl rfl c148) rfl ?_
              refine FL.skip (wF_no rfl rfl rfl c148) rfl ?_
              refine FL.skip (wF_no rfl rfl rfl c148) rfl ?_
              refine FL.skip (wF_no rfl rfl rfl c148) rfl ?_
              refine FL.skip (wF_no rfl rfl rfl c148) rfl ?_
              refine FL.skip (wF_no rfl rfl rfl c148) rfl ?_
              refine FL.val rfl rfl rfl (E.pickT rfl c148 rfl) ?_
              exact FL.nil ⟨rfl, _, S135, (Inc.rfl _), rfl, rfl, rfl, (congrArg Value.bool (bifT c148).symm)⟩
            ·
              refine FL.val (wF_yes rfl rfl rfl c148) rfl rfl (E.fieldAddr tf31_0 rfl) ?_
              refine FL.val (wF_yes rfl rfl rfl c148) rfl rfl (E.load rfl (run_load1 Tryz.isAgg3 ((at28.mono ((i48.tr r108.inc).tr r136.inc)).now S135.sl) rfl)) ?_
              refine FL.val (wF_yes rfl rfl rfl c148) rfl rfl (E.fieldAddr tf89_3 rfl) ?_
              refine FL.val (wF_yes rfl rfl rfl c148) rfl rfl (E.load rfl (run_load1 Tryz.isAgg3 ((at49.mono (r108.inc.tr r136.inc)).now S135.sl) rfl)) ?_
              refine FL.call (wF_yes rfl rfl rfl c148) rfl rfl (E.call Tryz.call248 (A2 rfl rfl)) (w_impl_isVar S135.sl a0.vars x35.pivot) ?_
              rintro e w149 ⟨rfl, r150⟩
              refine ⟨_, rfl, ?_⟩
              have S151 := S135.call r150
              refine FL.val (wF_yes rfl rfl rfl c148) rfl rfl (E.not rfl) ?_
              refine FL.val rfl rfl rfl (E.pickF rfl c148 rfl) ?_
              exact FL.nil ⟨rfl, _, S151, (Inc.rfl _), rfl, rfl, rfl, (congrArg Value.bool (bifF c148).symm)⟩
          rintro f147 w146 ⟨H143, S144, i145, k152, k153, k154, k155⟩
          refine FL.nil ?_
          rcases ifB hp with ⟨c156, hp⟩ | ⟨c156, hp⟩
          ·
            refine FW.condT k155 c156 ?_
            refine FW.seq ?_
            refine FW.region ?_
            refine FL.val rfl rfl rfl (E.assign (v := Value.bool false) rfl) ?_
            refine FL.nil ?_
            refine FW.ret ?_
            obtain rfl := Option.some.inj hp
            exact ⟨.inr rfl, res1 rfl rfl ⟨rfl, S144.back⟩⟩
          ·
            refine FW.condF k155 c156 ?_
            refine FW.skip ?_
            refine FW.seq ?_
            refine FW.region ?_
            refine FL.val rfl rfl rfl (E.move k153) ?_
            refine FL.val rfl rfl rfl (E.move k154) ?_
            refine FL.val rfl rfl rfl (E.fieldAddr tf89_3 k152) ?_
            refine FL.val rfl rfl rfl (E.load rfl (run_load1 Tryz.isAgg3 ((at49.mono ((r108.inc.tr r136.inc).tr i145)).now S144.sl) rfl)) ?_
            obtain ⟨r157, hr158, hp⟩ := bnd hp
            refine FL.call rfl rfl rfl (E.call Tryz.call203 (A3 rfl rfl rfl)) (w_impl_resolve S144.sl v109 r103.1 (h110.mono (r136.inc.tr i145)) v137 r131.1 (h138.mono i145) x35.pivot hr158) ?_
            rintro e w160 ⟨H159, v163, n164, cs165, rfl, r162, els166⟩
            refine ⟨_, rfl, ?_⟩
            have els166 := els166.mono (up_le S144.size)
            have S161 := S144.join (l' := [.row 3 1 v163 n164 cs165]) r162 rfl
            refine FL.val rfl rfl rfl (E.move (v := Value.tuple #[v163, Value.bool r157.2]) rfl) ?_
            refine FL.val rfl rfl rfl (E.extract (i := 0) rfl rfl) ?_
            refine FL.val rfl rfl rfl (E.extract (i := 1) rfl rfl) ?_
            refine FL.val rfl rfl rfl (E.assign (v := v163) rfl) ?_
            refine FL.val rfl rfl rfl (E.assign (v := Value.bool r157.2) rfl) ?_
            refine FL.nil ?_
            refine FW.seq ?_
            refine FW.region ?_
            refine FL.val rfl rfl rfl (E.move (v := Value.bool r157.2) rfl) ?_
            refine FL.val rfl rfl rfl (E.move (v := Value.bool r157.2) rfl) ?_
            obtain ⟨t177, hqt177, hp⟩ := bnd hp
            refine FL.cut 5 (fun f w => ∃ H : GH, St Ha wa H w [.row 3 1 v163 n164 cs165] ∧ Inc H159 H ∧ f 104 = Value.bool t177) ?_ ?_
            ·
              clear hp; have hp := hqt177; clear hqt177
              rcases ifB hp with ⟨c183, hp⟩ | ⟨c183, hp⟩
              ·
                refine FL.val (wF_yes rfl rfl rfl c183) rfl rfl (E.move (v := v163) rfl) ?_
                refine FL.val (wF_yes rfl rfl rfl c183) rfl rfl (E.fieldAddr tf89_0 k152) ?_
                refine FL.val (wF_yes rfl rfl rfl c183) rfl rfl (E.load rfl (run_load1 Tryz.isAgg39 ((at49.mono (((r108.inc.tr r136.inc).tr i145).tr r162.run.inc)).now S161.sl) rfl)) ?_
                obtain ⟨H184, S185, i186, h187, nv188⟩ := S161.sealRowU (i := 0) (l' := []) rfl els166 (by decide) rfl
                obtain ⟨r189, hr190, hp⟩ := bnd hp
                refine FL.call (wF_yes rfl rfl rfl c183) rfl rfl (E.call Tryz.call245 (A2 rfl rfl)) (w_slices_Equal_int_int S185.sl v163 r157.1 (h187.mono upI) v37 x35.clause (h38.mono ((((((i27.tr i48).tr r108.inc).tr r136.inc).tr i145).tr r162.run.inc).tr i186)) hr190) ?_
                rintro e w191 ⟨rfl, r192⟩
                refine ⟨_, rfl, ?_⟩
                have r192 := Run.lend i186 S161.sl r192
                have S193 := S161.call r192
                obtain rfl := Option.some.inj hp
                refine FL.val rfl rfl rfl (E.pickT rfl c183 rfl) ?_
                exact FL.nil ⟨rfl, _, S193, (Inc.rfl _), rfl⟩
              ·
                refine FL.skip (wF_no rfl rfl rfl c183) rfl ?_
                refine FL.skip (wF_no rfl rfl rfl c183) rfl ?_
                refine FL.skip (wF_no rfl rfl rfl c183) rfl ?_
                refine FL.skip (wF_no rfl rfl rfl c183) rfl ?_
                obtain rfl := Option.some.inj hp
                refine FL.val rfl rfl rfl (E.pickF rfl c183 rfl) ?_
                exact FL.nil ⟨rfl, _, S161, (Inc.rfl _), rfl⟩
            rintro f182 w181 ⟨H178, S179, i180, k194⟩
            refine FL.val rfl rfl rfl (E.assign k194) ?_
            refine FL.nil ?_
            refine FW.ret ?_
            obtain rfl := Option.some.inj hp
            exact ⟨.inr rfl, res1 rfl rfl ⟨rfl, S179.back⟩⟩

theorem w_impl_firstWrong {Ha : GH} {wa : World} (hs : Sl Ha wa) (a0 : Cnf) (v0_1 : Value) (p0_1 : RSl Ha (eL eI 1) 1 v0_1 a0.clauses) (v1 : Value) (a1 : List ResStep) (p1 : RSl Ha eResStep 4 v1 a1) {r : Int} (hp : (PF.impl_firstWrong a0 a1) = some r) :
    Calls Tryz.prog 135 #[Value.agg #[Value.int .i64 a0.vars, v0_1], v1] wa (Sc Ha wa (Value.int .i64 r)) := by
  unfold PF.impl_firstWrong at hp
  have S0 := St.init hs
  refine calls_go (N := 18) (args := [Value.agg #[Value.int .i64 a0.vars, v0_1], v1]) Tryz.func135 rfl rfl rfl ?_
  refine FW.seq ?_
  refine FW.region ?_
  obtain ⟨b21, w22, run23, S24⟩ := S0.box (P := Tryz.prog) 31 [Value.int .i64 a0.vars, v0_1] (v := Value.agg #[Value.int .i64 a0.vars, v0_1]) rfl (ones_cons rfl (ones_cons p0_1.one ones_nil))
  refine FL.val rfl rfl rfl (E.box rfl run23) ?_
  obtain ⟨H25, S26, i27, at28⟩ := S24.sealBox (i := 0) (l' := []) rfl rfl
  refine FL.val rfl rfl rfl (E.assign (v := Value.int .i64 0) rfl) ?_
  refine FL.nil ?_
  refine FW.seq ?_
  refine FW.seq ?_
  refine FW.region ?_
  refine FL.val rfl rfl rfl (E.move (v := v1) rfl) ?_
  refine FL.val rfl rfl rfl (E.lenP te28 rfl p1) ?_
  refine FL.val rfl rfl rfl (E.move (v := Value.int .i64 0) rfl) ?_
  refine FL.nil ?_
  obtain ⟨q30, hq, hp⟩ := bndR hp
  refine FW.block ?_
  refine FW.mono (FW.forL (S := Unit) (X := Int) (fun (i30 : Nat) (s30 : Unit) f w => ∃ H : GH, St Ha wa H w [] ∧ Inc H25 H ∧ f 8 = Value.int .i64 ((i30 : Nat) : Int) ∧ f 1 = v1 ∧ f 2 = Value.pointer (some ⟨b21, 0, none⟩) ∧ f 7 = Value.int .i64 (len a1)) (fun q e f w => match q with | .go s30 => e = Exit.exit 0 ∧ (∃ H : GH, St Ha wa H w [] ∧ Inc H25 H) | .rt x => ((e = Exit.ret) ∧ (fun e f w => (e = Exit.normal ∨ e = Exit.ret) ∧ ∀ a, Fr (δ := []) 18 a f → ∃ v, (results Tryz.f135 a.tmps).run Tryz.prog w = .ok v w ∧ (Sc Ha wa (Value.int .i64 x)) (.returned v) w) e f w)) hq ⟨_, S26, (Inc.rfl _), rfl, rfl, rfl, rfl⟩ ?_ ?_) ?_
  ·
    clear hp hq
    rintro i30 y29 s30 f50 w49 ⟨H46, S47, i48, k51, k52, k53, k54⟩ hx30 o61 hp
    refine FW.seq ?_
    refine FW.region ?_
    refine FL.val rfl rfl rfl (E.lssT k51 k54 (lss_len hx30)) ?_
    refine FL.nil ?_
    refine FW.seq ?_
    refine FW.condT rfl rfl ?_
    refine FW.skip ?_
    refine FW.seq ?_
    refine FW.block ?_
    refine FW.seq ?_
    refine FW.region ?_
    refine FL.val rfl rfl rfl (E.move k51) ?_
    refine FL.val rfl rfl rfl (E.assign (v := Value.int .i64 ((i30 : Nat) : Int)) rfl) ?_
    refine FL.nil ?_
    refine FW.seq ?_
    refine FW.region ?_
    refine FL.val rfl rfl rfl (E.load k53 (run_loadA Tryz.isAgg31 Tryz.sizeOf31 ((at28.mono i48).now S47.sl) rfl)) ?_
    refine FL.val rfl rfl rfl (E.move k52) ?_
    refine FL.val rfl rfl rfl (E.move (v := Value.int .i64 ((i30 : Nat) : Int)) rfl) ?_
    obtain ⟨r55, hr56, hp⟩ := bnd hp
    refine FL.call rfl rfl rfl (E.call Tryz.call201 (A3 rfl rfl rfl)) (w_impl_correct S47.sl a0 v0_1 (p0_1.mono (i27.tr i48)) v1 a1 (p1.mono (i27.tr i48)) ((i30 : Nat) : Int) hr56) ?_
    rintro e w57 ⟨rfl, r58⟩
    refine ⟨_, rfl, ?_⟩
    have S59 := S47.call r58
    refine FL.val rfl rfl rfl (E.not rfl) ?_
    refine FL.nil ?_
    rcases ifB hp with ⟨c60, hp⟩ | ⟨c60, hp⟩
    ·
      refine FW.condT rfl c60 ?_
      refine FW.seq ?_
      refine FW.region ?_
      refine FL.val rfl rfl rfl (E.move (v := Value.int .i64 ((i30 : Nat) : Int)) rfl) ?_
      refine FL.val rfl rfl rfl (E.assign (v := Value.int .i64 ((i30 : Nat) : Int)) rfl) ?_
      refine FL.nil ?_
      refine FW.ret ?_
      obtain rfl := Option.some.inj hp
      exact ⟨nofun, rfl, ⟨.inr rfl, res1 rfl rfl ⟨rfl, S59.back⟩⟩⟩
    ·
      refine FW.condF rfl c60 ?_
      refine FW.skip ?_
      refine FW.region ?_
      refine FL.val rfl rfl rfl (E.add k51 rfl) ?_
      refine FL.val rfl rfl rfl (E.move (v := Value.int .i64 (wr (((i30 : Nat) : Int) + 1))) rfl) ?_
      refine FL.nil ?_
      obtain rfl := Option.some.inj hp
      exact ⟨rfl, ⟨_, S59, i48, (nat_succ rfl (lt_of_get hx30) (p1.mono (i27.tr i48)).le), k52, k53, k54⟩⟩
  ·
    clear hp hq
    rintro s30 f71 w70 ⟨H67, S68, i69, k72, k73, k74, k75⟩
    refine FW.seq ?_
    refine FW.region ?_
    refine FL.val rfl rfl rfl (E.lss k72 k75) ?_
    refine FL.nil ?_
    refine FW.seq ?_
    refine FW.condF rfl dlt_len ?_
    refine FW.exit ?_
    exact ⟨nofun, rfl, ⟨_, S68, i69⟩⟩
  ·
    clear hq
    intro e f66 w65 hD
    rcases q30 with s30 | x30
    ·
      obtain ⟨rfl, hD⟩ := hD
      obtain ⟨H62, S63, i64⟩ := hD
      replace hp := el_go hp
      refine FW.seq ?_
      refine FW.region ?_
      refine FL.val rfl rfl rfl (E.assign (v := Value.int .i64 (-1)) rfl) ?_
      refine FL.nil ?_
      refine FW.ret ?_
      obtain rfl := Option.some.inj hp
      exact ⟨.inr rfl, res1 rfl rfl ⟨rfl, S63.back⟩⟩
    ·
      obtain ⟨he, hL⟩ := hD
      replace hp := el_rt hp
      obtain rfl := Option.some.inj hp
      subst he
      exact hL

theorem w_impl_IsDerivation {Ha : GH} {wa : World} (hs : Sl Ha wa) (a0 : Cnf) (v0_1 : Value) (p0_1 : RSl Ha (eL eI 1) 1 v0_1 a0.clauses) (v1 : Value) (a1 : List ResStep) (p1 : RSl Ha eResStep 4 v1 a1) {r : Bool} (hp : (PF.impl_IsDerivation a0 a1) = some r) :
    Calls Tryz.prog 74 #[Value.agg #[Value.int .i64 a0.vars, v0_1], v1] wa (Sc Ha wa (Value.bool r)) := by
  unfold PF.impl_IsDerivation at hp
  have S0 := St.init hs
  refine calls_go (N := 18) (args := [Value.agg #[Value.int .i64 a0.vars, v0_1], v1]) Tryz.func74 rfl rfl rfl ?_
  refine FW.seq ?_
  refine FW.region ?_
  obtain ⟨b21, w22, run23, S24⟩ := S0.box (P := Tryz.prog) 31 [Value.int .i64 a0.vars, v0_1] (v := Value.agg #[Value.int .i64 a0.vars, v0_1]) rfl (ones_cons rfl (ones_cons p0_1.one ones_nil))
  refine FL.val rfl rfl rfl (E.box rfl run23) ?_
  obtain ⟨H25, S26, i27, at28⟩ := S24.sealBox (i := 0) (l' := []) rfl rfl
  refine FL.val rfl rfl rfl (E.assign (v := Value.bool false) rfl) ?_
  refine FL.nil ?_
  refine FW.seq ?_
  refine FW.region ?_
  refine FL.val rfl rfl rfl (E.load rfl (run_loadA Tryz.isAgg31 Tryz.sizeOf31 (at28.now S26.sl) rfl)) ?_
  obtain ⟨r29, hr30, hp⟩ := bnd hp
  refine FL.call rfl rfl rfl (E.call Tryz.call134 (A1 rfl)) (w_impl_IsCnf S26.sl a0 v0_1 (p0_1.mono i27) hr30) ?_
  rintro e w31 ⟨rfl, r32⟩
  refine ⟨_, rfl, ?_⟩
  have S33 := S26.call r32
  refine FL.val rfl rfl rfl (E.move (v := Value.bool r29) rfl) ?_
  refine FL.cut 4 (fun f w => ∃ H : GH, St Ha wa H w [] ∧ Inc H25 H ∧ f 1 = v1 ∧ f 2 = Value.pointer (some ⟨b21, 0, none⟩) ∧ f 11 = Value.bool (bif r29 then (decide ((len a1) ≤ 200)) else false)) ?_ ?_
  ·
    rcases bcase r29 with c40 | c40
    ·
      refine FL.val (wF_yes rfl rfl rfl c40) rfl rfl (E.move (v := v1) rfl) ?_
      refine FL.val (wF_yes rfl rfl rfl c40) rfl rfl (E.lenP te28 rfl p1) ?_
      refine FL.val (wF_yes rfl rfl rfl c40) rfl rfl (E.leq rfl rfl) ?_
      refine FL.val rfl rfl rfl (E.pickT rfl c40 rfl) ?_
      exact FL.nil ⟨rfl, _, S33, (Inc.rfl _), rfl, rfl, (congrArg Value.bool (bifT c40).symm)⟩
    ·
      refine FL.skip (wF_no rfl rfl rfl c40) rfl ?_
      refine FL.skip (wF_no rfl rfl rfl c40) rfl ?_
      refine FL.skip (wF_no rfl rfl rfl c40) rfl ?_
      refine FL.val rfl rfl rfl (E.pickF rfl c40 rfl) ?_
      exact FL.nil ⟨rfl, _, S33, (Inc.rfl _), rfl, rfl, (congrArg Value.bool (bifF c40).symm)⟩
  rintro f39 w38 ⟨H35, S36, i37, k41, k42, k43⟩
  refine FL.val rfl rfl rfl (E.move k43) ?_
  obtain ⟨t49, hqt49, hp⟩ := bnd hp
  refine FL.cut 5 (fun f w => ∃ H : GH, St Ha wa H w [] ∧ Inc H35 H ∧ f 17 = Value.bool t49) ?_ ?_
  ·
    clear hp; have hp := hqt49; clear hqt49
    rcases ifB hp with ⟨c55, hp⟩ | ⟨c55, hp⟩
    ·
      refine FL.val (wF_yes rfl rfl rfl c55) rfl rfl (E.load k42 (run_loadA Tryz.isAgg31 Tryz.sizeOf31 ((at28.mono i37).now S36.sl) rfl)) ?_
      refine FL.val (wF_yes rfl rfl rfl c55) rfl rfl (E.move k41) ?_
      obtain ⟨r56, hr57, hp⟩ := bnd hp
      refine FL.call (wF_yes rfl rfl rfl c55) rfl rfl (E.call Tryz.call135 (A2 rfl rfl)) (w_impl_firstWrong S36.sl a0 v0_1 (p0_1.mono (i27.tr i37)) v1 a1 (p1.mono (i27.tr i37)) hr57) ?_
      rintro e w58 ⟨rfl, r59⟩
      refine ⟨_, rfl, ?_⟩
      have S60 := S36.call r59
      refine FL.val (wF_yes rfl rfl rfl c55) rfl rfl (E.lss rfl rfl) ?_
      obtain rfl := Option.some.inj hp
      refine FL.val rfl rfl rfl (E.pickT rfl c55 rfl) ?_
      exact FL.nil ⟨rfl, _, S60, (Inc.rfl _), rfl⟩
    ·
      refine FL.skip (wF_no rfl rfl rfl c55) rfl ?_
      refine FL.skip (wF_no rfl rfl rfl c55) rfl ?_
      refine FL.skip (wF_no rfl rfl rfl c55) rfl ?_
      refine FL.skip (wF_no rfl rfl rfl c55) rfl ?_
      obtain rfl := Option.some.inj hp
      refine FL.val rfl rfl rfl (E.pickF rfl c55 rfl) ?_
      exact FL.nil ⟨rfl, _, S36, (Inc.rfl _), rfl⟩
  rintro f54 w53 ⟨H50, S51, i52, k61⟩
  refine FL.val rfl rfl rfl (E.assign k61) ?_
  refine FL.nil ?_
  refine FW.ret ?_
  obtain rfl := Option.some.inj hp
  exact ⟨.inr rfl, res1 rfl rfl ⟨rfl, S51.back⟩⟩

theorem w_impl_ResStep_isAxiom {Ha : GH} {wa : World} (hs : Sl Ha wa) (a0 : ResStep) (v0_0 : Value) (p0_0 : RSl Ha eI 1 v0_0 a0.clause) :
    Calls Tryz.prog 87 #[Value.agg #[v0_0, Value.int .i64 a0.left, Value.int .i64 a0.right, Value.int .i64 a0.pivot]] wa (Sc Ha wa (Value.bool (PF.impl_ResStep_isAxiom a0))) := by
  obtain ⟨r, hp⟩ : ∃ r, (PF.impl_ResStep_isAxiom a0) = r := ⟨_, rfl⟩
  rw [hp]
  unfold PF.impl_ResStep_isAxiom at hp
  have S0 := St.init hs
  refine calls_go (N := 6) (args := [Value.agg #[v0_0, Value.int .i64 a0.left, Value.int .i64 a0.right, Value.int .i64 a0.pivot]]) Tryz.func87 rfl rfl rfl ?_
  refine FW.seq ?_
  refine FW.region ?_
  obtain ⟨b21, w22, run23, S24⟩ := S0.box (P := Tryz.prog) 89 [v0_0, Value.int .i64 a0.left, Value.int .i64 a0.right, Value.int .i64 a0.pivot] (v := Value.agg #[v0_0, Value.int .i64 a0.left, Value.int .i64 a0.right, Value.int .i64 a0.pivot]) rfl (ones_cons p0_0.one (ones_cons rfl (ones_cons rfl (ones_cons rfl ones_nil))))
  refine FL.val rfl rfl rfl (E.box rfl run23) ?_
  obtain ⟨H25, S26, i27, at28⟩ := S24.sealBox (i := 0) (l' := []) rfl rfl
  refine FL.val rfl rfl rfl (E.assign (v := Value.bool false) rfl) ?_
  refine FL.nil ?_
  refine FW.seq ?_
  refine FW.region ?_
  refine FL.val rfl rfl rfl (E.fieldAddr tf89_1 rfl) ?_
  refine FL.val rfl rfl rfl (E.load rfl (run_load1 Tryz.isAgg3 (at28.now S26.sl) rfl)) ?_
  refine FL.val rfl rfl rfl (E.lss rfl rfl) ?_
  refine FL.val rfl rfl rfl (E.assign (v := Value.bool (decide (a0.left < 0))) rfl) ?_
  refine FL.nil ?_
  refine FW.ret ?_
  obtain rfl := hp
  exact ⟨.inr rfl, res1 rfl rfl ⟨rfl, S26.back⟩⟩

theorem w_impl_ResStep_isResolvent {Ha : GH} {wa : World} (hs : Sl Ha wa) (a0 : ResStep) (v0_0 : Value) (p0_0 : RSl Ha eI 1 v0_0 a0.clause) :
    Calls Tryz.prog 202 #[Value.agg #[v0_0, Value.int .i64 a0.left, Value.int .i64 a0.right, Value.int .i64 a0.pivot]] wa (Sc Ha wa (Value.bool (PF.impl_ResStep_isResolvent a0))) := by
  obtain ⟨r, hp⟩ : ∃ r, (PF.impl_ResStep_isResolvent a0) = r := ⟨_, rfl⟩
  rw [hp]
  unfold PF.impl_ResStep_isResolvent at hp
  have S0 := St.init hs
  refine calls_go (N := 11) (args := [Value.agg #[v0_0, Value.int .i64 a0.left, Value.int .i64 a0.right, Value.int .i64 a0.pivot]]) Tryz.func202 rfl rfl rfl ?_
  refine FW.seq ?_
  refine FW.region ?_
  obtain ⟨b21, w22, run23, S24⟩ := S0.box (P := Tryz.prog) 89 [v0_0, Value.int .i64 a0.left, Value.int .i64 a0.right, Value.int .i64 a0.pivot] (v := Value.agg #[v0_0, Value.int .i64 a0.left, Value.int .i64 a0.right, Value.int .i64 a0.pivot]) rfl (ones_cons p0_0.one (ones_cons rfl (ones_cons rfl (ones_cons rfl ones_nil))))
  refine FL.val rfl rfl rfl (E.box rfl run23) ?_
  obtain ⟨H25, S26, i27, at28⟩ := S24.sealBox (i := 0) (l' := []) rfl rfl
  refine FL.val rfl rfl rfl (E.assign (v := Value.bool false) rfl) ?_
  refine FL.nil ?_
  refine FW.seq ?_
  refine FW.region ?_
  refine FL.val rfl rfl rfl (E.fieldAddr tf89_1 rfl) ?_
  refine FL.val rfl rfl rfl (E.load rfl (run_load1 Tryz.isAgg3 (at28.now S26.sl) rfl)) ?_
  refine FL.val rfl rfl rfl (E.geq rfl rfl) ?_
  refine FL.val rfl rfl rfl (E.move (v := Value.bool (decide (0 ≤ a0.left))) rfl) ?_
  refine FL.cut 4 (fun f w => ∃ H : GH, St Ha wa H w [] ∧ Inc H25 H ∧ f 10 = Value.bool (bif (decide (0 ≤ a0.left)) then (decide (0 ≤ a0.right)) else false)) ?_ ?_
  ·
    rcases bcase (decide (0 ≤ a0.left)) with c35 | c35
    ·
      refine FL.val (wF_yes rfl rfl rfl c35) rfl rfl (E.fieldAddr tf89_2 rfl) ?_
      refine FL.val (wF_yes rfl rfl rfl c35) rfl rfl (E.load rfl (run_load1 Tryz.isAgg3 (at28.now S26.sl) rfl)) ?_
      refine FL.val (wF_yes rfl rfl rfl c35) rfl rfl (E.geq rfl rfl) ?_
      refine FL.val rfl rfl rfl (E.pickT rfl c35 rfl) ?_
      exact FL.nil ⟨rfl, _, S26, (Inc.rfl _), (congrArg Value.bool (bifT c35).symm)⟩
    ·
      refine FL.skip (wF_no rfl rfl rfl c35) rfl ?_
      refine FL.skip (wF_no rfl rfl rfl c35) rfl ?_
      refine FL.skip (wF_no rfl rfl rfl c35) rfl ?_
      refine FL.val rfl rfl rfl (E.pickF rfl c35 rfl) ?_
      exact FL.nil ⟨rfl, _, S26, (Inc.rfl _), (congrArg Value.bool (bifF c35).symm)⟩
  rintro f34 w33 ⟨H30, S31, i32, k36⟩
  refine FL.val rfl rfl rfl (E.assign k36) ?_
  refine FL.nil ?_
  refine FW.ret ?_
  obtain rfl := hp
  exact ⟨.inr rfl, res1 rfl rfl ⟨rfl, S31.back⟩⟩

@[reducible] def p_impl_ResStep_moved (Ha : GH) (wa : World) (r : ResStep) : Ending → World → Prop :=
  fun e w' => ∃ H' : GH, ∃ v0_0 : Value, e = .returned (Value.agg #[v0_0, Value.int .i64 r.left, Value.int .i64 r.right, Value.int .i64 r.pivot]) ∧ Run wa.heap.size Ha wa H' w' ∧ RSl (up wa.heap.size H') eI 1 v0_0 r.clause
theorem w_impl_ResStep_moved {Ha : GH} {wa : World} (hs : Sl Ha wa) (a0 : ResStep) (v0_0 : Value) (p0_0 : RSl Ha eI 1 v0_0 a0.clause) (v1 : Value) (a1 : Int → Option Int) (p1 : Fn_I_to_I Tryz.prog Ha v1 a1) {r : ResStep} (hp : (PF.impl_ResStep_moved a0 a1) = some r) :
    Calls Tryz.prog 137 #[Value.agg #[v0_0, Value.int .i64 a0.left, Value.int .i64 a0.right, Value.int .i64 a0.pivot], v1] wa (p_impl_ResStep_moved Ha wa r) := by
  unfold PF.impl_ResStep_moved at hp
  have S0 := St.init hs
  refine calls_go (N := 25) (args := [Value.agg #[v0_0, Value.int .i64 a0.left, Value.int .i64 a0.right, Value.int .i64 a0.pivot], v1]) Tryz.func137 rfl rfl rfl ?_
  refine FW.seq ?_
  refine FW.region ?_
  obtain ⟨b21, w22, run23, S24⟩ := S0.box (P := Tryz.prog) 89 [v0_0, Value.int .i64 a0.left, Value.int .i64 a0.right, Value.int .i64 a0.pivot] (v := Value.agg #[v0_0, Value.int .i64 a0.left, Value.int .i64 a0.right, Value.int .i64 a0.pivot]) rfl (ones_cons p0_0.one (ones_cons rfl (ones_cons rfl (ones_cons rfl ones_nil))))
  refine FL.val rfl rfl rfl (E.box rfl run23) ?_
  obtain ⟨b25, w26, run27, S28⟩ := S24.alloc (P := Tryz.prog) 89 [Value.slice none 0 0, Value.int .i64 0, Value.int .i64 0, Value.int .i64 0] Tryz.zeroValue89 rfl (ones_cons rfl (ones_cons rfl (ones_cons rfl (ones_cons rfl ones_nil))))
  refine FL.val rfl rfl rfl (E.alloc run27) ?_
  refine FL.nil ?_
  refine FW.seq ?_
  refine FW.region ?_
  refine FL.val rfl rfl rfl (E.fieldAddr tf89_0 rfl) ?_
  refine FL.val rfl rfl rfl (E.load rfl (run_load1 Tryz.isAgg39 (S28.box_now (i := 1) rfl) rfl)) ?_
  obtain ⟨r29, hr30, hp⟩ := bnd hp
  refine FL.call rfl rfl rfl (E.call Tryz.call160 (A1 rfl)) (w_slices_Clone_int_int S28.sl v0_0 a0.clause p0_0 hr30) ?_
  rintro e w32 ⟨H31, v35, n36, cs37, rfl, r34, els38⟩
  refine ⟨_, rfl, ?_⟩
  have els38 := els38.mono (up_le S28.size)
  have S33 := S28.join (l' := [.row 3 1 v35 n36 cs37, .box b25 89 [Value.slice none 0 0, Value.int .i64 0, Value.int .i64 0, Value.int .i64 0], .box b21 89 [v0_0, Value.int .i64 a0.left, Value.int .i64 a0.right, Value.int .i64 a0.pivot]]) r34 rfl
  refine FL.val rfl rfl rfl (E.fieldAddr tf89_0 rfl) ?_
  obtain ⟨w39, run40, S41⟩ := S33.store (P := Tryz.prog) (t := 39) (i := 2) (j := 0) (cs' := [v35, Value.int .i64 a0.left, Value.int .i64 a0.right, Value.int .i64 a0.pivot]) (l' := [.row 3 1 v35 n36 cs37, .box b25 89 [Value.slice none 0 0, Value.int .i64 0, Value.int .i64 0, Value.int .i64 0], .box b21 89 [v35, Value.int .i64 a0.left, Value.int .i64 a0.right, Value.int .i64 a0.pivot]]) (v := v35) (c := [v35]) rfl Tryz.sizeOf39 (Ln.cells (S33.row_ln (i := 0) rfl)) rfl (ones_cons (Ln.one (S33.row_ln (i := 0) rfl)) ones_nil) (Nat.le_of_ble_eq_true rfl) rfl rfl
  refine FL.act rfl rfl (E.store rfl rfl run40) ?_
  refine FL.nil ?_
  refine FW.seq ?_
  refine FW.seq ?_
  refine FW.region ?_
  refine FL.val rfl rfl rfl (E.load rfl (run_loadA Tryz.isAgg89 Tryz.sizeOf89 (S41.box_now (i := 2) rfl) rfl)) ?_
  obtain ⟨H42, S43, i44, h45, nv46⟩ := S41.sealRowU (i := 0) (l' := [.box b25 89 [Value.slice none 0 0, Value.int .i64 0, Value.int .i64 0, Value.int .i64 0], .box b21 89 [v35, Value.int .i64 a0.left, Value.int .i64 a0.right, Value.int .i64 a0.pivot]]) rfl els38 (by decide) rfl
  refine FL.call rfl rfl rfl (E.call Tryz.call202 (A1 rfl)) (w_impl_ResStep_isResolvent S43.sl (ResStep.mk r29 a0.left a0.right a0.pivot) v35 (h45.mono upI)) ?_
  rintro e w47 ⟨rfl, r48⟩
  refine ⟨_, rfl, ?_⟩
  have r48 := Run.lend i44 S41.sl r48
  have S49 := S41.call r48
  refine FL.nil ?_
  obtain ⟨q65, hq, hp⟩ := bndR hp
  refine FW.joinE (S := (Int × Int × Int)) (X := Empty) (q := q65) (fun s64 f w => ∃ H : GH, St Ha wa H w [.row 3 1 v35 n36 cs37, .box b25 89 [Value.slice none 0 0, Value.int .i64 0, Value.int .i64 0, Value.int .i64 0], .box b21 89 [v35, Value.int .i64 s64.1, Value.int .i64 s64.2.1, Value.int .i64 s64.2.2]] ∧ Inc H31 H ∧ f 1 = v1 ∧ f 2 = Value.pointer (some (⟨b21, 0, none⟩ : Addr)) ∧ f 4 = Value.pointer (some (⟨b25, 0, none⟩ : Addr))) (fun (_ : Empty) _ _ _ => False) ?_ ?_ ?_
  ·
    clear hp; have hp := hq; clear hq
    rcases ifB hp with ⟨c67, hp⟩ | ⟨c67, hp⟩
    ·
      refine FW.condT rfl c67 ?_
      refine FW.region ?_
      refine FL.val rfl rfl rfl (E.move (v := v1) rfl) ?_
      refine FL.val rfl rfl rfl (E.fieldAddr tf89_2 rfl) ?_
      refine FL.val rfl rfl rfl (E.load rfl (run_load1 Tryz.isAgg3 (S49.box_now (i := 2) rfl) rfl)) ?_
      obtain ⟨r68, hr69, hp⟩ := bnd hp
      obtain ⟨fi73, cs74, hv75, he76, hc77⟩ := (p1.mono r34.run.inc) H31 w47 (Inc.rfl _) S49.sl a0.right r68 hr69
      refine FL.call rfl rfl rfl (E.callV he76 (Eq.trans rfl hv75) (appA (A1 rfl) cs74)) hc77 ?_
      rintro e w70 ⟨rfl, r71⟩
      refine ⟨_, rfl, ?_⟩
      have S72 := S49.call r71
      refine FL.val rfl rfl rfl (E.fieldAddr tf89_2 rfl) ?_
      obtain ⟨w78, run79, S80⟩ := S72.store (P := Tryz.prog) (t := 3) (i := 2) (j := 2) (cs' := [v35, Value.int .i64 a0.left, Value.int .i64 r68, Value.int .i64 a0.pivot]) (l' := [.row 3 1 v35 n36 cs37, .box b25 89 [Value.slice none 0 0, Value.int .i64 0, Value.int .i64 0, Value.int .i64 0], .box b21 89 [v35, Value.int .i64 a0.left, Value.int .i64 r68, Value.int .i64 a0.pivot]]) (v := Value.int .i64 r68) (c := [Value.int .i64 r68]) rfl Tryz.sizeOf3 rfl rfl (ones_cons rfl ones_nil) (Nat.le_of_ble_eq_true rfl) rfl rfl
      refine FL.act rfl rfl (E.store rfl rfl run79) ?_
      refine FL.nil ?_
      obtain rfl := Option.some.inj hp
      exact ⟨rfl, ⟨_, S80, (Inc.rfl _), rfl, rfl, rfl⟩⟩
    ·
      refine FW.condF rfl c67 ?_
      refine FW.skip ?_
      obtain rfl := Option.some.inj hp
      exact ⟨rfl, ⟨_, S49, (Inc.rfl _), rfl, rfl, rfl⟩⟩
  ·
    rintro s64 rfl f85 w84 ⟨H81, S82, i83, k86, k87, k88⟩
    replace hp := el_go hp
    refine FW.seq ?_
    refine FW.seq ?_
    refine FW.region ?_
    refine FL.val rfl rfl rfl (E.load k87 (run_loadA Tryz.isAgg89 Tryz.sizeOf89 (S82.box_now (i := 2) rfl) rfl)) ?_
    obtain ⟨H89, S90, i91, h92, nv93⟩ := S82.sealRowU (i := 0) (l' := [.box b25 89 [Value.slice none 0 0, Value.int .i64 0, Value.int .i64 0, Value.int .i64 0], .box b21 89 [v35, Value.int .i64 s64.1, Value.int .i64 s64.2.1, Value.int .i64 s64.2.2]]) rfl (els38.mono (up_mono i83)) (by decide) rfl
    refine FL.call rfl rfl rfl (E.call Tryz.call87 (A1 rfl)) (w_impl_ResStep_isAxiom S90.sl (ResStep.mk r29 s64.1 s64.2.1 s64.2.2) v35 (h92.mono upI)) ?_
    rintro e w94 ⟨rfl, r95⟩
    refine ⟨_, rfl, ?_⟩
    have r95 := Run.lend i91 S82.sl r95
    have S96 := S82.call r95
    refine FL.val rfl rfl rfl (E.not rfl) ?_
    refine FL.nil ?_
    rcases ifB hp with ⟨c97, hp⟩ | ⟨c97, hp⟩
    ·
      refine FW.condT rfl c97 ?_
      refine FW.region ?_
      refine FL.val rfl rfl rfl (E.move k86) ?_
      refine FL.val rfl rfl rfl (E.fieldAddr tf89_1 k87) ?_
      refine FL.val rfl rfl rfl (E.load rfl (run_load1 Tryz.isAgg3 (S96.box_now (i := 2) rfl) rfl)) ?_
      obtain ⟨r98, hr99, hp⟩ := bnd hp
      obtain ⟨fi103, cs104, hv105, he106, hc107⟩ := (p1.mono (r34.run.inc.tr i83)) H81 w94 (Inc.rfl _) S96.sl s64.1 r98 hr99
      refine FL.call rfl rfl rfl (E.callV he106 (Eq.trans rfl hv105) (appA (A1 rfl) cs104)) hc107 ?_
      rintro e w100 ⟨rfl, r101⟩
      refine ⟨_, rfl, ?_⟩
      have S102 := S96.call r101
      refine FL.val rfl rfl rfl (E.fieldAddr tf89_1 k87) ?_
      obtain ⟨w108, run109, S110⟩ := S102.store (P := Tryz.prog) (t := 3) (i := 2) (j := 1) (cs' := [v35, Value.int .i64 r98, Value.int .i64 s64.2.1, Value.int .i64 s64.2.2]) (l' := [.row 3 1 v35 n36 cs37, .box b25 89 [Value.slice none 0 0, Value.int .i64 0, Value.int .i64 0, Value.int .i64 0], .box b21 89 [v35, Value.int .i64 r98, Value.int .i64 s64.2.1, Value.int .i64 s64.2.2]]) (v := Value.int .i64 r98) (c := [Value.int .i64 r98]) rfl Tryz.sizeOf3 rfl rfl (ones_cons rfl ones_nil) (Nat.le_of_ble_eq_true rfl) rfl rfl
      refine FL.act rfl rfl (E.store rfl rfl run109) ?_
      refine FL.nil ?_
      refine FW.seq ?_
      refine FW.region ?_
      refine FL.val rfl rfl rfl (E.load k87 (run_loadA Tryz.isAgg89 Tryz.sizeOf89 (S110.box_now (i := 2) rfl) rfl)) ?_
      obtain ⟨w111, run112, S113⟩ := S110.store0 (P := Tryz.prog) (t := 89) (i := 1) (cs' := [v35, Value.int .i64 r98, Value.int .i64 s64.2.1, Value.int .i64 s64.2.2]) (l' := [.row 3 1 v35 n36 cs37, .box b25 89 [v35, Value.int .i64 r98, Value.int .i64 s64.2.1, Value.int .i64 s64.2.2], .box b21 89 [v35, Value.int .i64 r98, Value.int .i64 s64.2.1, Value.int .i64 s64.2.2]]) (v := Value.agg #[v35, Value.int .i64 r98, Value.int .i64 s64.2.1, Value.int .i64 s64.2.2]) (c := [v35, Value.int .i64 r98, Value.int .i64 s64.2.1, Value.int .i64 s64.2.2]) rfl Tryz.sizeOf89 rfl rfl (ones_cons (Ln.one (S110.row_ln (i := 0) rfl)) (ones_cons rfl (ones_cons rfl (ones_cons rfl ones_nil)))) (Nat.le_of_ble_eq_true rfl) rfl rfl
      refine FL.act rfl rfl (E.store k88 rfl run112) ?_
      obtain ⟨H114, S115, i116, h117, nv118⟩ := S113.sealRowU (i := 0) (l' := [.box b25 89 [v35, Value.int .i64 r98, Value.int .i64 s64.2.1, Value.int .i64 s64.2.2], .box b21 89 [v35, Value.int .i64 r98, Value.int .i64 s64.2.1, Value.int .i64 s64.2.2]]) rfl (els38.mono (up_mono i83)) (by decide) rfl
      obtain ⟨H119, S120, i121, at122⟩ := S115.sealBox (i := 0) (l' := [.box b21 89 [v35, Value.int .i64 r98, Value.int .i64 s64.2.1, Value.int .i64 s64.2.2]]) rfl rfl
      refine FL.nil ?_
      refine FW.ret ?_
      obtain rfl := Option.some.inj hp
      exact ⟨.inr rfl, resC rfl k88 (loadVar_A Tryz.isAgg89 Tryz.sizeOf89 (at122.now S120.sl) rfl) ⟨_, _, rfl, S120.run, (h117.mono (up_mono i121))⟩⟩
    ·
      refine FW.condF rfl c97 ?_
      refine FW.skip ?_
      refine FW.seq ?_
      refine FW.region ?_
      refine FL.val rfl rfl rfl (E.load k87 (run_loadA Tryz.isAgg89 Tryz.sizeOf89 (S96.box_now (i := 2) rfl) rfl)) ?_
      obtain ⟨w123, run124, S125⟩ := S96.store0 (P := Tryz.prog) (t := 89) (i := 1) (cs' := [v35, Value.int .i64 s64.1, Value.int .i64 s64.2.1, Value.int .i64 s64.2.2]) (l' := [.row 3 1 v35 n36 cs37, .box b25 89 [v35, Value.int .i64 s64.1, Value.int .i64 s64.2.1, Value.int .i64 s64.2.2], .box b21 89 [v35, Value.int .i64 s64.1, Value.int .i64 s64.2.1, Value.int .i64 s64.2.2]]) (v := Value.agg #[v35, Value.int .i64 s64.1, Value.int .i64 s64.2.1, Value.int .i64 s64.2.2]) (c := [v35, Value.int .i64 s64.1, Value.int .i64 s64.2.1, Value.int .i64 s64.2.2]) rfl Tryz.sizeOf89 rfl rfl (ones_cons (Ln.one (S96.row_ln (i := 0) rfl)) (ones_cons rfl (ones_cons rfl (ones_cons rfl ones_nil)))) (Nat.le_of_ble_eq_true rfl) rfl rfl
      refine FL.act rfl rfl (E.store k88 rfl run124) ?_
      obtain ⟨H126, S127, i128, h129, nv130⟩ := S125.sealRowU (i := 0) (l' := [.box b25 89 [v35, Value.int .i64 s64.1, Value.int .i64 s64.2.1, Value.int .i64 s64.2.2], .box b21 89 [v35, Value.int .i64 s64.1, Value.int .i64 s64.2.1, Value.int .i64 s64.2.2]]) rfl (els38.mono (up_mono i83)) (by decide) rfl
      obtain ⟨H131, S132, i133, at134⟩ := S127.sealBox (i := 0) (l' := [.box b21 89 [v35, Value.int .i64 s64.1, Value.int .i64 s64.2.1, Value.int .i64 s64.2.2]]) rfl rfl
      refine FL.nil ?_
      refine FW.ret ?_
      obtain rfl := Option.some.inj hp
      exact ⟨.inr rfl, resC rfl k88 (loadVar_A Tryz.isAgg89 Tryz.sizeOf89 (at134.now S132.sl) rfl) ⟨_, _, rfl, S132.run, (h129.mono (up_mono i133))⟩⟩
  ·
    intro x66; exact x66.elim

theorem w_impl_ResStep_isWeakening {Ha : GH} {wa : World} (hs : Sl Ha wa) (a0 : ResStep) (v0_0 : Value) (p0_0 : RSl Ha eI 1 v0_0 a0.clause) :
    Calls Tryz.prog 89 #[Value.agg #[v0_0, Value.int .i64 a0.left, Value.int .i64 a0.right, Value.int .i64 a0.pivot]] wa (Sc Ha wa (Value.bool (PF.impl_ResStep_isWeakening a0))) := by
  obtain ⟨r, hp⟩ : ∃ r, (PF.impl_ResStep_isWeakening a0) = r := ⟨_, rfl⟩
  rw [hp]
  unfold PF.impl_ResStep_isWeakening at hp
  have S0 := St.init hs
  refine calls_go (N := 11) (args := [Value.agg #[v0_0, Value.int .i64 a0.left, Value.int .i64 a0.right, Value.int .i64 a0.pivot]]) Tryz.func89 rfl rfl rfl ?_
  refine FW.seq ?_
  refine FW.region ?_
  obtain ⟨b21, w22, run23, S24⟩ := S0.box (P := Tryz.prog) 89 [v0_0, Value.int .i64 a0.left, Value.int .i64 a0.right, Value.int .i64 a0.pivot] (v := Value.agg #[v0_0, Value.int .i64 a0.left, Value.int .i64 a0.right, Value.int .i64 a0.pivot]) rfl (ones_cons p0_0.one (ones_cons rfl (ones_cons rfl (ones_cons rfl ones_nil))))
  refine FL.val rfl rfl rfl (E.box rfl run23) ?_
  obtain ⟨H25, S26, i27, at28⟩ := S24.sealBox (i := 0) (l' := []) rfl rfl
  refine FL.val rfl rfl rfl (E.assign (v := Value.bool false) rfl) ?_
  refine FL.nil ?_
  refine FW.seq ?_
  refine FW.region ?_
  refine FL.val rfl rfl rfl (E.fieldAddr tf89_1 rfl) ?_
  refine FL.val rfl rfl rfl (E.load rfl (run_load1 Tryz.isAgg3 (at28.now S26.sl) rfl)) ?_
  refine FL.val rfl rfl rfl (E.geq rfl rfl) ?_
  refine FL.val rfl rfl rfl (E.move (v := Value.bool (decide (0 ≤ a0.left))) rfl) ?_
  refine FL.cut 4 (fun f w => ∃ H : GH, St Ha wa H w [] ∧ Inc H25 H ∧ f 10 = Value.bool (bif (decide (0 ≤ a0.left)) then (decide (a0.right < 0)) else false)) ?_ ?_
  ·
    rcases bcase (decide (0 ≤ a0.left)) with c35 | c35
    ·
      refine FL.val (wF_yes rfl rfl rfl c35) rfl rfl (E.fieldAddr tf89_2 rfl) ?_
      refine FL.val (wF_yes rfl rfl rfl c35) rfl rfl (E.load rfl (run_load1 Tryz.isAgg3 (at28.now S26.sl) rfl)) ?_
      refine FL.val (wF_yes rfl rfl rfl c35) rfl rfl (E.lss rfl rfl) ?_
      refine FL.val rfl rfl rfl (E.pickT rfl c35 rfl) ?_
      exact FL.nil ⟨rfl, _, S26, (Inc.rfl _), (congrArg Value.bool (bifT c35).symm)⟩
    ·
      refine FL.skip (wF_no rfl rfl rfl c35) rfl ?_
      refine FL.skip (wF_no rfl rfl rfl c35) rfl ?_
      refine FL.skip (wF_no rfl rfl rfl c35) rfl ?_
      refine FL.val rfl rfl rfl (E.pickF rfl c35 rfl) ?_
      exact FL.nil ⟨rfl, _, S26, (Inc.rfl _), (congrArg Value.bool (bifF c35).symm)⟩
  rintro f34 w33 ⟨H30, S31, i32, k36⟩
  refine FL.val rfl rfl rfl (E.assign k36) ?_
  refine FL.nil ?_
  refine FW.ret ?_
  obtain rfl := hp
  exact ⟨.inr rfl, res1 rfl rfl ⟨rfl, S31.back⟩⟩

theorem w_impl_last_int {Ha : GH} {wa : World} (hs : Sl Ha wa) (v0 : Value) (a0 : List Int) (p0 : RSl Ha eI 1 v0 a0) {r : Int} (hp : (PF.impl_last_int a0) = some r) :
    Calls Tryz.prog 95 #[v0] wa (Sc Ha wa (Value.int .i64 r)) := by
  unfold PF.impl_last_int at hp
  have S0 := St.init hs
  refine calls_go (N := 9) (args := [v0]) Tryz.func95 rfl rfl rfl ?_
  refine FW.seq ?_
  refine FW.region ?_
  refine FL.val rfl rfl rfl (E.assign (v := Value.int .i64 0) rfl) ?_
  refine FL.nil ?_
  refine FW.seq ?_
  refine FW.region ?_
  refine FL.val rfl rfl rfl (E.move (v := v0) rfl) ?_
  refine FL.val rfl rfl rfl (E.move (v := v0) rfl) ?_
  refine FL.val rfl rfl rfl (E.lenP te39 rfl p0) ?_
  refine FL.val rfl rfl rfl (E.sub rfl rfl) ?_
  obtain ⟨x27, hx28, hp⟩ := bnd hp
  obtain ⟨p21, cs22, pt23, l24, at25, rel26⟩ := p0.at hx28
  obtain rfl := eI_open rel26
  refine FL.val rfl rfl rfl (E.indexAddr te39 rfl rfl pt23) ?_
  refine FL.val rfl rfl rfl (E.load rfl (run_load0 Tryz.isAgg3 (at25.now S0.sl) rfl)) ?_
  refine FL.val rfl rfl rfl (E.assign (v := Value.int .i64 x27) rfl) ?_
  refine FL.nil ?_
  refine FW.ret ?_
  obtain rfl := Option.some.inj hp
  exact ⟨.inr rfl, res1 rfl rfl ⟨rfl, S0.back⟩⟩

end Go.Proofs
