/- Part of the walks and plain laws behind the claim: it proves helpers, under no condition beyond their own. -/
import Derived.Test.YtcdphhfmkkdpfaaGreatWk1
set_option linter.unusedVariables false
set_option maxRecDepth 100000
namespace Go.Proofs
open Go.Mr Go.Pu Go.PF Go.RowKit

@[reducible] def p_spec_l7Restrict (Ha : GH) (wa : World) (r : (List ResStep)) : Ending → World → Prop :=
  fun e w' => ∃ H' : GH, ∃ v0 : Value, e = .returned (v0) ∧ Run wa.heap.size Ha wa H' w' ∧ RSl H' eResStep 4 v0 r
set_option maxHeartbeats 4000000 in
theorem w_spec_l7Restrict {Ha : GH} {wa : World} (hs : Sl Ha wa) (a0 : Cnf) (v0_1 : Value) (p0_1 : RSl Ha (eL eI 1) 1 v0_1 a0.clauses) (v1 : Value) (a1 : List ResStep) (p1 : RSl Ha eResStep 4 v1 a1) (v2 : Value) (a2 : List Int) (p2 : RSl Ha eI 1 v2 a2) {r : (List ResStep)} (hp : (PF.spec_l7Restrict a0 a1 a2) = some r) :
    Calls Tryz.prog 80 #[Value.agg #[Value.int .i64 a0.vars, v0_1], v1, v2] wa (p_spec_l7Restrict Ha wa r) := by
  unfold PF.spec_l7Restrict at hp
  have S0 := St.init hs
  refine calls_go (N := 146) (args := [Value.agg #[Value.int .i64 a0.vars, v0_1], v1, v2]) Tryz.func80 rfl rfl rfl ?_
  refine FW.seq ?_
  refine FW.region ?_
  obtain ⟨b21, w22, run23, S24⟩ := S0.box (P := Tryz.prog) 31 [Value.int .i64 a0.vars, v0_1] (v := Value.agg #[Value.int .i64 a0.vars, v0_1]) rfl (ones_cons rfl (ones_cons p0_1.one ones_nil))
  refine FL.val rfl rfl rfl (E.box rfl run23) ?_
  obtain ⟨H25, S26, i27, at28⟩ := S24.sealBox (i := 0) (l' := []) rfl rfl
  refine FL.val rfl rfl rfl (E.assign (v := Value.slice none 0 0) rfl) ?_
  refine FL.nil ?_
  refine FW.seq ?_
  refine FW.region ?_
  obtain ⟨v29, w30, run31, S32⟩ := S26.buildSlice (P := Tryz.prog) te39 [] (parts := #[]) (cells := []) rfl szs_nil fc_nil ones_nil (Nat.le_of_ble_eq_true rfl)
  have els33 : Els (up wa.heap.size H25) eI 1 [] [] := Els.nil
  refine FL.val rfl rfl rfl (E.buildSlice (B0) run31) ?_
  refine FL.val rfl rfl rfl (E.assign (v := v29) rfl) ?_
  refine FL.val rfl rfl rfl (E.assign (v := Value.int .i64 0) rfl) ?_
  refine FL.nil ?_
  refine FW.seq ?_
  refine FW.seq ?_
  refine FW.region ?_
  refine FL.val rfl rfl rfl (E.assign (v := Value.int .i64 0) rfl) ?_
  refine FL.nil ?_
  obtain ⟨q34, hq, hp⟩ := bndR hp
  refine FW.block ?_
  refine FW.mono (FW.iter (S := ((List Int) × Int × Int)) (X := Empty) (fun (s34 : ((List Int) × Int × Int)) f w => ∃ H : GH, ∃ v35 : Value, ∃ n36 : Nat, ∃ cs37 : List Value, St Ha wa H w [.row 3 1 v35 n36 cs37] ∧ Inc H25 H ∧ Els (up wa.heap.size H) eI 1 cs37 s34.1 ∧ f 1 = v1 ∧ f 2 = v2 ∧ f 3 = Value.pointer (some ⟨b21, 0, none⟩) ∧ f 7 = v35 ∧ f 8 = Value.int .i64 s34.2.1 ∧ f 9 = Value.int .i64 s34.2.2) (fun (q : Rs ((List Int) × Int × Int) Empty) e f w => match q with | .go s34 => e = Exit.exit 0 ∧ (∃ H : GH, ∃ v35 : Value, ∃ n36 : Nat, ∃ cs37 : List Value, St Ha wa H w [.row 3 1 v35 n36 cs37] ∧ Inc H25 H ∧ Els (up wa.heap.size H) eI 1 cs37 s34.1 ∧ f 1 = v1 ∧ f 2 = v2 ∧ f 7 = v35) | .rt x => x.elim) hq ⟨_, _, _, _, S32, (Inc.rfl _), els33, rfl, rfl, rfl, rfl, rfl, rfl⟩ ?_) ?_
  ·
    clear hp hq
    rintro s34 f87 w86 ⟨H83, v35, n36, cs37, S84, i85, els38, k88, k89, k90, k91, k92, k93⟩ o127 hp
    refine FW.seq ?_
    refine FW.seq ?_
    refine FW.region ?_
    refine FL.val rfl rfl rfl (E.move k93) ?_
    refine FL.val rfl rfl rfl (E.fieldAddr tf31_1 k90) ?_
    refine FL.val rfl rfl rfl (E.load rfl (run_load1 Tryz.isAgg22 ((at28.mono i85).now S84.sl) rfl)) ?_
    refine FL.val rfl rfl rfl (E.lenP te22 rfl p0_1) ?_
    refine FL.val rfl rfl rfl (E.lss rfl rfl) ?_
    refine FL.nil ?_
    rcases ifB hp with ⟨c94, hp⟩ | ⟨c94, hp⟩
    ·
      refine FW.condT rfl c94 ?_
      refine FW.skip ?_
      refine FW.seq ?_
      refine FW.block ?_
      refine FW.seq ?_
      refine FW.region ?_
      refine FL.val rfl rfl rfl (E.move k91) ?_
      refine FL.val rfl rfl rfl (E.move k92) ?_
      obtain ⟨v95, w96, run97, S98⟩ := S84.buildSlice (P := Tryz.prog) te39 [Value.int .i64 s34.2.1] (parts := #[(0, Value.int .i64 s34.2.1)]) (cells := [Value.int .i64 s34.2.1]) rfl (szs_cons rfl szs_nil) (fc_cons rfl fc_nil) (ones_cons rfl ones_nil) (Nat.le_of_ble_eq_true rfl)
      have els99 : Els (up wa.heap.size H83) eI 1 [Value.int .i64 s34.2.1] [s34.2.1] := (Els.snoc (H := (up wa.heap.size H83)) (E := eI) (k := 1) (c := [Value.int .i64 s34.2.1]) (x := s34.2.1) Els.nil rfl rfl)
      refine FL.val rfl rfl rfl (E.buildSlice (B1 rfl) run97) ?_
      obtain ⟨xs100, hz101, hp⟩ := bnd hp
      obtain ⟨v102, w105, n103, cs104, run106, S107, els108, ce109⟩ := S98.appendO (P := Tryz.prog) te39 (i := 1) (j := 0) rfl els38 rfl els99 hz101
      have S107 : St Ha wa H83 w105 [.row 3 1 v95 1 [Value.int .i64 s34.2.1], .row 3 1 v102 n103 cs104] := S107
      have S110 : St Ha wa H83 w105 [.row 3 1 v102 n103 cs104] := S107.drop 0
      refine FL.val rfl rfl rfl (E.append rfl rfl run106) ?_
      refine FL.val rfl rfl rfl (E.assign (v := v102) rfl) ?_
      refine FL.nil ?_
      refine FW.seq ?_
      refine FW.region ?_
      refine FL.val rfl rfl rfl (E.fieldAddr tf31_1 k90) ?_
      refine FL.val rfl rfl rfl (E.load rfl (run_load1 Tryz.isAgg22 ((at28.mono i85).now S110.sl) rfl)) ?_
      refine FL.val rfl rfl rfl (E.move k93) ?_
      obtain ⟨x117, hx118, hp⟩ := bnd hp
      obtain ⟨p111, cs112, pt113, l114, at115, rel116⟩ := p0_1.at hx118
      obtain ⟨v119, rfl, h120⟩ := eL_open rel116
      refine FL.val rfl rfl rfl (E.indexAddr te22 rfl rfl pt113) ?_
      refine FL.val rfl rfl rfl (E.load rfl (run_load0 Tryz.isAgg39 ((at115.mono (i27.tr i85)).now S110.sl) rfl)) ?_
      refine FL.val rfl rfl rfl (E.move k89) ?_
      obtain ⟨r121, hr122, hp⟩ := bnd hp
      refine FL.call rfl rfl rfl (E.call Tryz.call140 (A2 rfl rfl)) (w_spec_l3Value S110.sl v119 x117 (h120.mono (i27.tr i85)) v2 a2 (p2.mono (i27.tr i85)) hr122) ?_
      rintro e w123 ⟨rfl, r124⟩
      refine ⟨_, rfl, ?_⟩
      have S125 := S110.call r124
      refine FL.val rfl rfl rfl (E.lss rfl rfl) ?_
      refine FL.nil ?_
      rcases ifB hp with ⟨c126, hp⟩ | ⟨c126, hp⟩
      ·
        refine FW.condT rfl c126 ?_
        refine FW.region ?_
        refine FL.val rfl rfl rfl (E.move k92) ?_
        refine FL.val rfl rfl rfl (E.add rfl rfl) ?_
        refine FL.val rfl rfl rfl (E.assign (v := Value.int .i64 (wr (s34.2.1 + 1))) rfl) ?_
        refine FL.nil ?_
        refine FW.region ?_
        refine FL.val rfl rfl rfl (E.move k93) ?_
        refine FL.val rfl rfl rfl (E.add rfl rfl) ?_
        refine FL.val rfl rfl rfl (E.assign (v := Value.int .i64 (wr (s34.2.2 + 1))) rfl) ?_
        refine FL.nil ?_
        obtain rfl := Option.some.inj hp
        exact ⟨rfl, ⟨_, _, _, _, S125, i85, els108, k88, k89, k90, rfl, rfl, rfl⟩⟩
      ·
        refine FW.condF rfl c126 ?_
        refine FW.skip ?_
        refine FW.region ?_
        refine FL.val rfl rfl rfl (E.move k93) ?_
        refine FL.val rfl rfl rfl (E.add rfl rfl) ?_
        refine FL.val rfl rfl rfl (E.assign (v := Value.int .i64 (wr (s34.2.2 + 1))) rfl) ?_
        refine FL.nil ?_
        obtain rfl := Option.some.inj hp
        exact ⟨rfl, ⟨_, _, _, _, S125, i85, els108, k88, k89, k90, rfl, k92, rfl⟩⟩
    ·
      refine FW.condF rfl c94 ?_
      refine FW.exit ?_
      obtain rfl := Option.some.inj hp
      exact ⟨nofun, rfl, ⟨_, _, _, _, S84, i85, els38, k88, k89, k91⟩⟩
  ·
    clear hq
    intro e f132 w131 hD
    rcases q34 with s34 | x34
    ·
      obtain ⟨rfl, hD⟩ := hD
      obtain ⟨H128, v35, n36, cs37, S129, i130, els38, k133, k134, k135⟩ := hD
      replace hp := el_go hp
      refine FW.seq ?_
      refine FW.region ?_
      obtain ⟨v136, w137, run138, S139⟩ := S129.buildSlice (P := Tryz.prog) te28 [] (parts := #[]) (cells := []) rfl szs_nil fc_nil ones_nil (Nat.le_of_ble_eq_true rfl)
      have els140 : Els (up wa.heap.size H128) eResStep 4 [] [] := Els.nil
      refine FL.val rfl rfl rfl (E.buildSlice (B0) run138) ?_
      obtain ⟨v141, w142, run143, S144⟩ := S139.buildSlice (P := Tryz.prog) te39 [] (parts := #[]) (cells := []) rfl szs_nil fc_nil ones_nil (Nat.le_of_ble_eq_true rfl)
      have els145 : Els (up wa.heap.size H128) eI 1 [] [] := Els.nil
      refine FL.val rfl rfl rfl (E.buildSlice (B0) run143) ?_
      refine FL.val rfl rfl rfl (E.build (B2 rfl rfl) (run_build _ 170 #[(0, v136), (1, v141)] #[v136, v141] (by obtain ⟨_, _, rfl⟩ := S144.row_ln (i := 1) rfl; obtain ⟨_, _, rfl⟩ := S144.row_ln (i := 0) rfl; rfl))) ?_
      obtain ⟨b146, w147, run148, S149⟩ := S144.alloc (P := Tryz.prog) 170 [Value.slice none 0 0, Value.slice none 0 0] Tryz.zeroValue170 rfl (ones_cons rfl (ones_cons rfl ones_nil))
      refine FL.val rfl rfl rfl (E.alloc run148) ?_
      obtain ⟨w150, run151, S152⟩ := S149.store0 (P := Tryz.prog) (t := 170) (i := 0) (cs' := [v136, v141]) (l' := [.box b146 170 [v136, v141], .row 3 1 v141 0 [], .row 89 4 v136 0 [], .row 3 1 v35 n36 cs37]) (v := Value.agg #[v136, v141]) (c := [v136, v141]) rfl Tryz.sizeOf170 rfl rfl (ones_cons (Ln.one (S149.row_ln (i := 2) rfl)) (ones_cons (Ln.one (S149.row_ln (i := 1) rfl)) ones_nil)) (Nat.le_of_ble_eq_true rfl) rfl rfl
      refine FL.act rfl rfl (E.store rfl rfl run151) ?_
      refine FL.nil ?_
      refine FW.seq ?_
      refine FW.seq ?_
      refine FW.region ?_
      refine FL.val rfl rfl rfl (E.assign (v := Value.int .i64 0) rfl) ?_
      refine FL.nil ?_
      obtain ⟨q154, hq, hp⟩ := bndR hp
      refine FW.block ?_
      refine FW.mono (FW.forL (S := ((List Int) × (List ResStep))) (X := Empty) (fun (i154 : Nat) (s154 : ((List Int) × (List ResStep))) f w => ∃ H : GH, ∃ v228309 : Value, ∃ n228310 : Nat, ∃ cs228311 : List Value, ∃ v228313 : Value, ∃ n228314 : Nat, ∃ cs228315 : List Value, St Ha wa H w [.box b146 170 [v228313, v228309], .row 3 1 v228309 n228310 cs228311, .row 89 4 v228313 n228314 cs228315, .row 3 1 v35 n36 cs37] ∧ Inc H128 H ∧ Els (up wa.heap.size H) eI 1 cs228311 s154.1 ∧ Els (up wa.heap.size H) eResStep 4 cs228315 s154.2 ∧ (bl cs228315).Nodup ∧ f 11 = Value.int .i64 ((i154 : Nat) : Int) ∧ f 1 = v1 ∧ f 2 = v2 ∧ f 7 = v35 ∧ f 10 = Value.pointer (some (⟨b146, 0, none⟩ : Addr))) (fun (q : Rs ((List Int) × (List ResStep)) Empty) e f w => match q with | .go s154 => e = Exit.exit 2 ∧ (∃ H : GH, ∃ v228309 : Value, ∃ n228310 : Nat, ∃ cs228311 : List Value, ∃ v228313 : Value, ∃ n228314 : Nat, ∃ cs228315 : List Value, St Ha wa H w [.box b146 170 [v228313, v228309], .row 3 1 v228309 n228310 cs228311, .row 89 4 v228313 n228314 cs228315, .row 3 1 v35 n36 cs37] ∧ Inc H128 H ∧ Els (up wa.heap.size H) eI 1 cs228311 s154.1 ∧ Els (up wa.heap.size H) eResStep 4 cs228315 s154.2 ∧ (bl cs228315).Nodup ∧ f 10 = Value.pointer (some (⟨b146, 0, none⟩ : Addr))) | .rt x => x.elim) hq ⟨_, _, _, _, _, _, _, S152, (Inc.rfl _), els145, els140, (show (bl []).Nodup from List.nodup_nil), rfl, k133, k134, k135, rfl⟩ ?_ ?_) ?_
      ·
        clear hp hq
        rintro i154 y153 s154 f456476 w456475 ⟨H456472, v228309, n228310, cs228311, v228313, n228314, cs228315, S456473, i456474, els228312, els228316, nd228317, k456477, k456478, k456479, k456480, k456481⟩ hx154 o684631 hp
        refine FW.seq ?_
        refine FW.seq ?_
        refine FW.region ?_
        refine FL.val rfl rfl rfl (E.move k456477) ?_
        refine FL.val rfl rfl rfl (E.move k456478) ?_
        refine FL.val rfl rfl rfl (E.lenP te28 rfl p1) ?_
        refine FL.val rfl rfl rfl (E.lssT rfl rfl (lss_len hx154)) ?_
        refine FL.nil ?_
        refine FW.condT rfl rfl ?_
        refine FW.skip ?_
        refine FW.seq ?_
        refine FW.block ?_
        refine FW.seq ?_
        refine FW.region ?_
        refine FL.val rfl rfl rfl (E.move k456478) ?_
        refine FL.val rfl rfl rfl (E.move k456477) ?_
        obtain ⟨p456482, cs456483, pt456484, l456485, at456486, rel456487⟩ := p1.at (ix_nat hx154)
        obtain ⟨v456488, rfl, h456489⟩ := eResStep_open rel456487
        refine FL.val rfl rfl rfl (E.indexAddr te28 rfl rfl pt456484) ?_
        refine FL.val rfl rfl rfl (E.load rfl (run_loadA Tryz.isAgg89 Tryz.sizeOf89 ((at456486.mono ((i27.tr i130).tr i456474)).now S456473.sl) rfl)) ?_
        obtain ⟨b456490, w456491, run456492, S456493⟩ := S456473.alloc (P := Tryz.prog) 89 [Value.slice none 0 0, Value.int .i64 0, Value.int .i64 0, Value.int .i64 0] Tryz.zeroValue89 rfl (ones_cons rfl (ones_cons rfl (ones_cons rfl (ones_cons rfl ones_nil))))
        refine FL.val rfl rfl rfl (E.alloc run456492) ?_
        obtain ⟨w456494, run456495, S456496⟩ := S456493.store0 (P := Tryz.prog) (t := 89) (i := 0) (cs' := [v456488, Value.int .i64 y153.left, Value.int .i64 y153.right, Value.int .i64 y153.pivot]) (l' := [.box b456490 89 [v456488, Value.int .i64 y153.left, Value.int .i64 y153.right, Value.int .i64 y153.pivot], .box b146 170 [v228313, v228309], .row 3 1 v228309 n228310 cs228311, .row 89 4 v228313 n228314 cs228315, .row 3 1 v35 n36 cs37]) (v := Value.agg #[v456488, Value.int .i64 y153.left, Value.int .i64 y153.right, Value.int .i64 y153.pivot]) (c := [v456488, Value.int .i64 y153.left, Value.int .i64 y153.right, Value.int .i64 y153.pivot]) rfl Tryz.sizeOf89 rfl rfl (ones_cons h456489.one (ones_cons rfl (ones_cons rfl (ones_cons rfl ones_nil)))) (Nat.le_of_ble_eq_true rfl) rfl rfl
        refine FL.act rfl rfl (E.store rfl rfl run456495) ?_
        obtain ⟨H456497, S456498, i456499, at456500⟩ := S456496.sealBox (i := 0) (l' := [.box b146 170 [v228313, v228309], .row 3 1 v228309 n228310 cs228311, .row 89 4 v228313 n228314 cs228315, .row 3 1 v35 n36 cs37]) rfl rfl
        refine FL.nil ?_
        refine FW.block ?_
        refine FW.seq ?_
        refine FW.region ?_
        refine FL.val rfl rfl rfl (E.fieldAddr tf89_0 rfl) ?_
        refine FL.val rfl rfl rfl (E.load rfl (run_load1 Tryz.isAgg39 (at456500.now S456498.sl) rfl)) ?_
        refine FL.val rfl rfl rfl (E.move k456479) ?_
        obtain ⟨r456501, hr456502, hp⟩ := bnd hp
        refine FL.call rfl rfl rfl (E.call Tryz.call140 (A2 rfl rfl)) (w_spec_l3Value S456498.sl v456488 y153.clause (h456489.mono (((i27.tr i130).tr i456474).tr i456499)) v2 a2 (p2.mono (((i27.tr i130).tr i456474).tr i456499)) hr456502) ?_
        rintro e w456503 ⟨rfl, r456504⟩
        refine ⟨_, rfl, ?_⟩
        have S456505 := S456498.call r456504
        refine FL.val rfl rfl rfl (E.eql rfl rfl) ?_
        refine FL.val rfl rfl rfl (E.assign (v := Value.bool (r456501 == 1)) rfl) ?_
        refine FL.nil ?_
        rcases ifB hp with ⟨c456506, hp⟩ | ⟨c456506, hp⟩
        ·
          refine FW.condT rfl c456506 ?_
          refine FW.region ?_
          refine FL.val rfl rfl rfl (E.fieldAddr tf170_1 k456481) ?_
          refine FL.val rfl rfl rfl (E.load rfl (run_load1 Tryz.isAgg39 (S456505.box_now (i := 0) rfl) rfl)) ?_
          obtain ⟨v456507, w456508, run456509, S456510⟩ := S456505.buildSlice (P := Tryz.prog) te39 [Value.int .i64 (-1)] (parts := #[(0, Value.int .i64 (-1))]) (cells := [Value.int .i64 (-1)]) rfl (szs_cons rfl szs_nil) (fc_cons rfl fc_nil) (ones_cons rfl ones_nil) (Nat.le_of_ble_eq_true rfl)
          have els456511 : Els (up wa.heap.size H456497) eI 1 [Value.int .i64 (-1)] [(-1)] := (Els.snoc (H := (up wa.heap.size H456497)) (E := eI) (k := 1) (c := [Value.int .i64 (-1)]) (x := (-1)) Els.nil rfl rfl)
          refine FL.val rfl rfl rfl (E.buildSlice (B1 rfl) run456509) ?_
          obtain ⟨xs456512, hz456513, hp⟩ := bnd hp
          obtain ⟨v456514, w456517, n456515, cs456516, run456518, S456519, els456520, ce456521⟩ := S456510.appendO (P := Tryz.prog) te39 (i := 2) (j := 0) rfl (els228312.mono (up_mono i456499)) rfl els456511 hz456513
          have S456519 : St Ha wa H456497 w456517 [.row 3 1 v456507 1 [Value.int .i64 (-1)], .box b146 170 [v228313, v228309], .row 3 1 v456514 n456515 cs456516, .row 89 4 v228313 n228314 cs228315, .row 3 1 v35 n36 cs37] := S456519
          have S456522 : St Ha wa H456497 w456517 [.box b146 170 [v228313, v228309], .row 3 1 v456514 n456515 cs456516, .row 89 4 v228313 n228314 cs228315, .row 3 1 v35 n36 cs37] := S456519.drop 0
          refine FL.val rfl rfl rfl (E.append rfl rfl run456518) ?_
          refine FL.val rfl rfl rfl (E.fieldAddr tf170_1 k456481) ?_
          obtain ⟨w456523, run456524, S456525⟩ := S456522.store (P := Tryz.prog) (t := 39) (i := 0) (j := 1) (cs' := [v228313, v456514]) (l' := [.box b146 170 [v228313, v456514], .row 3 1 v456514 n456515 cs456516, .row 89 4 v228313 n228314 cs228315, .row 3 1 v35 n36 cs37]) (v := v456514) (c := [v456514]) rfl Tryz.sizeOf39 (Ln.cells (S456522.row_ln (i := 1) rfl)) rfl (ones_cons (Ln.one (S456522.row_ln (i := 1) rfl)) ones_nil) (Nat.le_of_ble_eq_true rfl) rfl rfl
          refine FL.act rfl rfl (E.store rfl rfl run456524) ?_
          refine FL.nil ?_
          refine FW.region ?_
          refine FL.val rfl rfl rfl (E.move k456477) ?_
          refine FL.val rfl rfl rfl (E.add rfl rfl) ?_
          refine FL.val rfl rfl rfl (E.assign (v := Value.int .i64 (wr (((i154 : Nat) : Int) + 1))) rfl) ?_
          refine FL.nil ?_
          obtain rfl := Option.some.inj hp
          exact ⟨rfl, ⟨_, _, _, _, _, _, _, S456525, (i456474.tr i456499), els456520, (els228316.mono (up_mono i456499)), nd228317, (nat_succ rfl (lt_of_get hx154) (p1.mono (((i27.tr i130).tr i456474).tr i456499)).le), k456478, k456479, k456480, k456481⟩⟩
        ·
          refine FW.condF rfl c456506 ?_
          refine FW.seq ?_
          refine FW.region ?_
          refine FL.val rfl rfl rfl (E.fieldAddr tf89_1 rfl) ?_
          refine FL.val rfl rfl rfl (E.load rfl (run_load1 Tryz.isAgg3 (at456500.now S456505.sl) rfl)) ?_
          refine FL.val rfl rfl rfl (E.eql rfl rfl) ?_
          refine FL.val rfl rfl rfl (E.assign (v := Value.bool (y153.left == (-1))) rfl) ?_
          refine FL.nil ?_
          rcases ifB hp with ⟨c456526, hp⟩ | ⟨c456526, hp⟩
          ·
            refine FW.condT rfl c456526 ?_
            obtain ⟨r471527, hr471528, hp⟩ := bnd hp
            obtain ⟨x483533, hx483534, hp⟩ := bnd hp
            obtain ⟨s492586, hq492586, hp⟩ := bnd hp
            refine FW.drawB (SX Ha wa H456497 [.row 3 1 v35 n36 cs37]) (fun f w => ∃ H : GH, ∃ v501527 : Value, ∃ n501528 : Nat, ∃ cs501529 : List Value, ∃ v501531 : Value, ∃ n501532 : Nat, ∃ cs501533 : List Value, St Ha wa H w [.box b146 170 [v501531, v501527], .row 3 1 v501527 n501528 cs501529, .row 89 4 v501531 n501532 cs501533, .row 3 1 v35 n36 cs37] ∧ Inc H456497 H ∧ Els (up wa.heap.size H) eI 1 cs501529 s492586.1 ∧ Els (up wa.heap.size H) eResStep 4 cs501533 s492586.2 ∧ (bl cs501533).Nodup ∧ f 1 = v1 ∧ f 2 = v2 ∧ f 7 = v35 ∧ f 10 = Value.pointer (some (⟨b146, 0, none⟩ : Addr)) ∧ f 11 = Value.int .i64 ((i154 : Nat) : Int)) (by kernel_rfl) S456505.sl ?_ ?_
            ·
              intro w456527 r456528
              have S456529 := S456505.call r456528
              refine FB.phase [12] (fun w => WAt w (⟨b146, 0, none⟩ : Addr) [v228313, v228309]) ?_
              refine FB.takeP (i := 0) (l' := #[true, false, false, false, false, false, false, false, false, false, false, false, false]) 0 [11, 12] rfl rfl (by kernel_rfl) (by kernel_rfl) (by kernel_rfl) (by kernel_rfl) (by kernel_rfl) (by kernel_rfl) (SP.on (S456529.box_now (i := 0) rfl) (SP.nil ⟨_, (S456529.sel [3] (by decide) rfl), (Inc.rfl _)⟩)) rfl rfl rfl (fun w' hw' => (E.load k456481 (run_loadA Tryz.isAgg170 Tryz.sizeOf170 hw' rfl))) ?_
              refine FB.take (i := 1) (l' := #[true, true, false, false, false, false, false, false, false, false, false, false, false]) rfl (by kernel_rfl) (by kernel_rfl) (by kernel_rfl) (by kernel_rfl) (by kernel_rfl) (SP.on (S456529.box_now (i := 0) rfl) (SP.nil ⟨_, (S456529.sel [3] (by decide) rfl), (Inc.rfl _)⟩)) rfl rfl rfl (fun w' hw' => (E.fieldAddr tf89_0 rfl)) ?_
              refine FB.take (i := 2) (l' := #[true, true, true, false, false, false, false, false, false, false, false, false, false]) rfl (by kernel_rfl) (by kernel_rfl) (by kernel_rfl) (by kernel_rfl) (by kernel_rfl) (SP.on (S456529.box_now (i := 0) rfl) (SP.nil ⟨_, (S456529.sel [3] (by decide) rfl), (Inc.rfl _)⟩)) rfl rfl rfl (fun w' hw' => (E.load rfl (run_load1 Tryz.isAgg39 (at456500.now hw'.sl) rfl))) ?_
              refine FB.take (i := 3) (l' := #[true, true, true, true, false, false, false, false, false, false, false, false, false]) rfl (by kernel_rfl) (by kernel_rfl) (by kernel_rfl) (by kernel_rfl) (by kernel_rfl) (SP.on (S456529.box_now (i := 0) rfl) (SP.nil ⟨_, (S456529.sel [3] (by decide) rfl), (Inc.rfl _)⟩)) rfl rfl rfl (fun w' hw' => (E.move k456479)) ?_
              refine FB.take (i := 5) (l' := #[true, true, true, true, false, true, false, false, false, false, false, false, false]) rfl (by kernel_rfl) (by kernel_rfl) (by kernel_rfl) (by kernel_rfl) (by kernel_rfl) (SP.on (S456529.box_now (i := 0) rfl) (SP.nil ⟨_, (S456529.sel [3] (by decide) rfl), (Inc.rfl _)⟩)) rfl rfl rfl (fun w' hw' => (E.move k456480)) ?_
              refine FB.take (i := 6) (l' := #[true, true, true, true, false, true, true, false, false, false, false, false, false]) rfl (by kernel_rfl) (by kernel_rfl) (by kernel_rfl) (by kernel_rfl) (by kernel_rfl) (SP.on (S456529.box_now (i := 0) rfl) (SP.nil ⟨_, (S456529.sel [3] (by decide) rfl), (Inc.rfl _)⟩)) rfl rfl rfl (fun w' hw' => (E.fieldAddr tf89_2 rfl)) ?_
              refine FB.take (i := 7) (l' := #[true, true, true, true, false, true, true, true, false, false, false, false, false]) rfl (by kernel_rfl) (by kernel_rfl) (by kernel_rfl) (by kernel_rfl) (by kernel_rfl) (SP.on (S456529.box_now (i := 0) rfl) (SP.nil ⟨_, (S456529.sel [3] (by decide) rfl), (Inc.rfl _)⟩)) rfl rfl rfl (fun w' hw' => (E.load rfl (run_load1 Tryz.isAgg3 (at456500.now hw'.sl) rfl))) ?_
              obtain ⟨p483527, cs483528, pt483529, l483530, at483531, rel483532, hall483535⟩ := S456529.row_atA (i := 3) rfl els38 (by decide) hx483534
              obtain rfl := eI_open rel483532
              refine FB.take (i := 8) (l' := #[true, true, true, true, false, true, true, true, true, false, false, false, false]) rfl (by kernel_rfl) (by kernel_rfl) (by kernel_rfl) (by kernel_rfl) (by kernel_rfl) (SP.on (S456529.box_now (i := 0) rfl) (SP.nil ⟨_, (S456529.sel [3] (by decide) rfl), (Inc.rfl _)⟩)) rfl rfl rfl (fun w' hw' => (E.indexAddr te39 rfl rfl pt483529)) ?_
              refine FB.take (i := 9) (l' := #[true, true, true, true, false, true, true, true, true, true, false, false, false]) rfl (by kernel_rfl) (by kernel_rfl) (by kernel_rfl) (by kernel_rfl) (by kernel_rfl) (SP.on (S456529.box_now (i := 0) rfl) (SP.nil ⟨_, (S456529.sel [3] (by decide) rfl), (Inc.rfl _)⟩)) rfl rfl rfl (fun w' hw' => (E.load rfl (run_load0 Tryz.isAgg3 (hw'.use fun _ st => hall483535 _ _ _ 0 st rfl) rfl))) ?_
              refine FB.all1 (i := 4) (by kernel_rfl) ?_
              ·
                refine FC.call (l' := #[true, true, true, true, true, true, true, true, true, true, false, false, false]) rfl (by kernel_rfl) rfl rfl rfl (E.call Tryz.call141 (A2 rfl rfl)) (w_spec_l3Left S456529.sl v456488 y153.clause (h456489.mono (((i27.tr i130).tr i456474).tr i456499)) v2 a2 (p2.mono (((i27.tr i130).tr i456474).tr i456499)) hr471528) ?_
                rintro e w471530 ⟨H471529, v471533, n471534, cs471535, rfl, r471532, els471536⟩
                refine ⟨_, rfl, ?_⟩
                have els471536 := els471536.mono (up_le S456529.size)
                have S471531 := S456529.join (l' := [.row 3 1 v471533 n471534 cs471535, .box b146 170 [v228313, v228309], .row 3 1 v228309 n228310 cs228311, .row 89 4 v228313 n228314 cs228315, .row 3 1 v35 n36 cs37]) r471532 rfl
                refine ⟨(SP.on (S471531.box_now (i := 1) rfl) (SP.nil ⟨_, (S471531.sel [4] (by decide) rfl), r471532.run.inc⟩)), ?_⟩
                obtain ⟨H489527, S489528, i489529, h489530, nv489531⟩ := S471531.sealRowU (i := 0) (l' := [.box b146 170 [v228313, v228309], .row 3 1 v228309 n228310 cs228311, .row 89 4 v228313 n228314 cs228315, .row 3 1 v35 n36 cs37]) rfl els471536 (by decide) rfl
                refine FB.take (i := 10) (l' := #[true, true, true, true, true, true, true, true, true, true, true, false, false]) rfl (by kernel_rfl) (by kernel_rfl) (by kernel_rfl) (by kernel_rfl) (by kernel_rfl) (SP.on (S471531.box_now (i := 1) rfl) (SP.nil ⟨_, (S471531.sel [4] (by decide) rfl), r471532.run.inc⟩)) rfl rfl rfl (fun w' hw' => (E.build (B3 rfl rfl rfl) (run_build _ 89 #[(0, v471533), (1, Value.int .i64 (-1)), (2, Value.int .i64 x483533)] #[v471533, Value.int .i64 (-1), Value.int .i64 x483533, Value.int .i64 0] (by obtain ⟨_, _, rfl⟩ := RSl.ln (h489530.mono upI); rfl)))) ?_
                refine FB.all1 (i := 11) (by kernel_rfl) ?_
                ·
                  obtain ⟨R492586, hR492586⟩ : ∃ R492586 : ((List Int) × (List ResStep)) → Ending → World → Prop, R492586 = (fun s492586 e w => ∃ H : GH, ∃ v492587 : Value, ∃ n492588 : Nat, ∃ cs492589 : List Value, ∃ v492591 : Value, ∃ n492592 : Nat, ∃ cs492593 : List Value, e = Ending.returned (Value.agg #[v492591, v492587]) ∧ St Ha wa H w [.box b146 170 [v228313, v228309], .row 3 1 v492587 n492588 cs492589, .row 89 4 v492591 n492592 cs492593, .row 3 1 v35 n36 cs37] ∧ Inc H489527 H ∧ Els (up wa.heap.size H) eI 1 cs492589 s492586.1 ∧ Els (up wa.heap.size H) eResStep 4 cs492593 s492586.2 ∧ (bl cs492593).Nodup) := ⟨_, rfl⟩
                  have hc492586 : Calls Tryz.prog 130 #[Value.agg #[v228313, v228309], Value.agg #[v471533, Value.int .i64 (-1), Value.int .i64 x483533, Value.int .i64 0]] w471530 (R492586 s492586) := by
                    clear hp; have hp := hq492586; clear hq492586
                    refine calls_go (N := 20) (args := [Value.agg #[v228313, v228309], Value.agg #[v471533, Value.int .i64 (-1), Value.int .i64 x483533, Value.int .i64 0]]) Tryz.func130 rfl rfl rfl ?_
                    refine FW.seq ?_
                    refine FW.region ?_
                    obtain ⟨b492596, w492597, run492598, S492599⟩ := S489528.box (P := Tryz.prog) 170 [v228313, v228309] (v := Value.agg #[v228313, v228309]) rfl (ones_cons (Ln.one (S489528.row_ln (i := 2) rfl)) (ones_cons (Ln.one (S489528.row_ln (i := 1) rfl)) ones_nil))
                    refine FL.val rfl rfl rfl (E.box rfl run492598) ?_
                    obtain ⟨b492600, w492601, run492602, S492603⟩ := S492599.box (P := Tryz.prog) 89 [v471533, Value.int .i64 (-1), Value.int .i64 x483533, Value.int .i64 0] (v := Value.agg #[v471533, Value.int .i64 (-1), Value.int .i64 x483533, Value.int .i64 0]) rfl (ones_cons h489530.one (ones_cons rfl (ones_cons rfl (ones_cons rfl ones_nil))))
                    refine FL.val rfl rfl rfl (E.box rfl run492602) ?_
                    obtain ⟨H492604, S492605, i492606, at492607⟩ := S492603.sealBox (i := 0) (l' := [.box b492596 170 [v228313, v228309], .box b146 170 [v228313, v228309], .row 3 1 v228309 n228310 cs228311, .row 89 4 v228313 n228314 cs228315, .row 3 1 v35 n36 cs37]) rfl rfl
                    obtain ⟨b492608, w492609, run492610, S492611⟩ := S492605.alloc (P := Tryz.prog) 170 [Value.slice none 0 0, Value.slice none 0 0] Tryz.zeroValue170 rfl (ones_cons rfl (ones_cons rfl ones_nil))
                    refine FL.val rfl rfl rfl (E.alloc run492610) ?_
                    refine FL.nil ?_
                    refine FW.seq ?_
                    refine FW.region ?_
                    refine FL.val rfl rfl rfl (E.fieldAddr tf170_1 rfl) ?_
                    refine FL.val rfl rfl rfl (E.load rfl (run_load1 Tryz.isAgg39 (S492611.box_now (i := 1) rfl) rfl)) ?_
                    refine FL.val rfl rfl rfl (E.fieldAddr tf170_0 rfl) ?_
                    refine FL.val rfl rfl rfl (E.load rfl (run_load1 Tryz.isAgg28 (S492611.box_now (i := 1) rfl) rfl)) ?_
                    refine FL.val rfl rfl rfl (E.lenO te28 rfl S492611 (i := 4) rfl els228316 (by decide)) ?_
                    obtain ⟨v492612, w492613, run492614, S492615⟩ := S492611.buildSlice (P := Tryz.prog) te39 [Value.int .i64 (len s154.2)] (parts := #[(0, Value.int .i64 (len s154.2))]) (cells := [Value.int .i64 (len s154.2)]) rfl (szs_cons rfl szs_nil) (fc_cons rfl fc_nil) (ones_cons rfl ones_nil) (Nat.le_of_ble_eq_true rfl)
                    have els492616 : Els (up wa.heap.size H492604) eI 1 [Value.int .i64 (len s154.2)] [(len s154.2)] := (Els.snoc (H := (up wa.heap.size H492604)) (E := eI) (k := 1) (c := [Value.int .i64 (len s154.2)]) (x := (len s154.2)) Els.nil rfl rfl)
                    refine FL.val rfl rfl rfl (E.buildSlice (B1 rfl) run492614) ?_
                    obtain ⟨xs492617, hz492618, hp⟩ := bnd hp
                    obtain ⟨v492619, w492622, n492620, cs492621, run492623, S492624, els492625, ce492626⟩ := S492615.appendO (P := Tryz.prog) te39 (i := 4) (j := 0) rfl (els228312.mono (up_mono (((i456499.tr r471532.run.inc).tr i489529).tr i492606))) rfl els492616 hz492618
                    have S492624 : St Ha wa H492604 w492622 [.row 3 1 v492612 1 [Value.int .i64 (len s154.2)], .box b492608 170 [Value.slice none 0 0, Value.slice none 0 0], .box b492596 170 [v228313, v228309], .box b146 170 [v228313, v228309], .row 3 1 v492619 n492620 cs492621, .row 89 4 v228313 n228314 cs228315, .row 3 1 v35 n36 cs37] := S492624
                    have S492627 : St Ha wa H492604 w492622 [.box b492608 170 [Value.slice none 0 0, Value.slice none 0 0], .box b492596 170 [v228313, v228309], .box b146 170 [v228313, v228309], .row 3 1 v492619 n492620 cs492621, .row 89 4 v228313 n228314 cs228315, .row 3 1 v35 n36 cs37] := S492624.drop 0
                    refine FL.val rfl rfl rfl (E.append rfl rfl run492623) ?_
                    refine FL.val rfl rfl rfl (E.fieldAddr tf170_1 rfl) ?_
                    obtain ⟨w492628, run492629, S492630⟩ := S492627.store (P := Tryz.prog) (t := 39) (i := 1) (j := 1) (cs' := [v228313, v492619]) (l' := [.box b492608 170 [Value.slice none 0 0, Value.slice none 0 0], .box b492596 170 [v228313, v492619], .box b146 170 [v228313, v228309], .row 3 1 v492619 n492620 cs492621, .row 89 4 v228313 n228314 cs228315, .row 3 1 v35 n36 cs37]) (v := v492619) (c := [v492619]) rfl Tryz.sizeOf39 (Ln.cells (S492627.row_ln (i := 3) rfl)) rfl (ones_cons (Ln.one (S492627.row_ln (i := 3) rfl)) ones_nil) (Nat.le_of_ble_eq_true rfl) rfl rfl
                    refine FL.act rfl rfl (E.store rfl rfl run492629) ?_
                    refine FL.nil ?_
                    refine FW.seq ?_
                    refine FW.region ?_
                    refine FL.val rfl rfl rfl (E.fieldAddr tf170_0 rfl) ?_
                    refine FL.val rfl rfl rfl (E.load rfl (run_load1 Tryz.isAgg28 (S492630.box_now (i := 1) rfl) rfl)) ?_
                    refine FL.val rfl rfl rfl (E.load rfl (run_loadA Tryz.isAgg89 Tryz.sizeOf89 (at492607.now S492630.sl) rfl)) ?_
                    obtain ⟨v492631, w492632, run492633, S492634⟩ := S492630.buildSlice (P := Tryz.prog) te28 [Value.agg #[v471533, Value.int .i64 (-1), Value.int .i64 x483533, Value.int .i64 0]] (parts := #[(0, Value.agg #[v471533, Value.int .i64 (-1), Value.int .i64 x483533, Value.int .i64 0])]) (cells := [v471533, Value.int .i64 (-1), Value.int .i64 x483533, Value.int .i64 0]) rfl (szs_cons rfl szs_nil) (fc_cons rfl fc_nil) (ones_cons h489530.one (ones_cons rfl (ones_cons rfl (ones_cons rfl ones_nil)))) (Nat.le_of_ble_eq_true rfl)
                    have els492635 : Els (up wa.heap.size H492604) eResStep 4 [v471533, Value.int .i64 (-1), Value.int .i64 x483533, Value.int .i64 0] [(ResStep.mk r471527 (-1) x483533 0)] := (Els.snoc (H := (up wa.heap.size H492604)) (E := eResStep) (k := 4) (c := [v471533, Value.int .i64 (-1), Value.int .i64 x483533, Value.int .i64 0]) (x := (ResStep.mk r471527 (-1) x483533 0)) Els.nil rfl ⟨_, rfl, (h489530.mono (up_mono i492606))⟩)
                    have nd492636 : (bl [v471533, Value.int .i64 (-1), Value.int .i64 x483533, Value.int .i64 0]).Nodup := by exact nd_one v471533
                    refine FL.val rfl rfl rfl (E.buildSlice (B1 rfl) run492633) ?_
                    obtain ⟨xs492637, hz492638, hp⟩ := bnd hp
                    obtain ⟨v492639, w492642, n492640, cs492641, run492643, S492644, els492645, ce492646⟩ := S492634.appendO (P := Tryz.prog) te28 (i := 5) (j := 0) rfl (els228316.mono (up_mono (((i456499.tr r471532.run.inc).tr i489529).tr i492606))) rfl els492635 hz492638
                    have S492644 : St Ha wa H492604 w492642 [.row 89 4 v492631 1 [v471533, Value.int .i64 (-1), Value.int .i64 x483533, Value.int .i64 0], .box b492608 170 [Value.slice none 0 0, Value.slice none 0 0], .box b492596 170 [v228313, v492619], .box b146 170 [v228313, v228309], .row 3 1 v492619 n492620 cs492621, .row 89 4 v492639 n492640 cs492641, .row 3 1 v35 n36 cs37] := S492644
                    have nd492647 : (bl cs492641).Nodup := by rw [ce492646]; exact nd_app nd228317 nd492636 (Els.dom (els228316.mono (upI.tr (i456499.tr r471532.run.inc)))) (by exact nv489531)
                    have S492648 : St Ha wa H492604 w492642 [.box b492608 170 [Value.slice none 0 0, Value.slice none 0 0], .box b492596 170 [v228313, v492619], .box b146 170 [v228313, v228309], .row 3 1 v492619 n492620 cs492621, .row 89 4 v492639 n492640 cs492641, .row 3 1 v35 n36 cs37] := S492644.drop 0
                    refine FL.val rfl rfl rfl (E.append rfl rfl run492643) ?_
                    refine FL.val rfl rfl rfl (E.fieldAddr tf170_0 rfl) ?_
                    obtain ⟨w492649, run492650, S492651⟩ := S492648.store (P := Tryz.prog) (t := 28) (i := 1) (j := 0) (cs' := [v492639, v492619]) (l' := [.box b492608 170 [Value.slice none 0 0, Value.slice none 0 0], .box b492596 170 [v492639, v492619], .box b146 170 [v228313, v228309], .row 3 1 v492619 n492620 cs492621, .row 89 4 v492639 n492640 cs492641, .row 3 1 v35 n36 cs37]) (v := v492639) (c := [v492639]) rfl Tryz.sizeOf28 (Ln.cells (S492648.row_ln (i := 4) rfl)) rfl (ones_cons (Ln.one (S492648.row_ln (i := 4) rfl)) ones_nil) (Nat.le_of_ble_eq_true rfl) rfl rfl
                    refine FL.act rfl rfl (E.store rfl rfl run492650) ?_
                    refine FL.nil ?_
                    refine FW.seq ?_
                    refine FW.region ?_
                    refine FL.val rfl rfl rfl (E.load rfl (run_loadA Tryz.isAgg170 Tryz.sizeOf170 (S492651.box_now (i := 1) rfl) rfl)) ?_
                    obtain ⟨w492652, run492653, S492654⟩ := S492651.store0 (P := Tryz.prog) (t := 170) (i := 0) (cs' := [v492639, v492619]) (l' := [.box b492608 170 [v492639, v492619], .box b492596 170 [v492639, v492619], .box b146 170 [v228313, v228309], .row 3 1 v492619 n492620 cs492621, .row 89 4 v492639 n492640 cs492641, .row 3 1 v35 n36 cs37]) (v := Value.agg #[v492639, v492619]) (c := [v492639, v492619]) rfl Tryz.sizeOf170 rfl rfl (ones_cons (Ln.one (S492651.row_ln (i := 4) rfl)) (ones_cons (Ln.one (S492651.row_ln (i := 3) rfl)) ones_nil)) (Nat.le_of_ble_eq_true rfl) rfl rfl
                    refine FL.act rfl rfl (E.store rfl rfl run492653) ?_
                    refine FL.nil ?_
                    refine FW.ret ?_
                    obtain rfl := Option.some.inj hp
                    exact ⟨.inr rfl, resC rfl rfl (loadVar_A Tryz.isAgg170 Tryz.sizeOf170 (S492654.box_now (i := 0) rfl) rfl) (by rw [hR492586]; exact ⟨_, _, _, _, _, _, _, rfl, (S492654.sel [2, 3, 4, 5] (by decide) rfl), i492606, els492625, els492645, nd492647⟩)⟩
                  clear hq492586
                  refine FC.call (l' := #[true, true, true, true, true, true, true, true, true, true, true, true, false]) rfl (by kernel_rfl) rfl rfl rfl (E.call Tryz.call130 (A2 rfl rfl)) hc492586 ?_
                  intro e w492658 hQ492586
                  rw [hR492586] at hQ492586
                  obtain ⟨H492655, v492587, n492588, cs492589, v492591, n492592, cs492593, rfl, S492656, i492657, els492590, els492594, nd492595⟩ := hQ492586
                  refine ⟨_, rfl, ?_⟩
                  refine ⟨(SP.on (S492656.box_now (i := 0) rfl) (SP.nil ⟨_, (S492656.sel [3] (by decide) rfl), ((r471532.run.inc.tr i489529).tr i492657)⟩)), ?_⟩
                  refine FB.all1 (i := 12) (by kernel_rfl) ?_
                  ·
                    obtain ⟨w495527, run495528, S495529⟩ := S492656.store0 (P := Tryz.prog) (t := 170) (i := 0) (cs' := [v492591, v492587]) (l' := [.box b146 170 [v492591, v492587], .row 3 1 v492587 n492588 cs492589, .row 89 4 v492591 n492592 cs492593, .row 3 1 v35 n36 cs37]) (v := Value.agg #[v492591, v492587]) (c := [v492591, v492587]) rfl Tryz.sizeOf170 rfl rfl (ones_cons (Ln.one (S492656.row_ln (i := 2) rfl)) (ones_cons (Ln.one (S492656.row_ln (i := 1) rfl)) ones_nil)) (Nat.le_of_ble_eq_true rfl) rfl rfl
                    refine FC.act (l' := #[true, true, true, true, true, true, true, true, true, true, true, true, true]) rfl (by kernel_rfl) rfl rfl (E.store k456481 rfl run495528) ?_
                    refine ⟨(SP.off (by kernel_rfl) (SP.nil ⟨_, (S495529.sel [3] (by decide) rfl), ((r471532.run.inc.tr i489529).tr i492657)⟩)), ?_⟩
                    exact FB.done (by kernel_rfl) ⟨_, _, _, _, _, _, _, S495529, ((r471532.run.inc.tr i489529).tr i492657), els492590, els492594, nd492595, k456478, k456479, k456480, k456481, k456477⟩
            ·
              rintro f501541 w501540 ⟨H501537, v501527, n501528, cs501529, v501531, n501532, cs501533, S501538, i501539, els501530, els501534, nd501535, k501542, k501543, k501544, k501545, k501546⟩
              refine FW.region ?_
              refine FL.val rfl rfl rfl (E.move k501546) ?_
              refine FL.val rfl rfl rfl (E.add rfl rfl) ?_
              refine FL.val rfl rfl rfl (E.assign (v := Value.int .i64 (wr (((i154 : Nat) : Int) + 1))) rfl) ?_
              refine FL.nil ?_
              obtain rfl := Option.some.inj hp
              exact ⟨rfl, ⟨_, _, _, _, _, _, _, S501538, ((i456474.tr i456499).tr i501539), els501530, els501534, nd501535, (nat_succ rfl (lt_of_get hx154) (p1.mono ((((i27.tr i130).tr i456474).tr i456499).tr i501539)).le), k501542, k501543, k501544, k501545⟩⟩
          ·
            refine FW.condF rfl c456526 ?_
            refine FW.seq ?_
            refine FW.region ?_
            refine FL.val rfl rfl rfl (E.fieldAddr tf89_2 rfl) ?_
            refine FL.val rfl rfl rfl (E.load rfl (run_load1 Tryz.isAgg3 (at456500.now S456505.sl) rfl)) ?_
            refine FL.val rfl rfl rfl (E.eql rfl rfl) ?_
            refine FL.val rfl rfl rfl (E.assign (v := Value.bool (y153.right == (-1))) rfl) ?_
            refine FL.nil ?_
            rcases ifB hp with ⟨c501547, hp⟩ | ⟨c501547, hp⟩
            ·
              refine FW.condT rfl c501547 ?_
              obtain ⟨x522554, hx522555, hp⟩ := bnd hp
              obtain ⟨xs531548, hz531549, hp⟩ := bnd hp
              refine FW.drawB (Sl H456497) (fun f w => ∃ H : GH, ∃ v543548 : Value, ∃ n543549 : Nat, ∃ cs543550 : List Value, St Ha wa H w [.box b146 170 [v228313, v543548], .row 3 1 v543548 n543549 cs543550, .row 89 4 v228313 n228314 cs228315, .row 3 1 v35 n36 cs37] ∧ Inc H456497 H ∧ Els (up wa.heap.size H) eI 1 cs543550 xs531548 ∧ f 1 = v1 ∧ f 2 = v2 ∧ f 7 = v35 ∧ f 10 = Value.pointer (some (⟨b146, 0, none⟩ : Addr)) ∧ f 11 = Value.int .i64 ((i154 : Nat) : Int)) (by kernel_rfl) S456505.sl ?_ ?_
              ·
                intro w501548 r501549
                have S501550 := S456505.call r501549
                refine FB.phase [11] (fun w => WAt w (Addr.add ⟨b146, 0, none⟩ 1) [v228309]) ?_
                refine FB.take (i := 0) (l' := #[true, false, false, false, false, false, false, false, false, false, false, false]) rfl (by kernel_rfl) (by kernel_rfl) (by kernel_rfl) (by kernel_rfl) (by kernel_rfl) (SP.on ((S501550.box_now (i := 0) rfl).sub (j := 1) (n := 1) (c := [v228309]) rfl) (SP.nil S501550.sl)) rfl rfl rfl (fun w' hw' => (E.fieldAddr tf170_1 k456481)) ?_
                refine FB.takeP (i := 1) (l' := #[true, true, false, false, false, false, false, false, false, false, false, false]) 0 [9, 10, 11] rfl rfl (by kernel_rfl) (by kernel_rfl) (by kernel_rfl) (by kernel_rfl) (by kernel_rfl) (by kernel_rfl) (SP.on ((S501550.box_now (i := 0) rfl).sub (j := 1) (n := 1) (c := [v228309]) rfl) (SP.nil S501550.sl)) rfl rfl rfl (fun w' hw' => (E.load rfl (run_load0 Tryz.isAgg39 hw' rfl))) ?_
                refine FB.take (i := 2) (l' := #[true, true, true, false, false, false, false, false, false, false, false, false]) rfl (by kernel_rfl) (by kernel_rfl) (by kernel_rfl) (by kernel_rfl) (by kernel_rfl) (SP.on ((S501550.box_now (i := 0) rfl).sub (j := 1) (n := 1) (c := [v228309]) rfl) (SP.nil S501550.sl)) rfl rfl rfl (fun w' hw' => (E.fieldAddr tf170_1 k456481)) ?_
                refine FB.takeP (i := 3) (l' := #[true, true, true, true, false, false, false, false, false, false, false, false]) 0 [6, 7, 8, 9, 10, 11] rfl rfl (by kernel_rfl) (by kernel_rfl) (by kernel_rfl) (by kernel_rfl) (by kernel_rfl) (by kernel_rfl) (SP.on ((S501550.box_now (i := 0) rfl).sub (j := 1) (n := 1) (c := [v228309]) rfl) (SP.nil S501550.sl)) rfl rfl rfl (fun w' hw' => (E.load rfl (run_load0 Tryz.isAgg39 hw' rfl))) ?_
                refine FB.take (i := 4) (l' := #[true, true, true, true, true, false, false, false, false, false, false, false]) rfl (by kernel_rfl) (by kernel_rfl) (by kernel_rfl) (by kernel_rfl) (by kernel_rfl) (SP.on ((S501550.box_now (i := 0) rfl).sub (j := 1) (n := 1) (c := [v228309]) rfl) (SP.nil S501550.sl)) rfl rfl rfl (fun w' hw' => (E.fieldAddr tf89_1 rfl)) ?_
                refine FB.take (i := 5) (l' := #[true, true, true, true, true, true, false, false, false, false, false, false]) rfl (by kernel_rfl) (by kernel_rfl) (by kernel_rfl) (by kernel_rfl) (by kernel_rfl) (SP.on ((S501550.box_now (i := 0) rfl).sub (j := 1) (n := 1) (c := [v228309]) rfl) (SP.nil S501550.sl)) rfl rfl rfl (fun w' hw' => (E.load rfl (run_load1 Tryz.isAgg3 (at456500.now hw') rfl))) ?_
                obtain ⟨p522548, cs522549, pt522550, l522551, at522552, rel522553, hall522556⟩ := S501550.row_atA (i := 1) rfl els228312 (by decide) hx522555
                obtain rfl := eI_open rel522553
                refine FB.take (i := 6) (l' := #[true, true, true, true, true, true, true, false, false, false, false, false]) rfl (by kernel_rfl) (by kernel_rfl) (by kernel_rfl) (by kernel_rfl) (by kernel_rfl) (SP.on ((S501550.box_now (i := 0) rfl).sub (j := 1) (n := 1) (c := [v228309]) rfl) (SP.nil S501550.sl)) rfl rfl rfl (fun w' hw' => (E.indexAddr te39 rfl rfl pt522550)) ?_
                refine FB.phase [9] (fun w' => WAt w' p522548 [Value.int .i64 x522554]) ?_
                refine FB.takeP (i := 7) (l' := #[true, true, true, true, true, true, true, true, false, false, false, false]) 0 [8, 9, 10, 11] rfl rfl (by kernel_rfl) (by kernel_rfl) (by kernel_rfl) (by kernel_rfl) (by kernel_rfl) (by kernel_rfl) (SP.on (hall522556 _ _ _ 1 S501550 rfl) (SP.on ((S501550.box_now (i := 0) rfl).sub (j := 1) (n := 1) (c := [v228309]) rfl) (SP.nil S501550.sl))) rfl rfl rfl (fun w' hw' => (E.load rfl (run_load0 Tryz.isAgg3 hw' rfl))) ?_
                refine FB.all1 (i := 8) (by kernel_rfl) ?_
                ·
                  obtain ⟨v528548, w528549, run528550, S528551⟩ := S501550.buildSlice (P := Tryz.prog) te39 [Value.int .i64 x522554] (parts := #[(0, Value.int .i64 x522554)]) (cells := [Value.int .i64 x522554]) rfl (szs_cons rfl szs_nil) (fc_cons rfl fc_nil) (ones_cons rfl ones_nil) (Nat.le_of_ble_eq_true rfl)
                  have els528552 : Els (up wa.heap.size H456497) eI 1 [Value.int .i64 x522554] [x522554] := (Els.snoc (H := (up wa.heap.size H456497)) (E := eI) (k := 1) (c := [Value.int .i64 x522554]) (x := x522554) Els.nil rfl rfl)
                  refine FC.val (l' := #[true, true, true, true, true, true, true, true, true, false, false, false]) rfl (by kernel_rfl) rfl rfl rfl (E.buildSlice (B1 rfl) run528550) ?_
                  refine ⟨(SP.on (hall522556 _ _ _ 2 S528551 rfl) (SP.on ((S528551.box_now (i := 1) rfl).sub (j := 1) (n := 1) (c := [v228309]) rfl) (SP.nil S528551.sl))), ?_⟩
                  refine FB.all1 (i := 9) (by kernel_rfl) ?_
                  ·
                    obtain ⟨v531550, w531553, n531551, cs531552, run531554, S531555, els531556, ce531557⟩ := S528551.appendO (P := Tryz.prog) te39 (i := 2) (j := 0) rfl (els228312.mono (up_mono i456499)) rfl els528552 hz531549
                    have S531555 : St Ha wa H456497 w531553 [.row 3 1 v528548 1 [Value.int .i64 x522554], .box b146 170 [v228313, v228309], .row 3 1 v531550 n531551 cs531552, .row 89 4 v228313 n228314 cs228315, .row 3 1 v35 n36 cs37] := S531555
                    have S531558 : St Ha wa H456497 w531553 [.box b146 170 [v228313, v228309], .row 3 1 v531550 n531551 cs531552, .row 89 4 v228313 n228314 cs228315, .row 3 1 v35 n36 cs37] := S531555.drop 0
                    refine FC.val (l' := #[true, true, true, true, true, true, true, true, true, true, false, false]) rfl (by kernel_rfl) rfl rfl rfl (E.append rfl rfl run531554) ?_
                    refine ⟨(SP.off (by kernel_rfl) (SP.on ((S531558.box_now (i := 0) rfl).sub (j := 1) (n := 1) (c := [v228309]) rfl) (SP.nil S531558.sl))), ?_⟩
                    refine FB.take (i := 10) (l' := #[true, true, true, true, true, true, true, true, true, true, true, false]) rfl (by kernel_rfl) (by kernel_rfl) (by kernel_rfl) (by kernel_rfl) (by kernel_rfl) (SP.off (by kernel_rfl) (SP.on ((S531558.box_now (i := 0) rfl).sub (j := 1) (n := 1) (c := [v228309]) rfl) (SP.nil S531558.sl))) rfl rfl rfl (fun w' hw' => (E.fieldAddr tf170_1 k456481)) ?_
                    refine FB.all1 (i := 11) (by kernel_rfl) ?_
                    ·
                      obtain ⟨w537548, run537549, S537550⟩ := S531558.store (P := Tryz.prog) (t := 39) (i := 0) (j := 1) (cs' := [v228313, v531550]) (l' := [.box b146 170 [v228313, v531550], .row 3 1 v531550 n531551 cs531552, .row 89 4 v228313 n228314 cs228315, .row 3 1 v35 n36 cs37]) (v := v531550) (c := [v531550]) rfl Tryz.sizeOf39 (Ln.cells (S531558.row_ln (i := 1) rfl)) rfl (ones_cons (Ln.one (S531558.row_ln (i := 1) rfl)) ones_nil) (Nat.le_of_ble_eq_true rfl) rfl rfl
                      refine FC.act (l' := #[true, true, true, true, true, true, true, true, true, true, true, true]) rfl (by kernel_rfl) rfl rfl (E.store rfl rfl run537549) ?_
                      refine ⟨(SP.off (by kernel_rfl) (SP.off (by kernel_rfl) (SP.nil S537550.sl))), ?_⟩
                      exact FB.done (by kernel_rfl) ⟨_, _, _, _, S537550, (Inc.rfl _), els531556, k456478, k456479, k456480, k456481, k456477⟩
              ·
                rintro f543557 w543556 ⟨H543553, v543548, n543549, cs543550, S543554, i543555, els543551, k543558, k543559, k543560, k543561, k543562⟩
                refine FW.region ?_
                refine FL.val rfl rfl rfl (E.move k543562) ?_
                refine FL.val rfl rfl rfl (E.add rfl rfl) ?_
                refine FL.val rfl rfl rfl (E.assign (v := Value.int .i64 (wr (((i154 : Nat) : Int) + 1))) rfl) ?_
                refine FL.nil ?_
                obtain rfl := Option.some.inj hp
                exact ⟨rfl, ⟨_, _, _, _, _, _, _, S543554, ((i456474.tr i456499).tr i543555), els543551, (els228316.mono (up_mono (i456499.tr i543555))), nd228317, (nat_succ rfl (lt_of_get hx154) (p1.mono ((((i27.tr i130).tr i456474).tr i456499).tr i543555)).le), k543558, k543559, k543560, k543561⟩⟩
            ·
              refine FW.condF rfl c501547 ?_
              refine FW.seq ?_
              refine FW.region ?_
              refine FL.val rfl rfl rfl (E.fieldAddr tf170_1 k456481) ?_
              refine FL.val rfl rfl rfl (E.load rfl (run_load1 Tryz.isAgg39 (S456505.box_now (i := 0) rfl) rfl)) ?_
              refine FL.val rfl rfl rfl (E.fieldAddr tf89_1 rfl) ?_
              refine FL.val rfl rfl rfl (E.load rfl (run_load1 Tryz.isAgg3 (at456500.now S456505.sl) rfl)) ?_
              obtain ⟨x543569, hx543570, hp⟩ := bnd hp
              obtain ⟨p543563, cs543564, pt543565, l543566, at543567, rel543568⟩ := S456505.row_at (i := 1) rfl els228312 (by decide) hx543570
              obtain rfl := eI_open rel543568
              refine FL.val rfl rfl rfl (E.indexAddr te39 rfl rfl pt543565) ?_
              refine FL.val rfl rfl rfl (E.load rfl (run_load0 Tryz.isAgg3 at543567 rfl)) ?_
              refine FL.val rfl rfl rfl (E.lss rfl rfl) ?_
              refine FL.val rfl rfl rfl (E.assign (v := Value.bool (decide (x543569 < 0))) rfl) ?_
              refine FL.nil ?_
              rcases ifB hp with ⟨c543571, hp⟩ | ⟨c543571, hp⟩
              ·
                refine FW.condT rfl c543571 ?_
                obtain ⟨x564578, hx564579, hp⟩ := bnd hp
                obtain ⟨xs573572, hz573573, hp⟩ := bnd hp
                refine FW.drawB (Sl H456497) (fun f w => ∃ H : GH, ∃ v585572 : Value, ∃ n585573 : Nat, ∃ cs585574 : List Value, St Ha wa H w [.box b146 170 [v228313, v585572], .row 3 1 v585572 n585573 cs585574, .row 89 4 v228313 n228314 cs228315, .row 3 1 v35 n36 cs37] ∧ Inc H456497 H ∧ Els (up wa.heap.size H) eI 1 cs585574 xs573572 ∧ f 1 = v1 ∧ f 2 = v2 ∧ f 7 = v35 ∧ f 10 = Value.pointer (some (⟨b146, 0, none⟩ : Addr)) ∧ f 11 = Value.int .i64 ((i154 : Nat) : Int)) (by kernel_rfl) S456505.sl ?_ ?_
                ·
                  intro w543572 r543573
                  have S543574 := S456505.call r543573
                  refine FB.phase [11] (fun w => WAt w (Addr.add ⟨b146, 0, none⟩ 1) [v228309]) ?_
                  refine FB.take (i := 0) (l' := #[true, false, false, false, false, false, false, false, false, false, false, false]) rfl (by kernel_rfl) (by kernel_rfl) (by kernel_rfl) (by kernel_rfl) (by kernel_rfl) (SP.on ((S543574.box_now (i := 0) rfl).sub (j := 1) (n := 1) (c := [v228309]) rfl) (SP.nil S543574.sl)) rfl rfl rfl (fun w' hw' => (E.fieldAddr tf170_1 k456481)) ?_
                  refine FB.takeP (i := 1) (l' := #[true, true, false, false, false, false, false, false, false, false, false, false]) 0 [9, 10, 11] rfl rfl (by kernel_rfl) (by kernel_rfl) (by kernel_rfl) (by kernel_rfl) (by kernel_rfl) (by kernel_rfl) (SP.on ((S543574.box_now (i := 0) rfl).sub (j := 1) (n := 1) (c := [v228309]) rfl) (SP.nil S543574.sl)) rfl rfl rfl (fun w' hw' => (E.load rfl (run_load0 Tryz.isAgg39 hw' rfl))) ?_
                  refine FB.take (i := 2) (l' := #[true, true, true, false, false, false, false, false, false, false, false, false]) rfl (by kernel_rfl) (by kernel_rfl) (by kernel_rfl) (by kernel_rfl) (by kernel_rfl) (SP.on ((S543574.box_now (i := 0) rfl).sub (j := 1) (n := 1) (c := [v228309]) rfl) (SP.nil S543574.sl)) rfl rfl rfl (fun w' hw' => (E.fieldAddr tf170_1 k456481)) ?_
                  refine FB.takeP (i := 3) (l' := #[true, true, true, true, false, false, false, false, false, false, false, false]) 0 [6, 7, 8, 9, 10, 11] rfl rfl (by kernel_rfl) (by kernel_rfl) (by kernel_rfl) (by kernel_rfl) (by kernel_rfl) (by kernel_rfl) (SP.on ((S543574.box_now (i := 0) rfl).sub (j := 1) (n := 1) (c := [v228309]) rfl) (SP.nil S543574.sl)) rfl rfl rfl (fun w' hw' => (E.load rfl (run_load0 Tryz.isAgg39 hw' rfl))) ?_
                  refine FB.take (i := 4) (l' := #[true, true, true, true, true, false, false, false, false, false, false, false]) rfl (by kernel_rfl) (by kernel_rfl) (by kernel_rfl) (by kernel_rfl) (by kernel_rfl) (SP.on ((S543574.box_now (i := 0) rfl).sub (j := 1) (n := 1) (c := [v228309]) rfl) (SP.nil S543574.sl)) rfl rfl rfl (fun w' hw' => (E.fieldAddr tf89_2 rfl)) ?_
                  refine FB.take (i := 5) (l' := #[true, true, true, true, true, true, false, false, false, false, false, false]) rfl (by kernel_rfl) (by kernel_rfl) (by kernel_rfl) (by kernel_rfl) (by kernel_rfl) (SP.on ((S543574.box_now (i := 0) rfl).sub (j := 1) (n := 1) (c := [v228309]) rfl) (SP.nil S543574.sl)) rfl rfl rfl (fun w' hw' => (E.load rfl (run_load1 Tryz.isAgg3 (at456500.now hw') rfl))) ?_
                  obtain ⟨p564572, cs564573, pt564574, l564575, at564576, rel564577, hall564580⟩ := S543574.row_atA (i := 1) rfl els228312 (by decide) hx564579
                  obtain rfl := eI_open rel564577
                  refine FB.take (i := 6) (l' := #[true, true, true, true, true, true, true, false, false, false, false, false]) rfl (by kernel_rfl) (by kernel_rfl) (by kernel_rfl) (by kernel_rfl) (by kernel_rfl) (SP.on ((S543574.box_now (i := 0) rfl).sub (j := 1) (n := 1) (c := [v228309]) rfl) (SP.nil S543574.sl)) rfl rfl rfl (fun w' hw' => (E.indexAddr te39 rfl rfl pt564574)) ?_
                  refine FB.phase [9] (fun w' => WAt w' p564572 [Value.int .i64 x564578]) ?_
                  refine FB.takeP (i := 7) (l' := #[true, true, true, true, true, true, true, true, false, false, false, false]) 0 [8, 9, 10, 11] rfl rfl (by kernel_rfl) (by kernel_rfl) (by kernel_rfl) (by kernel_rfl) (by kernel_rfl) (by kernel_rfl) (SP.on (hall564580 _ _ _ 1 S543574 rfl) (SP.on ((S543574.box_now (i := 0) rfl).sub (j := 1) (n := 1) (c := [v228309]) rfl) (SP.nil S543574.sl))) rfl rfl rfl (fun w' hw' => (E.load rfl (run_load0 Tryz.isAgg3 hw' rfl))) ?_
                  refine FB.all1 (i := 8) (by kernel_rfl) ?_
                  ·
                    obtain ⟨v570572, w570573, run570574, S570575⟩ := S543574.buildSlice (P := Tryz.prog) te39 [Value.int .i64 x564578] (parts := #[(0, Value.int .i64 x564578)]) (cells := [Value.int .i64 x564578]) rfl (szs_cons rfl szs_nil) (fc_cons rfl fc_nil) (ones_cons rfl ones_nil) (Nat.le_of_ble_eq_true rfl)
                    have els570576 : Els (up wa.heap.size H456497) eI 1 [Value.int .i64 x564578] [x564578] := (Els.snoc (H := (up wa.heap.size H456497)) (E := eI) (k := 1) (c := [Value.int .i64 x564578]) (x := x564578) Els.nil rfl rfl)
                    refine FC.val (l' := #[true, true, true, true, true, true, true, true, true, false, false, false]) rfl (by kernel_rfl) rfl rfl rfl (E.buildSlice (B1 rfl) run570574) ?_
                    refine ⟨(SP.on (hall564580 _ _ _ 2 S570575 rfl) (SP.on ((S570575.box_now (i := 1) rfl).sub (j := 1) (n := 1) (c := [v228309]) rfl) (SP.nil S570575.sl))), ?_⟩
                    refine FB.all1 (i := 9) (by kernel_rfl) ?_
                    ·
                      obtain ⟨v573574, w573577, n573575, cs573576, run573578, S573579, els573580, ce573581⟩ := S570575.appendO (P := Tryz.prog) te39 (i := 2) (j := 0) rfl (els228312.mono (up_mono i456499)) rfl els570576 hz573573
                      have S573579 : St Ha wa H456497 w573577 [.row 3 1 v570572 1 [Value.int .i64 x564578], .box b146 170 [v228313, v228309], .row 3 1 v573574 n573575 cs573576, .row 89 4 v228313 n228314 cs228315, .row 3 1 v35 n36 cs37] := S573579
                      have S573582 : St Ha wa H456497 w573577 [.box b146 170 [v228313, v228309], .row 3 1 v573574 n573575 cs573576, .row 89 4 v228313 n228314 cs228315, .row 3 1 v35 n36 cs37] := S573579.drop 0
                      refine FC.val (l' := #[true, true, true, true, true, true, true, true, true, true, false, false]) rfl (by kernel_rfl) rfl rfl rfl (E.append rfl rfl run573578) ?_
                      refine ⟨(SP.off (by kernel_rfl) (SP.on ((S573582.box_now (i := 0) rfl).sub (j := 1) (n := 1) (c := [v228309]) rfl) (SP.nil S573582.sl))), ?_⟩
                      refine FB.take (i := 10) (l' := #[true, true, true, true, true, true, true, true, true, true, true, false]) rfl (by kernel_rfl) (by kernel_rfl) (by kernel_rfl) (by kernel_rfl) (by kernel_rfl) (SP.off (by kernel_rfl) (SP.on ((S573582.box_now (i := 0) rfl).sub (j := 1) (n := 1) (c := [v228309]) rfl) (SP.nil S573582.sl))) rfl rfl rfl (fun w' hw' => (E.fieldAddr tf170_1 k456481)) ?_
                      refine FB.all1 (i := 11) (by kernel_rfl) ?_
                      ·
                        obtain ⟨w579572, run579573, S579574⟩ := S573582.store (P := Tryz.prog) (t := 39) (i := 0) (j := 1) (cs' := [v228313, v573574]) (l' := [.box b146 170 [v228313, v573574], .row 3 1 v573574 n573575 cs573576, .row 89 4 v228313 n228314 cs228315, .row 3 1 v35 n36 cs37]) (v := v573574) (c := [v573574]) rfl Tryz.sizeOf39 (Ln.cells (S573582.row_ln (i := 1) rfl)) rfl (ones_cons (Ln.one (S573582.row_ln (i := 1) rfl)) ones_nil) (Nat.le_of_ble_eq_true rfl) rfl rfl
                        refine FC.act (l' := #[true, true, true, true, true, true, true, true, true, true, true, true]) rfl (by kernel_rfl) rfl rfl (E.store rfl rfl run579573) ?_
                        refine ⟨(SP.off (by kernel_rfl) (SP.off (by kernel_rfl) (SP.nil S579574.sl))), ?_⟩
                        exact FB.done (by kernel_rfl) ⟨_, _, _, _, S579574, (Inc.rfl _), els573580, k456478, k456479, k456480, k456481, k456477⟩
                ·
                  rintro f585581 w585580 ⟨H585577, v585572, n585573, cs585574, S585578, i585579, els585575, k585582, k585583, k585584, k585585, k585586⟩
                  refine FW.region ?_
                  refine FL.val rfl rfl rfl (E.move k585586) ?_
                  refine FL.val rfl rfl rfl (E.add rfl rfl) ?_
                  refine FL.val rfl rfl rfl (E.assign (v := Value.int .i64 (wr (((i154 : Nat) : Int) + 1))) rfl) ?_
                  refine FL.nil ?_
                  obtain rfl := Option.some.inj hp
                  exact ⟨rfl, ⟨_, _, _, _, _, _, _, S585578, ((i456474.tr i456499).tr i585579), els585575, (els228316.mono (up_mono (i456499.tr i585579))), nd228317, (nat_succ rfl (lt_of_get hx154) (p1.mono ((((i27.tr i130).tr i456474).tr i456499).tr i585579)).le), k585582, k585583, k585584, k585585⟩⟩
              ·
                refine FW.condF rfl c543571 ?_
                refine FW.seq ?_
                refine FW.region ?_
                refine FL.val rfl rfl rfl (E.fieldAddr tf170_1 k456481) ?_
                refine FL.val rfl rfl rfl (E.load rfl (run_load1 Tryz.isAgg39 (S456505.box_now (i := 0) rfl) rfl)) ?_
                refine FL.val rfl rfl rfl (E.fieldAddr tf89_2 rfl) ?_
                refine FL.val rfl rfl rfl (E.load rfl (run_load1 Tryz.isAgg3 (at456500.now S456505.sl) rfl)) ?_
                obtain ⟨x585593, hx585594, hp⟩ := bnd hp
                obtain ⟨p585587, cs585588, pt585589, l585590, at585591, rel585592⟩ := S456505.row_at (i := 1) rfl els228312 (by decide) hx585594
                obtain rfl := eI_open rel585592
                refine FL.val rfl rfl rfl (E.indexAddr te39 rfl rfl pt585589) ?_
                refine FL.val rfl rfl rfl (E.load rfl (run_load0 Tryz.isAgg3 at585591 rfl)) ?_
                refine FL.val rfl rfl rfl (E.lss rfl rfl) ?_
                refine FL.val rfl rfl rfl (E.assign (v := Value.bool (decide (x585593 < 0))) rfl) ?_
                refine FL.nil ?_
                rcases ifB hp with ⟨c585595, hp⟩ | ⟨c585595, hp⟩
                ·
                  refine FW.condT rfl c585595 ?_
                  obtain ⟨x606602, hx606603, hp⟩ := bnd hp
                  obtain ⟨xs615596, hz615597, hp⟩ := bnd hp
                  refine FW.drawB (Sl H456497) (fun f w => ∃ H : GH, ∃ v627596 : Value, ∃ n627597 : Nat, ∃ cs627598 : List Value, St Ha wa H w [.box b146 170 [v228313, v627596], .row 3 1 v627596 n627597 cs627598, .row 89 4 v228313 n228314 cs228315, .row 3 1 v35 n36 cs37] ∧ Inc H456497 H ∧ Els (up wa.heap.size H) eI 1 cs627598 xs615596 ∧ f 1 = v1 ∧ f 2 = v2 ∧ f 7 = v35 ∧ f 10 = Value.pointer (some (⟨b146, 0, none⟩ : Addr)) ∧ f 11 = Value.int .i64 ((i154 : Nat) : Int)) (by kernel_rfl) S456505.sl ?_ ?_
                  ·
                    intro w585596 r585597
                    have S585598 := S456505.call r585597
                    refine FB.phase [11] (fun w => WAt w (Addr.add ⟨b146, 0, none⟩ 1) [v228309]) ?_
                    refine FB.take (i := 0) (l' := #[true, false, false, false, false, false, false, false, false, false, false, false]) rfl (by kernel_rfl) (by kernel_rfl) (by kernel_rfl) (by kernel_rfl) (by kernel_rfl) (SP.on ((S585598.box_now (i := 0) rfl).sub (j := 1) (n := 1) (c := [v228309]) rfl) (SP.nil S585598.sl)) rfl rfl rfl (fun w' hw' => (E.fieldAddr tf170_1 k456481)) ?_
                    refine FB.takeP (i := 1) (l' := #[true, true, false, false, false, false, false, false, false, false, false, false]) 0 [9, 10, 11] rfl rfl (by kernel_rfl) (by kernel_rfl) (by kernel_rfl) (by kernel_rfl) (by kernel_rfl) (by kernel_rfl) (SP.on ((S585598.box_now (i := 0) rfl).sub (j := 1) (n := 1) (c := [v228309]) rfl) (SP.nil S585598.sl)) rfl rfl rfl (fun w' hw' => (E.load rfl (run_load0 Tryz.isAgg39 hw' rfl))) ?_
                    refine FB.take (i := 2) (l' := #[true, true, true, false, false, false, false, false, false, false, false, false]) rfl (by kernel_rfl) (by kernel_rfl) (by kernel_rfl) (by kernel_rfl) (by kernel_rfl) (SP.on ((S585598.box_now (i := 0) rfl).sub (j := 1) (n := 1) (c := [v228309]) rfl) (SP.nil S585598.sl)) rfl rfl rfl (fun w' hw' => (E.fieldAddr tf170_1 k456481)) ?_
                    refine FB.takeP (i := 3) (l' := #[true, true, true, true, false, false, false, false, false, false, false, false]) 0 [6, 7, 8, 9, 10, 11] rfl rfl (by kernel_rfl) (by kernel_rfl) (by kernel_rfl) (by kernel_rfl) (by kernel_rfl) (by kernel_rfl) (SP.on ((S585598.box_now (i := 0) rfl).sub (j := 1) (n := 1) (c := [v228309]) rfl) (SP.nil S585598.sl)) rfl rfl rfl (fun w' hw' => (E.load rfl (run_load0 Tryz.isAgg39 hw' rfl))) ?_
                    refine FB.take (i := 4) (l' := #[true, true, true, true, true, false, false, false, false, false, false, false]) rfl (by kernel_rfl) (by kernel_rfl) (by kernel_rfl) (by kernel_rfl) (by kernel_rfl) (SP.on ((S585598.box_now (i := 0) rfl).sub (j := 1) (n := 1) (c := [v228309]) rfl) (SP.nil S585598.sl)) rfl rfl rfl (fun w' hw' => (E.fieldAddr tf89_1 rfl)) ?_
                    refine FB.take (i := 5) (l' := #[true, true, true, true, true, true, false, false, false, false, false, false]) rfl (by kernel_rfl) (by kernel_rfl) (by kernel_rfl) (by kernel_rfl) (by kernel_rfl) (SP.on ((S585598.box_now (i := 0) rfl).sub (j := 1) (n := 1) (c := [v228309]) rfl) (SP.nil S585598.sl)) rfl rfl rfl (fun w' hw' => (E.load rfl (run_load1 Tryz.isAgg3 (at456500.now hw') rfl))) ?_
                    obtain ⟨p606596, cs606597, pt606598, l606599, at606600, rel606601, hall606604⟩ := S585598.row_atA (i := 1) rfl els228312 (by decide) hx606603
                    obtain rfl := eI_open rel606601
                    refine FB.take (i := 6) (l' := #[true, true, true, true, true, true, true, false, false, false, false, false]) rfl (by kernel_rfl) (by kernel_rfl) (by kernel_rfl) (by kernel_rfl) (by kernel_rfl) (SP.on ((S585598.box_now (i := 0) rfl).sub (j := 1) (n := 1) (c := [v228309]) rfl) (SP.nil S585598.sl)) rfl rfl rfl (fun w' hw' => (E.indexAddr te39 rfl rfl pt606598)) ?_
                    refine FB.phase [9] (fun w' => WAt w' p606596 [Value.int .i64 x606602]) ?_
                    refine FB.takeP (i := 7) (l' := #[true, true, true, true, true, true, true, true, false, false, false, false]) 0 [8, 9, 10, 11] rfl rfl (by kernel_rfl) (by kernel_rfl) (by kernel_rfl) (by kernel_rfl) (by kernel_rfl) (by kernel_rfl) (SP.on (hall606604 _ _ _ 1 S585598 rfl) (SP.on ((S585598.box_now (i := 0) rfl).sub (j := 1) (n := 1) (c := [v228309]) rfl) (SP.nil S585598.sl))) rfl rfl rfl (fun w' hw' => (E.load rfl (run_load0 Tryz.isAgg3 hw' rfl))) ?_
                    refine FB.all1 (i := 8) (by kernel_rfl) ?_
                    ·
                      obtain ⟨v612596, w612597, run612598, S612599⟩ := S585598.buildSlice (P := Tryz.prog) te39 [Value.int .i64 x606602] (parts := #[(0, Value.int .i64 x606602)]) (cells := [Value.int .i64 x606602]) rfl (szs_cons rfl szs_nil) (fc_cons rfl fc_nil) (ones_cons rfl ones_nil) (Nat.le_of_ble_eq_true rfl)
                      have els612600 : Els (up wa.heap.size H456497) eI 1 [Value.int .i64 x606602] [x606602] := (Els.snoc (H := (up wa.heap.size H456497)) (E := eI) (k := 1) (c := [Value.int .i64 x606602]) (x := x606602) Els.nil rfl rfl)
                      refine FC.val (l' := #[true, true, true, true, true, true, true, true, true, false, false, false]) rfl (by kernel_rfl) rfl rfl rfl (E.buildSlice (B1 rfl) run612598) ?_
                      refine ⟨(SP.on (hall606604 _ _ _ 2 S612599 rfl) (SP.on ((S612599.box_now (i := 1) rfl).sub (j := 1) (n := 1) (c := [v228309]) rfl) (SP.nil S612599.sl))), ?_⟩
                      refine FB.all1 (i := 9) (by kernel_rfl) ?_
                      ·
                        obtain ⟨v615598, w615601, n615599, cs615600, run615602, S615603, els615604, ce615605⟩ := S612599.appendO (P := Tryz.prog) te39 (i := 2) (j := 0) rfl (els228312.mono (up_mono i456499)) rfl els612600 hz615597
                        have S615603 : St Ha wa H456497 w615601 [.row 3 1 v612596 1 [Value.int .i64 x606602], .box b146 170 [v228313, v228309], .row 3 1 v615598 n615599 cs615600, .row 89 4 v228313 n228314 cs228315, .row 3 1 v35 n36 cs37] := S615603
                        have S615606 : St Ha wa H456497 w615601 [.box b146 170 [v228313, v228309], .row 3 1 v615598 n615599 cs615600, .row 89 4 v228313 n228314 cs228315, .row 3 1 v35 n36 cs37] := S615603.drop 0
                        refine FC.val (l' := #[true, true, true, true, true, true, true, true, true, true, false, false]) rfl (by kernel_rfl) rfl rfl rfl (E.append rfl rfl run615602) ?_
                        refine ⟨(SP.off (by kernel_rfl) (SP.on ((S615606.box_now (i := 0) rfl).sub (j := 1) (n := 1) (c := [v228309]) rfl) (SP.nil S615606.sl))), ?_⟩
                        refine FB.take (i := 10) (l' := #[true, true, true, true, true, true, true, true, true, true, true, false]) rfl (by kernel_rfl) (by kernel_rfl) (by kernel_rfl) (by kernel_rfl) (by kernel_rfl) (SP.off (by kernel_rfl) (SP.on ((S615606.box_now (i := 0) rfl).sub (j := 1) (n := 1) (c := [v228309]) rfl) (SP.nil S615606.sl))) rfl rfl rfl (fun w' hw' => (E.fieldAddr tf170_1 k456481)) ?_
                        refine FB.all1 (i := 11) (by kernel_rfl) ?_
                        ·
                          obtain ⟨w621596, run621597, S621598⟩ := S615606.store (P := Tryz.prog) (t := 39) (i := 0) (j := 1) (cs' := [v228313, v615598]) (l' := [.box b146 170 [v228313, v615598], .row 3 1 v615598 n615599 cs615600, .row 89 4 v228313 n228314 cs228315, .row 3 1 v35 n36 cs37]) (v := v615598) (c := [v615598]) rfl Tryz.sizeOf39 (Ln.cells (S615606.row_ln (i := 1) rfl)) rfl (ones_cons (Ln.one (S615606.row_ln (i := 1) rfl)) ones_nil) (Nat.le_of_ble_eq_true rfl) rfl rfl
                          refine FC.act (l' := #[true, true, true, true, true, true, true, true, true, true, true, true]) rfl (by kernel_rfl) rfl rfl (E.store rfl rfl run621597) ?_
                          refine ⟨(SP.off (by kernel_rfl) (SP.off (by kernel_rfl) (SP.nil S621598.sl))), ?_⟩
                          exact FB.done (by kernel_rfl) ⟨_, _, _, _, S621598, (Inc.rfl _), els615604, k456478, k456479, k456480, k456481, k456477⟩
                  ·
                    rintro f627605 w627604 ⟨H627601, v627596, n627597, cs627598, S627602, i627603, els627599, k627606, k627607, k627608, k627609, k627610⟩
                    refine FW.region ?_
                    refine FL.val rfl rfl rfl (E.move k627610) ?_
                    refine FL.val rfl rfl rfl (E.add rfl rfl) ?_
                    refine FL.val rfl rfl rfl (E.assign (v := Value.int .i64 (wr (((i154 : Nat) : Int) + 1))) rfl) ?_
                    refine FL.nil ?_
                    obtain rfl := Option.some.inj hp
                    exact ⟨rfl, ⟨_, _, _, _, _, _, _, S627602, ((i456474.tr i456499).tr i627603), els627599, (els228316.mono (up_mono (i456499.tr i627603))), nd228317, (nat_succ rfl (lt_of_get hx154) (p1.mono ((((i27.tr i130).tr i456474).tr i456499).tr i627603)).le), k627606, k627607, k627608, k627609⟩⟩
                ·
                  refine FW.condF rfl c585595 ?_
                  obtain ⟨x645617, hx645618, hp⟩ := bnd hp
                  obtain ⟨x663617, hx663618, hp⟩ := bnd hp
                  obtain ⟨s675851, hq675851, hp⟩ := bnd hp
                  refine FW.drawB (Sl H456497) (fun f w => ∃ H : GH, ∃ v684611 : Value, ∃ n684612 : Nat, ∃ cs684613 : List Value, ∃ v684615 : Value, ∃ n684616 : Nat, ∃ cs684617 : List Value, St Ha wa H w [.box b146 170 [v684615, v684611], .row 3 1 v684611 n684612 cs684613, .row 89 4 v684615 n684616 cs684617, .row 3 1 v35 n36 cs37] ∧ Inc H456497 H ∧ Els (up wa.heap.size H) eI 1 cs684613 s675851.1 ∧ Els (up wa.heap.size H) eResStep 4 cs684617 s675851.2 ∧ (bl cs684617).Nodup ∧ f 1 = v1 ∧ f 2 = v2 ∧ f 7 = v35 ∧ f 10 = Value.pointer (some (⟨b146, 0, none⟩ : Addr)) ∧ f 11 = Value.int .i64 ((i154 : Nat) : Int)) (by kernel_rfl) S456505.sl ?_ ?_
                  ·
                    intro w627611 r627612
                    have S627613 := S456505.call r627612
                    refine FB.phase [16] (fun w => WAt w (Addr.add ⟨b146, 0, none⟩ 1) [v228309]) ?_
                    refine FB.phase [16] (fun w => WAt w (⟨b146, 0, none⟩ : Addr) [v228313, v228309]) ?_
                    refine FB.takeP (i := 0) (l' := #[true, false, false, false, false, false, false, false, false, false, false, false, false, false, false, false, false]) 0 [15, 16] rfl rfl (by kernel_rfl) (by kernel_rfl) (by kernel_rfl) (by kernel_rfl) (by kernel_rfl) (by kernel_rfl) (SP.on (S627613.box_now (i := 0) rfl) (SP.on ((S627613.box_now (i := 0) rfl).sub (j := 1) (n := 1) (c := [v228309]) rfl) (SP.nil S627613.sl))) rfl rfl rfl (fun w' hw' => (E.load k456481 (run_loadA Tryz.isAgg170 Tryz.sizeOf170 hw' rfl))) ?_
                    refine FB.take (i := 1) (l' := #[true, true, false, false, false, false, false, false, false, false, false, false, false, false, false, false, false]) rfl (by kernel_rfl) (by kernel_rfl) (by kernel_rfl) (by kernel_rfl) (by kernel_rfl) (SP.on (S627613.box_now (i := 0) rfl) (SP.on ((S627613.box_now (i := 0) rfl).sub (j := 1) (n := 1) (c := [v228309]) rfl) (SP.nil S627613.sl))) rfl rfl rfl (fun w' hw' => (E.fieldAddr tf170_1 k456481)) ?_
                    refine FB.takeP (i := 2) (l' := #[true, true, true, false, false, false, false, false, false, false, false, false, false, false, false, false, false]) 1 [5, 6, 15, 16] rfl rfl (by kernel_rfl) (by kernel_rfl) (by kernel_rfl) (by kernel_rfl) (by kernel_rfl) (by kernel_rfl) (SP.on (S627613.box_now (i := 0) rfl) (SP.on ((S627613.box_now (i := 0) rfl).sub (j := 1) (n := 1) (c := [v228309]) rfl) (SP.nil S627613.sl))) rfl rfl rfl (fun w' hw' => (E.load rfl (run_load0 Tryz.isAgg39 hw' rfl))) ?_
                    refine FB.take (i := 3) (l' := #[true, true, true, true, false, false, false, false, false, false, false, false, false, false, false, false, false]) rfl (by kernel_rfl) (by kernel_rfl) (by kernel_rfl) (by kernel_rfl) (by kernel_rfl) (SP.on (S627613.box_now (i := 0) rfl) (SP.on ((S627613.box_now (i := 0) rfl).sub (j := 1) (n := 1) (c := [v228309]) rfl) (SP.nil S627613.sl))) rfl rfl rfl (fun w' hw' => (E.fieldAddr tf89_1 rfl)) ?_
                    refine FB.take (i := 4) (l' := #[true, true, true, true, true, false, false, false, false, false, false, false, false, false, false, false, false]) rfl (by kernel_rfl) (by kernel_rfl) (by kernel_rfl) (by kernel_rfl) (by kernel_rfl) (SP.on (S627613.box_now (i := 0) rfl) (SP.on ((S627613.box_now (i := 0) rfl).sub (j := 1) (n := 1) (c := [v228309]) rfl) (SP.nil S627613.sl))) rfl rfl rfl (fun w' hw' => (E.load rfl (run_load1 Tryz.isAgg3 (at456500.now hw') rfl))) ?_
                    obtain ⟨p645611, cs645612, pt645613, l645614, at645615, rel645616, hall645619⟩ := S627613.row_atA (i := 1) rfl els228312 (by decide) hx645618
                    obtain rfl := eI_open rel645616
                    refine FB.take (i := 5) (l' := #[true, true, true, true, true, true, false, false, false, false, false, false, false, false, false, false, false]) rfl (by kernel_rfl) (by kernel_rfl) (by kernel_rfl) (by kernel_rfl) (by kernel_rfl) (SP.on (S627613.box_now (i := 0) rfl) (SP.on ((S627613.box_now (i := 0) rfl).sub (j := 1) (n := 1) (c := [v228309]) rfl) (SP.nil S627613.sl))) rfl rfl rfl (fun w' hw' => (E.indexAddr te39 rfl rfl pt645613)) ?_
                    refine FB.phase [15] (fun w' => WAt w' p645611 [Value.int .i64 x645617]) ?_
                    refine FB.takeP (i := 6) (l' := #[true, true, true, true, true, true, true, false, false, false, false, false, false, false, false, false, false]) 0 [15, 16] rfl rfl (by kernel_rfl) (by kernel_rfl) (by kernel_rfl) (by kernel_rfl) (by kernel_rfl) (by kernel_rfl) (SP.on (hall645619 _ _ _ 1 S627613 rfl) (SP.on (S627613.box_now (i := 0) rfl) (SP.on ((S627613.box_now (i := 0) rfl).sub (j := 1) (n := 1) (c := [v228309]) rfl) (SP.nil S627613.sl)))) rfl rfl rfl (fun w' hw' => (E.load rfl (run_load0 Tryz.isAgg3 hw' rfl))) ?_
                    refine FB.take (i := 7) (l' := #[true, true, true, true, true, true, true, true, false, false, false, false, false, false, false, false, false]) rfl (by kernel_rfl) (by kernel_rfl) (by kernel_rfl) (by kernel_rfl) (by kernel_rfl) (SP.on (hall645619 _ _ _ 1 S627613 rfl) (SP.on (S627613.box_now (i := 0) rfl) (SP.on ((S627613.box_now (i := 0) rfl).sub (j := 1) (n := 1) (c := [v228309]) rfl) (SP.nil S627613.sl)))) rfl rfl rfl (fun w' hw' => (E.fieldAddr tf170_1 k456481)) ?_
                    refine FB.takeP (i := 8) (l' := #[true, true, true, true, true, true, true, true, true, false, false, false, false, false, false, false, false]) 2 [11, 12, 15, 16] rfl rfl (by kernel_rfl) (by kernel_rfl) (by kernel_rfl) (by kernel_rfl) (by kernel_rfl) (by kernel_rfl) (SP.on (hall645619 _ _ _ 1 S627613 rfl) (SP.on (S627613.box_now (i := 0) rfl) (SP.on ((S627613.box_now (i := 0) rfl).sub (j := 1) (n := 1) (c := [v228309]) rfl) (SP.nil S627613.sl)))) rfl rfl rfl (fun w' hw' => (E.load rfl (run_load0 Tryz.isAgg39 hw' rfl))) ?_
                    refine FB.take (i := 9) (l' := #[true, true, true, true, true, true, true, true, true, true, false, false, false, false, false, false, false]) rfl (by kernel_rfl) (by kernel_rfl) (by kernel_rfl) (by kernel_rfl) (by kernel_rfl) (SP.on (hall645619 _ _ _ 1 S627613 rfl) (SP.on (S627613.box_now (i := 0) rfl) (SP.on ((S627613.box_now (i := 0) rfl).sub (j := 1) (n := 1) (c := [v228309]) rfl) (SP.nil S627613.sl)))) rfl rfl rfl (fun w' hw' => (E.fieldAddr tf89_2 rfl)) ?_
                    refine FB.take (i := 10) (l' := #[true, true, true, true, true, true, true, true, true, true, true, false, false, false, false, false, false]) rfl (by kernel_rfl) (by kernel_rfl) (by kernel_rfl) (by kernel_rfl) (by kernel_rfl) (SP.on (hall645619 _ _ _ 1 S627613 rfl) (SP.on (S627613.box_now (i := 0) rfl) (SP.on ((S627613.box_now (i := 0) rfl).sub (j := 1) (n := 1) (c := [v228309]) rfl) (SP.nil S627613.sl)))) rfl rfl rfl (fun w' hw' => (E.load rfl (run_load1 Tryz.isAgg3 (at456500.now hw') rfl))) ?_
                    obtain ⟨p663611, cs663612, pt663613, l663614, at663615, rel663616, hall663619⟩ := S627613.row_atA (i := 1) rfl els228312 (by decide) hx663618
                    obtain rfl := eI_open rel663616
                    refine FB.take (i := 11) (l' := #[true, true, true, true, true, true, true, true, true, true, true, true, false, false, false, false, false]) rfl (by kernel_rfl) (by kernel_rfl) (by kernel_rfl) (by kernel_rfl) (by kernel_rfl) (SP.on (hall645619 _ _ _ 1 S627613 rfl) (SP.on (S627613.box_now (i := 0) rfl) (SP.on ((S627613.box_now (i := 0) rfl).sub (j := 1) (n := 1) (c := [v228309]) rfl) (SP.nil S627613.sl)))) rfl rfl rfl (fun w' hw' => (E.indexAddr te39 rfl rfl pt663613)) ?_
                    refine FB.phase [15] (fun w' => WAt w' p663611 [Value.int .i64 x663617]) ?_
                    refine FB.takeP (i := 12) (l' := #[true, true, true, true, true, true, true, true, true, true, true, true, true, false, false, false, false]) 0 [15, 16] rfl rfl (by kernel_rfl) (by kernel_rfl) (by kernel_rfl) (by kernel_rfl) (by kernel_rfl) (by kernel_rfl) (SP.on (hall663619 _ _ _ 1 S627613 rfl) (SP.on (hall645619 _ _ _ 1 S627613 rfl) (SP.on (S627613.box_now (i := 0) rfl) (SP.on ((S627613.box_now (i := 0) rfl).sub (j := 1) (n := 1) (c := [v228309]) rfl) (SP.nil S627613.sl))))) rfl rfl rfl (fun w' hw' => (E.load rfl (run_load0 Tryz.isAgg3 hw' rfl))) ?_
                    refine FB.take (i := 13) (l' := #[true, true, true, true, true, true, true, true, true, true, true, true, true, true, false, false, false]) rfl (by kernel_rfl) (by kernel_rfl) (by kernel_rfl) (by kernel_rfl) (by kernel_rfl) (SP.on (hall663619 _ _ _ 1 S627613 rfl) (SP.on (hall645619 _ _ _ 1 S627613 rfl) (SP.on (S627613.box_now (i := 0) rfl) (SP.on ((S627613.box_now (i := 0) rfl).sub (j := 1) (n := 1) (c := [v228309]) rfl) (SP.nil S627613.sl))))) rfl rfl rfl (fun w' hw' => (E.fieldAddr tf89_3 rfl)) ?_
                    refine FB.take (i := 14) (l' := #[true, true, true, true, true, true, true, true, true, true, true, true, true, true, true, false, false]) rfl (by kernel_rfl) (by kernel_rfl) (by kernel_rfl) (by kernel_rfl) (by kernel_rfl) (SP.on (hall663619 _ _ _ 1 S627613 rfl) (SP.on (hall645619 _ _ _ 1 S627613 rfl) (SP.on (S627613.box_now (i := 0) rfl) (SP.on ((S627613.box_now (i := 0) rfl).sub (j := 1) (n := 1) (c := [v228309]) rfl) (SP.nil S627613.sl))))) rfl rfl rfl (fun w' hw' => (E.load rfl (run_load1 Tryz.isAgg3 (at456500.now hw') rfl))) ?_
                    refine FB.all1 (i := 15) (by kernel_rfl) ?_
                    ·
                      obtain ⟨R675851, hR675851⟩ : ∃ R675851 : ((List Int) × (List ResStep)) → Ending → World → Prop, R675851 = (fun s675851 e w => ∃ H : GH, ∃ v675852 : Value, ∃ n675853 : Nat, ∃ cs675854 : List Value, ∃ v675856 : Value, ∃ n675857 : Nat, ∃ cs675858 : List Value, e = Ending.returned (Value.agg #[v675856, v675852]) ∧ St Ha wa H w [.box b146 170 [v228313, v228309], .row 3 1 v675852 n675853 cs675854, .row 89 4 v675856 n675857 cs675858, .row 3 1 v35 n36 cs37] ∧ Inc H456497 H ∧ Els (up wa.heap.size H) eI 1 cs675854 s675851.1 ∧ Els (up wa.heap.size H) eResStep 4 cs675858 s675851.2 ∧ (bl cs675858).Nodup) := ⟨_, rfl⟩
                      have hc675851 : Calls Tryz.prog 132 #[Value.agg #[v228313, v228309], Value.int .i64 x645617, Value.int .i64 x663617, Value.int .i64 y153.pivot] w627611 (R675851 s675851) := by
                        clear hp; have hp := hq675851; clear hq675851
                        refine calls_go (N := 62) (args := [Value.agg #[v228313, v228309], Value.int .i64 x645617, Value.int .i64 x663617, Value.int .i64 y153.pivot]) Tryz.func132 rfl rfl rfl ?_
                        refine FW.seq ?_
                        refine FW.region ?_
                        obtain ⟨b675861, w675862, run675863, S675864⟩ := S627613.box (P := Tryz.prog) 170 [v228313, v228309] (v := Value.agg #[v228313, v228309]) rfl (ones_cons (Ln.one (S627613.row_ln (i := 2) rfl)) (ones_cons (Ln.one (S627613.row_ln (i := 1) rfl)) ones_nil))
                        refine FL.val rfl rfl rfl (E.box rfl run675863) ?_
                        obtain ⟨b675865, w675866, run675867, S675868⟩ := S675864.alloc (P := Tryz.prog) 170 [Value.slice none 0 0, Value.slice none 0 0] Tryz.zeroValue170 rfl (ones_cons rfl (ones_cons rfl ones_nil))
                        refine FL.val rfl rfl rfl (E.alloc run675867) ?_
                        refine FL.nil ?_
                        refine FW.seq ?_
                        refine FW.draw (fun w' => Run w675866.heap.size H456497 w675866 H456497 w') (by kernel_rfl) (by kernel_rfl) (run_drew S675868.sl) ?_
                        refine FD.val rfl rfl rfl (fun w' hw' => (E.fieldAddr tf170_0 rfl)) ?_
                        refine FD.val rfl rfl rfl (fun w' hw' => (E.load rfl (run_load1 Tryz.isAgg28 ((S675868.call hw').box_now (i := 1) rfl) rfl))) ?_
                        refine FD.val rfl rfl rfl (fun w' hw' => (E.move (v := Value.int .i64 x645617) rfl)) ?_
                        obtain ⟨x675876, hx675877, hp⟩ := bnd hp
                        obtain ⟨p675870, cs675871, pt675872, l675873, at675874, rel675875⟩ := S675868.row_at (i := 4) rfl els228316 (by decide) hx675877
                        obtain ⟨v675878, rfl, h675879⟩ := eResStep_open rel675875
                        refine FD.val rfl rfl rfl (fun w' hw' => (E.indexAddr te28 rfl rfl pt675872)) ?_
                        refine FD.val rfl rfl rfl (fun w' hw' => (E.fieldAddr tf89_0 rfl)) ?_
                        refine FD.val rfl rfl rfl (fun w' hw' => (E.load rfl (run_load1 Tryz.isAgg39 (at675874.cls hw') rfl))) ?_
                        refine FD.val rfl rfl rfl (fun w' hw' => (E.fieldAddr tf170_0 rfl)) ?_
                        refine FD.val rfl rfl rfl (fun w' hw' => (E.load rfl (run_load1 Tryz.isAgg28 ((S675868.call hw').box_now (i := 1) rfl) rfl))) ?_
                        refine FD.val rfl rfl rfl (fun w' hw' => (E.move (v := Value.int .i64 x663617) rfl)) ?_
                        obtain ⟨x675886, hx675887, hp⟩ := bnd hp
                        obtain ⟨p675880, cs675881, pt675882, l675883, at675884, rel675885⟩ := S675868.row_at (i := 4) rfl els228316 (by decide) hx675887
                        obtain ⟨v675888, rfl, h675889⟩ := eResStep_open rel675885
                        refine FD.val rfl rfl rfl (fun w' hw' => (E.indexAddr te28 rfl rfl pt675882)) ?_
                        refine FD.val rfl rfl rfl (fun w' hw' => (E.fieldAddr tf89_0 rfl)) ?_
                        refine FD.val rfl rfl rfl (fun w' hw' => (E.load rfl (run_load1 Tryz.isAgg39 (at675884.cls hw') rfl))) ?_
                        refine FD.val rfl rfl rfl (fun w' hw' => (E.assign (v := v675878) rfl)) ?_
                        refine FD.val rfl rfl rfl (fun w' hw' => (E.assign (v := v675888) rfl)) ?_
                        refine FD.nil ?_
                        intro w675890 r675892
                        have S675891 := S675868.call r675892
                        refine FW.seq ?_
                        refine FW.seq ?_
                        refine FW.region ?_
                        refine FL.val rfl rfl rfl (E.move (v := v675878) rfl) ?_
                        refine FL.val rfl rfl rfl (E.move (v := Value.int .i64 y153.pivot) rfl) ?_
                        obtain ⟨r675893, hr675894, hp⟩ := bnd hp
                        refine FL.call rfl rfl rfl (E.call Tryz.call198 (A2 rfl rfl)) (w_spec_l2Has S675891.sl v675878 x675876.clause (h675879.mono (upI.tr i456499)) y153.pivot hr675894) ?_
                        rintro e w675895 ⟨rfl, r675896⟩
                        refine ⟨_, rfl, ?_⟩
                        have S675897 := S675891.call r675896
                        refine FL.val rfl rfl rfl (E.not rfl) ?_
                        refine FL.nil ?_
                        rcases ifB hp with ⟨c675898, hp⟩ | ⟨c675898, hp⟩
                        ·
                          refine FW.condT rfl c675898 ?_
                          refine FW.seq ?_
                          refine FW.region ?_
                          refine FL.val rfl rfl rfl (E.fieldAddr tf170_1 rfl) ?_
                          refine FL.val rfl rfl rfl (E.load rfl (run_load1 Tryz.isAgg39 (S675897.box_now (i := 1) rfl) rfl)) ?_
                          refine FL.val rfl rfl rfl (E.move (v := Value.int .i64 x645617) rfl) ?_
                          obtain ⟨v675899, w675900, run675901, S675902⟩ := S675897.buildSlice (P := Tryz.prog) te39 [Value.int .i64 x645617] (parts := #[(0, Value.int .i64 x645617)]) (cells := [Value.int .i64 x645617]) rfl (szs_cons rfl szs_nil) (fc_cons rfl fc_nil) (ones_cons rfl ones_nil) (Nat.le_of_ble_eq_true rfl)
                          have els675903 : Els (up wa.heap.size H456497) eI 1 [Value.int .i64 x645617] [x645617] := (Els.snoc (H := (up wa.heap.size H456497)) (E := eI) (k := 1) (c := [Value.int .i64 x645617]) (x := x645617) Els.nil rfl rfl)
                          refine FL.val rfl rfl rfl (E.buildSlice (B1 rfl) run675901) ?_
                          obtain ⟨xs675904, hz675905, hp⟩ := bnd hp
                          obtain ⟨v675906, w675909, n675907, cs675908, run675910, S675911, els675912, ce675913⟩ := S675902.appendO (P := Tryz.prog) te39 (i := 4) (j := 0) rfl (els228312.mono (up_mono i456499)) rfl els675903 hz675905
                          have S675911 : St Ha wa H456497 w675909 [.row 3 1 v675899 1 [Value.int .i64 x645617], .box b675865 170 [Value.slice none 0 0, Value.slice none 0 0], .box b675861 170 [v228313, v228309], .box b146 170 [v228313, v228309], .row 3 1 v675906 n675907 cs675908, .row 89 4 v228313 n228314 cs228315, .row 3 1 v35 n36 cs37] := S675911
                          have S675914 : St Ha wa H456497 w675909 [.box b675865 170 [Value.slice none 0 0, Value.slice none 0 0], .box b675861 170 [v228313, v228309], .box b146 170 [v228313, v228309], .row 3 1 v675906 n675907 cs675908, .row 89 4 v228313 n228314 cs228315, .row 3 1 v35 n36 cs37] := S675911.drop 0
                          refine FL.val rfl rfl rfl (E.append rfl rfl run675910) ?_
                          refine FL.val rfl rfl rfl (E.fieldAddr tf170_1 rfl) ?_
                          obtain ⟨w675915, run675916, S675917⟩ := S675914.store (P := Tryz.prog) (t := 39) (i := 1) (j := 1) (cs' := [v228313, v675906]) (l' := [.box b675865 170 [Value.slice none 0 0, Value.slice none 0 0], .box b675861 170 [v228313, v675906], .box b146 170 [v228313, v228309], .row 3 1 v675906 n675907 cs675908, .row 89 4 v228313 n228314 cs228315, .row 3 1 v35 n36 cs37]) (v := v675906) (c := [v675906]) rfl Tryz.sizeOf39 (Ln.cells (S675914.row_ln (i := 3) rfl)) rfl (ones_cons (Ln.one (S675914.row_ln (i := 3) rfl)) ones_nil) (Nat.le_of_ble_eq_true rfl) rfl rfl
                          refine FL.act rfl rfl (E.store rfl rfl run675916) ?_
                          refine FL.nil ?_
                          refine FW.seq ?_
                          refine FW.region ?_
                          refine FL.val rfl rfl rfl (E.load rfl (run_loadA Tryz.isAgg170 Tryz.sizeOf170 (S675917.box_now (i := 1) rfl) rfl)) ?_
                          obtain ⟨w675918, run675919, S675920⟩ := S675917.store0 (P := Tryz.prog) (t := 170) (i := 0) (cs' := [v228313, v675906]) (l' := [.box b675865 170 [v228313, v675906], .box b675861 170 [v228313, v675906], .box b146 170 [v228313, v228309], .row 3 1 v675906 n675907 cs675908, .row 89 4 v228313 n228314 cs228315, .row 3 1 v35 n36 cs37]) (v := Value.agg #[v228313, v675906]) (c := [v228313, v675906]) rfl Tryz.sizeOf170 rfl rfl (ones_cons (Ln.one (S675917.row_ln (i := 4) rfl)) (ones_cons (Ln.one (S675917.row_ln (i := 3) rfl)) ones_nil)) (Nat.le_of_ble_eq_true rfl) rfl rfl
                          refine FL.act rfl rfl (E.store rfl rfl run675919) ?_
                          refine FL.nil ?_
                          refine FW.ret ?_
                          obtain rfl := Option.some.inj hp
                          exact ⟨.inr rfl, resC rfl rfl (loadVar_A Tryz.isAgg170 Tryz.sizeOf170 (S675920.box_now (i := 0) rfl) rfl) (by rw [hR675851]; exact ⟨_, _, _, _, _, _, _, rfl, (S675920.sel [2, 3, 4, 5] (by decide) rfl), (Inc.rfl _), els675912, (els228316.mono (up_mono i456499)), nd228317⟩)⟩
                        ·
                          refine FW.condF rfl c675898 ?_
                          refine FW.skip ?_
                          refine FW.seq ?_
                          refine FW.seq ?_
                          refine FW.region ?_
                          refine FL.val rfl rfl rfl (E.move (v := v675888) rfl) ?_
                          refine FL.val rfl rfl rfl (E.move (v := Value.int .i64 y153.pivot) rfl) ?_
                          refine FL.val rfl rfl rfl (E.neg rfl) ?_
                          obtain ⟨r675921, hr675922, hp⟩ := bnd hp
                          refine FL.call rfl rfl rfl (E.call Tryz.call198 (A2 rfl rfl)) (w_spec_l2Has S675897.sl v675888 x675886.clause (h675889.mono (upI.tr i456499)) (wr (-y153.pivot)) hr675922) ?_
                          rintro e w675923 ⟨rfl, r675924⟩
                          refine ⟨_, rfl, ?_⟩
                          have S675925 := S675897.call r675924
                          refine FL.val rfl rfl rfl (E.not rfl) ?_
                          refine FL.nil ?_
                          rcases ifB hp with ⟨c675926, hp⟩ | ⟨c675926, hp⟩
                          ·
                            refine FW.condT rfl c675926 ?_
                            refine FW.seq ?_
                            refine FW.region ?_
                            refine FL.val rfl rfl rfl (E.fieldAddr tf170_1 rfl) ?_
                            refine FL.val rfl rfl rfl (E.load rfl (run_load1 Tryz.isAgg39 (S675925.box_now (i := 1) rfl) rfl)) ?_
                            refine FL.val rfl rfl rfl (E.move (v := Value.int .i64 x663617) rfl) ?_
                            obtain ⟨v675927, w675928, run675929, S675930⟩ := S675925.buildSlice (P := Tryz.prog) te39 [Value.int .i64 x663617] (parts := #[(0, Value.int .i64 x663617)]) (cells := [Value.int .i64 x663617]) rfl (szs_cons rfl szs_nil) (fc_cons rfl fc_nil) (ones_cons rfl ones_nil) (Nat.le_of_ble_eq_true rfl)
                            have els675931 : Els (up wa.heap.size H456497) eI 1 [Value.int .i64 x663617] [x663617] := (Els.snoc (H := (up wa.heap.size H456497)) (E := eI) (k := 1) (c := [Value.int .i64 x663617]) (x := x663617) Els.nil rfl rfl)
                            refine FL.val rfl rfl rfl (E.buildSlice (B1 rfl) run675929) ?_
                            obtain ⟨xs675932, hz675933, hp⟩ := bnd hp
                            obtain ⟨v675934, w675937, n675935, cs675936, run675938, S675939, els675940, ce675941⟩ := S675930.appendO (P := Tryz.prog) te39 (i := 4) (j := 0) rfl (els228312.mono (up_mono i456499)) rfl els675931 hz675933
                            have S675939 : St Ha wa H456497 w675937 [.row 3 1 v675927 1 [Value.int .i64 x663617], .box b675865 170 [Value.slice none 0 0, Value.slice none 0 0], .box b675861 170 [v228313, v228309], .box b146 170 [v228313, v228309], .row 3 1 v675934 n675935 cs675936, .row 89 4 v228313 n228314 cs228315, .row 3 1 v35 n36 cs37] := S675939
                            have S675942 : St Ha wa H456497 w675937 [.box b675865 170 [Value.slice none 0 0, Value.slice none 0 0], .box b675861 170 [v228313, v228309], .box b146 170 [v228313, v228309], .row 3 1 v675934 n675935 cs675936, .row 89 4 v228313 n228314 cs228315, .row 3 1 v35 n36 cs37] := S675939.drop 0
                            refine FL.val rfl rfl rfl (E.append rfl rfl run675938) ?_
                            refine FL.val rfl rfl rfl (E.fieldAddr tf170_1 rfl) ?_
                            obtain ⟨w675943, run675944, S675945⟩ := S675942.store (P := Tryz.prog) (t := 39) (i := 1) (j := 1) (cs' := [v228313, v675934]) (l' := [.box b675865 170 [Value.slice none 0 0, Value.slice none 0 0], .box b675861 170 [v228313, v675934], .box b146 170 [v228313, v228309], .row 3 1 v675934 n675935 cs675936, .row 89 4 v228313 n228314 cs228315, .row 3 1 v35 n36 cs37]) (v := v675934) (c := [v675934]) rfl Tryz.sizeOf39 (Ln.cells (S675942.row_ln (i := 3) rfl)) rfl (ones_cons (Ln.one (S675942.row_ln (i := 3) rfl)) ones_nil) (Nat.le_of_ble_eq_true rfl) rfl rfl
                            refine FL.act rfl rfl (E.store rfl rfl run675944) ?_
                            refine FL.nil ?_
                            refine FW.seq ?_
                            refine FW.region ?_
                            refine FL.val rfl rfl rfl (E.load rfl (run_loadA Tryz.isAgg170 Tryz.sizeOf170 (S675945.box_now (i := 1) rfl) rfl)) ?_
                            obtain ⟨w675946, run675947, S675948⟩ := S675945.store0 (P := Tryz.prog) (t := 170) (i := 0) (cs' := [v228313, v675934]) (l' := [.box b675865 170 [v228313, v675934], .box b675861 170 [v228313, v675934], .box b146 170 [v228313, v228309], .row 3 1 v675934 n675935 cs675936, .row 89 4 v228313 n228314 cs228315, .row 3 1 v35 n36 cs37]) (v := Value.agg #[v228313, v675934]) (c := [v228313, v675934]) rfl Tryz.sizeOf170 rfl rfl (ones_cons (Ln.one (S675945.row_ln (i := 4) rfl)) (ones_cons (Ln.one (S675945.row_ln (i := 3) rfl)) ones_nil)) (Nat.le_of_ble_eq_true rfl) rfl rfl
                            refine FL.act rfl rfl (E.store rfl rfl run675947) ?_
                            refine FL.nil ?_
                            refine FW.ret ?_
                            obtain rfl := Option.some.inj hp
                            exact ⟨.inr rfl, resC rfl rfl (loadVar_A Tryz.isAgg170 Tryz.sizeOf170 (S675948.box_now (i := 0) rfl) rfl) (by rw [hR675851]; exact ⟨_, _, _, _, _, _, _, rfl, (S675948.sel [2, 3, 4, 5] (by decide) rfl), (Inc.rfl _), els675940, (els228316.mono (up_mono i456499)), nd228317⟩)⟩
                          ·
                            refine FW.condF rfl c675926 ?_
                            refine FW.skip ?_
                            refine FW.seq ?_
                            refine FW.region ?_
                            refine FL.val rfl rfl rfl (E.move (v := v675878) rfl) ?_
                            refine FL.val rfl rfl rfl (E.move (v := v675888) rfl) ?_
                            refine FL.val rfl rfl rfl (E.move (v := Value.int .i64 y153.pivot) rfl) ?_
                            obtain ⟨r675949, hr675950, hp⟩ := bnd hp
                            refine FL.call rfl rfl rfl (E.call Tryz.call199 (A3 rfl rfl rfl)) (w_spec_l2Resolve S675925.sl v675878 x675876.clause (h675879.mono (upI.tr i456499)) v675888 x675886.clause (h675889.mono (upI.tr i456499)) y153.pivot hr675950) ?_
                            rintro e w675952 ⟨H675951, v675955, n675956, cs675957, rfl, r675954, els675958⟩
                            refine ⟨_, rfl, ?_⟩
                            have els675958 := els675958.mono (up_le S675925.size)
                            have S675953 := S675925.join (l' := [.row 3 1 v675955 n675956 cs675957, .box b675865 170 [Value.slice none 0 0, Value.slice none 0 0], .box b675861 170 [v228313, v228309], .box b146 170 [v228313, v228309], .row 3 1 v228309 n228310 cs228311, .row 89 4 v228313 n228314 cs228315, .row 3 1 v35 n36 cs37]) r675954 rfl
                            refine FL.val rfl rfl rfl (E.move (v := Value.tuple #[v675955, Value.bool r675949.2]) rfl) ?_
                            refine FL.val rfl rfl rfl (E.extract (i := 0) rfl rfl) ?_
                            refine FL.val rfl rfl rfl (E.extract (i := 1) rfl rfl) ?_
                            refine FL.val rfl rfl rfl (E.assign (v := v675955) rfl) ?_
                            refine FL.val rfl rfl rfl (E.assign (v := Value.bool r675949.2) rfl) ?_
                            refine FL.nil ?_
                            refine FW.seq ?_
                            refine FW.region ?_
                            refine FL.val rfl rfl rfl (E.load rfl (run_loadA Tryz.isAgg170 Tryz.sizeOf170 (S675953.box_now (i := 2) rfl) rfl)) ?_
                            refine FL.val rfl rfl rfl (E.move (v := v675955) rfl) ?_
                            refine FL.val rfl rfl rfl (E.move (v := Value.int .i64 x645617) rfl) ?_
                            refine FL.val rfl rfl rfl (E.move (v := Value.int .i64 x663617) rfl) ?_
                            refine FL.val rfl rfl rfl (E.move (v := Value.int .i64 y153.pivot) rfl) ?_
                            refine FL.val rfl rfl rfl (E.build (B4 rfl rfl rfl rfl) (run_build _ 89 #[(0, v675955), (1, Value.int .i64 x645617), (2, Value.int .i64 x663617), (3, Value.int .i64 y153.pivot)] #[v675955, Value.int .i64 x645617, Value.int .i64 x663617, Value.int .i64 y153.pivot] (by obtain ⟨_, _, rfl⟩ := S675953.row_ln (i := 0) rfl; rfl))) ?_
                            obtain ⟨H676019, S676020, i676021, h676022, nv676023⟩ := S675953.sealRowU (i := 0) (l' := [.box b675865 170 [Value.slice none 0 0, Value.slice none 0 0], .box b675861 170 [v228313, v228309], .box b146 170 [v228313, v228309], .row 3 1 v228309 n228310 cs228311, .row 89 4 v228313 n228314 cs228315, .row 3 1 v35 n36 cs37]) rfl els675958 (by decide) rfl
                            obtain ⟨s676083, hq676083, hp⟩ := bnd hp
                            obtain ⟨R676083, hR676083⟩ : ∃ R676083 : ((List Int) × (List ResStep)) → Ending → World → Prop, R676083 = (fun s676083 e w => ∃ H : GH, ∃ v676084 : Value, ∃ n676085 : Nat, ∃ cs676086 : List Value, ∃ v676088 : Value, ∃ n676089 : Nat, ∃ cs676090 : List Value, e = Ending.returned (Value.agg #[v676088, v676084]) ∧ St Ha wa H w [.box b675865 170 [Value.slice none 0 0, Value.slice none 0 0], .box b675861 170 [v228313, v228309], .box b146 170 [v228313, v228309], .row 3 1 v676084 n676085 cs676086, .row 89 4 v676088 n676089 cs676090, .row 3 1 v35 n36 cs37] ∧ Inc H676019 H ∧ Els (up wa.heap.size H) eI 1 cs676086 s676083.1 ∧ Els (up wa.heap.size H) eResStep 4 cs676090 s676083.2 ∧ (bl cs676090).Nodup) := ⟨_, rfl⟩
                            have hc676083 : Calls Tryz.prog 130 #[Value.agg #[v228313, v228309], Value.agg #[v675955, Value.int .i64 x645617, Value.int .i64 x663617, Value.int .i64 y153.pivot]] w675952 (R676083 s676083) := by
                              clear hp; have hp := hq676083; clear hq676083
                              refine calls_go (N := 20) (args := [Value.agg #[v228313, v228309], Value.agg #[v675955, Value.int .i64 x645617, Value.int .i64 x663617, Value.int .i64 y153.pivot]]) Tryz.func130 rfl rfl rfl ?_
                              refine FW.seq ?_
                              refine FW.region ?_
                              obtain ⟨b676093, w676094, run676095, S676096⟩ := S676020.box (P := Tryz.prog) 170 [v228313, v228309] (v := Value.agg #[v228313, v228309]) rfl (ones_cons (Ln.one (S676020.row_ln (i := 4) rfl)) (ones_cons (Ln.one (S676020.row_ln (i := 3) rfl)) ones_nil))
                              refine FL.val rfl rfl rfl (E.box rfl run676095) ?_
                              obtain ⟨b676097, w676098, run676099, S676100⟩ := S676096.box (P := Tryz.prog) 89 [v675955, Value.int .i64 x645617, Value.int .i64 x663617, Value.int .i64 y153.pivot] (v := Value.agg #[v675955, Value.int .i64 x645617, Value.int .i64 x663617, Value.int .i64 y153.pivot]) rfl (ones_cons h676022.one (ones_cons rfl (ones_cons rfl (ones_cons rfl ones_nil))))
                              refine FL.val rfl rfl rfl (E.box rfl run676099) ?_
                              obtain ⟨H676101, S676102, i676103, at676104⟩ := S676100.sealBox (i := 0) (l' := [.box b676093 170 [v228313, v228309], .box b675865 170 [Value.slice none 0 0, Value.slice none 0 0], .box b675861 170 [v228313, v228309], .box b146 170 [v228313, v228309], .row 3 1 v228309 n228310 cs228311, .row 89 4 v228313 n228314 cs228315, .row 3 1 v35 n36 cs37]) rfl rfl
                              obtain ⟨b676105, w676106, run676107, S676108⟩ := S676102.alloc (P := Tryz.prog) 170 [Value.slice none 0 0, Value.slice none 0 0] Tryz.zeroValue170 rfl (ones_cons rfl (ones_cons rfl ones_nil))
                              refine FL.val rfl rfl rfl (E.alloc run676107) ?_
                              refine FL.nil ?_
                              refine FW.seq ?_
                              refine FW.region ?_
                              refine FL.val rfl rfl rfl (E.fieldAddr tf170_1 rfl) ?_
                              refine FL.val rfl rfl rfl (E.load rfl (run_load1 Tryz.isAgg39 (S676108.box_now (i := 1) rfl) rfl)) ?_
                              refine FL.val rfl rfl rfl (E.fieldAddr tf170_0 rfl) ?_
                              refine FL.val rfl rfl rfl (E.load rfl (run_load1 Tryz.isAgg28 (S676108.box_now (i := 1) rfl) rfl)) ?_
                              refine FL.val rfl rfl rfl (E.lenO te28 rfl S676108 (i := 6) rfl els228316 (by decide)) ?_
                              obtain ⟨v676109, w676110, run676111, S676112⟩ := S676108.buildSlice (P := Tryz.prog) te39 [Value.int .i64 (len s154.2)] (parts := #[(0, Value.int .i64 (len s154.2))]) (cells := [Value.int .i64 (len s154.2)]) rfl (szs_cons rfl szs_nil) (fc_cons rfl fc_nil) (ones_cons rfl ones_nil) (Nat.le_of_ble_eq_true rfl)
                              have els676113 : Els (up wa.heap.size H676101) eI 1 [Value.int .i64 (len s154.2)] [(len s154.2)] := (Els.snoc (H := (up wa.heap.size H676101)) (E := eI) (k := 1) (c := [Value.int .i64 (len s154.2)]) (x := (len s154.2)) Els.nil rfl rfl)
                              refine FL.val rfl rfl rfl (E.buildSlice (B1 rfl) run676111) ?_
                              obtain ⟨xs676114, hz676115, hp⟩ := bnd hp
                              obtain ⟨v676116, w676119, n676117, cs676118, run676120, S676121, els676122, ce676123⟩ := S676112.appendO (P := Tryz.prog) te39 (i := 6) (j := 0) rfl (els228312.mono (up_mono (((i456499.tr r675954.run.inc).tr i676021).tr i676103))) rfl els676113 hz676115
                              have S676121 : St Ha wa H676101 w676119 [.row 3 1 v676109 1 [Value.int .i64 (len s154.2)], .box b676105 170 [Value.slice none 0 0, Value.slice none 0 0], .box b676093 170 [v228313, v228309], .box b675865 170 [Value.slice none 0 0, Value.slice none 0 0], .box b675861 170 [v228313, v228309], .box b146 170 [v228313, v228309], .row 3 1 v676116 n676117 cs676118, .row 89 4 v228313 n228314 cs228315, .row 3 1 v35 n36 cs37] := S676121
                              have S676124 : St Ha wa H676101 w676119 [.box b676105 170 [Value.slice none 0 0, Value.slice none 0 0], .box b676093 170 [v228313, v228309], .box b675865 170 [Value.slice none 0 0, Value.slice none 0 0], .box b675861 170 [v228313, v228309], .box b146 170 [v228313, v228309], .row 3 1 v676116 n676117 cs676118, .row 89 4 v228313 n228314 cs228315, .row 3 1 v35 n36 cs37] := S676121.drop 0
                              refine FL.val rfl rfl rfl (E.append rfl rfl run676120) ?_
                              refine FL.val rfl rfl rfl (E.fieldAddr tf170_1 rfl) ?_
                              obtain ⟨w676125, run676126, S676127⟩ := S676124.store (P := Tryz.prog) (t := 39) (i := 1) (j := 1) (cs' := [v228313, v676116]) (l' := [.box b676105 170 [Value.slice none 0 0, Value.slice none 0 0], .box b676093 170 [v228313, v676116], .box b675865 170 [Value.slice none 0 0, Value.slice none 0 0], .box b675861 170 [v228313, v228309], .box b146 170 [v228313, v228309], .row 3 1 v676116 n676117 cs676118, .row 89 4 v228313 n228314 cs228315, .row 3 1 v35 n36 cs37]) (v := v676116) (c := [v676116]) rfl Tryz.sizeOf39 (Ln.cells (S676124.row_ln (i := 5) rfl)) rfl (ones_cons (Ln.one (S676124.row_ln (i := 5) rfl)) ones_nil) (Nat.le_of_ble_eq_true rfl) rfl rfl
                              refine FL.act rfl rfl (E.store rfl rfl run676126) ?_
                              refine FL.nil ?_
                              refine FW.seq ?_
                              refine FW.region ?_
                              refine FL.val rfl rfl rfl (E.fieldAddr tf170_0 rfl) ?_
                              refine FL.val rfl rfl rfl (E.load rfl (run_load1 Tryz.isAgg28 (S676127.box_now (i := 1) rfl) rfl)) ?_
                              refine FL.val rfl rfl rfl (E.load rfl (run_loadA Tryz.isAgg89 Tryz.sizeOf89 (at676104.now S676127.sl) rfl)) ?_
                              obtain ⟨v676128, w676129, run676130, S676131⟩ := S676127.buildSlice (P := Tryz.prog) te28 [Value.agg #[v675955, Value.int .i64 x645617, Value.int .i64 x663617, Value.int .i64 y153.pivot]] (parts := #[(0, Value.agg #[v675955, Value.int .i64 x645617, Value.int .i64 x663617, Value.int .i64 y153.pivot])]) (cells := [v675955, Value.int .i64 x645617, Value.int .i64 x663617, Value.int .i64 y153.pivot]) rfl (szs_cons rfl szs_nil) (fc_cons rfl fc_nil) (ones_cons h676022.one (ones_cons rfl (ones_cons rfl (ones_cons rfl ones_nil)))) (Nat.le_of_ble_eq_true rfl)
                              have els676132 : Els (up wa.heap.size H676101) eResStep 4 [v675955, Value.int .i64 x645617, Value.int .i64 x663617, Value.int .i64 y153.pivot] [(ResStep.mk r675949.1 x645617 x663617 y153.pivot)] := (Els.snoc (H := (up wa.heap.size H676101)) (E := eResStep) (k := 4) (c := [v675955, Value.int .i64 x645617, Value.int .i64 x663617, Value.int .i64 y153.pivot]) (x := (ResStep.mk r675949.1 x645617 x663617 y153.pivot)) Els.nil rfl ⟨_, rfl, (h676022.mono (up_mono i676103))⟩)
                              have nd676133 : (bl [v675955, Value.int .i64 x645617, Value.int .i64 x663617, Value.int .i64 y153.pivot]).Nodup := by exact nd_one v675955
                              refine FL.val rfl rfl rfl (E.buildSlice (B1 rfl) run676130) ?_
                              obtain ⟨xs676134, hz676135, hp⟩ := bnd hp
                              obtain ⟨v676136, w676139, n676137, cs676138, run676140, S676141, els676142, ce676143⟩ := S676131.appendO (P := Tryz.prog) te28 (i := 7) (j := 0) rfl (els228316.mono (up_mono (((i456499.tr r675954.run.inc).tr i676021).tr i676103))) rfl els676132 hz676135
                              have S676141 : St Ha wa H676101 w676139 [.row 89 4 v676128 1 [v675955, Value.int .i64 x645617, Value.int .i64 x663617, Value.int .i64 y153.pivot], .box b676105 170 [Value.slice none 0 0, Value.slice none 0 0], .box b676093 170 [v228313, v676116], .box b675865 170 [Value.slice none 0 0, Value.slice none 0 0], .box b675861 170 [v228313, v228309], .box b146 170 [v228313, v228309], .row 3 1 v676116 n676117 cs676118, .row 89 4 v676136 n676137 cs676138, .row 3 1 v35 n36 cs37] := S676141
                              have nd676144 : (bl cs676138).Nodup := by rw [ce676143]; exact nd_app nd228317 nd676133 (Els.dom (els228316.mono (upI.tr (i456499.tr r675954.run.inc)))) (by exact nv676023)
                              have S676145 : St Ha wa H676101 w676139 [.box b676105 170 [Value.slice none 0 0, Value.slice none 0 0], .box b676093 170 [v228313, v676116], .box b675865 170 [Value.slice none 0 0, Value.slice none 0 0], .box b675861 170 [v228313, v228309], .box b146 170 [v228313, v228309], .row 3 1 v676116 n676117 cs676118, .row 89 4 v676136 n676137 cs676138, .row 3 1 v35 n36 cs37] := S676141.drop 0
                              refine FL.val rfl rfl rfl (E.append rfl rfl run676140) ?_
                              refine FL.val rfl rfl rfl (E.fieldAddr tf170_0 rfl) ?_
                              obtain ⟨w676146, run676147, S676148⟩ := S676145.store (P := Tryz.prog) (t := 28) (i := 1) (j := 0) (cs' := [v676136, v676116]) (l' := [.box b676105 170 [Value.slice none 0 0, Value.slice none 0 0], .box b676093 170 [v676136, v676116], .box b675865 170 [Value.slice none 0 0, Value.slice none 0 0], .box b675861 170 [v228313, v228309], .box b146 170 [v228313, v228309], .row 3 1 v676116 n676117 cs676118, .row 89 4 v676136 n676137 cs676138, .row 3 1 v35 n36 cs37]) (v := v676136) (c := [v676136]) rfl Tryz.sizeOf28 (Ln.cells (S676145.row_ln (i := 6) rfl)) rfl (ones_cons (Ln.one (S676145.row_ln (i := 6) rfl)) ones_nil) (Nat.le_of_ble_eq_true rfl) rfl rfl
                              refine FL.act rfl rfl (E.store rfl rfl run676147) ?_
                              refine FL.nil ?_
                              refine FW.seq ?_
                              refine FW.region ?_
                              refine FL.val rfl rfl rfl (E.load rfl (run_loadA Tryz.isAgg170 Tryz.sizeOf170 (S676148.box_now (i := 1) rfl) rfl)) ?_
                              obtain ⟨w676149, run676150, S676151⟩ := S676148.store0 (P := Tryz.prog) (t := 170) (i := 0) (cs' := [v676136, v676116]) (l' := [.box b676105 170 [v676136, v676116], .box b676093 170 [v676136, v676116], .box b675865 170 [Value.slice none 0 0, Value.slice none 0 0], .box b675861 170 [v228313, v228309], .box b146 170 [v228313, v228309], .row 3 1 v676116 n676117 cs676118, .row 89 4 v676136 n676137 cs676138, .row 3 1 v35 n36 cs37]) (v := Value.agg #[v676136, v676116]) (c := [v676136, v676116]) rfl Tryz.sizeOf170 rfl rfl (ones_cons (Ln.one (S676148.row_ln (i := 6) rfl)) (ones_cons (Ln.one (S676148.row_ln (i := 5) rfl)) ones_nil)) (Nat.le_of_ble_eq_true rfl) rfl rfl
                              refine FL.act rfl rfl (E.store rfl rfl run676150) ?_
                              refine FL.nil ?_
                              refine FW.ret ?_
                              obtain rfl := Option.some.inj hp
                              exact ⟨.inr rfl, resC rfl rfl (loadVar_A Tryz.isAgg170 Tryz.sizeOf170 (S676151.box_now (i := 0) rfl) rfl) (by rw [hR676083]; exact ⟨_, _, _, _, _, _, _, rfl, (S676151.sel [2, 3, 4, 5, 6, 7] (by decide) rfl), i676103, els676122, els676142, nd676144⟩)⟩
                            clear hq676083
                            refine FL.call rfl rfl rfl (E.call Tryz.call130 (A2 rfl rfl)) hc676083 ?_
                            intro e w676155 hQ676083
                            rw [hR676083] at hQ676083
                            obtain ⟨H676152, v676084, n676085, cs676086, v676088, n676089, cs676090, rfl, S676153, i676154, els676087, els676091, nd676092⟩ := hQ676083
                            refine ⟨_, rfl, ?_⟩
                            obtain ⟨w676157, run676158, S676159⟩ := S676153.store0 (P := Tryz.prog) (t := 170) (i := 0) (cs' := [v676088, v676084]) (l' := [.box b675865 170 [v676088, v676084], .box b675861 170 [v228313, v228309], .box b146 170 [v228313, v228309], .row 3 1 v676084 n676085 cs676086, .row 89 4 v676088 n676089 cs676090, .row 3 1 v35 n36 cs37]) (v := Value.agg #[v676088, v676084]) (c := [v676088, v676084]) rfl Tryz.sizeOf170 rfl rfl (ones_cons (Ln.one (S676153.row_ln (i := 4) rfl)) (ones_cons (Ln.one (S676153.row_ln (i := 3) rfl)) ones_nil)) (Nat.le_of_ble_eq_true rfl) rfl rfl
                            refine FL.act rfl rfl (E.store rfl rfl run676158) ?_
                            refine FL.nil ?_
                            refine FW.ret ?_
                            obtain rfl := Option.some.inj hp
                            exact ⟨.inr rfl, resC rfl rfl (loadVar_A Tryz.isAgg170 Tryz.sizeOf170 (S676159.box_now (i := 0) rfl) rfl) (by rw [hR675851]; exact ⟨_, _, _, _, _, _, _, rfl, (S676159.sel [2, 3, 4, 5] (by decide) rfl), ((r675954.run.inc.tr i676021).tr i676154), els676087, els676091, nd676092⟩)⟩
                      clear hq675851
                      refine FC.call (l' := #[true, true, true, true, true, true, true, true, true, true, true, true, true, true, true, true, false]) rfl (by kernel_rfl) rfl rfl rfl (E.call Tryz.call132 (A4 rfl rfl rfl rfl)) hc675851 ?_
                      intro e w676163 hQ675851
                      rw [hR675851] at hQ675851
                      obtain ⟨H676160, v675852, n675853, cs675854, v675856, n675857, cs675858, rfl, S676161, i676162, els675855, els675859, nd675860⟩ := hQ675851
                      refine ⟨_, rfl, ?_⟩
                      refine ⟨(SP.off (by kernel_rfl) (SP.off (by kernel_rfl) (SP.on (S676161.box_now (i := 0) rfl) (SP.on ((S676161.box_now (i := 0) rfl).sub (j := 1) (n := 1) (c := [v228309]) rfl) (SP.nil (Sl.of_inc i676162 S676161.sl)))))), ?_⟩
                      refine FB.all1 (i := 16) (by kernel_rfl) ?_
                      ·
                        obtain ⟨w678611, run678612, S678613⟩ := S676161.store0 (P := Tryz.prog) (t := 170) (i := 0) (cs' := [v675856, v675852]) (l' := [.box b146 170 [v675856, v675852], .row 3 1 v675852 n675853 cs675854, .row 89 4 v675856 n675857 cs675858, .row 3 1 v35 n36 cs37]) (v := Value.agg #[v675856, v675852]) (c := [v675856, v675852]) rfl Tryz.sizeOf170 rfl rfl (ones_cons (Ln.one (S676161.row_ln (i := 2) rfl)) (ones_cons (Ln.one (S676161.row_ln (i := 1) rfl)) ones_nil)) (Nat.le_of_ble_eq_true rfl) rfl rfl
                        refine FC.act (l' := #[true, true, true, true, true, true, true, true, true, true, true, true, true, true, true, true, true]) rfl (by kernel_rfl) rfl rfl (E.store k456481 rfl run678612) ?_
                        refine ⟨(SP.off (by kernel_rfl) (SP.off (by kernel_rfl) (SP.off (by kernel_rfl) (SP.off (by kernel_rfl) (SP.nil (Sl.of_inc i676162 S678613.sl)))))), ?_⟩
                        exact FB.done (by kernel_rfl) ⟨_, _, _, _, _, _, _, S678613, i676162, els675855, els675859, nd675860, k456478, k456479, k456480, k456481, k456477⟩
                  ·
                    rintro f684625 w684624 ⟨H684621, v684611, n684612, cs684613, v684615, n684616, cs684617, S684622, i684623, els684614, els684618, nd684619, k684626, k684627, k684628, k684629, k684630⟩
                    refine FW.region ?_
                    refine FL.val rfl rfl rfl (E.move k684630) ?_
                    refine FL.val rfl rfl rfl (E.add rfl rfl) ?_
                    refine FL.val rfl rfl rfl (E.assign (v := Value.int .i64 (wr (((i154 : Nat) : Int) + 1))) rfl) ?_
                    refine FL.nil ?_
                    obtain rfl := Option.some.inj hp
                    exact ⟨rfl, ⟨_, _, _, _, _, _, _, S684622, ((i456474.tr i456499).tr i684623), els684614, els684618, nd684619, (nat_succ rfl (lt_of_get hx154) (p1.mono ((((i27.tr i130).tr i456474).tr i456499).tr i684623)).le), k684626, k684627, k684628, k684629⟩⟩
      ·
        clear hp hq
        rintro s154 f684661 w684660 ⟨H684657, v228309, n228310, cs228311, v228313, n228314, cs228315, S684658, i684659, els228312, els228316, nd228317, k684662, k684663, k684664, k684665, k684666⟩
        refine FW.seq ?_
        refine FW.seq ?_
        refine FW.region ?_
        refine FL.val rfl rfl rfl (E.move k684662) ?_
        refine FL.val rfl rfl rfl (E.move k684663) ?_
        refine FL.val rfl rfl rfl (E.lenP te28 rfl p1) ?_
        refine FL.val rfl rfl rfl (E.lss rfl rfl) ?_
        refine FL.nil ?_
        refine FW.condF rfl dlt_len ?_
        refine FW.exit ?_
        exact ⟨nofun, rfl, ⟨_, _, _, _, _, _, _, S684658, i684659, els228312, els228316, nd228317, k684666⟩⟩
      ·
        clear hq
        intro e f684636 w684635 hD
        rcases q154 with s154 | x154
        ·
          obtain ⟨rfl, hD⟩ := hD
          obtain ⟨H684632, v228309, n228310, cs228311, v228313, n228314, cs228315, S684633, i684634, els228312, els228316, nd228317, k684637⟩ := hD
          replace hp := el_go hp
          refine FW.seq ?_
          refine FW.region ?_
          refine FL.val rfl rfl rfl (E.load k684637 (run_loadA Tryz.isAgg170 Tryz.sizeOf170 (S684633.box_now (i := 0) rfl) rfl)) ?_
          obtain ⟨H684638, S684639, i684640, ns684643, nv684642⟩ := S684633.sealRowN (i := 2) (l' := [.box b146 170 [v228313, v228309], .row 3 1 v228309 n228310 cs228311, .row 3 1 v35 n36 cs37]) rfl els228316 nd228317 (by decide) rfl
          have h684641 := ns684643.rsl
          obtain ⟨H684644, S684645, i684646, h684647, nv684648⟩ := S684639.sealRowU (i := 1) (l' := [.box b146 170 [v228313, v228309], .row 3 1 v35 n36 cs37]) rfl (els228312.mono (up_mono i684640)) (by decide) rfl
          obtain ⟨r684649, hr684650, hp⟩ := bnd hp
          refine FL.call rfl rfl rfl (E.call Tryz.call133 (A1 rfl)) (w_spec_l7End S684645.sl (l7Work.mk s154.2 s154.1) v228313 (h684641.mono (upI.tr i684646)) v228309 (h684647.mono upI) hr684650) ?_
          rintro e w684652 ⟨H684651, v684655, rfl, r684654, h684656⟩
          refine ⟨_, rfl, ?_⟩
          have S684653 := S684645.call r684654
          refine FL.val rfl rfl rfl (E.assign (v := v684655) rfl) ?_
          refine FL.nil ?_
          refine FW.ret ?_
          obtain rfl := Option.some.inj hp
          exact ⟨.inr rfl, res1 rfl rfl ⟨_, _, rfl, S684653.run, h684656⟩⟩
        · exact x154.elim
    · exact x34.elim

@[reducible] def p_spec_RestrictSteps (Ha : GH) (wa : World) (r : ((List ResStep) × Bool)) : Ending → World → Prop :=
  fun e w' => ∃ H' : GH, ∃ v0 : Value, e = .returned (Value.tuple #[v0, Value.bool r.2]) ∧ Run wa.heap.size Ha wa H' w' ∧ RSl H' eResStep 4 v0 r.1
theorem w_spec_RestrictSteps {Ha : GH} {wa : World} (hs : Sl Ha wa) (a0 : Cnf) (v0_1 : Value) (p0_1 : RSl Ha (eL eI 1) 1 v0_1 a0.clauses) (v1 : Value) (a1 : List ResStep) (p1 : RSl Ha eResStep 4 v1 a1) (v2 : Value) (a2 : List Int) (p2 : RSl Ha eI 1 v2 a2) {r : ((List ResStep) × Bool)} (hp : (PF.spec_RestrictSteps a0 a1 a2) = some r) :
    Calls Tryz.prog 26 #[Value.agg #[Value.int .i64 a0.vars, v0_1], v1, v2] wa (p_spec_RestrictSteps Ha wa r) := by
  unfold PF.spec_RestrictSteps at hp
  have S0 := St.init hs
  refine calls_go (N := 24) (args := [Value.agg #[Value.int .i64 a0.vars, v0_1], v1, v2]) Tryz.func26 rfl rfl rfl ?_
  refine FW.seq ?_
  refine FW.region ?_
  obtain ⟨b21, w22, run23, S24⟩ := S0.box (P := Tryz.prog) 31 [Value.int .i64 a0.vars, v0_1] (v := Value.agg #[Value.int .i64 a0.vars, v0_1]) rfl (ones_cons rfl (ones_cons p0_1.one ones_nil))
  refine FL.val rfl rfl rfl (E.box rfl run23) ?_
  obtain ⟨H25, S26, i27, at28⟩ := S24.sealBox (i := 0) (l' := []) rfl rfl
  refine FL.val rfl rfl rfl (E.assign (v := Value.slice none 0 0) rfl) ?_
  refine FL.val rfl rfl rfl (E.assign (v := Value.bool false) rfl) ?_
  refine FL.nil ?_
  refine FW.seq ?_
  refine FW.seq ?_
  refine FW.region ?_
  refine FL.val rfl rfl rfl (E.load rfl (run_loadA Tryz.isAgg31 Tryz.sizeOf31 (at28.now S26.sl) rfl)) ?_
  refine FL.val rfl rfl rfl (E.move (v := v1) rfl) ?_
  obtain ⟨r29, hr30, hp⟩ := bnd hp
  refine FL.call rfl rfl rfl (E.call Tryz.call70 (A2 rfl rfl)) (w_spec_l7Good S26.sl a0 v0_1 (p0_1.mono i27) v1 a1 (p1.mono i27) hr30) ?_
  rintro e w31 ⟨rfl, r32⟩
  refine ⟨_, rfl, ?_⟩
  have S33 := S26.call r32
  refine FL.val rfl rfl rfl (E.not rfl) ?_
  refine FL.val rfl rfl rfl (E.move (v := Value.bool (!r29)) rfl) ?_
  obtain ⟨t39, hqt39, hp⟩ := bnd hp
  refine FL.cut 6 (fun f w => ∃ H : GH, St Ha wa H w [] ∧ Inc H25 H ∧ f 1 = v1 ∧ f 2 = v2 ∧ f 3 = Value.pointer (some ⟨b21, 0, none⟩) ∧ f 18 = Value.bool t39) ?_ ?_
  ·
    clear hp; have hp := hqt39; clear hqt39
    rcases ifB hp with ⟨c45, hp⟩ | ⟨c45, hp⟩
    ·
      refine FL.skip (wF_no rfl rfl rfl c45) rfl ?_
      refine FL.skip (wF_no rfl rfl rfl c45) rfl ?_
      refine FL.skip (wF_no rfl rfl rfl c45) rfl ?_
      refine FL.skip (wF_no rfl rfl rfl c45) rfl ?_
      refine FL.skip (wF_no rfl rfl rfl c45) rfl ?_
      obtain rfl := Option.some.inj hp
      refine FL.val rfl rfl rfl (E.pickT rfl c45 rfl) ?_
      exact FL.nil ⟨rfl, _, S33, (Inc.rfl _), rfl, rfl, rfl, rfl⟩
    ·
      refine FL.val (wF_yes rfl rfl rfl c45) rfl rfl (E.fieldAddr tf31_0 rfl) ?_
      refine FL.val (wF_yes rfl rfl rfl c45) rfl rfl (E.load rfl (run_load1 Tryz.isAgg3 (at28.now S33.sl) rfl)) ?_
      refine FL.val (wF_yes rfl rfl rfl c45) rfl rfl (E.move (v := v2) rfl) ?_
      obtain ⟨r46, hr47, hp⟩ := bnd hp
      refine FL.call (wF_yes rfl rfl rfl c45) rfl rfl (E.call Tryz.call79 (A2 rfl rfl)) (w_spec_l3Good S33.sl a0.vars v2 a2 (p2.mono i27) hr47) ?_
      rintro e w48 ⟨rfl, r49⟩
      refine ⟨_, rfl, ?_⟩
      have S50 := S33.call r49
      refine FL.val (wF_yes rfl rfl rfl c45) rfl rfl (E.not rfl) ?_
      obtain rfl := Option.some.inj hp
      refine FL.val rfl rfl rfl (E.pickF rfl c45 rfl) ?_
      exact FL.nil ⟨rfl, _, S50, (Inc.rfl _), rfl, rfl, rfl, rfl⟩
  rintro f44 w43 ⟨H40, S41, i42, k51, k52, k53, k54⟩
  refine FL.nil ?_
  rcases ifB hp with ⟨c55, hp⟩ | ⟨c55, hp⟩
  ·
    refine FW.condT k54 c55 ?_
    refine FW.seq ?_
    refine FW.region ?_
    obtain ⟨v56, w57, run58, S59⟩ := S41.buildSlice (P := Tryz.prog) te28 [] (parts := #[]) (cells := []) rfl szs_nil fc_nil ones_nil (Nat.le_of_ble_eq_true rfl)
    have els60 : Els (up wa.heap.size H40) eResStep 4 [] [] := Els.nil
    refine FL.val rfl rfl rfl (E.buildSlice (B0) run58) ?_
    refine FL.val rfl rfl rfl (E.assign (v := v56) rfl) ?_
    refine FL.val rfl rfl rfl (E.assign (v := Value.bool false) rfl) ?_
    refine FL.nil ?_
    refine FW.ret ?_
    obtain ⟨H61, S62, i63, ns66, nv65⟩ := S59.sealRowN (i := 0) (l' := []) rfl els60 (show (bl []).Nodup from List.nodup_nil) (by decide) rfl
    have h64 := ns66.rsl
    obtain rfl := Option.some.inj hp
    exact ⟨.inr rfl, res2 rfl rfl rfl ⟨_, _, rfl, S62.run, (h64.mono upI)⟩⟩
  ·
    refine FW.condF k54 c55 ?_
    refine FW.skip ?_
    refine FW.seq ?_
    refine FW.region ?_
    refine FL.val rfl rfl rfl (E.load k53 (run_loadA Tryz.isAgg31 Tryz.sizeOf31 ((at28.mono i42).now S41.sl) rfl)) ?_
    refine FL.val rfl rfl rfl (E.move k51) ?_
    refine FL.val rfl rfl rfl (E.move k52) ?_
    obtain ⟨r67, hr68, hp⟩ := bnd hp
    refine FL.call rfl rfl rfl (E.call Tryz.call80 (A3 rfl rfl rfl)) (w_spec_l7Restrict S41.sl a0 v0_1 (p0_1.mono (i27.tr i42)) v1 a1 (p1.mono (i27.tr i42)) v2 a2 (p2.mono (i27.tr i42)) hr68) ?_
    rintro e w70 ⟨H69, v73, rfl, r72, h74⟩
    refine ⟨_, rfl, ?_⟩
    have S71 := S41.call r72
    refine FL.val rfl rfl rfl (E.assign (v := v73) rfl) ?_
    refine FL.val rfl rfl rfl (E.assign (v := Value.bool true) rfl) ?_
    refine FL.nil ?_
    refine FW.ret ?_
    obtain rfl := Option.some.inj hp
    exact ⟨.inr rfl, res2 rfl rfl rfl ⟨_, _, rfl, S71.run, h74⟩⟩

theorem w_impl_within {Ha : GH} {wa : World} (hs : Sl Ha wa) (a0 : Int) (a1 : Int) (a2 : Int) :
    Calls Tryz.prog 192 #[Value.int .i64 a0, Value.int .i64 a1, Value.int .i64 a2] wa (Sc Ha wa (Value.bool (PF.impl_within a0 a1 a2))) := by
  obtain ⟨r, hp⟩ : ∃ r, (PF.impl_within a0 a1 a2) = r := ⟨_, rfl⟩
  rw [hp]
  unfold PF.impl_within at hp
  have S0 := St.init hs
  refine calls_go (N := 15) (args := [Value.int .i64 a0, Value.int .i64 a1, Value.int .i64 a2]) Tryz.func192 rfl rfl rfl ?_
  refine FW.seq ?_
  refine FW.region ?_
  refine FL.val rfl rfl rfl (E.assign (v := Value.bool false) rfl) ?_
  refine FL.nil ?_
  refine FW.seq ?_
  refine FW.region ?_
  refine FL.val rfl rfl rfl (E.move (v := Value.int .i64 a0) rfl) ?_
  refine FL.val rfl rfl rfl (E.move (v := Value.int .i64 a1) rfl) ?_
  refine FL.val rfl rfl rfl (E.geq rfl rfl) ?_
  refine FL.val rfl rfl rfl (E.move (v := Value.bool (decide (a1 ≤ a0))) rfl) ?_
  refine FL.cut 4 (fun f w => ∃ H : GH, St Ha wa H w [] ∧ Inc Ha H ∧ f 14 = Value.bool (bif (decide (a1 ≤ a0)) then (decide (a0 ≤ a2)) else false)) ?_ ?_
  ·
    rcases bcase (decide (a1 ≤ a0)) with c27 | c27
    ·
      refine FL.val (wF_yes rfl rfl rfl c27) rfl rfl (E.move (v := Value.int .i64 a0) rfl) ?_
      refine FL.val (wF_yes rfl rfl rfl c27) rfl rfl (E.move (v := Value.int .i64 a2) rfl) ?_
      refine FL.val (wF_yes rfl rfl rfl c27) rfl rfl (E.leq rfl rfl) ?_
      refine FL.val rfl rfl rfl (E.pickT rfl c27 rfl) ?_
      exact FL.nil ⟨rfl, _, S0, (Inc.rfl _), (congrArg Value.bool (bifT c27).symm)⟩
    ·
      refine FL.skip (wF_no rfl rfl rfl c27) rfl ?_
      refine FL.skip (wF_no rfl rfl rfl c27) rfl ?_
      refine FL.skip (wF_no rfl rfl rfl c27) rfl ?_
      refine FL.val rfl rfl rfl (E.pickF rfl c27 rfl) ?_
      exact FL.nil ⟨rfl, _, S0, (Inc.rfl _), (congrArg Value.bool (bifF c27).symm)⟩
  rintro f26 w25 ⟨H22, S23, i24, k28⟩
  refine FL.val rfl rfl rfl (E.assign k28) ?_
  refine FL.nil ?_
  refine FW.ret ?_
  obtain rfl := hp
  exact ⟨.inr rfl, res1 rfl rfl ⟨rfl, S23.back⟩⟩

theorem w_impl_isLiteral {Ha : GH} {wa : World} (hs : Sl Ha wa) (a0 : Int) (a1 : Int) :
    Calls Tryz.prog 206 #[Value.int .i64 a0, Value.int .i64 a1] wa (Sc Ha wa (Value.bool (PF.impl_isLiteral a0 a1))) := by
  obtain ⟨r, hp⟩ : ∃ r, (PF.impl_isLiteral a0 a1) = r := ⟨_, rfl⟩
  rw [hp]
  unfold PF.impl_isLiteral at hp
  have S0 := St.init hs
  refine calls_go (N := 14) (args := [Value.int .i64 a0, Value.int .i64 a1]) Tryz.func206 rfl rfl rfl ?_
  refine FW.seq ?_
  refine FW.region ?_
  refine FL.val rfl rfl rfl (E.assign (v := Value.bool false) rfl) ?_
  refine FL.nil ?_
  refine FW.seq ?_
  refine FW.region ?_
  refine FL.val rfl rfl rfl (E.move (v := Value.int .i64 a1) rfl) ?_
  refine FL.val rfl rfl rfl (E.neq rfl rfl) ?_
  refine FL.val rfl rfl rfl (E.move (v := Value.bool (!(a1 == 0))) rfl) ?_
  refine FL.cut 6 (fun f w => ∃ H : GH, St Ha wa H w [] ∧ Inc Ha H ∧ f 13 = Value.bool (bif (!(a1 == 0)) then (PF.impl_within a1 (wr (-a0)) a0) else false)) ?_ ?_
  ·
    rcases bcase (!(a1 == 0)) with c30 | c30
    ·
      refine FL.val (wF_yes rfl rfl rfl c30) rfl rfl (E.move (v := Value.int .i64 a1) rfl) ?_
      refine FL.val (wF_yes rfl rfl rfl c30) rfl rfl (E.move (v := Value.int .i64 a0) rfl) ?_
      refine FL.val (wF_yes rfl rfl rfl c30) rfl rfl (E.neg rfl) ?_
      refine FL.val (wF_yes rfl rfl rfl c30) rfl rfl (E.move (v := Value.int .i64 a0) rfl) ?_
      refine FL.call (wF_yes rfl rfl rfl c30) rfl rfl (E.call Tryz.call192 (A3 rfl rfl rfl)) (w_impl_within S0.sl a1 (wr (-a0)) a0) ?_
      rintro e w31 ⟨rfl, r32⟩
      refine ⟨_, rfl, ?_⟩
      have S33 := S0.call r32
      refine FL.val rfl rfl rfl (E.pickT rfl c30 rfl) ?_
      exact FL.nil ⟨rfl, _, S33, (Inc.rfl _), (congrArg Value.bool (bifT c30).symm)⟩
    ·
      refine FL.skip (wF_no rfl rfl rfl c30) rfl ?_
      refine FL.skip (wF_no rfl rfl rfl c30) rfl ?_
      refine FL.skip (wF_no rfl rfl rfl c30) rfl ?_
      refine FL.skip (wF_no rfl rfl rfl c30) rfl ?_
      refine FL.skip (wF_no rfl rfl rfl c30) rfl ?_
      refine FL.val rfl rfl rfl (E.pickF rfl c30 rfl) ?_
      exact FL.nil ⟨rfl, _, S0, (Inc.rfl _), (congrArg Value.bool (bifF c30).symm)⟩
  rintro f29 w28 ⟨H25, S26, i27, k34⟩
  refine FL.val rfl rfl rfl (E.assign k34) ?_
  refine FL.nil ?_
  refine FW.ret ?_
  obtain rfl := hp
  exact ⟨.inr rfl, res1 rfl rfl ⟨rfl, S26.back⟩⟩

theorem w_impl_abs {Ha : GH} {wa : World} (hs : Sl Ha wa) (a0 : Int) :
    Calls Tryz.prog 158 #[Value.int .i64 a0] wa (Sc Ha wa (Value.int .i64 (PF.impl_abs a0))) := by
  obtain ⟨r, hp⟩ : ∃ r, (PF.impl_abs a0) = r := ⟨_, rfl⟩
  rw [hp]
  unfold PF.impl_abs at hp
  have S0 := St.init hs
  refine calls_go (N := 7) (args := [Value.int .i64 a0]) Tryz.func158 rfl rfl rfl ?_
  refine FW.seq ?_
  refine FW.region ?_
  refine FL.val rfl rfl rfl (E.assign (v := Value.int .i64 0) rfl) ?_
  refine FL.nil ?_
  refine FW.seq ?_
  refine FW.region ?_
  refine FL.val rfl rfl rfl (E.move (v := Value.int .i64 a0) rfl) ?_
  refine FL.val rfl rfl rfl (E.move (v := Value.int .i64 a0) rfl) ?_
  refine FL.val rfl rfl rfl (E.neg rfl) ?_
  refine FL.val rfl rfl rfl (E.max2 rfl rfl) ?_
  refine FL.val rfl rfl rfl (E.assign (v := Value.int .i64 (mx a0 (wr (-a0)))) rfl) ?_
  refine FL.nil ?_
  refine FW.ret ?_
  obtain rfl := hp
  exact ⟨.inr rfl, res1 rfl rfl ⟨rfl, S0.back⟩⟩

theorem w_impl_varsOk {Ha : GH} {wa : World} (hs : Sl Ha wa) (a0 : Int) :
    Calls Tryz.prog 200 #[Value.int .i64 a0] wa (Sc Ha wa (Value.bool (PF.impl_varsOk a0))) := by
  obtain ⟨r, hp⟩ : ∃ r, (PF.impl_varsOk a0) = r := ⟨_, rfl⟩
  rw [hp]
  unfold PF.impl_varsOk at hp
  have S0 := St.init hs
  refine calls_go (N := 5) (args := [Value.int .i64 a0]) Tryz.func200 rfl rfl rfl ?_
  refine FW.seq ?_
  refine FW.region ?_
  refine FL.val rfl rfl rfl (E.assign (v := Value.bool false) rfl) ?_
  refine FL.nil ?_
  refine FW.seq ?_
  refine FW.region ?_
  refine FL.val rfl rfl rfl (E.move (v := Value.int .i64 a0) rfl) ?_
  refine FL.call rfl rfl rfl (E.call Tryz.call192 (A3 rfl rfl rfl)) (w_impl_within S0.sl a0 0 12) ?_
  rintro e w21 ⟨rfl, r22⟩
  refine ⟨_, rfl, ?_⟩
  have S23 := S0.call r22
  refine FL.val rfl rfl rfl (E.assign (v := Value.bool (PF.impl_within a0 0 12)) rfl) ?_
  refine FL.nil ?_
  refine FW.ret ?_
  obtain rfl := hp
  exact ⟨.inr rfl, res1 rfl rfl ⟨rfl, S23.back⟩⟩

theorem w_impl_IsClause {Ha : GH} {wa : World} (hs : Sl Ha wa) (a0 : Int) (v1 : Value) (a1 : List Int) (p1 : RSl Ha eI 1 v1 a1) {r : Bool} (hp : (PF.impl_IsClause a0 a1) = some r) :
    Calls Tryz.prog 142 #[Value.int .i64 a0, v1] wa (Sc Ha wa (Value.bool r)) := by
  unfold PF.impl_IsClause at hp
  have S0 := St.init hs
  refine calls_go (N := 36) (args := [Value.int .i64 a0, v1]) Tryz.func142 rfl rfl rfl ?_
  refine FW.seq ?_
  refine FW.region ?_
  refine FL.val rfl rfl rfl (E.assign (v := Value.bool false) rfl) ?_
  refine FL.nil ?_
  refine FW.seq ?_
  refine FW.seq ?_
  refine FW.region ?_
  refine FL.val rfl rfl rfl (E.move (v := v1) rfl) ?_
  refine FL.val rfl rfl rfl (E.lenP te39 rfl p1) ?_
  refine FL.val rfl rfl rfl (E.move (v := Value.int .i64 0) rfl) ?_
  refine FL.nil ?_
  obtain ⟨q22, hq, hp⟩ := bndR hp
  refine FW.block ?_
  refine FW.mono (FW.forL (S := Unit) (X := Bool) (fun (i22 : Nat) (s22 : Unit) f w => ∃ H : GH, St Ha wa H w [] ∧ Inc Ha H ∧ f 9 = Value.int .i64 ((i22 : Nat) : Int) ∧ f 0 = Value.int .i64 a0 ∧ f 1 = v1 ∧ f 7 = v1 ∧ f 8 = Value.int .i64 (len a1)) (fun q e f w => match q with | .go s22 => e = Exit.exit 0 ∧ (∃ H : GH, St Ha wa H w [] ∧ Inc Ha H ∧ f 0 = Value.int .i64 a0) | .rt x => ((e = Exit.ret) ∧ (fun e f w => (e = Exit.normal ∨ e = Exit.ret) ∧ ∀ a, Fr (δ := []) 36 a f → ∃ v, (results Tryz.f142 a.tmps).run Tryz.prog w = .ok v w ∧ (Sc Ha wa (Value.bool x)) (.returned v) w) e f w)) hq ⟨_, S0, (Inc.rfl _), rfl, rfl, rfl, rfl, rfl⟩ ?_ ?_) ?_
  ·
    clear hp hq
    rintro i22 y21 s22 f121 w120 ⟨H117, S118, i119, k122, k123, k124, k125, k126⟩ hx22 o211 hp
    refine FW.seq ?_
    refine FW.region ?_
    refine FL.val rfl rfl rfl (E.lssT k122 k126 (lss_len hx22)) ?_
    refine FL.nil ?_
    refine FW.seq ?_
    refine FW.condT rfl rfl ?_
    refine FW.skip ?_
    refine FW.seq ?_
    refine FW.block ?_
    refine FW.seq ?_
    refine FW.region ?_
    refine FL.val rfl rfl rfl (E.move k122) ?_
    obtain ⟨p127, cs128, pt129, l130, at131, rel132⟩ := p1.at (ix_nat hx22)
    obtain rfl := eI_open rel132
    refine FL.val rfl rfl rfl (E.indexAddr te39 k125 k122 pt129) ?_
    refine FL.val rfl rfl rfl (E.load rfl (run_load0 Tryz.isAgg3 ((at131.mono i119).now S118.sl) rfl)) ?_
    refine FL.val rfl rfl rfl (E.assign (v := Value.int .i64 ((i22 : Nat) : Int)) rfl) ?_
    refine FL.val rfl rfl rfl (E.assign (v := Value.int .i64 y21) rfl) ?_
    refine FL.nil ?_
    refine FW.seq ?_
    refine FW.draw (fun w' => Run w120.heap.size H117 w120 H117 w') (by kernel_rfl) (by kernel_rfl) (run_drew S118.sl) ?_
    refine FD.val rfl rfl rfl (fun w' hw' => (E.move k123)) ?_
    refine FD.val rfl rfl rfl (fun w' hw' => (E.move (v := Value.int .i64 y21) rfl)) ?_
    refine FD.call rfl rfl rfl (fun w' hw' => (E.call Tryz.call206 (A2 rfl rfl))) (fun w' hw' => Calls.cls hw' (w_impl_isLiteral (S118.call hw').sl a0 y21)) ?_
    refine FD.val rfl rfl rfl (fun w' hw' => (E.not rfl)) ?_
    refine FD.val rfl rfl rfl (fun w' hw' => (E.move (v := Value.bool (!(PF.impl_isLiteral a0 y21))) rfl)) ?_
    obtain ⟨t164, hqt164, hp⟩ := bnd hp
    refine FD.cut 14 (fun f => f 0 = Value.int .i64 a0 ∧ f 1 = v1 ∧ f 7 = v1 ∧ f 8 = Value.int .i64 (len a1) ∧ f 9 = Value.int .i64 ((i22 : Nat) : Int) ∧ f 32 = Value.bool t164) ?_ ?_
    ·
      clear hp; have hp := hqt164; clear hqt164
      rcases ifB hp with ⟨c170, hp⟩ | ⟨c170, hp⟩
      ·
        refine FD.skip (wF_no rfl rfl rfl c170) rfl ?_
        refine FD.skip (wF_no rfl rfl rfl c170) rfl ?_
        refine FD.skip (wF_no rfl rfl rfl c170) rfl ?_
        refine FD.skip (wF_undef rfl rfl rfl) rfl ?_
        refine FD.skip (wF_undef rfl rfl rfl) rfl ?_
        refine FD.skip (wF_undef rfl rfl rfl) rfl ?_
        refine FD.skip (wF_undef rfl rfl rfl) rfl ?_
        refine FD.skip (wF_undef rfl rfl rfl) rfl ?_
        refine FD.skip (wF_undef rfl rfl rfl) rfl ?_
        refine FD.skip (wF_undef rfl rfl rfl) rfl ?_
        refine FD.skip (wF_undef rfl rfl rfl) rfl ?_
        refine FD.skip (wF_undef rfl rfl rfl) rfl ?_
        refine FD.skip (wF_no rfl rfl rfl c170) rfl ?_
        obtain rfl := Option.some.inj hp
        refine FD.val rfl rfl rfl (fun w' hw' => (E.pickT rfl c170 rfl)) ?_
        exact FD.nil ⟨k123, k124, k125, k126, k122, rfl⟩
      ·
        refine FD.val (wF_yes rfl rfl rfl c170) rfl rfl (fun w' hw' => (E.move (v := Value.int .i64 ((i22 : Nat) : Int)) rfl)) ?_
        refine FD.val (wF_yes rfl rfl rfl c170) rfl rfl (fun w' hw' => (E.gtr rfl rfl)) ?_
        refine FD.val (wF_yes rfl rfl rfl c170) rfl rfl (fun w' hw' => (E.move (v := Value.bool (decide (0 < ((i22 : Nat) : Int)))) rfl)) ?_
        obtain ⟨t179, hqt179, hp⟩ := bnd hp
        refine FD.cut 10 (fun f => f 0 = Value.int .i64 a0 ∧ f 1 = v1 ∧ f 7 = v1 ∧ f 8 = Value.int .i64 (len a1) ∧ f 9 = Value.int .i64 ((i22 : Nat) : Int) ∧ f 18 = Value.bool (!(PF.impl_isLiteral a0 y21)) ∧ f 31 = Value.bool t179) ?_ ?_
        ·
          clear hp; have hp := hqt179; clear hqt179
          rcases ifB hp with ⟨c185, hp⟩ | ⟨c185, hp⟩
          ·
            refine FD.val (wF_yes rfl rfl rfl c185) rfl rfl (fun w' hw' => (E.move (v := Value.int .i64 y21) rfl)) ?_
            refine FD.call (wF_yes rfl rfl rfl c185) rfl rfl (fun w' hw' => (E.call Tryz.call158 (A1 rfl))) (fun w' hw' => Calls.cls hw' (w_impl_abs (S118.call hw').sl y21)) ?_
            refine FD.val (wF_yes rfl rfl rfl c185) rfl rfl (fun w' hw' => (E.move k124)) ?_
            refine FD.val (wF_yes rfl rfl rfl c185) rfl rfl (fun w' hw' => (E.move (v := Value.int .i64 ((i22 : Nat) : Int)) rfl)) ?_
            refine FD.val (wF_yes rfl rfl rfl c185) rfl rfl (fun w' hw' => (E.sub rfl rfl)) ?_
            obtain ⟨x192, hx193, hp⟩ := bnd hp
            obtain ⟨p186, cs187, pt188, l189, at190, rel191⟩ := p1.at hx193
            obtain rfl := eI_open rel191
            refine FD.val (wF_yes rfl rfl rfl c185) rfl rfl (fun w' hw' => (E.indexAddr te39 rfl rfl pt188)) ?_
            refine FD.val (wF_yes rfl rfl rfl c185) rfl rfl (fun w' hw' => (E.load rfl (run_load0 Tryz.isAgg3 ((at190.mono i119).now (S118.call hw').sl) rfl))) ?_
            refine FD.call (wF_yes rfl rfl rfl c185) rfl rfl (fun w' hw' => (E.call Tryz.call158 (A1 rfl))) (fun w' hw' => Calls.cls hw' (w_impl_abs (S118.call hw').sl x192)) ?_
            refine FD.val (wF_yes rfl rfl rfl c185) rfl rfl (fun w' hw' => (E.leq rfl rfl)) ?_
            obtain rfl := Option.some.inj hp
            refine FD.val (wF_yes rfl rfl rfl c170) rfl rfl (fun w' hw' => (E.pickT rfl c185 rfl)) ?_
            exact FD.nil ⟨k123, k124, k125, k126, k122, rfl, rfl⟩
          ·
            refine FD.skip (wF_no rfl rfl rfl c185) rfl ?_
            refine FD.skip (wF_no rfl rfl rfl c185) rfl ?_
            refine FD.skip (wF_no rfl rfl rfl c185) rfl ?_
            refine FD.skip (wF_no rfl rfl rfl c185) rfl ?_
            refine FD.skip (wF_no rfl rfl rfl c185) rfl ?_
            refine FD.skip (wF_no rfl rfl rfl c185) rfl ?_
            refine FD.skip (wF_no rfl rfl rfl c185) rfl ?_
            refine FD.skip (wF_no rfl rfl rfl c185) rfl ?_
            refine FD.skip (wF_no rfl rfl rfl c185) rfl ?_
            obtain rfl := Option.some.inj hp
            refine FD.val (wF_yes rfl rfl rfl c170) rfl rfl (fun w' hw' => (E.pickF rfl c185 rfl)) ?_
            exact FD.nil ⟨k123, k124, k125, k126, k122, rfl, rfl⟩
        rintro f184 ⟨k194, k195, k196, k197, k198, k199, k200⟩
        obtain rfl := Option.some.inj hp
        refine FD.val rfl rfl rfl (fun w' hw' => (E.pickF k199 c170 k200)) ?_
        exact FD.nil ⟨k194, k195, k196, k197, k198, rfl⟩
    rintro f169 ⟨k201, k202, k203, k204, k205, k206⟩
    refine FD.nil ?_
    intro w207 r209
    have S208 := S118.call r209
    rcases ifB hp with ⟨c210, hp⟩ | ⟨c210, hp⟩
    ·
      refine FW.condT k206 c210 ?_
      refine FW.seq ?_
      refine FW.region ?_
      refine FL.val rfl rfl rfl (E.assign (v := Value.bool false) rfl) ?_
      refine FL.nil ?_
      refine FW.ret ?_
      obtain rfl := Option.some.inj hp
      exact ⟨nofun, rfl, ⟨.inr rfl, res1 rfl rfl ⟨rfl, S208.back⟩⟩⟩
    ·
      refine FW.condF k206 c210 ?_
      refine FW.skip ?_
      refine FW.region ?_
      refine FL.val rfl rfl rfl (E.add k205 rfl) ?_
      refine FL.val rfl rfl rfl (E.move (v := Value.int .i64 (wr (((i22 : Nat) : Int) + 1))) rfl) ?_
      refine FL.nil ?_
      obtain rfl := Option.some.inj hp
      exact ⟨rfl, ⟨_, S208, i119, (nat_succ rfl (lt_of_get hx22) (p1.mono i119).le), k201, k202, k203, k204⟩⟩
  ·
    clear hp hq
    rintro s22 f225 w224 ⟨H221, S222, i223, k226, k227, k228, k229, k230⟩
    refine FW.seq ?_
    refine FW.region ?_
    refine FL.val rfl rfl rfl (E.lss k226 k230) ?_
    refine FL.nil ?_
    refine FW.seq ?_
    refine FW.condF rfl dlt_len ?_
    refine FW.exit ?_
    exact ⟨nofun, rfl, ⟨_, S222, i223, k227⟩⟩
  ·
    clear hq
    intro e f216 w215 hD
    rcases q22 with s22 | x22
    ·
      obtain ⟨rfl, hD⟩ := hD
      obtain ⟨H212, S213, i214, k217⟩ := hD
      replace hp := el_go hp
      refine FW.seq ?_
      refine FW.region ?_
      refine FL.val rfl rfl rfl (E.move k217) ?_
      refine FL.call rfl rfl rfl (E.call Tryz.call200 (A1 rfl)) (w_impl_varsOk S213.sl a0) ?_
      rintro e w218 ⟨rfl, r219⟩
      refine ⟨_, rfl, ?_⟩
      have S220 := S213.call r219
      refine FL.val rfl rfl rfl (E.assign (v := Value.bool (PF.impl_varsOk a0)) rfl) ?_
      refine FL.nil ?_
      refine FW.ret ?_
      obtain rfl := Option.some.inj hp
      exact ⟨.inr rfl, res1 rfl rfl ⟨rfl, S220.back⟩⟩
    ·
      obtain ⟨he, hL⟩ := hD
      replace hp := el_rt hp
      obtain rfl := Option.some.inj hp
      subst he
      exact hL

theorem w_impl_IsCnf {Ha : GH} {wa : World} (hs : Sl Ha wa) (a0 : Cnf) (v0_1 : Value) (p0_1 : RSl Ha (eL eI 1) 1 v0_1 a0.clauses) {r : Bool} (hp : (PF.impl_IsCnf a0) = some r) :
    Calls Tryz.prog 134 #[Value.agg #[Value.int .i64 a0.vars, v0_1]] wa (Sc Ha wa (Value.bool r)) := by
  unfold PF.impl_IsCnf at hp
  have S0 := St.init hs
  refine calls_go (N := 27) (args := [Value.agg #[Value.int .i64 a0.vars, v0_1]]) Tryz.func134 rfl rfl rfl ?_
  refine FW.seq ?_
  refine FW.region ?_
  obtain ⟨b21, w22, run23, S24⟩ := S0.box (P := Tryz.prog) 31 [Value.int .i64 a0.vars, v0_1] (v := Value.agg #[Value.int .i64 a0.vars, v0_1]) rfl (ones_cons rfl (ones_cons p0_1.one ones_nil))
  refine FL.val rfl rfl rfl (E.box rfl run23) ?_
  obtain ⟨H25, S26, i27, at28⟩ := S24.sealBox (i := 0) (l' := []) rfl rfl
  refine FL.val rfl rfl rfl (E.assign (v := Value.bool false) rfl) ?_
  refine FL.nil ?_
  refine FW.seq ?_
  refine FW.seq ?_
  refine FW.region ?_
  refine FL.val rfl rfl rfl (E.fieldAddr tf31_1 rfl) ?_
  refine FL.val rfl rfl rfl (E.load rfl (run_load1 Tryz.isAgg22 (at28.now S26.sl) rfl)) ?_
  refine FL.val rfl rfl rfl (E.lenP te22 rfl p0_1) ?_
  refine FL.val rfl rfl rfl (E.move (v := Value.int .i64 0) rfl) ?_
  refine FL.nil ?_
  obtain ⟨q30, hq, hp⟩ := bndR hp
  refine FW.block ?_
  refine FW.mono (FW.forL (S := Unit) (X := Bool) (fun (i30 : Nat) (s30 : Unit) f w => ∃ H : GH, St Ha wa H w [] ∧ Inc H25 H ∧ f 8 = Value.int .i64 ((i30 : Nat) : Int) ∧ f 1 = Value.pointer (some ⟨b21, 0, none⟩) ∧ f 6 = v0_1 ∧ f 7 = Value.int .i64 (len a0.clauses)) (fun q e f w => match q with | .go s30 => e = Exit.exit 0 ∧ (∃ H : GH, St Ha wa H w [] ∧ Inc H25 H ∧ f 1 = Value.pointer (some ⟨b21, 0, none⟩)) | .rt x => ((e = Exit.ret) ∧ (fun e f w => (e = Exit.normal ∨ e = Exit.ret) ∧ ∀ a, Fr (δ := []) 27 a f → ∃ v, (results Tryz.f134 a.tmps).run Tryz.prog w = .ok v w ∧ (Sc Ha wa (Value.bool x)) (.returned v) w) e f w)) hq ⟨_, S26, (Inc.rfl _), rfl, rfl, rfl, rfl⟩ ?_ ?_) ?_
  ·
    clear hp hq
    rintro i30 y29 s30 f58 w57 ⟨H54, S55, i56, k59, k60, k61, k62⟩ hx30 o77 hp
    refine FW.seq ?_
    refine FW.region ?_
    refine FL.val rfl rfl rfl (E.lssT k59 k62 (lss_len hx30)) ?_
    refine FL.nil ?_
    refine FW.seq ?_
    refine FW.condT rfl rfl ?_
    refine FW.skip ?_
    refine FW.seq ?_
    refine FW.block ?_
    refine FW.seq ?_
    refine FW.region ?_
    obtain ⟨p63, cs64, pt65, l66, at67, rel68⟩ := p0_1.at (ix_nat hx30)
    obtain ⟨v69, rfl, h70⟩ := eL_open rel68
    refine FL.val rfl rfl rfl (E.indexAddr te22 k61 k59 pt65) ?_
    refine FL.val rfl rfl rfl (E.load rfl (run_load0 Tryz.isAgg39 ((at67.mono (i27.tr i56)).now S55.sl) rfl)) ?_
    refine FL.val rfl rfl rfl (E.assign (v := v69) rfl) ?_
    refine FL.nil ?_
    refine FW.seq ?_
    refine FW.region ?_
    refine FL.val rfl rfl rfl (E.fieldAddr tf31_0 k60) ?_
    refine FL.val rfl rfl rfl (E.load rfl (run_load1 Tryz.isAgg3 ((at28.mono i56).now S55.sl) rfl)) ?_
    refine FL.val rfl rfl rfl (E.move (v := v69) rfl) ?_
    obtain ⟨r71, hr72, hp⟩ := bnd hp
    refine FL.call rfl rfl rfl (E.call Tryz.call142 (A2 rfl rfl)) (w_impl_IsClause S55.sl a0.vars v69 y29 (h70.mono (i27.tr i56)) hr72) ?_
    rintro e w73 ⟨rfl, r74⟩
    refine ⟨_, rfl, ?_⟩
    have S75 := S55.call r74
    refine FL.val rfl rfl rfl (E.not rfl) ?_
    refine FL.nil ?_
    rcases ifB hp with ⟨c76, hp⟩ | ⟨c76, hp⟩
    ·
      refine FW.condT rfl c76 ?_
      refine FW.seq ?_
      refine FW.region ?_
      refine FL.val rfl rfl rfl (E.assign (v := Value.bool false) rfl) ?_
      refine FL.nil ?_
      refine FW.ret ?_
      obtain rfl := Option.some.inj hp
      exact ⟨nofun, rfl, ⟨.inr rfl, res1 rfl rfl ⟨rfl, S75.back⟩⟩⟩
    ·
      refine FW.condF rfl c76 ?_
      refine FW.skip ?_
      refine FW.region ?_
      refine FL.val rfl rfl rfl (E.add k59 rfl) ?_
      refine FL.val rfl rfl rfl (E.move (v := Value.int .i64 (wr (((i30 : Nat) : Int) + 1))) rfl) ?_
      refine FL.nil ?_
      obtain rfl := Option.some.inj hp
      exact ⟨rfl, ⟨_, S75, i56, (nat_succ rfl (lt_of_get hx30) (p0_1.mono (i27.tr i56)).le), k60, k61, k62⟩⟩
  ·
    clear hp hq
    rintro s30 f99 w98 ⟨H95, S96, i97, k100, k101, k102, k103⟩
    refine FW.seq ?_
    refine FW.region ?_
    refine FL.val rfl rfl rfl (E.lss k100 k103) ?_
    refine FL.nil ?_
    refine FW.seq ?_
    refine FW.condF rfl dlt_len ?_
    refine FW.exit ?_
    exact ⟨nofun, rfl, ⟨_, S96, i97, k101⟩⟩
  ·
    clear hq
    intro e f82 w81 hD
    rcases q30 with s30 | x30
    ·
      obtain ⟨rfl, hD⟩ := hD
      obtain ⟨H78, S79, i80, k83⟩ := hD
      replace hp := el_go hp
      refine FW.seq ?_
      refine FW.region ?_
      refine FL.val rfl rfl rfl (E.fieldAddr tf31_0 k83) ?_
      refine FL.val rfl rfl rfl (E.load rfl (run_load1 Tryz.isAgg3 ((at28.mono i80).now S79.sl) rfl)) ?_
      refine FL.call rfl rfl rfl (E.call Tryz.call200 (A1 rfl)) (w_impl_varsOk S79.sl a0.vars) ?_
      rintro e w84 ⟨rfl, r85⟩
      refine ⟨_, rfl, ?_⟩
      have S86 := S79.call r85
      refine FL.val rfl rfl rfl (E.move (v := Value.bool (PF.impl_varsOk a0.vars)) rfl) ?_
      refine FL.cut 5 (fun f w => ∃ H : GH, St Ha wa H w [] ∧ Inc H78 H ∧ f 26 = Value.bool (bif (PF.impl_varsOk a0.vars) then (decide ((len a0.clauses) ≤ 60)) else false)) ?_ ?_
      ·
        rcases bcase (PF.impl_varsOk a0.vars) with c93 | c93
        ·
          refine FL.val (wF_yes rfl rfl rfl c93) rfl rfl (E.fieldAddr tf31_1 k83) ?_
          refine FL.val (wF_yes rfl rfl rfl c93) rfl rfl (E.load rfl (run_load1 Tryz.isAgg22 ((at28.mono i80).now S86.sl) rfl)) ?_
          refine FL.val (wF_yes rfl rfl rfl c93) rfl rfl (E.lenP te22 rfl p0_1) ?_
          refine FL.val (wF_yes rfl rfl rfl c93) rfl rfl (E.leq rfl rfl) ?_
          refine FL.val rfl rfl rfl (E.pickT rfl c93 rfl) ?_
          exact FL.nil ⟨rfl, _, S86, (Inc.rfl _), (congrArg Value.bool (bifT c93).symm)⟩
        ·
          refine FL.skip (wF_no rfl rfl rfl c93) rfl ?_
          refine FL.skip (wF_no rfl rfl rfl c93) rfl ?_
          refine FL.skip (wF_no rfl rfl rfl c93) rfl ?_
          refine FL.skip (wF_no rfl rfl rfl c93) rfl ?_
          refine FL.val rfl rfl rfl (E.pickF rfl c93 rfl) ?_
          exact FL.nil ⟨rfl, _, S86, (Inc.rfl _), (congrArg Value.bool (bifF c93).symm)⟩
      rintro f92 w91 ⟨H88, S89, i90, k94⟩
      refine FL.val rfl rfl rfl (E.assign k94) ?_
      refine FL.nil ?_
      refine FW.ret ?_
      obtain rfl := Option.some.inj hp
      exact ⟨.inr rfl, res1 rfl rfl ⟨rfl, S89.back⟩⟩
    ·
      obtain ⟨he, hL⟩ := hD
      replace hp := el_rt hp
      obtain rfl := Option.some.inj hp
      subst he
      exact hL

theorem w_slices_Equal_int_int {Ha : GH} {wa : World} (hs : Sl Ha wa) (v0 : Value) (a0 : List Int) (p0 : RSl Ha eI 1 v0 a0) (v1 : Value) (a1 : List Int) (p1 : RSl Ha eI 1 v1 a1) {r : Bool} (hp : (PF.slices_Equal_int_int a0 a1) = some r) :
    Calls Tryz.prog 245 #[v0, v1] wa (Sc Ha wa (Value.bool r)) := by
  unfold PF.slices_Equal_int_int at hp
  have S0 := St.init hs
  refine calls_go (N := 26) (args := [v0, v1]) Tryz.func245 rfl rfl rfl ?_
  refine FW.seq ?_
  refine FW.region ?_
  refine FL.val rfl rfl rfl (E.assign (v := Value.bool false) rfl) ?_
  refine FL.nil ?_
  refine FW.seq ?_
  refine FW.seq ?_
  refine FW.region ?_
  refine FL.val rfl rfl rfl (E.move (v := v0) rfl) ?_
  refine FL.val rfl rfl rfl (E.lenP te39 rfl p0) ?_
  refine FL.val rfl rfl rfl (E.move (v := v1) rfl) ?_
  refine FL.val rfl rfl rfl (E.lenP te39 rfl p1) ?_
  refine FL.val rfl rfl rfl (E.neq rfl rfl) ?_
  refine FL.nil ?_
  rcases ifB hp with ⟨c21, hp⟩ | ⟨c21, hp⟩
  ·
    refine FW.condT rfl c21 ?_
    refine FW.seq ?_
    refine FW.region ?_
    refine FL.val rfl rfl rfl (E.assign (v := Value.bool false) rfl) ?_
    refine FL.nil ?_
    refine FW.ret ?_
    obtain rfl := Option.some.inj hp
    exact ⟨.inr rfl, res1 rfl rfl ⟨rfl, S0.back⟩⟩
  ·
    refine FW.condF rfl c21 ?_
    refine FW.skip ?_
    refine FW.seq ?_
    refine FW.seq ?_
    refine FW.region ?_
    refine FL.val rfl rfl rfl (E.move (v := v0) rfl) ?_
    refine FL.val rfl rfl rfl (E.lenP te39 rfl p0) ?_
    refine FL.val rfl rfl rfl (E.move (v := Value.int .i64 0) rfl) ?_
    refine FL.nil ?_
    obtain ⟨q23, hq, hp⟩ := bndR hp
    refine FW.block ?_
    refine FW.mono (FW.forL (S := Unit) (X := Bool) (fun (i23 : Nat) (s23 : Unit) f w => ∃ H : GH, St Ha wa H w [] ∧ Inc Ha H ∧ f 13 = Value.int .i64 ((i23 : Nat) : Int) ∧ f 0 = v0 ∧ f 1 = v1 ∧ f 12 = Value.int .i64 (len a0)) (fun q e f w => match q with | .go s23 => e = Exit.exit 0 ∧ (∃ H : GH, St Ha wa H w [] ∧ Inc Ha H) | .rt x => ((e = Exit.ret) ∧ (fun e f w => (e = Exit.normal ∨ e = Exit.ret) ∧ ∀ a, Fr (δ := []) 26 a f → ∃ v, (results Tryz.f245 a.tmps).run Tryz.prog w = .ok v w ∧ (Sc Ha wa (Value.bool x)) (.returned v) w) e f w)) hq ⟨_, S0, (Inc.rfl _), rfl, rfl, rfl, rfl⟩ ?_ ?_) ?_
    ·
      clear hp hq
      rintro i23 y22 s23 f56 w55 ⟨H52, S53, i54, k57, k58, k59, k60⟩ hx23 o80 hp
      refine FW.seq ?_
      refine FW.region ?_
      refine FL.val rfl rfl rfl (E.lssT k57 k60 (lss_len hx23)) ?_
      refine FL.nil ?_
      refine FW.seq ?_
      refine FW.condT rfl rfl ?_
      refine FW.skip ?_
      refine FW.seq ?_
      refine FW.block ?_
      refine FW.seq ?_
      refine FW.region ?_
      refine FL.val rfl rfl rfl (E.move k57) ?_
      refine FL.val rfl rfl rfl (E.assign (v := Value.int .i64 ((i23 : Nat) : Int)) rfl) ?_
      refine FL.nil ?_
      refine FW.seq ?_
      refine FW.draw (fun w' => Run w55.heap.size H52 w55 H52 w') (by kernel_rfl) (by kernel_rfl) (run_drew S53.sl) ?_
      refine FD.val rfl rfl rfl (fun w' hw' => (E.move k58)) ?_
      refine FD.val rfl rfl rfl (fun w' hw' => (E.move (v := Value.int .i64 ((i23 : Nat) : Int)) rfl)) ?_
      obtain ⟨p62, cs63, pt64, l65, at66, rel67⟩ := p0.at (ix_nat hx23)
      obtain rfl := eI_open rel67
      refine FD.val rfl rfl rfl (fun w' hw' => (E.indexAddr te39 rfl rfl pt64)) ?_
      refine FD.val rfl rfl rfl (fun w' hw' => (E.load rfl (run_load0 Tryz.isAgg3 ((at66.mono i54).now (S53.call hw').sl) rfl))) ?_
      refine FD.val rfl rfl rfl (fun w' hw' => (E.move k59)) ?_
      refine FD.val rfl rfl rfl (fun w' hw' => (E.move (v := Value.int .i64 ((i23 : Nat) : Int)) rfl)) ?_
      obtain ⟨x74, hx75, hp⟩ := bnd hp
      obtain ⟨p68, cs69, pt70, l71, at72, rel73⟩ := p1.at hx75
      obtain rfl := eI_open rel73
      refine FD.val rfl rfl rfl (fun w' hw' => (E.indexAddr te39 rfl rfl pt70)) ?_
      refine FD.val rfl rfl rfl (fun w' hw' => (E.load rfl (run_load0 Tryz.isAgg3 ((at72.mono i54).now (S53.call hw').sl) rfl))) ?_
      refine FD.val rfl rfl rfl (fun w' hw' => (E.neq rfl rfl)) ?_
      refine FD.nil ?_
      intro w76 r78
      have S77 := S53.call r78
      rcases ifB hp with ⟨c79, hp⟩ | ⟨c79, hp⟩
      ·
        refine FW.condT rfl c79 ?_
        refine FW.seq ?_
        refine FW.region ?_
        refine FL.val rfl rfl rfl (E.assign (v := Value.bool false) rfl) ?_
        refine FL.nil ?_
        refine FW.ret ?_
        obtain rfl := Option.some.inj hp
        exact ⟨nofun, rfl, ⟨.inr rfl, res1 rfl rfl ⟨rfl, S77.back⟩⟩⟩
      ·
        refine FW.condF rfl c79 ?_
        refine FW.skip ?_
        refine FW.region ?_
        refine FL.val rfl rfl rfl (E.add k57 rfl) ?_
        refine FL.val rfl rfl rfl (E.move (v := Value.int .i64 (wr (((i23 : Nat) : Int) + 1))) rfl) ?_
        refine FL.nil ?_
        obtain rfl := Option.some.inj hp
        exact ⟨rfl, ⟨_, S77, i54, (nat_succ rfl (lt_of_get hx23) (p0.mono i54).le), k58, k59, k60⟩⟩
    ·
      clear hp hq
      rintro s23 f90 w89 ⟨H86, S87, i88, k91, k92, k93, k94⟩
      refine FW.seq ?_
      refine FW.region ?_
      refine FL.val rfl rfl rfl (E.lss k91 k94) ?_
      refine FL.nil ?_
      refine FW.seq ?_
      refine FW.condF rfl dlt_len ?_
      refine FW.exit ?_
      exact ⟨nofun, rfl, ⟨_, S87, i88⟩⟩
    ·
      clear hq
      intro e f85 w84 hD
      rcases q23 with s23 | x23
      ·
        obtain ⟨rfl, hD⟩ := hD
        obtain ⟨H81, S82, i83⟩ := hD
        replace hp := el_go hp
        refine FW.seq ?_
        refine FW.region ?_
        refine FL.val rfl rfl rfl (E.assign (v := Value.bool true) rfl) ?_
        refine FL.nil ?_
        refine FW.ret ?_
        obtain rfl := Option.some.inj hp
        exact ⟨.inr rfl, res1 rfl rfl ⟨rfl, S82.back⟩⟩
      ·
        obtain ⟨he, hL⟩ := hD
        replace hp := el_rt hp
        obtain rfl := Option.some.inj hp
        subst he
        exact hL

@[reducible] def p_impl_earlier (Ha : GH) (wa : World) (r : ((List Int) × Bool)) : Ending → World → Prop :=
  fun e w' => ∃ H' : GH, ∃ v0 : Value, e = .returned (Value.tuple #[v0, Value.bool r.2]) ∧ Run wa.heap.size Ha wa H' w' ∧ RSl H' eI 1 v0 r.1
theorem w_impl_earlier {Ha : GH} {wa : World} (hs : Sl Ha wa) (a0 : Cnf) (v0_1 : Value) (p0_1 : RSl Ha (eL eI 1) 1 v0_1 a0.clauses) (v1 : Value) (a1 : List ResStep) (p1 : RSl Ha eResStep 4 v1 a1) (a2 : Int) (a3 : Int) {r : ((List Int) × Bool)} (hp : (PF.impl_earlier a0 a1 a2 a3) = some r) :
    Calls Tryz.prog 246 #[Value.agg #[Value.int .i64 a0.vars, v0_1], v1, Value.int .i64 a2, Value.int .i64 a3] wa (p_impl_earlier Ha wa r) := by
  unfold PF.impl_earlier at hp
  have S0 := St.init hs
  refine calls_go (N := 31) (args := [Value.agg #[Value.int .i64 a0.vars, v0_1], v1, Value.int .i64 a2, Value.int .i64 a3]) Tryz.func246 rfl rfl rfl ?_
  refine FW.seq ?_
  refine FW.region ?_
  obtain ⟨b21, w22, run23, S24⟩ := S0.box (P := Tryz.prog) 31 [Value.int .i64 a0.vars, v0_1] (v := Value.agg #[Value.int .i64 a0.vars, v0_1]) rfl (ones_cons rfl (ones_cons p0_1.one ones_nil))
  refine FL.val rfl rfl rfl (E.box rfl run23) ?_
  obtain ⟨H25, S26, i27, at28⟩ := S24.sealBox (i := 0) (l' := []) rfl rfl
  refine FL.val rfl rfl rfl (E.assign (v := Value.slice none 0 0) rfl) ?_
  refine FL.val rfl rfl rfl (E.assign (v := Value.bool false) rfl) ?_
  refine FL.nil ?_
  refine FW.seq ?_
  refine FW.seq ?_
  refine FW.draw (fun w' => Run w22.heap.size H25 w22 H25 w') (by kernel_rfl) (by kernel_rfl) (run_drew S26.sl) ?_
  refine FD.val rfl rfl rfl (fun w' hw' => (E.move (v := Value.int .i64 a3) rfl)) ?_
  refine FD.val rfl rfl rfl (fun w' hw' => (E.move (v := Value.int .i64 a2) rfl)) ?_
  refine FD.val rfl rfl rfl (fun w' hw' => (E.sub rfl rfl)) ?_
  refine FD.call rfl rfl rfl (fun w' hw' => (E.call Tryz.call192 (A3 rfl rfl rfl))) (fun w' hw' => Calls.cls hw' (w_impl_within (S26.call hw').sl a3 0 (wr (a2 - 1)))) ?_
  refine FD.val rfl rfl rfl (fun w' hw' => (E.not rfl)) ?_
  refine FD.val rfl rfl rfl (fun w' hw' => (E.move (v := Value.bool (!(PF.impl_within a3 0 (wr (a2 - 1))))) rfl)) ?_
  obtain ⟨t42, hqt42, hp⟩ := bnd hp
  refine FD.cut 10 (fun f => f 1 = v1 ∧ f 3 = Value.int .i64 a3 ∧ f 25 = Value.bool t42) ?_ ?_
  ·
    clear hp; have hp := hqt42; clear hqt42
    rcases ifB hp with ⟨c48, hp⟩ | ⟨c48, hp⟩
    ·
      refine FD.skip (wF_no rfl rfl rfl c48) rfl ?_
      refine FD.skip (wF_no rfl rfl rfl c48) rfl ?_
      refine FD.skip (wF_no rfl rfl rfl c48) rfl ?_
      refine FD.skip (wF_no rfl rfl rfl c48) rfl ?_
      refine FD.skip (wF_no rfl rfl rfl c48) rfl ?_
      refine FD.skip (wF_no rfl rfl rfl c48) rfl ?_
      refine FD.skip (wF_no rfl rfl rfl c48) rfl ?_
      refine FD.skip (wF_no rfl rfl rfl c48) rfl ?_
      refine FD.skip (wF_no rfl rfl rfl c48) rfl ?_
      obtain rfl := Option.some.inj hp
      refine FD.val rfl rfl rfl (fun w' hw' => (E.pickT rfl c48 rfl)) ?_
      exact FD.nil ⟨rfl, rfl, rfl⟩
    ·
      refine FD.val (wF_yes rfl rfl rfl c48) rfl rfl (fun w' hw' => (E.fieldAddr tf31_0 rfl)) ?_
      refine FD.val (wF_yes rfl rfl rfl c48) rfl rfl (fun w' hw' => (E.load rfl (run_load1 Tryz.isAgg3 (at28.now (S26.call hw').sl) rfl))) ?_
      refine FD.val (wF_yes rfl rfl rfl c48) rfl rfl (fun w' hw' => (E.move (v := v1) rfl)) ?_
      refine FD.val (wF_yes rfl rfl rfl c48) rfl rfl (fun w' hw' => (E.move (v := Value.int .i64 a3) rfl)) ?_
      obtain ⟨x55, hx56, hp⟩ := bnd hp
      obtain ⟨p49, cs50, pt51, l52, at53, rel54⟩ := p1.at hx56
      obtain ⟨v57, rfl, h58⟩ := eResStep_open rel54
      refine FD.val (wF_yes rfl rfl rfl c48) rfl rfl (fun w' hw' => (E.indexAddr te28 rfl rfl pt51)) ?_
      refine FD.val (wF_yes rfl rfl rfl c48) rfl rfl (fun w' hw' => (E.fieldAddr tf89_0 rfl)) ?_
      refine FD.val (wF_yes rfl rfl rfl c48) rfl rfl (fun w' hw' => (E.load rfl (run_load1 Tryz.isAgg39 ((at53.mono i27).now (S26.call hw').sl) rfl))) ?_
      obtain ⟨r59, hr60, hp⟩ := bnd hp
      refine FD.call (wF_yes rfl rfl rfl c48) rfl rfl (fun w' hw' => (E.call Tryz.call142 (A2 rfl rfl))) (fun w' hw' => Calls.cls hw' (w_impl_IsClause (S26.call hw').sl a0.vars v57 x55.clause (h58.mono i27) hr60)) ?_
      refine FD.val (wF_yes rfl rfl rfl c48) rfl rfl (fun w' hw' => (E.not rfl)) ?_
      obtain rfl := Option.some.inj hp
      refine FD.val rfl rfl rfl (fun w' hw' => (E.pickF rfl c48 rfl)) ?_
      exact FD.nil ⟨rfl, rfl, rfl⟩
  rintro f47 ⟨k61, k62, k63⟩
  refine FD.nil ?_
  intro w64 r66
  have S65 := S26.call r66
  rcases ifB hp with ⟨c67, hp⟩ | ⟨c67, hp⟩
  ·
    refine FW.condT k63 c67 ?_
    refine FW.seq ?_
    refine FW.region ?_
    refine FL.val rfl rfl rfl (E.assign (v := Value.slice none 0 0) rfl) ?_
    refine FL.val rfl rfl rfl (E.assign (v := Value.bool false) rfl) ?_
    refine FL.nil ?_
    refine FW.ret ?_
    obtain rfl := Option.some.inj hp
    exact ⟨.inr rfl, res2 rfl rfl rfl ⟨_, _, rfl, S65.run, (RSl.nil _ _ _)⟩⟩
  ·
    refine FW.condF k63 c67 ?_
    refine FW.skip ?_
    refine FW.seq ?_
    refine FW.region ?_
    refine FL.val rfl rfl rfl (E.move k61) ?_
    refine FL.val rfl rfl rfl (E.move k62) ?_
    obtain ⟨x74, hx75, hp⟩ := bnd hp
    obtain ⟨p68, cs69, pt70, l71, at72, rel73⟩ := p1.at hx75
    obtain ⟨v76, rfl, h77⟩ := eResStep_open rel73
    refine FL.val rfl rfl rfl (E.indexAddr te28 rfl rfl pt70) ?_
    refine FL.val rfl rfl rfl (E.fieldAddr tf89_0 rfl) ?_
    refine FL.val rfl rfl rfl (E.load rfl (run_load1 Tryz.isAgg39 ((at72.mono i27).now S65.sl) rfl)) ?_
    refine FL.val rfl rfl rfl (E.assign (v := v76) rfl) ?_
    refine FL.val rfl rfl rfl (E.assign (v := Value.bool true) rfl) ?_
    refine FL.nil ?_
    refine FW.ret ?_
    obtain rfl := Option.some.inj hp
    exact ⟨.inr rfl, res2 rfl rfl rfl ⟨_, _, rfl, S65.run, (h77.mono i27)⟩⟩

theorem w_slices_IndexFunc_int_int {Ha : GH} {wa : World} (hs : Sl Ha wa) (v0 : Value) (a0 : List Int) (p0 : RSl Ha eI 1 v0 a0) (v1 : Value) (a1 : Int → Option Bool) (p1 : Fn_I_to_B Tryz.prog Ha v1 a1) {r : Int} (hp : (PF.slices_IndexFunc_int_int a0 a1) = some r) :
    Calls Tryz.prog 211 #[v0, v1] wa (Sc Ha wa (Value.int .i64 r)) := by
  unfold PF.slices_IndexFunc_int_int at hp
  have S0 := St.init hs
  refine calls_go (N := 19) (args := [v0, v1]) Tryz.func211 rfl rfl rfl ?_
  refine FW.seq ?_
  refine FW.region ?_
  refine FL.val rfl rfl rfl (E.assign (v := Value.int .i64 0) rfl) ?_
  refine FL.nil ?_
  refine FW.seq ?_
  refine FW.seq ?_
  refine FW.region ?_
  refine FL.val rfl rfl rfl (E.move (v := v0) rfl) ?_
  refine FL.val rfl rfl rfl (E.lenP te39 rfl p0) ?_
  refine FL.val rfl rfl rfl (E.move (v := Value.int .i64 0) rfl) ?_
  refine FL.nil ?_
  obtain ⟨q22, hq, hp⟩ := bndR hp
  refine FW.block ?_
  refine FW.mono (FW.forL (S := Unit) (X := Int) (fun (i22 : Nat) (s22 : Unit) f w => ∃ H : GH, St Ha wa H w [] ∧ Inc Ha H ∧ f 8 = Value.int .i64 ((i22 : Nat) : Int) ∧ f 0 = v0 ∧ f 1 = v1 ∧ f 7 = Value.int .i64 (len a0)) (fun q e f w => match q with | .go s22 => e = Exit.exit 0 ∧ (∃ H : GH, St Ha wa H w [] ∧ Inc Ha H) | .rt x => ((e = Exit.ret) ∧ (fun e f w => (e = Exit.normal ∨ e = Exit.ret) ∧ ∀ a, Fr (δ := []) 19 a f → ∃ v, (results Tryz.f211 a.tmps).run Tryz.prog w = .ok v w ∧ (Sc Ha wa (Value.int .i64 x)) (.returned v) w) e f w)) hq ⟨_, S0, (Inc.rfl _), rfl, rfl, rfl, rfl⟩ ?_ ?_) ?_
  ·
    clear hp hq
    rintro i22 y21 s22 f53 w52 ⟨H49, S50, i51, k54, k55, k56, k57⟩ hx22 o75 hp
    refine FW.seq ?_
    refine FW.region ?_
    refine FL.val rfl rfl rfl (E.lssT k54 k57 (lss_len hx22)) ?_
    refine FL.nil ?_
    refine FW.seq ?_
    refine FW.condT rfl rfl ?_
    refine FW.skip ?_
    refine FW.seq ?_
    refine FW.block ?_
    refine FW.seq ?_
    refine FW.region ?_
    refine FL.val rfl rfl rfl (E.move k54) ?_
    refine FL.val rfl rfl rfl (E.assign (v := Value.int .i64 ((i22 : Nat) : Int)) rfl) ?_
    refine FL.nil ?_
    refine FW.seq ?_
    refine FW.region ?_
    refine FL.val rfl rfl rfl (E.move k56) ?_
    refine FL.val rfl rfl rfl (E.move k55) ?_
    refine FL.val rfl rfl rfl (E.move (v := Value.int .i64 ((i22 : Nat) : Int)) rfl) ?_
    obtain ⟨p58, cs59, pt60, l61, at62, rel63⟩ := p0.at (ix_nat hx22)
    obtain rfl := eI_open rel63
    refine FL.val rfl rfl rfl (E.indexAddr te39 rfl rfl pt60) ?_
    refine FL.val rfl rfl rfl (E.load rfl (run_load0 Tryz.isAgg3 ((at62.mono i51).now S50.sl) rfl)) ?_
    obtain ⟨r64, hr65, hp⟩ := bnd hp
    obtain ⟨fi69, cs70, hv71, he72, hc73⟩ := (p1.mono i51) H49 w52 (Inc.rfl _) S50.sl y21 r64 hr65
    refine FL.call rfl rfl rfl (E.callV he72 (Eq.trans rfl hv71) (appA (A1 rfl) cs70)) hc73 ?_
    rintro e w66 ⟨rfl, r67⟩
    refine ⟨_, rfl, ?_⟩
    have S68 := S50.call r67
    refine FL.nil ?_
    rcases ifB hp with ⟨c74, hp⟩ | ⟨c74, hp⟩
    ·
      refine FW.condT rfl c74 ?_
      refine FW.seq ?_
      refine FW.region ?_
      refine FL.val rfl rfl rfl (E.move (v := Value.int .i64 ((i22 : Nat) : Int)) rfl) ?_
      refine FL.val rfl rfl rfl (E.assign (v := Value.int .i64 ((i22 : Nat) : Int)) rfl) ?_
      refine FL.nil ?_
      refine FW.ret ?_
      obtain rfl := Option.some.inj hp
      exact ⟨nofun, rfl, ⟨.inr rfl, res1 rfl rfl ⟨rfl, S68.back⟩⟩⟩
    ·
      refine FW.condF rfl c74 ?_
      refine FW.skip ?_
      refine FW.region ?_
      refine FL.val rfl rfl rfl (E.add k54 rfl) ?_
      refine FL.val rfl rfl rfl (E.move (v := Value.int .i64 (wr (((i22 : Nat) : Int) + 1))) rfl) ?_
      refine FL.nil ?_
      obtain rfl := Option.some.inj hp
      exact ⟨rfl, ⟨_, S68, i51, (nat_succ rfl (lt_of_get hx22) (p0.mono i51).le), k55, k56, k57⟩⟩
  ·
    clear hp hq
    rintro s22 f85 w84 ⟨H81, S82, i83, k86, k87, k88, k89⟩
    refine FW.seq ?_
    refine FW.region ?_
    refine FL.val rfl rfl rfl (E.lss k86 k89) ?_
    refine FL.nil ?_
    refine FW.seq ?_
    refine FW.condF rfl dlt_len ?_
    refine FW.exit ?_
    exact ⟨nofun, rfl, ⟨_, S82, i83⟩⟩
  ·
    clear hq
    intro e f80 w79 hD
    rcases q22 with s22 | x22
    ·
      obtain ⟨rfl, hD⟩ := hD
      obtain ⟨H76, S77, i78⟩ := hD
      replace hp := el_go hp
      refine FW.seq ?_
      refine FW.region ?_
      refine FL.val rfl rfl rfl (E.assign (v := Value.int .i64 (-1)) rfl) ?_
      refine FL.nil ?_
      refine FW.ret ?_
      obtain rfl := Option.some.inj hp
      exact ⟨.inr rfl, res1 rfl rfl ⟨rfl, S77.back⟩⟩
    ·
      obtain ⟨he, hL⟩ := hD
      replace hp := el_rt hp
      obtain rfl := Option.some.inj hp
      subst he
      exact hL

theorem w_slices_ContainsFunc_int_int {Ha : GH} {wa : World} (hs : Sl Ha wa) (v0 : Value) (a0 : List Int) (p0 : RSl Ha eI 1 v0 a0) (v1 : Value) (a1 : Int → Option Bool) (p1 : Fn_I_to_B Tryz.prog Ha v1 a1) {r : Bool} (hp : (PF.slices_ContainsFunc_int_int a0 a1) = some r) :
    Calls Tryz.prog 215 #[v0, v1] wa (Sc Ha wa (Value.bool r)) := by
  unfold PF.slices_ContainsFunc_int_int at hp
  have S0 := St.init hs
  refine calls_go (N := 9) (args := [v0, v1]) Tryz.func215 rfl rfl rfl ?_
  refine FW.seq ?_
  refine FW.region ?_
  refine FL.val rfl rfl rfl (E.assign (v := Value.bool false) rfl) ?_
  refine FL.nil ?_
  refine FW.seq ?_
  refine FW.region ?_
  refine FL.val rfl rfl rfl (E.move (v := v0) rfl) ?_
  refine FL.val rfl rfl rfl (E.move (v := v1) rfl) ?_
  obtain ⟨r21, hr22, hp⟩ := bnd hp
  refine FL.call rfl rfl rfl (E.call Tryz.call211 (A2 rfl rfl)) (w_slices_IndexFunc_int_int S0.sl v0 a0 p0 v1 a1 p1 hr22) ?_
  rintro e w23 ⟨rfl, r24⟩
  refine ⟨_, rfl, ?_⟩
  have S25 := S0.call r24
  refine FL.val rfl rfl rfl (E.geq rfl rfl) ?_
  refine FL.val rfl rfl rfl (E.assign (v := Value.bool (decide (0 ≤ r21))) rfl) ?_
  refine FL.nil ?_
  refine FW.ret ?_
  obtain rfl := Option.some.inj hp
  exact ⟨.inr rfl, res1 rfl rfl ⟨rfl, S25.back⟩⟩

theorem w_slices_Index_int_int {Ha : GH} {wa : World} (hs : Sl Ha wa) (v0 : Value) (a0 : List Int) (p0 : RSl Ha eI 1 v0 a0) (a1 : Int) {r : Int} (hp : (PF.slices_Index_int_int a0 a1) = some r) :
    Calls Tryz.prog 212 #[v0, Value.int .i64 a1] wa (Sc Ha wa (Value.int .i64 r)) := by
  unfold PF.slices_Index_int_int at hp
  have S0 := St.init hs
  refine calls_go (N := 19) (args := [v0, Value.int .i64 a1]) Tryz.func212 rfl rfl rfl ?_
  refine FW.seq ?_
  refine FW.region ?_
  refine FL.val rfl rfl rfl (E.assign (v := Value.int .i64 0) rfl) ?_
  refine FL.nil ?_
  refine FW.seq ?_
  refine FW.seq ?_
  refine FW.region ?_
  refine FL.val rfl rfl rfl (E.move (v := v0) rfl) ?_
  refine FL.val rfl rfl rfl (E.lenP te39 rfl p0) ?_
  refine FL.val rfl rfl rfl (E.move (v := Value.int .i64 0) rfl) ?_
  refine FL.nil ?_
  obtain ⟨q22, hq, hp⟩ := bndR hp
  refine FW.block ?_
  refine FW.mono (FW.forL (S := Unit) (X := Int) (fun (i22 : Nat) (s22 : Unit) f w => ∃ H : GH, St Ha wa H w [] ∧ Inc Ha H ∧ f 8 = Value.int .i64 ((i22 : Nat) : Int) ∧ f 0 = v0 ∧ f 1 = Value.int .i64 a1 ∧ f 7 = Value.int .i64 (len a0)) (fun q e f w => match q with | .go s22 => e = Exit.exit 0 ∧ (∃ H : GH, St Ha wa H w [] ∧ Inc Ha H) | .rt x => ((e = Exit.ret) ∧ (fun e f w => (e = Exit.normal ∨ e = Exit.ret) ∧ ∀ a, Fr (δ := []) 19 a f → ∃ v, (results Tryz.f212 a.tmps).run Tryz.prog w = .ok v w ∧ (Sc Ha wa (Value.int .i64 x)) (.returned v) w) e f w)) hq ⟨_, S0, (Inc.rfl _), rfl, rfl, rfl, rfl⟩ ?_ ?_) ?_
  ·
    clear hp hq
    rintro i22 y21 s22 f43 w42 ⟨H39, S40, i41, k44, k45, k46, k47⟩ hx22 o55 hp
    refine FW.seq ?_
    refine FW.region ?_
    refine FL.val rfl rfl rfl (E.lssT k44 k47 (lss_len hx22)) ?_
    refine FL.nil ?_
    refine FW.seq ?_
    refine FW.condT rfl rfl ?_
    refine FW.skip ?_
    refine FW.seq ?_
    refine FW.block ?_
    refine FW.seq ?_
    refine FW.region ?_
    refine FL.val rfl rfl rfl (E.move k44) ?_
    refine FL.val rfl rfl rfl (E.assign (v := Value.int .i64 ((i22 : Nat) : Int)) rfl) ?_
    refine FL.nil ?_
    refine FW.seq ?_
    refine FW.region ?_
    refine FL.val rfl rfl rfl (E.move k46) ?_
    refine FL.val rfl rfl rfl (E.move k45) ?_
    refine FL.val rfl rfl rfl (E.move (v := Value.int .i64 ((i22 : Nat) : Int)) rfl) ?_
    obtain ⟨p48, cs49, pt50, l51, at52, rel53⟩ := p0.at (ix_nat hx22)
    obtain rfl := eI_open rel53
    refine FL.val rfl rfl rfl (E.indexAddr te39 rfl rfl pt50) ?_
    refine FL.val rfl rfl rfl (E.load rfl (run_load0 Tryz.isAgg3 ((at52.mono i41).now S40.sl) rfl)) ?_
    refine FL.val rfl rfl rfl (E.eql rfl rfl) ?_
    refine FL.nil ?_
    rcases ifB hp with ⟨c54, hp⟩ | ⟨c54, hp⟩
    ·
      refine FW.condT rfl c54 ?_
      refine FW.seq ?_
      refine FW.region ?_
      refine FL.val rfl rfl rfl (E.move (v := Value.int .i64 ((i22 : Nat) : Int)) rfl) ?_
      refine FL.val rfl rfl rfl (E.assign (v := Value.int .i64 ((i22 : Nat) : Int)) rfl) ?_
      refine FL.nil ?_
      refine FW.ret ?_
      obtain rfl := Option.some.inj hp
      exact ⟨nofun, rfl, ⟨.inr rfl, res1 rfl rfl ⟨rfl, S40.back⟩⟩⟩
    ·
      refine FW.condF rfl c54 ?_
      refine FW.skip ?_
      refine FW.region ?_
      refine FL.val rfl rfl rfl (E.add k44 rfl) ?_
      refine FL.val rfl rfl rfl (E.move (v := Value.int .i64 (wr (((i22 : Nat) : Int) + 1))) rfl) ?_
      refine FL.nil ?_
      obtain rfl := Option.some.inj hp
      exact ⟨rfl, ⟨_, S40, i41, (nat_succ rfl (lt_of_get hx22) (p0.mono i41).le), k45, k46, k47⟩⟩
  ·
    clear hp hq
    rintro s22 f65 w64 ⟨H61, S62, i63, k66, k67, k68, k69⟩
    refine FW.seq ?_
    refine FW.region ?_
    refine FL.val rfl rfl rfl (E.lss k66 k69) ?_
    refine FL.nil ?_
    refine FW.seq ?_
    refine FW.condF rfl dlt_len ?_
    refine FW.exit ?_
    exact ⟨nofun, rfl, ⟨_, S62, i63⟩⟩
  ·
    clear hq
    intro e f60 w59 hD
    rcases q22 with s22 | x22
    ·
      obtain ⟨rfl, hD⟩ := hD
      obtain ⟨H56, S57, i58⟩ := hD
      replace hp := el_go hp
      refine FW.seq ?_
      refine FW.region ?_
      refine FL.val rfl rfl rfl (E.assign (v := Value.int .i64 (-1)) rfl) ?_
      refine FL.nil ?_
      refine FW.ret ?_
      obtain rfl := Option.some.inj hp
      exact ⟨.inr rfl, res1 rfl rfl ⟨rfl, S57.back⟩⟩
    ·
      obtain ⟨he, hL⟩ := hD
      replace hp := el_rt hp
      obtain rfl := Option.some.inj hp
      subst he
      exact hL

theorem w_slices_Contains_int_int {Ha : GH} {wa : World} (hs : Sl Ha wa) (v0 : Value) (a0 : List Int) (p0 : RSl Ha eI 1 v0 a0) (a1 : Int) {r : Bool} (hp : (PF.slices_Contains_int_int a0 a1) = some r) :
    Calls Tryz.prog 162 #[v0, Value.int .i64 a1] wa (Sc Ha wa (Value.bool r)) := by
  unfold PF.slices_Contains_int_int at hp
  have S0 := St.init hs
  refine calls_go (N := 9) (args := [v0, Value.int .i64 a1]) Tryz.func162 rfl rfl rfl ?_
  refine FW.seq ?_
  refine FW.region ?_
  refine FL.val rfl rfl rfl (E.assign (v := Value.bool false) rfl) ?_
  refine FL.nil ?_
  refine FW.seq ?_
  refine FW.region ?_
  refine FL.val rfl rfl rfl (E.move (v := v0) rfl) ?_
  refine FL.val rfl rfl rfl (E.move (v := Value.int .i64 a1) rfl) ?_
  obtain ⟨r21, hr22, hp⟩ := bnd hp
  refine FL.call rfl rfl rfl (E.call Tryz.call212 (A2 rfl rfl)) (w_slices_Index_int_int S0.sl v0 a0 p0 a1 hr22) ?_
  rintro e w23 ⟨rfl, r24⟩
  refine ⟨_, rfl, ?_⟩
  have S25 := S0.call r24
  refine FL.val rfl rfl rfl (E.geq rfl rfl) ?_
  refine FL.val rfl rfl rfl (E.assign (v := Value.bool (decide (0 ≤ r21))) rfl) ?_
  refine FL.nil ?_
  refine FW.ret ?_
  obtain rfl := Option.some.inj hp
  exact ⟨.inr rfl, res1 rfl rfl ⟨rfl, S25.back⟩⟩

theorem w_impl_part_1 {Ha : GH} {wa : World} (hs : Sl Ha wa) (a0 : Int) (q0 : Addr) (b0 : List Int) (u0_0 : Value) (g0_0 : RSl Ha eI 1 u0_0 b0) (c0 : CAt Ha q0 [u0_0]) {r : Bool} (hp : (PF.impl_part_1 a0 b0) = some r) :
    Calls Tryz.prog 263 #[Value.int .i64 a0, Value.pointer (some q0)] wa (Sc Ha wa (Value.bool r)) := by
  unfold PF.impl_part_1 at hp
  have S0 := St.init hs
  refine calls_go (N := 8) (args := [Value.int .i64 a0, Value.pointer (some q0)]) Tryz.func263 rfl rfl rfl ?_
  refine FW.seq ?_
  refine FW.region ?_
  refine FL.val rfl rfl rfl (E.assign (v := Value.bool false) rfl) ?_
  refine FL.nil ?_
  refine FW.seq ?_
  refine FW.region ?_
  refine FL.val rfl rfl rfl (E.load rfl (run_load0 Tryz.isAgg39 (c0.now S0.sl) rfl)) ?_
  refine FL.val rfl rfl rfl (E.move (v := Value.int .i64 a0) rfl) ?_
  obtain ⟨r21, hr22, hp⟩ := bnd hp
  refine FL.call rfl rfl rfl (E.call Tryz.call162 (A2 rfl rfl)) (w_slices_Contains_int_int S0.sl u0_0 b0 g0_0 a0 hr22) ?_
  rintro e w23 ⟨rfl, r24⟩
  refine ⟨_, rfl, ?_⟩
  have S25 := S0.call r24
  refine FL.val rfl rfl rfl (E.not rfl) ?_
  refine FL.val rfl rfl rfl (E.assign (v := Value.bool (!r21)) rfl) ?_
  refine FL.nil ?_
  refine FW.ret ?_
  obtain rfl := Option.some.inj hp
  exact ⟨.inr rfl, res1 rfl rfl ⟨rfl, S25.back⟩⟩

theorem w_impl_part {Ha : GH} {wa : World} (hs : Sl Ha wa) (v0 : Value) (a0 : List Int) (p0 : RSl Ha eI 1 v0 a0) (v1 : Value) (a1 : List Int) (p1 : RSl Ha eI 1 v1 a1) {r : Bool} (hp : (PF.impl_part a0 a1) = some r) :
    Calls Tryz.prog 247 #[v0, v1] wa (Sc Ha wa (Value.bool r)) := by
  unfold PF.impl_part at hp
  have S0 := St.init hs
  refine calls_go (N := 9) (args := [v0, v1]) Tryz.func247 rfl rfl rfl ?_
  refine FW.seq ?_
  refine FW.region ?_
  obtain ⟨b21, w22, run23, S24⟩ := S0.box (P := Tryz.prog) 39 [v1] (v := v1) p1.cells (ones_cons p1.one ones_nil)
  refine FL.val rfl rfl rfl (E.box rfl run23) ?_
  obtain ⟨H25, S26, i27, at28⟩ := S24.sealBox (i := 0) (l' := []) rfl rfl
  refine FL.val rfl rfl rfl (E.assign (v := Value.bool false) rfl) ?_
  refine FL.nil ?_
  refine FW.seq ?_
  refine FW.region ?_
  refine FL.val rfl rfl rfl (E.move (v := v0) rfl) ?_
  refine FL.val rfl rfl rfl (E.makeFunc A0 (A1 rfl)) ?_
  obtain ⟨r29, hr30, hp⟩ := bnd hp
  refine FL.call rfl rfl rfl (E.call Tryz.call215 (A2 rfl rfl)) (w_slices_ContainsFunc_int_int S26.sl v0 a0 (p0.mono i27) (Value.func (.func 263) #[] #[Value.pointer (some ⟨b21, 0, none⟩)]) (fun x0 => PF.impl_part_1 x0 a1) (fun H2 w2 hi2 hs2 x0 r hr => ⟨263, #[Value.pointer (some ⟨b21, 0, none⟩)], rfl, Tryz.call263, w_impl_part_1 hs2 x0 ⟨b21, 0, none⟩ a1 v1 ((p1.mono i27).mono hi2) (at28.mono hi2) hr⟩) hr30) ?_
  rintro e w31 ⟨rfl, r32⟩
  refine ⟨_, rfl, ?_⟩
  have S33 := S26.call r32
  refine FL.val rfl rfl rfl (E.not rfl) ?_
  refine FL.val rfl rfl rfl (E.assign (v := Value.bool (!r29)) rfl) ?_
  refine FL.nil ?_
  refine FW.ret ?_
  obtain rfl := Option.some.inj hp
  exact ⟨.inr rfl, res1 rfl rfl ⟨rfl, S33.back⟩⟩

theorem w_impl_isVar {Ha : GH} {wa : World} (hs : Sl Ha wa) (a0 : Int) (a1 : Int) :
    Calls Tryz.prog 248 #[Value.int .i64 a0, Value.int .i64 a1] wa (Sc Ha wa (Value.bool (PF.impl_isVar a0 a1))) := by
  obtain ⟨r, hp⟩ : ∃ r, (PF.impl_isVar a0 a1) = r := ⟨_, rfl⟩
  rw [hp]
  unfold PF.impl_isVar at hp
  have S0 := St.init hs
  refine calls_go (N := 8) (args := [Value.int .i64 a0, Value.int .i64 a1]) Tryz.func248 rfl rfl rfl ?_
  refine FW.seq ?_
  refine FW.region ?_
  refine FL.val rfl rfl rfl (E.assign (v := Value.bool false) rfl) ?_
  refine FL.nil ?_
  refine FW.seq ?_
  refine FW.region ?_
  refine FL.val rfl rfl rfl (E.move (v := Value.int .i64 a1) rfl) ?_
  refine FL.val rfl rfl rfl (E.move (v := Value.int .i64 a0) rfl) ?_
  refine FL.call rfl rfl rfl (E.call Tryz.call192 (A3 rfl rfl rfl)) (w_impl_within S0.sl a1 1 a0) ?_
  rintro e w21 ⟨rfl, r22⟩
  refine ⟨_, rfl, ?_⟩
  have S23 := S0.call r22
  refine FL.val rfl rfl rfl (E.assign (v := Value.bool (PF.impl_within a1 1 a0)) rfl) ?_
  refine FL.nil ?_
  refine FW.ret ?_
  obtain rfl := hp
  exact ⟨.inr rfl, res1 rfl rfl ⟨rfl, S23.back⟩⟩

@[reducible] def p_slices_Clone_int_int (Ha : GH) (wa : World) (r : (List Int)) : Ending → World → Prop :=
  fun e w' => ∃ H' : GH, ∃ v0 : Value, ∃ n0 : Nat, ∃ c0 : List Value, e = .returned (v0) ∧ St Ha wa H' w' [.row 3 1 v0 n0 c0] ∧ Els (up wa.heap.size H') eI 1 c0 r
theorem w_slices_Clone_int_int {Ha : GH} {wa : World} (hs : Sl Ha wa) (v0 : Value) (a0 : List Int) (p0 : RSl Ha eI 1 v0 a0) {r : (List Int)} (hp : (PF.slices_Clone_int_int a0) = some r) :
    Calls Tryz.prog 160 #[v0] wa (p_slices_Clone_int_int Ha wa r) := by
  unfold PF.slices_Clone_int_int at hp
  have S0 := St.init hs
  refine calls_go (N := 8) (args := [v0]) Tryz.func160 rfl rfl rfl ?_
  refine FW.seq ?_
  refine FW.region ?_
  refine FL.val rfl rfl rfl (E.assign (v := Value.slice none 0 0) rfl) ?_
  refine FL.nil ?_
  refine FW.seq ?_
  refine FW.seq ?_
  refine FW.region ?_
  refine FL.val rfl rfl rfl (E.move (v := v0) rfl) ?_
  obtain ⟨nb21, run22, hn23⟩ := RSl.nilTest te39 p0
  refine FL.val rfl rfl rfl (run22 _ _ _ _ _ _ _ _ _ _ _ _ rfl rfl) ?_
  refine FL.nil ?_
  rcases bcase nb21 with c24 | c24
  ·
    refine FW.condT (b := nb21) rfl c24 ?_
    rw [hn23 c24, app_nil2] at hp
    refine FW.seq ?_
    refine FW.region ?_
    refine FL.val rfl rfl rfl (E.assign (v := Value.slice none 0 0) rfl) ?_
    refine FL.nil ?_
    refine FW.ret ?_
    obtain rfl := Option.some.inj hp
    exact ⟨.inr rfl, res1 rfl rfl ⟨_, _, _, _, rfl, (S0.nil 3 1), Els.nil⟩⟩
  ·
    refine FW.condF (b := nb21) rfl c24 ?_
    refine FW.skip ?_
    refine FW.seq ?_
    refine FW.region ?_
    obtain ⟨v25, w26, run27, S28⟩ := S0.buildSlice (P := Tryz.prog) te39 [] (parts := #[]) (cells := []) rfl szs_nil fc_nil ones_nil (Nat.le_of_ble_eq_true rfl)
    have els29 : Els (up wa.heap.size Ha) eI 1 [] [] := Els.nil
    refine FL.val rfl rfl rfl (E.buildSlice (B0) run27) ?_
    refine FL.val rfl rfl rfl (E.move (v := v0) rfl) ?_
    obtain ⟨xs30, hz31, hp⟩ := bnd hp
    obtain ⟨v32, w35, n33, cs34, run36, S37, els38⟩ := S28.appendP (P := Tryz.prog) (Inc.rfl _) te39 (i := 0) rfl (els29.mono upI) p0 hz31
    have S37 : St Ha wa Ha w35 [.row 3 1 v32 n33 cs34] := S37
    have els38 : Els (up wa.heap.size Ha) eI 1 cs34 xs30 := els38.any (fun _ _ _ _ h => h)
    refine FL.val rfl rfl rfl (E.append rfl rfl run36) ?_
    refine FL.val rfl rfl rfl (E.assign (v := v32) rfl) ?_
    refine FL.nil ?_
    refine FW.ret ?_
    obtain rfl := Option.some.inj hp
    exact ⟨.inr rfl, res1 rfl rfl ⟨_, _, _, _, rfl, S37, els38⟩⟩

@[reducible] def p_slices_DeleteFunc_int_int (H0 : GH) (w0 : World) (Ha : GH) (L : List MO) (r : (List Int)) : Ending → World → Prop :=
  fun e w' => ∃ H' : GH, ∃ v0r : Value, ∃ n0r : Nat, ∃ c0r : List Value, e = .returned (v0r) ∧ (St H0 w0 H' w' (.row 3 1 v0r n0r c0r :: L) ∧ Inc Ha H') ∧ Els (up w0.heap.size H') eI 1 c0r r
theorem w_slices_DeleteFunc_int_int {H0 Ha : GH} {w0 wa : World} {L : List MO} {v0 : Value} {n0 : Nat} {k0 : List Value} (S0 : St H0 w0 Ha wa (.row 3 1 v0 n0 k0 :: L)) (a0 : List Int) (p0 : Els (up w0.heap.size Ha) eI 1 k0 a0) (v1 : Value) (a1 : Int → Option Bool) (p1 : Fn_I_to_B Tryz.prog Ha v1 a1) {r : (List Int)} (hp : (PF.slices_DeleteFunc_int_int a0 a1) = some r) :
    Calls Tryz.prog 159 #[v0, v1] wa (p_slices_DeleteFunc_int_int H0 w0 Ha L r) := by
  unfold PF.slices_DeleteFunc_int_int at hp
  refine calls_go (N := 42) (args := [v0, v1]) Tryz.func159 rfl rfl rfl ?_
  refine FW.seq ?_
  refine FW.region ?_
  refine FL.val rfl rfl rfl (E.assign (v := Value.slice none 0 0) rfl) ?_
  refine FL.nil ?_
  refine FW.seq ?_
  refine FW.region ?_
  refine FL.val rfl rfl rfl (E.move (v := v0) rfl) ?_
  refine FL.val rfl rfl rfl (E.move (v := v1) rfl) ?_
  obtain ⟨H21, S22, i23, h24, nv25⟩ := S0.sealRowU (i := 0) (l' := L) rfl p0 (by decide) rfl
  obtain ⟨r26, hr27, hp⟩ := bnd hp
  refine FL.call rfl rfl rfl (E.call Tryz.call211 (A2 rfl rfl)) (w_slices_IndexFunc_int_int S22.sl v0 a0 (h24.mono upI) v1 a1 (p1.mono i23) hr27) ?_
  rintro e w28 ⟨rfl, r29⟩
  refine ⟨_, rfl, ?_⟩
  have r29 := Run.lend i23 S0.sl r29
  have S30 := S0.call r29
  refine FL.val rfl rfl rfl (E.assign (v := Value.int .i64 r26) rfl) ?_
  refine FL.nil ?_
  refine FW.seq ?_
  refine FW.seq ?_
  refine FW.region ?_
  refine FL.val rfl rfl rfl (E.move (v := Value.int .i64 r26) rfl) ?_
  refine FL.val rfl rfl rfl (E.eql rfl rfl) ?_
  refine FL.nil ?_
  rcases ifB hp with ⟨c31, hp⟩ | ⟨c31, hp⟩
  ·
    refine FW.condT rfl c31 ?_
    refine FW.seq ?_
    refine FW.region ?_
    refine FL.val rfl rfl rfl (E.move (v := v0) rfl) ?_
    refine FL.val rfl rfl rfl (E.assign (v := v0) rfl) ?_
    refine FL.nil ?_
    refine FW.ret ?_
    obtain rfl := Option.some.inj hp
    exact ⟨.inr rfl, res1 rfl rfl ⟨_, _, _, _, rfl, ⟨S30, (Inc.rfl _)⟩, p0⟩⟩
  ·
    refine FW.condF rfl c31 ?_
    refine FW.skip ?_
    refine FW.seq ?_
    refine FW.seq ?_
    refine FW.region ?_
    refine FL.val rfl rfl rfl (E.move (v := Value.int .i64 r26) rfl) ?_
    refine FL.val rfl rfl rfl (E.add rfl rfl) ?_
    refine FL.val rfl rfl rfl (E.assign (v := Value.int .i64 (wr (r26 + 1))) rfl) ?_
    refine FL.nil ?_
    obtain ⟨q32, hq, hp⟩ := bndR hp
    refine FW.block ?_
    refine FW.mono (FW.iter (S := ((List Int) × Int × Int)) (X := Empty) (fun (s32 : ((List Int) × Int × Int)) f w => ∃ H : GH, ∃ cs78 : List Value, St H0 w0 H w (.row 3 1 v0 n0 cs78 :: L) ∧ Inc Ha H ∧ Els (up w0.heap.size H) eI 1 cs78 s32.1 ∧ f 0 = v0 ∧ f 1 = v1 ∧ f 5 = Value.int .i64 s32.2.1 ∧ f 6 = Value.int .i64 s32.2.2) (fun (q : Rs ((List Int) × Int × Int) Empty) e f w => match q with | .go s32 => e = Exit.exit 0 ∧ (∃ H : GH, ∃ cs78 : List Value, St H0 w0 H w (.row 3 1 v0 n0 cs78 :: L) ∧ Inc Ha H ∧ Els (up w0.heap.size H) eI 1 cs78 s32.1 ∧ f 0 = v0 ∧ f 5 = Value.int .i64 s32.2.1) | .rt x => x.elim) hq ⟨_, _, S30, (Inc.rfl _), p0, rfl, rfl, rfl, rfl⟩ ?_) ?_
    ·
      clear hp hq
      rintro s32 f129 w128 ⟨H125, cs78, S126, i127, els79, k130, k131, k132, k133⟩ o170 hp
      refine FW.seq ?_
      refine FW.seq ?_
      refine FW.region ?_
      refine FL.val rfl rfl rfl (E.move k133) ?_
      refine FL.val rfl rfl rfl (E.move k130) ?_
      refine FL.val rfl rfl rfl (E.lenO te39 rfl S126 (i := 0) rfl els79 (by decide)) ?_
      refine FL.val rfl rfl rfl (E.lss rfl rfl) ?_
      refine FL.nil ?_
      rcases ifB hp with ⟨c134, hp⟩ | ⟨c134, hp⟩
      ·
        refine FW.condT rfl c134 ?_
        refine FW.skip ?_
        refine FW.seq ?_
        refine FW.block ?_
        refine FW.seq ?_
        refine FW.region ?_
        refine FL.val rfl rfl rfl (E.move k130) ?_
        refine FL.val rfl rfl rfl (E.move k133) ?_
        obtain ⟨x141, hx142, hp⟩ := bnd hp
        obtain ⟨p135, cs136, pt137, l138, at139, rel140⟩ := S126.row_at (i := 0) rfl els79 (by decide) hx142
        obtain rfl := eI_open rel140
        refine FL.val rfl rfl rfl (E.indexAddr te39 rfl rfl pt137) ?_
        refine FL.val rfl rfl rfl (E.load rfl (run_load0 Tryz.isAgg3 at139 rfl)) ?_
        refine FL.val rfl rfl rfl (E.assign (v := Value.int .i64 x141) rfl) ?_
        refine FL.nil ?_
        refine FW.seq ?_
        refine FW.region ?_
        refine FL.val rfl rfl rfl (E.move k131) ?_
        refine FL.val rfl rfl rfl (E.move (v := Value.int .i64 x141) rfl) ?_
        obtain ⟨r143, hr144, hp⟩ := bnd hp
        obtain ⟨fi148, cs149, hv150, he151, hc152⟩ := (p1.mono i127) H125 w128 (Inc.rfl _) S126.sl x141 r143 hr144
        refine FL.call rfl rfl rfl (E.callV he151 (Eq.trans rfl hv150) (appA (A1 rfl) cs149)) hc152 ?_
        rintro e w145 ⟨rfl, r146⟩
        refine ⟨_, rfl, ?_⟩
        have S147 := S126.call r146
        refine FL.val rfl rfl rfl (E.not rfl) ?_
        refine FL.nil ?_
        rcases ifB hp with ⟨c153, hp⟩ | ⟨c153, hp⟩
        ·
          refine FW.condT rfl c153 ?_
          refine FW.seq ?_
          refine FW.region ?_
          refine FL.val rfl rfl rfl (E.move k130) ?_
          refine FL.val rfl rfl rfl (E.move k132) ?_
          refine FL.val rfl rfl rfl (E.move (v := Value.int .i64 x141) rfl) ?_
          obtain ⟨x160, hx161, hp⟩ := bnd hp
          obtain ⟨p154, cs155, pt156, l157, at158, rel159⟩ := S147.row_at (i := 0) rfl els79 (by decide) hx161
          obtain rfl := eI_open rel159
          refine FL.val rfl rfl rfl (E.indexAddr te39 rfl rfl pt156) ?_
          obtain ⟨xs165, hput166, hp⟩ := bnd hp
          obtain ⟨w162, cs168, run163, S164, els167, ce169⟩ := S147.putEls (P := Tryz.prog) (t := 3) (i := 0) rfl els79 hput166 pt156 Tryz.sizeOf3 (u := Value.int .i64 x141) (c := [Value.int .i64 x141]) rfl rfl (ones_cons rfl ones_nil) rfl
          have S164 : St H0 w0 H125 w162 (.row 3 1 v0 n0 cs168 :: L) := S164
          refine FL.act rfl rfl (E.store rfl rfl run163) ?_
          refine FL.nil ?_
          refine FW.region ?_
          refine FL.val rfl rfl rfl (E.move k132) ?_
          refine FL.val rfl rfl rfl (E.add rfl rfl) ?_
          refine FL.val rfl rfl rfl (E.assign (v := Value.int .i64 (wr (s32.2.1 + 1))) rfl) ?_
          refine FL.nil ?_
          refine FW.region ?_
          refine FL.val rfl rfl rfl (E.move k133) ?_
          refine FL.val rfl rfl rfl (E.add rfl rfl) ?_
          refine FL.val rfl rfl rfl (E.assign (v := Value.int .i64 (wr (s32.2.2 + 1))) rfl) ?_
          refine FL.nil ?_
          obtain rfl := Option.some.inj hp
          exact ⟨rfl, ⟨_, _, S164, i127, els167, k130, k131, rfl, rfl⟩⟩
        ·
          refine FW.condF rfl c153 ?_
          refine FW.skip ?_
          refine FW.region ?_
          refine FL.val rfl rfl rfl (E.move k133) ?_
          refine FL.val rfl rfl rfl (E.add rfl rfl) ?_
          refine FL.val rfl rfl rfl (E.assign (v := Value.int .i64 (wr (s32.2.2 + 1))) rfl) ?_
          refine FL.nil ?_
          obtain rfl := Option.some.inj hp
          exact ⟨rfl, ⟨_, _, S147, i127, els79, k130, k131, k132, rfl⟩⟩
      ·
        refine FW.condF rfl c134 ?_
        refine FW.exit ?_
        obtain rfl := Option.some.inj hp
        exact ⟨nofun, rfl, ⟨_, _, S126, i127, els79, k130, k132⟩⟩
    ·
      clear hq
      intro e f175 w174 hD
      rcases q32 with s32 | x32
      ·
        obtain ⟨rfl, hD⟩ := hD
        obtain ⟨H171, cs78, S172, i173, els79, k176, k177⟩ := hD
        replace hp := el_go hp
        refine FW.seq ?_
        refine FW.region ?_
        refine FL.val rfl rfl rfl (E.move k176) ?_
        refine FL.val rfl rfl rfl (E.move k177) ?_
        obtain ⟨xs178, hc179, hp⟩ := bnd hp
        obtain ⟨v180, run181, h182⟩ := S172.tail te39 (kk := .i64) (i := 0) rfl els79 hc179
        refine FL.val rfl rfl rfl (E.slice te39 rfl (congrArg some rfl) rfl rfl (run181 _)) ?_
        obtain ⟨w183, cs184, run185, S186, els187⟩ := S172.clearTail (P := Tryz.prog) te39 (i := 0) rfl els79 h182 rfl (ones_cons rfl ones_nil)
        have S186 : St H0 w0 H171 w183 (.row 3 1 v0 n0 cs184 :: L) := S186
        refine FL.val0 rfl rfl (E.clear rfl run185) ?_
        refine FL.nil ?_
        refine FW.seq ?_
        refine FW.region ?_
        refine FL.val rfl rfl rfl (E.move k176) ?_
        refine FL.val rfl rfl rfl (E.move k177) ?_
        obtain ⟨xs188, hc189, hp⟩ := bnd hp
        obtain ⟨v190, n191, cs192, run193, S194, els195, nd196⟩ := S186.cutRow te39 (kk := .i64) (i := 0) rfl els187 hc189
        have S194 : St H0 w0 H171 w183 (.row 3 1 v190 n191 cs192 :: L) := S194
        refine FL.val rfl rfl rfl (E.slice te39 rfl rfl (congrArg some rfl) rfl (run193 _)) ?_
        refine FL.val rfl rfl rfl (E.assign (v := v190) rfl) ?_
        refine FL.nil ?_
        refine FW.ret ?_
        obtain rfl := Option.some.inj hp
        exact ⟨.inr rfl, res1 rfl rfl ⟨_, _, _, _, rfl, ⟨S194, i173⟩, els195⟩⟩
      · exact x32.elim

theorem w_impl_withoutVar_1 {Ha : GH} {wa : World} (hs : Sl Ha wa) (a0 : Int) (q0 : Addr) (b0 : Int) (c0 : CAt Ha q0 [Value.int .i64 b0]) :
    Calls Tryz.prog 252 #[Value.int .i64 a0, Value.pointer (some q0)] wa (Sc Ha wa (Value.bool (PF.impl_withoutVar_1 a0 b0))) := by
  obtain ⟨r, hp⟩ : ∃ r, (PF.impl_withoutVar_1 a0 b0) = r := ⟨_, rfl⟩
  rw [hp]
  unfold PF.impl_withoutVar_1 at hp
  have S0 := St.init hs
  refine calls_go (N := 8) (args := [Value.int .i64 a0, Value.pointer (some q0)]) Tryz.func252 rfl rfl rfl ?_
  refine FW.seq ?_
  refine FW.region ?_
  refine FL.val rfl rfl rfl (E.assign (v := Value.bool false) rfl) ?_
  refine FL.nil ?_
  refine FW.seq ?_
  refine FW.draw (fun w' => Run wa.heap.size Ha wa Ha w') (by kernel_rfl) (by kernel_rfl) (run_drew S0.sl) ?_
  refine FD.val rfl rfl rfl (fun w' hw' => (E.move (v := Value.int .i64 a0) rfl)) ?_
  refine FD.call rfl rfl rfl (fun w' hw' => (E.call Tryz.call158 (A1 rfl))) (fun w' hw' => Calls.cls hw' (w_impl_abs (S0.call hw').sl a0)) ?_
  refine FD.val rfl rfl rfl (fun w' hw' => (E.load rfl (run_load0 Tryz.isAgg3 (c0.now (S0.call hw').sl) rfl))) ?_
  refine FD.val rfl rfl rfl (fun w' hw' => (E.eql rfl rfl)) ?_
  refine FD.val rfl rfl rfl (fun w' hw' => (E.assign (v := Value.bool ((PF.impl_abs a0) == b0)) rfl)) ?_
  refine FD.nil ?_
  intro w22 r24
  have S23 := S0.call r24
  refine FW.ret ?_
  obtain rfl := hp
  exact ⟨.inr rfl, res1 rfl rfl ⟨rfl, S23.back⟩⟩

@[reducible] def p_impl_withoutVar (Ha : GH) (wa : World) (r : (List Int)) : Ending → World → Prop :=
  fun e w' => ∃ H' : GH, ∃ v0 : Value, ∃ n0 : Nat, ∃ c0 : List Value, e = .returned (v0) ∧ St Ha wa H' w' [.row 3 1 v0 n0 c0] ∧ Els (up wa.heap.size H') eI 1 c0 r
theorem w_impl_withoutVar {Ha : GH} {wa : World} (hs : Sl Ha wa) (v0 : Value) (a0 : List Int) (p0 : RSl Ha eI 1 v0 a0) (a1 : Int) {r : (List Int)} (hp : (PF.impl_withoutVar a0 a1) = some r) :
    Calls Tryz.prog 222 #[v0, Value.int .i64 a1] wa (p_impl_withoutVar Ha wa r) := by
  unfold PF.impl_withoutVar at hp
  have S0 := St.init hs
  refine calls_go (N := 9) (args := [v0, Value.int .i64 a1]) Tryz.func222 rfl rfl rfl ?_
  refine FW.seq ?_
  refine FW.region ?_
  obtain ⟨b21, w22, run23, S24⟩ := S0.box (P := Tryz.prog) 3 [Value.int .i64 a1] (v := Value.int .i64 a1) rfl (ones_cons rfl ones_nil)
  refine FL.val rfl rfl rfl (E.box rfl run23) ?_
  obtain ⟨H25, S26, i27, at28⟩ := S24.sealBox (i := 0) (l' := []) rfl rfl
  refine FL.val rfl rfl rfl (E.assign (v := Value.slice none 0 0) rfl) ?_
  refine FL.nil ?_
  refine FW.seq ?_
  refine FW.region ?_
  refine FL.val rfl rfl rfl (E.move (v := v0) rfl) ?_
  obtain ⟨r29, hr30, hp⟩ := bnd hp
  refine FL.call rfl rfl rfl (E.call Tryz.call160 (A1 rfl)) (w_slices_Clone_int_int S26.sl v0 a0 (p0.mono i27) hr30) ?_
  rintro e w32 ⟨H31, v35, n36, cs37, rfl, r34, els38⟩
  refine ⟨_, rfl, ?_⟩
  have els38 := els38.mono (up_le S26.size)
  have S33 := S26.join (l' := [.row 3 1 v35 n36 cs37]) r34 rfl
  refine FL.val rfl rfl rfl (E.makeFunc A0 (A1 rfl)) ?_
  obtain ⟨r39, hr40, hp⟩ := bnd hp
  refine FL.call rfl rfl rfl (E.call Tryz.call159 (A2 rfl rfl)) (w_slices_DeleteFunc_int_int (L := []) S33 r29 els38 (Value.func (.func 252) #[] #[Value.pointer (some ⟨b21, 0, none⟩)]) (fun x0 => some (PF.impl_withoutVar_1 x0 a1)) (fun H2 w2 hi2 hs2 x0 r hr => ⟨252, #[Value.pointer (some ⟨b21, 0, none⟩)], rfl, Tryz.call252, by cases hr; exact w_impl_withoutVar_1 hs2 x0 ⟨b21, 0, none⟩ a1 ((at28.mono r34.run.inc).mono hi2)⟩) hr40) ?_
  rintro e w42 ⟨H41, v45, n46, cs47, rfl, ⟨S43, i44⟩, els48⟩
  refine ⟨_, rfl, ?_⟩
  have S43 : St Ha wa H41 w42 [.row 3 1 v45 n46 cs47] := S43
  refine FL.val rfl rfl rfl (E.assign (v := v45) rfl) ?_
  refine FL.nil ?_
  refine FW.ret ?_
  obtain rfl := Option.some.inj hp
  exact ⟨.inr rfl, res1 rfl rfl ⟨_, _, _, _, rfl, S43, els48⟩⟩

@[reducible] def p_slices_Grow_int_int (Ha : GH) (wa : World) (r : List Int) : Ending → World → Prop :=
  fun e w' => ∃ H' : GH, ∃ v0 : Value, ∃ n0 : Nat, ∃ c0 : List Value, e = .returned (v0) ∧ St Ha wa H' w' [.row 3 1 v0 n0 c0] ∧ Els (up wa.heap.size H') eI 1 c0 r
theorem w_slices_Grow_int_int {Ha : GH} {wa : World} (hs : Sl Ha wa) (a1 : Int) {r : List Int} (hp : PF.slices_Grow_int_int a1 = some r) :
    Calls Tryz.prog 267 #[.slice none 0 0, .int .i64 a1] wa (p_slices_Grow_int_int Ha wa r) := by
  unfold PF.slices_Grow_int_int at hp
  split at hp
  · rename_i h
    cases hp
    refine (growNil (En := eI) te39 hs h.1 h.2 (fun w => Any8.slices_Grow_room (P := Tryz.prog) Tryz.grow267 none 0 0 0 w (Nat.le_refl _) (by decide) (by decide) (by decide))
      (fun n w h0 hl => ?_)).mono ?_
    · have h := Any8.slices_Grow_grow (P := Tryz.prog) Tryz.grow267 _ _ Tryz.type3 rfl (by decide) none 0 0 n [] w (Nat.le_refl _) (by omega) ?_ (by unfold lim at hl; omega) (by simp) (fun _ => rfl) (by simp)
      · refine h.mono ?_
        rintro _ _ ⟨rfl, rfl⟩
        refine ⟨by simp; rfl, ?_⟩
        simp
        rfl
      · rw [Nat.zero_add]; refine Nat.le_trans (Nat.mul_le_mul hl (show _ ≤ 4096 by decide)) (by decide)
    · rintro e w' ⟨v, n, c, rfl, h1, h2⟩
      exact ⟨_, _, _, _, rfl, h1, h2 _⟩
  · cases hp

@[reducible] def p_slices_Concat_int_int (Ha : GH) (wa : World) (r : (List Int)) : Ending → World → Prop :=
  fun e w' => ∃ H' : GH, ∃ v0 : Value, ∃ n0 : Nat, ∃ c0 : List Value, e = .returned (v0) ∧ St Ha wa H' w' [.row 3 1 v0 n0 c0] ∧ Els (up wa.heap.size H') eI 1 c0 r
theorem w_slices_Concat_int_int {Ha : GH} {wa : World} (hs : Sl Ha wa) (v0 : Value) (a0 : List (List Int)) (p0 : RSl Ha (eL eI 1) 1 v0 a0) {r : (List Int)} (hp : (PF.slices_Concat_int_int a0) = some r) :
    Calls Tryz.prog 250 #[v0] wa (p_slices_Concat_int_int Ha wa r) := by
  unfold PF.slices_Concat_int_int at hp
  have S0 := St.init hs
  refine calls_go (N := 36) (args := [v0]) Tryz.func250 rfl rfl rfl ?_
  refine FW.seq ?_
  refine FW.region ?_
  refine FL.val rfl rfl rfl (E.assign (v := Value.slice none 0 0) rfl) ?_
  refine FL.nil ?_
  refine FW.seq ?_
  refine FW.region ?_
  refine FL.val rfl rfl rfl (E.assign (v := Value.int .i64 0) rfl) ?_
  refine FL.nil ?_
  refine FW.seq ?_
  refine FW.seq ?_
  refine FW.region ?_
  refine FL.val rfl rfl rfl (E.move (v := v0) rfl) ?_
  refine FL.val rfl rfl rfl (E.lenP te22 rfl p0) ?_
  refine FL.val rfl rfl rfl (E.move (v := Value.int .i64 0) rfl) ?_
  refine FL.nil ?_
  obtain ⟨q22, hq, hp⟩ := bndR hp
  refine FW.block ?_
  refine FW.mono (FW.forL (S := Int) (X := Empty) (fun (i22 : Nat) (s22 : Int) f w => ∃ H : GH, St Ha wa H w [] ∧ Inc Ha H ∧ f 11 = Value.int .i64 ((i22 : Nat) : Int) ∧ f 0 = v0 ∧ f 3 = Value.int .i64 s22 ∧ f 9 = v0 ∧ f 10 = Value.int .i64 (len a0)) (fun (q : Rs Int Empty) e f w => match q with | .go s22 => e = Exit.exit 0 ∧ (∃ H : GH, St Ha wa H w [] ∧ Inc Ha H ∧ f 0 = v0 ∧ f 3 = Value.int .i64 s22) | .rt x => x.elim) hq ⟨_, S0, (Inc.rfl _), rfl, rfl, rfl, rfl, rfl⟩ ?_ ?_) ?_
  ·
    clear hp hq
    rintro i22 y21 s22 f46 w45 ⟨H42, S43, i44, k47, k48, k49, k50, k51⟩ hx22 o61 hp
    refine FW.seq ?_
    refine FW.region ?_
    refine FL.val rfl rfl rfl (E.lssT k47 k51 (lss_len hx22)) ?_
    refine FL.nil ?_
    refine FW.seq ?_
    refine FW.condT rfl rfl ?_
    refine FW.skip ?_
    refine FW.seq ?_
    refine FW.block ?_
    refine FW.seq ?_
    refine FW.region ?_
    obtain ⟨p52, cs53, pt54, l55, at56, rel57⟩ := p0.at (ix_nat hx22)
    obtain ⟨v58, rfl, h59⟩ := eL_open rel57
    refine FL.val rfl rfl rfl (E.indexAddr te22 k50 k47 pt54) ?_
    refine FL.val rfl rfl rfl (E.load rfl (run_load0 Tryz.isAgg39 ((at56.mono i44).now S43.sl) rfl)) ?_
    refine FL.val rfl rfl rfl (E.assign (v := v58) rfl) ?_
    refine FL.nil ?_
    refine FW.seq ?_
    refine FW.region ?_
    refine FL.val rfl rfl rfl (E.move k49) ?_
    refine FL.val rfl rfl rfl (E.move (v := v58) rfl) ?_
    refine FL.val rfl rfl rfl (E.lenP te39 rfl h59) ?_
    refine FL.val rfl rfl rfl (E.add rfl rfl) ?_
    refine FL.val rfl rfl rfl (E.assign (v := Value.int .i64 (wr (s22 + (len y21)))) rfl) ?_
    refine FL.nil ?_
    refine FW.seq ?_
    refine FW.region ?_
    refine FL.val rfl rfl rfl (E.move (v := Value.int .i64 (wr (s22 + (len y21)))) rfl) ?_
    refine FL.val rfl rfl rfl (E.lss rfl rfl) ?_
    refine FL.nil ?_
    rcases ifB hp with ⟨c60, hp⟩ | ⟨c60, hp⟩
    ·
      refine FW.condT rfl c60 ?_
      cases hp
    ·
      refine FW.condF rfl c60 ?_
      refine FW.skip ?_
      refine FW.region ?_
      refine FL.val rfl rfl rfl (E.add k47 rfl) ?_
      refine FL.val rfl rfl rfl (E.move (v := Value.int .i64 (wr (((i22 : Nat) : Int) + 1))) rfl) ?_
      refine FL.nil ?_
      obtain rfl := Option.some.inj hp
      exact ⟨rfl, ⟨_, S43, i44, (nat_succ rfl (lt_of_get hx22) (p0.mono i44).le), k48, rfl, k50, k51⟩⟩
  ·
    clear hp hq
    rintro s22 f159 w158 ⟨H155, S156, i157, k160, k161, k162, k163, k164⟩
    refine FW.seq ?_
    refine FW.region ?_
    refine FL.val rfl rfl rfl (E.lss k160 k164) ?_
    refine FL.nil ?_
    refine FW.seq ?_
    refine FW.condF rfl dlt_len ?_
    refine FW.exit ?_
    exact ⟨nofun, rfl, ⟨_, S156, i157, k161, k162⟩⟩
  ·
    clear hq
    intro e f66 w65 hD
    rcases q22 with s22 | x22
    ·
      obtain ⟨rfl, hD⟩ := hD
      obtain ⟨H62, S63, i64, k67, k68⟩ := hD
      replace hp := el_go hp
      refine FW.seq ?_
      refine FW.region ?_
      refine FL.val rfl rfl rfl (E.move k68) ?_
      obtain ⟨r69, hr70, hp⟩ := bnd hp
      refine FL.call rfl rfl rfl (E.call Tryz.call267 (A2 rfl rfl)) (w_slices_Grow_int_int S63.sl s22 hr70) ?_
      rintro e w72 ⟨H71, v75, n76, cs77, rfl, r74, els78⟩
      refine ⟨_, rfl, ?_⟩
      have els78 := els78.mono (up_le S63.size)
      have S73 := S63.join (l' := [.row 3 1 v75 n76 cs77]) r74 rfl
      refine FL.val rfl rfl rfl (E.assign (v := v75) rfl) ?_
      refine FL.nil ?_
      refine FW.seq ?_
      refine FW.seq ?_
      refine FW.region ?_
      refine FL.val rfl rfl rfl (E.move k67) ?_
      refine FL.val rfl rfl rfl (E.lenP te22 rfl p0) ?_
      refine FL.val rfl rfl rfl (E.move (v := Value.int .i64 0) rfl) ?_
      refine FL.nil ?_
      obtain ⟨q80, hq, hp⟩ := bndR hp
      refine FW.block ?_
      refine FW.mono (FW.forL (S := (List Int)) (X := Empty) (fun (i80 : Nat) (s80 : (List Int)) f w => ∃ H : GH, ∃ v81 : Value, ∃ n82 : Nat, ∃ cs83 : List Value, St Ha wa H w [.row 3 1 v81 n82 cs83] ∧ Inc H71 H ∧ Els (up wa.heap.size H) eI 1 cs83 s80 ∧ f 27 = Value.int .i64 ((i80 : Nat) : Int) ∧ f 6 = v81 ∧ f 25 = v0 ∧ f 26 = Value.int .i64 (len a0)) (fun (q : Rs (List Int) Empty) e f w => match q with | .go s80 => e = Exit.exit 2 ∧ (∃ H : GH, ∃ v81 : Value, ∃ n82 : Nat, ∃ cs83 : List Value, St Ha wa H w [.row 3 1 v81 n82 cs83] ∧ Inc H71 H ∧ Els (up wa.heap.size H) eI 1 cs83 s80 ∧ f 6 = v81) | .rt x => x.elim) hq ⟨_, _, _, _, S73, (Inc.rfl _), els78, rfl, rfl, rfl, rfl⟩ ?_ ?_) ?_
      ·
        clear hp hq
        rintro i80 y79 s80 f116 w115 ⟨H112, v81, n82, cs83, S113, i114, els84, k117, k118, k119, k120⟩ hx80 o139 hp
        refine FW.seq ?_
        refine FW.region ?_
        refine FL.val rfl rfl rfl (E.lssT k117 k120 (lss_len hx80)) ?_
        refine FL.nil ?_
        refine FW.seq ?_
        refine FW.condT rfl rfl ?_
        refine FW.skip ?_
        refine FW.seq ?_
        refine FW.block ?_
        refine FW.seq ?_
        refine FW.region ?_
        obtain ⟨p121, cs122, pt123, l124, at125, rel126⟩ := p0.at (ix_nat hx80)
        obtain ⟨v127, rfl, h128⟩ := eL_open rel126
        refine FL.val rfl rfl rfl (E.indexAddr te22 k119 k117 pt123) ?_
        refine FL.val rfl rfl rfl (E.load rfl (run_load0 Tryz.isAgg39 ((at125.mono ((i64.tr r74.run.inc).tr i114)).now S113.sl) rfl)) ?_
        refine FL.val rfl rfl rfl (E.assign (v := v127) rfl) ?_
        refine FL.nil ?_
        refine FW.region ?_
        refine FL.val rfl rfl rfl (E.move k118) ?_
        refine FL.val rfl rfl rfl (E.move (v := v127) rfl) ?_
        obtain ⟨xs129, hz130, hp⟩ := bnd hp
        obtain ⟨v131, w134, n132, cs133, run135, S136, els137⟩ := S113.appendP (P := Tryz.prog) (Inc.rfl _) te39 (i := 0) rfl (els84.mono upI) (h128.mono ((i64.tr r74.run.inc).tr i114)) hz130
        have S136 : St Ha wa H112 w134 [.row 3 1 v131 n132 cs133] := S136
        have els137 : Els (up wa.heap.size H112) eI 1 cs133 xs129 := els137.any (fun _ _ _ _ h => h)
        refine FL.val rfl rfl rfl (E.append rfl rfl run135) ?_
        refine FL.val rfl rfl rfl (E.assign (v := v131) rfl) ?_
        refine FL.nil ?_
        refine FW.region ?_
        refine FL.val rfl rfl rfl (E.add k117 rfl) ?_
        refine FL.val rfl rfl rfl (E.move (v := Value.int .i64 (wr (((i80 : Nat) : Int) + 1))) rfl) ?_
        refine FL.nil ?_
        obtain rfl := Option.some.inj hp
        exact ⟨rfl, ⟨_, _, _, _, S136, i114, els137, (nat_succ rfl (lt_of_get hx80) (p0.mono ((i64.tr r74.run.inc).tr i114)).le), rfl, k119, k120⟩⟩
      ·
        clear hp hq
        rintro s80 f150 w149 ⟨H146, v81, n82, cs83, S147, i148, els84, k151, k152, k153, k154⟩
        refine FW.seq ?_
        refine FW.region ?_
        refine FL.val rfl rfl rfl (E.lss k151 k154) ?_
        refine FL.nil ?_
        refine FW.seq ?_
        refine FW.condF rfl dlt_len ?_
        refine FW.exit ?_
        exact ⟨nofun, rfl, ⟨_, _, _, _, S147, i148, els84, k152⟩⟩
      ·
        clear hq
        intro e f144 w143 hD
        rcases q80 with s80 | x80
        ·
          obtain ⟨rfl, hD⟩ := hD
          obtain ⟨H140, v81, n82, cs83, S141, i142, els84, k145⟩ := hD
          replace hp := el_go hp
          refine FW.seq ?_
          refine FW.region ?_
          refine FL.val rfl rfl rfl (E.move k145) ?_
          refine FL.val rfl rfl rfl (E.assign (v := v81) rfl) ?_
          refine FL.nil ?_
          refine FW.ret ?_
          obtain rfl := Option.some.inj hp
          exact ⟨.inr rfl, res1 rfl rfl ⟨_, _, _, _, rfl, S141, els84⟩⟩
        · exact x80.elim
    · exact x22.elim

@[reducible] def p_slices_SortFunc_int_int (H0 : GH) (w0 : World) (Ha : GH) (L : List MO) (v0 : Value) (n0 : Nat) (r : (List Int)) : Ending → World → Prop :=
  fun e w' => ∃ H' : GH, ∃ c0k : List Value, e = .returned (Value.tuple #[]) ∧ (St H0 w0 H' w' (.row 3 1 v0 n0 c0k :: L) ∧ Inc Ha H') ∧ Els (up w0.heap.size H') eI 1 c0k r
theorem w_slices_SortFunc_int_int {H0 Ha : GH} {w0 wa : World} {L : List MO} {v0 : Value} {n0 : Nat} {k0 : List Value} (S0 : St H0 w0 Ha wa (.row 3 1 v0 n0 k0 :: L)) (a0 : List Int) (p0 : Els (up w0.heap.size Ha) eI 1 k0 a0) (v1 : Value) (a1 : Int → Int → Option Int) (p1 : Fn_I_I_to_I Tryz.prog Ha v1 a1) {r : (List Int)} (hp : (PF.slices_SortFunc_int_int a0 a1) = some r) :
    Calls Tryz.prog 264 #[v0, v1] wa (p_slices_SortFunc_int_int H0 w0 Ha L v0 n0 r) := by
  refine (St.sortF (l := .row 3 1 v0 n0 k0 :: L) (i := 0) upI S0 rfl p0 (fun H2 w2 hi hs2 c x hc d y hd r hr => by cases eI_open hc; cases eI_open hd; exact p1 H2 w2 hi hs2 x y r hr) (fun p cap fv w => AnyF.slices_SortFunc_none (P := Tryz.prog) (ρ := Tryz.sort264_ren) { Tryz.sort264 with } p cap fv w) (fun α _ enc h1 cf hO g cb blk off cap d w eg hc hH hb hs => Any.slices_SortFunc Tryz.sort264 enc h1 cf hO g cb blk off cap d w eg hc hH hb hs) hp).mono ?_
  rintro e w' ⟨rfl, c', h1, h2⟩
  exact ⟨_, _, rfl, ⟨h1, Inc.rfl _⟩, h2⟩

theorem w_cmp_isNaN_int {Ha : GH} {wa : World} (hs : Sl Ha wa) (a0 : Int) :
    Calls Tryz.prog 281 #[Value.int .i64 a0] wa (Sc Ha wa (Value.bool (PF.cmp_isNaN_int a0))) := by
  obtain ⟨r, hp⟩ : ∃ r, (PF.cmp_isNaN_int a0) = r := ⟨_, rfl⟩
  rw [hp]
  unfold PF.cmp_isNaN_int at hp
  have S0 := St.init hs
  refine calls_go (N := 6) (args := [Value.int .i64 a0]) Tryz.func281 rfl rfl rfl ?_
  refine FW.seq ?_
  refine FW.region ?_
  refine FL.val rfl rfl rfl (E.assign (v := Value.bool false) rfl) ?_
  refine FL.nil ?_
  refine FW.seq ?_
  refine FW.region ?_
  refine FL.val rfl rfl rfl (E.move (v := Value.int .i64 a0) rfl) ?_
  refine FL.val rfl rfl rfl (E.move (v := Value.int .i64 a0) rfl) ?_
  refine FL.val rfl rfl rfl (E.neq rfl rfl) ?_
  refine FL.val rfl rfl rfl (E.assign (v := Value.bool (!(a0 == a0))) rfl) ?_
  refine FL.nil ?_
  refine FW.ret ?_
  obtain rfl := hp
  exact ⟨.inr rfl, res1 rfl rfl ⟨rfl, S0.back⟩⟩

theorem w_cmp_Compare_int {Ha : GH} {wa : World} (hs : Sl Ha wa) (a0 : Int) (a1 : Int) :
    Calls Tryz.prog 261 #[Value.int .i64 a0, Value.int .i64 a1] wa (Sc Ha wa (Value.int .i64 (PF.cmp_Compare_int a0 a1))) := by
  obtain ⟨r, hp⟩ : ∃ r, (PF.cmp_Compare_int a0 a1) = r := ⟨_, rfl⟩
  rw [hp]
  unfold PF.cmp_Compare_int at hp
  have S0 := St.init hs
  refine calls_go (N := 20) (args := [Value.int .i64 a0, Value.int .i64 a1]) Tryz.func261 rfl rfl rfl ?_
  refine FW.seq ?_
  refine FW.region ?_
  refine FL.val rfl rfl rfl (E.assign (v := Value.int .i64 0) rfl) ?_
  refine FL.nil ?_
  refine FW.seq ?_
  refine FW.region ?_
  refine FL.val rfl rfl rfl (E.move (v := Value.int .i64 a0) rfl) ?_
  refine FL.call rfl rfl rfl (E.call Tryz.call281 (A1 rfl)) (w_cmp_isNaN_int S0.sl a0) ?_
  rintro e w21 ⟨rfl, r22⟩
  refine ⟨_, rfl, ?_⟩
  have S23 := S0.call r22
  refine FL.val rfl rfl rfl (E.assign (v := Value.bool (PF.cmp_isNaN_int a0)) rfl) ?_
  refine FL.nil ?_
  refine FW.seq ?_
  refine FW.region ?_
  refine FL.val rfl rfl rfl (E.move (v := Value.int .i64 a1) rfl) ?_
  refine FL.call rfl rfl rfl (E.call Tryz.call281 (A1 rfl)) (w_cmp_isNaN_int S23.sl a1) ?_
  rintro e w24 ⟨rfl, r25⟩
  refine ⟨_, rfl, ?_⟩
  have S26 := S23.call r25
  refine FL.val rfl rfl rfl (E.assign (v := Value.bool (PF.cmp_isNaN_int a1)) rfl) ?_
  refine FL.nil ?_
  refine FW.seq ?_
  refine FW.seq ?_
  refine FW.region ?_
  refine FL.val rfl rfl rfl (E.move (v := Value.bool (PF.cmp_isNaN_int a0)) rfl) ?_
  refine FL.nil ?_
  rcases ifT hp with ⟨c27, hp⟩ | ⟨c27, hp⟩
  ·
    refine FW.condT rfl c27 ?_
    refine FW.seq ?_
    refine FW.seq ?_
    refine FW.region ?_
    refine FL.val rfl rfl rfl (E.move (v := Value.bool (PF.cmp_isNaN_int a1)) rfl) ?_
    refine FL.nil ?_
    rcases ifT hp with ⟨c28, hp⟩ | ⟨c28, hp⟩
    ·
      refine FW.condT rfl c28 ?_
      refine FW.seq ?_
      refine FW.region ?_
      refine FL.val rfl rfl rfl (E.assign (v := Value.int .i64 0) rfl) ?_
      refine FL.nil ?_
      refine FW.ret ?_
      obtain rfl := hp
      exact ⟨.inr rfl, res1 rfl rfl ⟨rfl, S26.back⟩⟩
    ·
      refine FW.condF rfl c28 ?_
      refine FW.skip ?_
      refine FW.seq ?_
      refine FW.region ?_
      refine FL.val rfl rfl rfl (E.assign (v := Value.int .i64 (-1)) rfl) ?_
      refine FL.nil ?_
      refine FW.ret ?_
      obtain rfl := hp
      exact ⟨.inr rfl, res1 rfl rfl ⟨rfl, S26.back⟩⟩
  ·
    refine FW.condF rfl c27 ?_
    refine FW.skip ?_
    refine FW.seq ?_
    refine FW.seq ?_
    refine FW.region ?_
    refine FL.val rfl rfl rfl (E.move (v := Value.bool (PF.cmp_isNaN_int a1)) rfl) ?_
    refine FL.nil ?_
    rcases ifT hp with ⟨c29, hp⟩ | ⟨c29, hp⟩
    ·
      refine FW.condT rfl c29 ?_
      refine FW.seq ?_
      refine FW.region ?_
      refine FL.val rfl rfl rfl (E.assign (v := Value.int .i64 1) rfl) ?_
      refine FL.nil ?_
      refine FW.ret ?_
      obtain rfl := hp
      exact ⟨.inr rfl, res1 rfl rfl ⟨rfl, S26.back⟩⟩
    ·
      refine FW.condF rfl c29 ?_
      refine FW.skip ?_
      refine FW.seq ?_
      refine FW.seq ?_
      refine FW.region ?_
      refine FL.val rfl rfl rfl (E.move (v := Value.int .i64 a0) rfl) ?_
      refine FL.val rfl rfl rfl (E.move (v := Value.int .i64 a1) rfl) ?_
      refine FL.val rfl rfl rfl (E.lss rfl rfl) ?_
      refine FL.nil ?_
      rcases ifT hp with ⟨c30, hp⟩ | ⟨c30, hp⟩
      ·
        refine FW.condT rfl c30 ?_
        refine FW.seq ?_
        refine FW.region ?_
        refine FL.val rfl rfl rfl (E.assign (v := Value.int .i64 (-1)) rfl) ?_
        refine FL.nil ?_
        refine FW.ret ?_
        obtain rfl := hp
        exact ⟨.inr rfl, res1 rfl rfl ⟨rfl, S26.back⟩⟩
      ·
        refine FW.condF rfl c30 ?_
        refine FW.skip ?_
        refine FW.seq ?_
        refine FW.seq ?_
        refine FW.region ?_
        refine FL.val rfl rfl rfl (E.move (v := Value.int .i64 a0) rfl) ?_
        refine FL.val rfl rfl rfl (E.move (v := Value.int .i64 a1) rfl) ?_
        refine FL.val rfl rfl rfl (E.gtr rfl rfl) ?_
        refine FL.nil ?_
        rcases ifT hp with ⟨c31, hp⟩ | ⟨c31, hp⟩
        ·
          refine FW.condT rfl c31 ?_
          refine FW.seq ?_
          refine FW.region ?_
          refine FL.val rfl rfl rfl (E.assign (v := Value.int .i64 1) rfl) ?_
          refine FL.nil ?_
          refine FW.ret ?_
          obtain rfl := hp
          exact ⟨.inr rfl, res1 rfl rfl ⟨rfl, S26.back⟩⟩
        ·
          refine FW.condF rfl c31 ?_
          refine FW.skip ?_
          refine FW.seq ?_
          refine FW.region ?_
          refine FL.val rfl rfl rfl (E.assign (v := Value.int .i64 0) rfl) ?_
          refine FL.nil ?_
          refine FW.ret ?_
          obtain rfl := hp
          exact ⟨.inr rfl, res1 rfl rfl ⟨rfl, S26.back⟩⟩

theorem w_cmp_Or_int {Ha : GH} {wa : World} (hs : Sl Ha wa) (v0 : Value) (a0 : List Int) (p0 : RSl Ha eI 1 v0 a0) {r : Int} (hp : (PF.cmp_Or_int a0) = some r) :
    Calls Tryz.prog 260 #[v0] wa (Sc Ha wa (Value.int .i64 r)) := by
  unfold PF.cmp_Or_int at hp
  have S0 := St.init hs
  refine calls_go (N := 18) (args := [v0]) Tryz.func260 rfl rfl rfl ?_
  refine FW.seq ?_
  refine FW.region ?_
  refine FL.val rfl rfl rfl (E.assign (v := Value.int .i64 0) rfl) ?_
  refine FL.nil ?_
  refine FW.seq ?_
  refine FW.region ?_
  refine FL.val rfl rfl rfl (E.assign (v := Value.int .i64 0) rfl) ?_
  refine FL.nil ?_
  refine FW.seq ?_
  refine FW.seq ?_
  refine FW.region ?_
  refine FL.val rfl rfl rfl (E.move (v := v0) rfl) ?_
  refine FL.val rfl rfl rfl (E.lenP te39 rfl p0) ?_
  refine FL.val rfl rfl rfl (E.move (v := Value.int .i64 0) rfl) ?_
  refine FL.nil ?_
  obtain ⟨q22, hq, hp⟩ := bndR hp
  refine FW.block ?_
  refine FW.mono (FW.forL (S := Unit) (X := Int) (fun (i22 : Nat) (s22 : Unit) f w => ∃ H : GH, St Ha wa H w [] ∧ Inc Ha H ∧ f 8 = Value.int .i64 ((i22 : Nat) : Int) ∧ f 3 = Value.int .i64 0 ∧ f 6 = v0 ∧ f 7 = Value.int .i64 (len a0)) (fun q e f w => match q with | .go s22 => e = Exit.exit 0 ∧ (∃ H : GH, St Ha wa H w [] ∧ Inc Ha H ∧ f 3 = Value.int .i64 0) | .rt x => ((e = Exit.ret) ∧ (fun e f w => (e = Exit.normal ∨ e = Exit.ret) ∧ ∀ a, Fr (δ := []) 18 a f → ∃ v, (results Tryz.f260 a.tmps).run Tryz.prog w = .ok v w ∧ (Sc Ha wa (Value.int .i64 x)) (.returned v) w) e f w)) hq ⟨_, S0, (Inc.rfl _), rfl, rfl, rfl, rfl⟩ ?_ ?_) ?_
  ·
    clear hp hq
    rintro i22 y21 s22 f43 w42 ⟨H39, S40, i41, k44, k45, k46, k47⟩ hx22 o55 hp
    refine FW.seq ?_
    refine FW.region ?_
    refine FL.val rfl rfl rfl (E.lssT k44 k47 (lss_len hx22)) ?_
    refine FL.nil ?_
    refine FW.seq ?_
    refine FW.condT rfl rfl ?_
    refine FW.skip ?_
    refine FW.seq ?_
    refine FW.block ?_
    refine FW.seq ?_
    refine FW.region ?_
    obtain ⟨p48, cs49, pt50, l51, at52, rel53⟩ := p0.at (ix_nat hx22)
    obtain rfl := eI_open rel53
    refine FL.val rfl rfl rfl (E.indexAddr te39 k46 k44 pt50) ?_
    refine FL.val rfl rfl rfl (E.load rfl (run_load0 Tryz.isAgg3 ((at52.mono i41).now S40.sl) rfl)) ?_
    refine FL.val rfl rfl rfl (E.assign (v := Value.int .i64 y21) rfl) ?_
    refine FL.nil ?_
    refine FW.seq ?_
    refine FW.region ?_
    refine FL.val rfl rfl rfl (E.move (v := Value.int .i64 y21) rfl) ?_
    refine FL.val rfl rfl rfl (E.move k45) ?_
    refine FL.val rfl rfl rfl (E.neq rfl rfl) ?_
    refine FL.nil ?_
    rcases ifB hp with ⟨c54, hp⟩ | ⟨c54, hp⟩
    ·
      refine FW.condT rfl c54 ?_
      refine FW.seq ?_
      refine FW.region ?_
      refine FL.val rfl rfl rfl (E.move (v := Value.int .i64 y21) rfl) ?_
      refine FL.val rfl rfl rfl (E.assign (v := Value.int .i64 y21) rfl) ?_
      refine FL.nil ?_
      refine FW.ret ?_
      obtain rfl := Option.some.inj hp
      exact ⟨nofun, rfl, ⟨.inr rfl, res1 rfl rfl ⟨rfl, S40.back⟩⟩⟩
    ·
      refine FW.condF rfl c54 ?_
      refine FW.skip ?_
      refine FW.region ?_
      refine FL.val rfl rfl rfl (E.add k44 rfl) ?_
      refine FL.val rfl rfl rfl (E.move (v := Value.int .i64 (wr (((i22 : Nat) : Int) + 1))) rfl) ?_
      refine FL.nil ?_
      obtain rfl := Option.some.inj hp
      exact ⟨rfl, ⟨_, S40, i41, (nat_succ rfl (lt_of_get hx22) (p0.mono i41).le), k45, k46, k47⟩⟩
  ·
    clear hp hq
    rintro s22 f66 w65 ⟨H62, S63, i64, k67, k68, k69, k70⟩
    refine FW.seq ?_
    refine FW.region ?_
    refine FL.val rfl rfl rfl (E.lss k67 k70) ?_
    refine FL.nil ?_
    refine FW.seq ?_
    refine FW.condF rfl dlt_len ?_
    refine FW.exit ?_
    exact ⟨nofun, rfl, ⟨_, S63, i64, k68⟩⟩
  ·
    clear hq
    intro e f60 w59 hD
    rcases q22 with s22 | x22
    ·
      obtain ⟨rfl, hD⟩ := hD
      obtain ⟨H56, S57, i58, k61⟩ := hD
      replace hp := el_go hp
      refine FW.seq ?_
      refine FW.region ?_
      refine FL.val rfl rfl rfl (E.move k61) ?_
      refine FL.val rfl rfl rfl (E.assign (v := Value.int .i64 0) rfl) ?_
      refine FL.nil ?_
      refine FW.ret ?_
      obtain rfl := Option.some.inj hp
      exact ⟨.inr rfl, res1 rfl rfl ⟨rfl, S57.back⟩⟩
    ·
      obtain ⟨he, hL⟩ := hD
      replace hp := el_rt hp
      obtain rfl := Option.some.inj hp
      subst he
      exact hL

theorem w_impl_compareLiterals {Ha : GH} {wa : World} (hs : Sl Ha wa) (a0 : Int) (a1 : Int) {r : Int} (hp : (PF.impl_compareLiterals a0 a1) = some r) :
    Calls Tryz.prog 265 #[Value.int .i64 a0, Value.int .i64 a1] wa (Sc Ha wa (Value.int .i64 r)) := by
  unfold PF.impl_compareLiterals at hp
  have S0 := St.init hs
  refine calls_go (N := 15) (args := [Value.int .i64 a0, Value.int .i64 a1]) Tryz.func265 rfl rfl rfl ?_
  refine FW.seq ?_
  refine FW.region ?_
  refine FL.val rfl rfl rfl (E.assign (v := Value.int .i64 0) rfl) ?_
  refine FL.nil ?_
  refine FW.seq ?_
  refine FW.region ?_
  refine FL.val rfl rfl rfl (E.move (v := Value.int .i64 a0) rfl) ?_
  refine FL.call rfl rfl rfl (E.call Tryz.call158 (A1 rfl)) (w_impl_abs S0.sl a0) ?_
  rintro e w21 ⟨rfl, r22⟩
  refine ⟨_, rfl, ?_⟩
  have S23 := S0.call r22
  refine FL.val rfl rfl rfl (E.move (v := Value.int .i64 a1) rfl) ?_
  refine FL.call rfl rfl rfl (E.call Tryz.call158 (A1 rfl)) (w_impl_abs S23.sl a1) ?_
  rintro e w24 ⟨rfl, r25⟩
  refine ⟨_, rfl, ?_⟩
  have S26 := S23.call r25
  refine FL.call rfl rfl rfl (E.call Tryz.call261 (A2 rfl rfl)) (w_cmp_Compare_int S26.sl (PF.impl_abs a0) (PF.impl_abs a1)) ?_
  rintro e w27 ⟨rfl, r28⟩
  refine ⟨_, rfl, ?_⟩
  have S29 := S26.call r28
  refine FL.val rfl rfl rfl (E.move (v := Value.int .i64 a1) rfl) ?_
  refine FL.val rfl rfl rfl (E.move (v := Value.int .i64 a0) rfl) ?_
  refine FL.call rfl rfl rfl (E.call Tryz.call261 (A2 rfl rfl)) (w_cmp_Compare_int S29.sl a1 a0) ?_
  rintro e w30 ⟨rfl, r31⟩
  refine ⟨_, rfl, ?_⟩
  have S32 := S29.call r31
  obtain ⟨v33, w34, run35, S36⟩ := S32.buildSlice (P := Tryz.prog) te39 [Value.int .i64 (PF.cmp_Compare_int (PF.impl_abs a0) (PF.impl_abs a1)), Value.int .i64 (PF.cmp_Compare_int a1 a0)] (parts := #[(0, Value.int .i64 (PF.cmp_Compare_int (PF.impl_abs a0) (PF.impl_abs a1))), (1, Value.int .i64 (PF.cmp_Compare_int a1 a0))]) (cells := [Value.int .i64 (PF.cmp_Compare_int (PF.impl_abs a0) (PF.impl_abs a1)), Value.int .i64 (PF.cmp_Compare_int a1 a0)]) rfl (szs_cons rfl (szs_cons rfl szs_nil)) (fc_cons rfl (fc_cons rfl fc_nil)) (ones_cons rfl (ones_cons rfl ones_nil)) (Nat.le_of_ble_eq_true rfl)
  have els37 : Els (up wa.heap.size Ha) eI 1 [Value.int .i64 (PF.cmp_Compare_int (PF.impl_abs a0) (PF.impl_abs a1)), Value.int .i64 (PF.cmp_Compare_int a1 a0)] [(PF.cmp_Compare_int (PF.impl_abs a0) (PF.impl_abs a1)), (PF.cmp_Compare_int a1 a0)] := (Els.snoc (H := (up wa.heap.size Ha)) (E := eI) (k := 1) (c := [Value.int .i64 (PF.cmp_Compare_int a1 a0)]) (x := (PF.cmp_Compare_int a1 a0)) (Els.snoc (H := (up wa.heap.size Ha)) (E := eI) (k := 1) (c := [Value.int .i64 (PF.cmp_Compare_int (PF.impl_abs a0) (PF.impl_abs a1))]) (x := (PF.cmp_Compare_int (PF.impl_abs a0) (PF.impl_abs a1))) Els.nil rfl rfl) rfl rfl)
  refine FL.val rfl rfl rfl (E.buildSlice (B2 rfl rfl) run35) ?_
  obtain ⟨H38, S39, i40, h41, nv42⟩ := S36.sealRowU (i := 0) (l' := []) rfl els37 (by decide) rfl
  obtain ⟨r43, hr44, hp⟩ := bnd hp
  refine FL.call rfl rfl rfl (E.call Tryz.call260 (A1 rfl)) (w_cmp_Or_int S39.sl v33 [(PF.cmp_Compare_int (PF.impl_abs a0) (PF.impl_abs a1)), (PF.cmp_Compare_int a1 a0)] (h41.mono upI) hr44) ?_
  rintro e w45 ⟨rfl, r46⟩
  refine ⟨_, rfl, ?_⟩
  have r46 := Run.lend i40 S36.sl r46
  have S47 := S36.call r46
  refine FL.val rfl rfl rfl (E.assign (v := Value.int .i64 r43) rfl) ?_
  refine FL.nil ?_
  refine FW.ret ?_
  obtain rfl := Option.some.inj hp
  exact ⟨.inr rfl, res1 rfl rfl ⟨rfl, S47.back⟩⟩

@[reducible] def p_slices_Compact_int_int (H0 : GH) (w0 : World) (Ha : GH) (L : List MO) (r : (List Int)) : Ending → World → Prop :=
  fun e w' => ∃ H' : GH, ∃ v0r : Value, ∃ n0r : Nat, ∃ c0r : List Value, e = .returned (v0r) ∧ (St H0 w0 H' w' (.row 3 1 v0r n0r c0r :: L) ∧ Inc Ha H') ∧ Els (up w0.heap.size H') eI 1 c0r r
theorem w_slices_Compact_int_int {H0 Ha : GH} {w0 wa : World} {L : List MO} {v0 : Value} {n0 : Nat} {k0 : List Value} (S0 : St H0 w0 Ha wa (.row 3 1 v0 n0 k0 :: L)) (a0 : List Int) (p0 : Els (up w0.heap.size Ha) eI 1 k0 a0) {r : (List Int)} (hp : (PF.slices_Compact_int_int a0) = some r) :
    Calls Tryz.prog 266 #[v0] wa (p_slices_Compact_int_int H0 w0 Ha L r) := by
  cases hp
  refine (St.compactF (l := .row 3 1 v0 n0 k0 :: L) (i := 0) S0 rfl p0 (enc := Value.int .i64) (fun _ => rfl) (fun _ _ _ h => by cases eI_open h; rfl) (fun _ _ => rfl) 0 (fun w => compact_none Tryz.comp266 w) (fun blk off cap d w hH hs hc => AnyE.slices_Compact Tryz.comp266 (Value.int .i64) (fun _ => rfl) (EqlAt.intD _ _ _) (NeqAt.intD _ _ _) 0 (fun w => Tryz.zeroValue3 w) blk off cap d w hH hs hc)).mono ?_
  rintro e w' ⟨v', n', c', rfl, h1, h2⟩
  exact ⟨_, _, _, _, rfl, ⟨h1, Inc.rfl _⟩, h2⟩

@[reducible] def p_impl_clause (Ha : GH) (wa : World) (r : ((List Int) × Bool)) : Ending → World → Prop :=
  fun e w' => ∃ H' : GH, ∃ v0 : Value, ∃ n0 : Nat, ∃ c0 : List Value, e = .returned (Value.tuple #[v0, Value.bool r.2]) ∧ St Ha wa H' w' [.row 3 1 v0 n0 c0] ∧ Els (up wa.heap.size H') eI 1 c0 r.1
theorem w_impl_clause {Ha : GH} {wa : World} (hs : Sl Ha wa) (v0 : Value) (a0 : List Int) (p0 : RSl Ha eI 1 v0 a0) {r : ((List Int) × Bool)} (hp : (PF.impl_clause a0) = some r) :
    Calls Tryz.prog 249 #[v0] wa (p_impl_clause Ha wa r) := by
  unfold PF.impl_clause at hp
  have S0 := St.init hs
  refine calls_go (N := 30) (args := [v0]) Tryz.func249 rfl rfl rfl ?_
  refine FW.seq ?_
  refine FW.region ?_
  refine FL.val rfl rfl rfl (E.assign (v := Value.slice none 0 0) rfl) ?_
  refine FL.val rfl rfl rfl (E.assign (v := Value.bool false) rfl) ?_
  refine FL.nil ?_
  refine FW.seq ?_
  refine FW.region ?_
  refine FL.val rfl rfl rfl (E.move (v := v0) rfl) ?_
  obtain ⟨r21, hr22, hp⟩ := bnd hp
  refine FL.call rfl rfl rfl (E.call Tryz.call160 (A1 rfl)) (w_slices_Clone_int_int S0.sl v0 a0 p0 hr22) ?_
  rintro e w24 ⟨H23, v27, n28, cs29, rfl, r26, els30⟩
  refine ⟨_, rfl, ?_⟩
  have els30 := els30.mono (up_le S0.size)
  have S25 := S0.join (l' := [.row 3 1 v27 n28 cs29]) r26 rfl
  refine FL.val rfl rfl rfl (E.assign (v := v27) rfl) ?_
  refine FL.nil ?_
  refine FW.seq ?_
  refine FW.region ?_
  refine FL.val rfl rfl rfl (E.move (v := v27) rfl) ?_
  obtain ⟨r31, hr32, hp⟩ := bnd hp
  refine FL.call rfl rfl rfl (E.call Tryz.call264 (A2 rfl rfl)) (w_slices_SortFunc_int_int (L := []) S25 r21 els30 (Value.func (.func 265) #[] #[]) (fun x0 x1 => PF.impl_compareLiterals x0 x1) (fun H2 w2 hi2 hs2 x0 x1 r hr => ⟨265, #[], rfl, Tryz.call265, w_impl_compareLiterals hs2 x0 x1  hr⟩) hr32) ?_
  rintro e w34 ⟨H33, cs37, rfl, ⟨S35, i36⟩, els38⟩
  refine ⟨_, rfl, ?_⟩
  have S35 : St Ha wa H33 w34 [.row 3 1 v27 n28 cs37] := S35
  refine FL.nil ?_
  refine FW.seq ?_
  refine FW.region ?_
  refine FL.val rfl rfl rfl (E.move (v := v27) rfl) ?_
  obtain ⟨r39, hr40, hp⟩ := bnd hp
  refine FL.call rfl rfl rfl (E.call Tryz.call266 (A1 rfl)) (w_slices_Compact_int_int (L := []) S35 r31 els38 hr40) ?_
  rintro e w42 ⟨H41, v45, n46, cs47, rfl, ⟨S43, i44⟩, els48⟩
  refine ⟨_, rfl, ?_⟩
  have S43 : St Ha wa H41 w42 [.row 3 1 v45 n46 cs47] := S43
  refine FL.val rfl rfl rfl (E.assign (v := v45) rfl) ?_
  refine FL.nil ?_
  refine FW.seq ?_
  refine FW.seq ?_
  refine FW.region ?_
  refine FL.val rfl rfl rfl (E.assign (v := Value.int .i64 1) rfl) ?_
  refine FL.nil ?_
  obtain ⟨q49, hq, hp⟩ := bndR hp
  refine FW.block ?_
  refine FW.mono (FW.iter (S := Int) (X := ((List Int) × Bool)) (fun (s49 : Int) f w => ∃ H : GH, St Ha wa H w [.row 3 1 v45 n46 cs47] ∧ Inc H41 H ∧ f 4 = v45 ∧ f 5 = Value.int .i64 s49) (fun q e f w => match q with | .go s49 => e = Exit.exit 0 ∧ (∃ H : GH, St Ha wa H w [.row 3 1 v45 n46 cs47] ∧ Inc H41 H ∧ f 4 = v45) | .rt x => ((e = Exit.ret) ∧ (fun e f w => (e = Exit.normal ∨ e = Exit.ret) ∧ ∀ a, Fr (δ := []) 30 a f → ∃ v, (results Tryz.f249 a.tmps).run Tryz.prog w = .ok v w ∧ (p_impl_clause Ha wa x) (.returned v) w) e f w)) hq ⟨_, S43, (Inc.rfl _), rfl, rfl⟩ ?_) ?_
  ·
    clear hp hq
    rintro s49 f83 w82 ⟨H79, S80, i81, k84, k85⟩ o108 hp
    refine FW.seq ?_
    refine FW.seq ?_
    refine FW.region ?_
    refine FL.val rfl rfl rfl (E.move k85) ?_
    refine FL.val rfl rfl rfl (E.move k84) ?_
    refine FL.val rfl rfl rfl (E.lenO te39 rfl S80 (i := 0) rfl els48 (by decide)) ?_
    refine FL.val rfl rfl rfl (E.lss rfl rfl) ?_
    refine FL.nil ?_
    rcases ifB hp with ⟨c86, hp⟩ | ⟨c86, hp⟩
    ·
      refine FW.condT rfl c86 ?_
      refine FW.skip ?_
      refine FW.seq ?_
      refine FW.block ?_
      refine FW.seq ?_
      refine FW.draw (fun w' => Run w82.heap.size H79 w82 H79 w') (by kernel_rfl) (by kernel_rfl) (run_drew S80.sl) ?_
      refine FD.val rfl rfl rfl (fun w' hw' => (E.move k84)) ?_
      refine FD.val rfl rfl rfl (fun w' hw' => (E.move k85)) ?_
      obtain ⟨x94, hx95, hp⟩ := bnd hp
      obtain ⟨p88, cs89, pt90, l91, at92, rel93⟩ := S80.row_at (i := 0) rfl els48 (by decide) hx95
      obtain rfl := eI_open rel93
      refine FD.val rfl rfl rfl (fun w' hw' => (E.indexAddr te39 rfl rfl pt90)) ?_
      refine FD.val rfl rfl rfl (fun w' hw' => (E.load rfl (run_load0 Tryz.isAgg3 (at92.cls hw') rfl))) ?_
      refine FD.val rfl rfl rfl (fun w' hw' => (E.move k84)) ?_
      refine FD.val rfl rfl rfl (fun w' hw' => (E.move k85)) ?_
      refine FD.val rfl rfl rfl (fun w' hw' => (E.sub rfl rfl)) ?_
      obtain ⟨x102, hx103, hp⟩ := bnd hp
      obtain ⟨p96, cs97, pt98, l99, at100, rel101⟩ := S80.row_at (i := 0) rfl els48 (by decide) hx103
      obtain rfl := eI_open rel101
      refine FD.val rfl rfl rfl (fun w' hw' => (E.indexAddr te39 rfl rfl pt98)) ?_
      refine FD.val rfl rfl rfl (fun w' hw' => (E.load rfl (run_load0 Tryz.isAgg3 (at100.cls hw') rfl))) ?_
      refine FD.val rfl rfl rfl (fun w' hw' => (E.neg rfl)) ?_
      refine FD.val rfl rfl rfl (fun w' hw' => (E.eql rfl rfl)) ?_
      refine FD.nil ?_
      intro w104 r106
      have S105 := S80.call r106
      rcases ifB hp with ⟨c107, hp⟩ | ⟨c107, hp⟩
      ·
        refine FW.condT rfl c107 ?_
        refine FW.seq ?_
        refine FW.region ?_
        refine FL.val rfl rfl rfl (E.assign (v := Value.slice none 0 0) rfl) ?_
        refine FL.val rfl rfl rfl (E.assign (v := Value.bool false) rfl) ?_
        refine FL.nil ?_
        refine FW.ret ?_
        obtain rfl := Option.some.inj hp
        exact ⟨nofun, rfl, ⟨.inr rfl, res2 rfl rfl rfl ⟨_, _, _, _, rfl, ((S105.nil 3 1).sel [0] (by decide) rfl), Els.nil⟩⟩⟩
      ·
        refine FW.condF rfl c107 ?_
        refine FW.skip ?_
        refine FW.region ?_
        refine FL.val rfl rfl rfl (E.move k85) ?_
        refine FL.val rfl rfl rfl (E.add rfl rfl) ?_
        refine FL.val rfl rfl rfl (E.assign (v := Value.int .i64 (wr (s49 + 1))) rfl) ?_
        refine FL.nil ?_
        obtain rfl := Option.some.inj hp
        exact ⟨rfl, ⟨_, S105, i81, k84, rfl⟩⟩
    ·
      refine FW.condF rfl c86 ?_
      refine FW.exit ?_
      obtain rfl := Option.some.inj hp
      exact ⟨nofun, rfl, ⟨_, S80, i81, k84⟩⟩
  ·
    clear hq
    intro e f113 w112 hD
    rcases q49 with s49 | x49
    ·
      obtain ⟨rfl, hD⟩ := hD
      obtain ⟨H109, S110, i111, k114⟩ := hD
      replace hp := el_go hp
      refine FW.seq ?_
      refine FW.region ?_
      refine FL.val rfl rfl rfl (E.move k114) ?_
      refine FL.val rfl rfl rfl (E.assign (v := v45) rfl) ?_
      refine FL.val rfl rfl rfl (E.assign (v := Value.bool true) rfl) ?_
      refine FL.nil ?_
      refine FW.ret ?_
      obtain rfl := Option.some.inj hp
      exact ⟨.inr rfl, res2 rfl rfl rfl ⟨_, _, _, _, rfl, S110, (els48.mono (up_mono i111))⟩⟩
    ·
      obtain ⟨he, hL⟩ := hD
      replace hp := el_rt hp
      obtain rfl := Option.some.inj hp
      subst he
      exact hL

@[reducible] def p_impl_resolve (Ha : GH) (wa : World) (r : ((List Int) × Bool)) : Ending → World → Prop :=
  fun e w' => ∃ H' : GH, ∃ v0 : Value, ∃ n0 : Nat, ∃ c0 : List Value, e = .returned (Value.tuple #[v0, Value.bool r.2]) ∧ St Ha wa H' w' [.row 3 1 v0 n0 c0] ∧ Els (up wa.heap.size H') eI 1 c0 r.1
theorem w_impl_resolve {Ha : GH} {wa : World} (hs : Sl Ha wa) (v0 : Value) (a0 : List Int) (p0 : RSl Ha eI 1 v0 a0) (v1 : Value) (a1 : List Int) (p1 : RSl Ha eI 1 v1 a1) (a2 : Int) {r : ((List Int) × Bool)} (hp : (PF.impl_resolve a0 a1 a2) = some r) :
    Calls Tryz.prog 203 #[v0, v1, Value.int .i64 a2] wa (p_impl_resolve Ha wa r) := by
  unfold PF.impl_resolve at hp
  have S0 := St.init hs
  refine calls_go (N := 30) (args := [v0, v1, Value.int .i64 a2]) Tryz.func203 rfl rfl rfl ?_
  refine FW.seq ?_
  refine FW.region ?_
  refine FL.val rfl rfl rfl (E.assign (v := Value.slice none 0 0) rfl) ?_
  refine FL.val rfl rfl rfl (E.assign (v := Value.bool false) rfl) ?_
  refine FL.nil ?_
  refine FW.seq ?_
  refine FW.seq ?_
  refine FW.region ?_
  refine FL.val rfl rfl rfl (E.move (v := v0) rfl) ?_
  refine FL.val rfl rfl rfl (E.move (v := Value.int .i64 a2) rfl) ?_
  obtain ⟨r21, hr22, hp⟩ := bnd hp
  refine FL.call rfl rfl rfl (E.call Tryz.call162 (A2 rfl rfl)) (w_slices_Contains_int_int S0.sl v0 a0 p0 a2 hr22) ?_
  rintro e w23 ⟨rfl, r24⟩
  refine ⟨_, rfl, ?_⟩
  have S25 := S0.call r24
  refine FL.val rfl rfl rfl (E.not rfl) ?_
  refine FL.val rfl rfl rfl (E.move (v := Value.bool (!r21)) rfl) ?_
  obtain ⟨t31, hqt31, hp⟩ := bnd hp
  refine FL.cut 6 (fun f w => ∃ H : GH, St Ha wa H w [] ∧ Inc Ha H ∧ f 0 = v0 ∧ f 1 = v1 ∧ f 2 = Value.int .i64 a2 ∧ f 18 = Value.bool t31) ?_ ?_
  ·
    clear hp; have hp := hqt31; clear hqt31
    rcases ifB hp with ⟨c37, hp⟩ | ⟨c37, hp⟩
    ·
      refine FL.skip (wF_no rfl rfl rfl c37) rfl ?_
      refine FL.skip (wF_no rfl rfl rfl c37) rfl ?_
      refine FL.skip (wF_no rfl rfl rfl c37) rfl ?_
      refine FL.skip (wF_no rfl rfl rfl c37) rfl ?_
      refine FL.skip (wF_no rfl rfl rfl c37) rfl ?_
      obtain rfl := Option.some.inj hp
      refine FL.val rfl rfl rfl (E.pickT rfl c37 rfl) ?_
      exact FL.nil ⟨rfl, _, S25, (Inc.rfl _), rfl, rfl, rfl, rfl⟩
    ·
      refine FL.val (wF_yes rfl rfl rfl c37) rfl rfl (E.move (v := v1) rfl) ?_
      refine FL.val (wF_yes rfl rfl rfl c37) rfl rfl (E.move (v := Value.int .i64 a2) rfl) ?_
      refine FL.val (wF_yes rfl rfl rfl c37) rfl rfl (E.neg rfl) ?_
      obtain ⟨r38, hr39, hp⟩ := bnd hp
      refine FL.call (wF_yes rfl rfl rfl c37) rfl rfl (E.call Tryz.call162 (A2 rfl rfl)) (w_slices_Contains_int_int S25.sl v1 a1 p1 (wr (-a2)) hr39) ?_
      rintro e w40 ⟨rfl, r41⟩
      refine ⟨_, rfl, ?_⟩
      have S42 := S25.call r41
      refine FL.val (wF_yes rfl rfl rfl c37) rfl rfl (E.not rfl) ?_
      obtain rfl := Option.some.inj hp
      refine FL.val rfl rfl rfl (E.pickF rfl c37 rfl) ?_
      exact FL.nil ⟨rfl, _, S42, (Inc.rfl _), rfl, rfl, rfl, rfl⟩
  rintro f36 w35 ⟨H32, S33, i34, k43, k44, k45, k46⟩
  refine FL.nil ?_
  rcases ifB hp with ⟨c47, hp⟩ | ⟨c47, hp⟩
  ·
    refine FW.condT k46 c47 ?_
    refine FW.seq ?_
    refine FW.region ?_
    refine FL.val rfl rfl rfl (E.assign (v := Value.slice none 0 0) rfl) ?_
    refine FL.val rfl rfl rfl (E.assign (v := Value.bool false) rfl) ?_
    refine FL.nil ?_
    refine FW.ret ?_
    obtain rfl := Option.some.inj hp
    exact ⟨.inr rfl, res2 rfl rfl rfl ⟨_, _, _, _, rfl, (S33.nil 3 1), Els.nil⟩⟩
  ·
    refine FW.condF k46 c47 ?_
    refine FW.skip ?_
    refine FW.seq ?_
    refine FW.region ?_
    refine FL.val rfl rfl rfl (E.move k43) ?_
    refine FL.val rfl rfl rfl (E.move k45) ?_
    obtain ⟨r48, hr49, hp⟩ := bnd hp
    refine FL.call rfl rfl rfl (E.call Tryz.call222 (A2 rfl rfl)) (w_impl_withoutVar S33.sl v0 a0 (p0.mono i34) a2 hr49) ?_
    rintro e w51 ⟨H50, v54, n55, cs56, rfl, r53, els57⟩
    refine ⟨_, rfl, ?_⟩
    have els57 := els57.mono (up_le S33.size)
    have S52 := S33.join (l' := [.row 3 1 v54 n55 cs56]) r53 rfl
    refine FL.val rfl rfl rfl (E.move k44) ?_
    refine FL.val rfl rfl rfl (E.move k45) ?_
    obtain ⟨r58, hr59, hp⟩ := bnd hp
    refine FL.call rfl rfl rfl (E.call Tryz.call222 (A2 rfl rfl)) (w_impl_withoutVar S52.sl v1 a1 (p1.mono (i34.tr r53.run.inc)) a2 hr59) ?_
    rintro e w61 ⟨H60, v64, n65, cs66, rfl, r63, els67⟩
    refine ⟨_, rfl, ?_⟩
    have els67 := els67.mono (up_le S52.size)
    have S62 := S52.join (l' := [.row 3 1 v64 n65 cs66, .row 3 1 v54 n55 cs56]) r63 rfl
    obtain ⟨H68, S69, i70, h71, nv72⟩ := S62.sealRowU (i := 1) (l' := [.row 3 1 v64 n65 cs66]) rfl (els57.mono (up_mono r63.run.inc)) (by decide) rfl
    obtain ⟨H73, S74, i75, h76, nv77⟩ := S69.sealRowU (i := 0) (l' := []) rfl (els67.mono (up_mono i70)) (by decide) rfl
    obtain ⟨v78, w79, run80, S81⟩ := S74.buildSlice (P := Tryz.prog) te22 [v54, v64] (parts := #[(0, v54), (1, v64)]) (cells := [v54, v64]) rfl (szs_cons (cells_size h71.cells) (szs_cons (cells_size h76.cells) szs_nil)) (fc_cons h71.cells (fc_cons h76.cells fc_nil)) (ones_cons h71.one (ones_cons h76.one ones_nil)) (Nat.le_of_ble_eq_true rfl)
    have els82 : Els (up wa.heap.size H73) (eL eI 1) 1 [v54, v64] [r48, r58] := (Els.snoc (H := (up wa.heap.size H73)) (E := (eL eI 1)) (k := 1) (c := [v64]) (x := r58) (Els.snoc (H := (up wa.heap.size H73)) (E := (eL eI 1)) (k := 1) (c := [v54]) (x := r48) Els.nil rfl ⟨_, rfl, (h71.mono (up_mono i75))⟩) rfl ⟨_, rfl, h76⟩)
    refine FL.val rfl rfl rfl (E.buildSlice (B2 rfl rfl) run80) ?_
    obtain ⟨H83, S84, i85, h86, nv87⟩ := S81.sealRowU (i := 0) (l' := []) rfl els82 (by decide) rfl
    obtain ⟨r88, hr89, hp⟩ := bnd hp
    refine FL.call rfl rfl rfl (E.call Tryz.call250 (A1 rfl)) (w_slices_Concat_int_int S84.sl v78 [r48, r58] (h86.mono upI) hr89) ?_
    rintro e w91 ⟨H90, v96, n97, cs98, rfl, r93, els99⟩
    refine ⟨_, rfl, ?_⟩
    obtain ⟨H94, r93, hU95⟩ := St.lendX i85 S81.sl r93
    have els99 := els99.mono (hU95.tr (up_le S81.size))
    have S92 := S81.join (l' := [.row 3 1 v96 n97 cs98, .row 39 1 v78 2 [v54, v64]]) r93 rfl
    obtain ⟨H100, S101, i102, h103, nv104⟩ := S92.sealRowU (i := 0) (l' := [.row 39 1 v78 2 [v54, v64]]) rfl els99 (by decide) rfl
    obtain ⟨r105, hr106, hp⟩ := bnd hp
    refine FL.call rfl rfl rfl (E.call Tryz.call249 (A1 rfl)) (w_impl_clause S101.sl v96 r88 (h103.mono upI) hr106) ?_
    rintro e w108 ⟨H107, v113, n114, cs115, rfl, r110, els116⟩
    refine ⟨_, rfl, ?_⟩
    obtain ⟨H111, r110, hU112⟩ := St.lendX i102 S92.sl r110
    have els116 := els116.mono (hU112.tr (up_le S92.size))
    have S109 := S92.join (l' := [.row 3 1 v113 n114 cs115, .row 3 1 v96 n97 cs98, .row 39 1 v78 2 [v54, v64]]) r110 rfl
    refine FL.val rfl rfl rfl (E.extract (i := 0) rfl rfl) ?_
    refine FL.val rfl rfl rfl (E.extract (i := 1) rfl rfl) ?_
    refine FL.val rfl rfl rfl (E.assign (v := v113) rfl) ?_
    refine FL.val rfl rfl rfl (E.assign (v := Value.bool r105.2) rfl) ?_
    refine FL.nil ?_
    refine FW.ret ?_
    obtain rfl := Option.some.inj hp
    exact ⟨.inr rfl, res2 rfl rfl rfl ⟨_, _, _, _, rfl, (S109.sel [0] (by decide) rfl), els116⟩⟩

set_option maxHeartbeats 4000000 in
theorem w_impl_correct {Ha : GH} {wa : World} (hs : Sl Ha wa) (a0 : Cnf) (v0_1 : Value) (p0_1 : RSl Ha (eL eI 1) 1 v0_1 a0.clauses) (v1 : Value) (a1 : List ResStep) (p1 : RSl Ha eResStep 4 v1 a1) (a2 : Int) {r : Bool} (hp : (PF.impl_correct a0 a1 a2) = some r) :
    Calls Tryz.prog 201 #[Value.agg #[Value.int .i64 a0.vars, v0_1], v1, Value.int .i64 a2] wa (Sc Ha wa (Value.bool r)) := by
  unfold PF.impl_correct at hp
  have S0 := St.init hs
  refine calls_go (N := 105) (args := [Value.agg #[Value.int .i64 a0.vars, v0_1], v1, Value.int .i64 a2]) Tryz.func201 rfl rfl rfl ?_
  refine FW.seq ?_
  refine FW.region ?_
  obtain ⟨b21, w22, run23, S24⟩ := S0.box (P := Tryz.prog) 31 [Value.int .i64 a0.vars, v0_1] (v := Value.agg #[Value.int .i64 a0.vars, v0_1]) rfl (ones_cons rfl (ones_cons p0_1.one ones_nil))
  refine FL.val rfl rfl rfl (E.box rfl run23) ?_
  obtain ⟨H25, S26, i27, at28⟩ := S24.sealBox (i := 0) (l' := []) rfl rfl
  refine FL.val rfl rfl rfl (E.assign (v := Value.bool false) rfl) ?_
  refine FL.nil ?_
  refine FW.seq ?_
  refine FW.region ?_
  refine FL.val rfl rfl rfl (E.move (v := v1) rfl) ?_
  refine FL.val rfl rfl rfl (E.move (v := Value.int .i64 a2) rfl) ?_
  obtain ⟨x35, hx36, hp⟩ := bnd hp
  obtain ⟨p29, cs30, pt31, l32, at33, rel34⟩ := p1.at hx36
  obtain ⟨v37, rfl, h38⟩ := eResStep_open rel34
  refine FL.val rfl rfl rfl (E.indexAddr te28 rfl rfl pt31) ?_
  refine FL.val rfl rfl rfl (E.load rfl (run_loadA Tryz.isAgg89 Tryz.sizeOf89 ((at33.mono i27).now S26.sl) rfl)) ?_
  obtain ⟨b39, w40, run41, S42⟩ := S26.alloc (P := Tryz.prog) 89 [Value.slice none 0 0, Value.int .i64 0, Value.int .i64 0, Value.int .i64 0] Tryz.zeroValue89 rfl (ones_cons rfl (ones_cons rfl (ones_cons rfl (ones_cons rfl ones_nil))))
  refine FL.val rfl rfl rfl (E.alloc run41) ?_
  obtain ⟨w43, run44, S45⟩ := S42.store0 (P := Tryz.prog) (t := 89) (i := 0) (cs' := [v37, Value.int .i64 x35.left, Value.int .i64 x35.right, Value.int .i64 x35.pivot]) (l' := [.box b39 89 [v37, Value.int .i64 x35.left, Value.int .i64 x35.right, Value.int .i64 x35.pivot]]) (v := Value.agg #[v37, Value.int .i64 x35.left, Value.int .i64 x35.right, Value.int .i64 x35.pivot]) (c := [v37, Value.int .i64 x35.left, Value.int .i64 x35.right, Value.int .i64 x35.pivot]) rfl Tryz.sizeOf89 rfl rfl (ones_cons h38.one (ones_cons rfl (ones_cons rfl (ones_cons rfl ones_nil)))) (Nat.le_of_ble_eq_true rfl) rfl rfl
  refine FL.act rfl rfl (E.store rfl rfl run44) ?_
  obtain ⟨H46, S47, i48, at49⟩ := S45.sealBox (i := 0) (l' := []) rfl rfl
  refine FL.nil ?_
  refine FW.seq ?_
  refine FW.seq ?_
  refine FW.region ?_
  refine FL.val rfl rfl rfl (E.fieldAddr tf31_0 rfl) ?_
  refine FL.val rfl rfl rfl (E.load rfl (run_load1 Tryz.isAgg3 ((at28.mono i48).now S47.sl) rfl)) ?_
  refine FL.val rfl rfl rfl (E.fieldAddr tf89_0 rfl) ?_
  refine FL.val rfl rfl rfl (E.load rfl (run_load1 Tryz.isAgg39 (at49.now S47.sl) rfl)) ?_
  obtain ⟨r50, hr51, hp⟩ := bnd hp
  refine FL.call rfl rfl rfl (E.call Tryz.call142 (A2 rfl rfl)) (w_impl_IsClause S47.sl a0.vars v37 x35.clause (h38.mono (i27.tr i48)) hr51) ?_
  rintro e w52 ⟨rfl, r53⟩
  refine ⟨_, rfl, ?_⟩
  have S54 := S47.call r53
  refine FL.val rfl rfl rfl (E.not rfl) ?_
  refine FL.nil ?_
  rcases ifB hp with ⟨c55, hp⟩ | ⟨c55, hp⟩
  ·
    refine FW.condT rfl c55 ?_
    refine FW.seq ?_
    refine FW.region ?_
    refine FL.val rfl rfl rfl (E.assign (v := Value.bool false) rfl) ?_
    refine FL.nil ?_
    refine FW.ret ?_
    obtain rfl := Option.some.inj hp
    exact ⟨.inr rfl, res1 rfl rfl ⟨rfl, S54.back⟩⟩
  ·
    refine FW.condF rfl c55 ?_
    refine FW.skip ?_
    refine FW.seq ?_
    refine FW.seq ?_
    refine FW.region ?_
    refine FL.val rfl rfl rfl (E.fieldAddr tf89_1 rfl) ?_
    refine FL.val rfl rfl rfl (E.load rfl (run_load1 Tryz.isAgg3 (at49.now S54.sl) rfl)) ?_
    refine FL.val rfl rfl rfl (E.eql rfl rfl) ?_
    refine FL.nil ?_
    rcases ifB hp with ⟨c56, hp⟩ | ⟨c56, hp⟩
    ·
      refine FW.condT rfl c56 ?_
      refine FW.seq ?_
      refine FW.draw (fun w' => Run w52.heap.size H46 w52 H46 w') (by kernel_rfl) (by kernel_rfl) (run_drew S54.sl) ?_
      refine FD.val rfl rfl rfl (fun w' hw' => (E.fieldAddr tf89_3 rfl)) ?_
      refine FD.val rfl rfl rfl (fun w' hw' => (E.load rfl (run_load1 Tryz.isAgg3 (at49.now (S54.call hw').sl) rfl))) ?_
      refine FD.val rfl rfl rfl (fun w' hw' => (E.eql rfl rfl)) ?_
      refine FD.val rfl rfl rfl (fun w' hw' => (E.move (v := Value.bool (x35.pivot == 0)) rfl)) ?_
      refine FD.cut 8 (fun f => f 3 = Value.pointer (some ⟨b21, 0, none⟩) ∧ f 7 = Value.pointer (some ⟨b39, 0, none⟩) ∧ f 36 = Value.bool (bif (x35.pivot == 0) then (PF.impl_within x35.right 0 (wr ((len a0.clauses) - 1))) else false)) ?_ ?_
      ·
        rcases bcase (x35.pivot == 0) with c64 | c64
        ·
          refine FD.val (wF_yes rfl rfl rfl c64) rfl rfl (fun w' hw' => (E.fieldAddr tf89_2 rfl)) ?_
          refine FD.val (wF_yes rfl rfl rfl c64) rfl rfl (fun w' hw' => (E.load rfl (run_load1 Tryz.isAgg3 (at49.now (S54.call hw').sl) rfl))) ?_
          refine FD.val (wF_yes rfl rfl rfl c64) rfl rfl (fun w' hw' => (E.fieldAddr tf31_1 rfl)) ?_
          refine FD.val (wF_yes rfl rfl rfl c64) rfl rfl (fun w' hw' => (E.load rfl (run_load1 Tryz.isAgg22 ((at28.mono i48).now (S54.call hw').sl) rfl))) ?_
          refine FD.val (wF_yes rfl rfl rfl c64) rfl rfl (fun w' hw' => (E.lenP te22 rfl p0_1)) ?_
          refine FD.val (wF_yes rfl rfl rfl c64) rfl rfl (fun w' hw' => (E.sub rfl rfl)) ?_
          refine FD.call (wF_yes rfl rfl rfl c64) rfl rfl (fun w' hw' => (E.call Tryz.call192 (A3 rfl rfl rfl))) (fun w' hw' => Calls.cls hw' (w_impl_within (S54.call hw').sl x35.right 0 (wr ((len a0.clauses) - 1)))) ?_
          refine FD.val rfl rfl rfl (fun w' hw' => (E.pickT rfl c64 rfl)) ?_
          exact FD.nil ⟨rfl, rfl, (congrArg Value.bool (bifT c64).symm)⟩
        ·
          refine FD.skip (wF_no rfl rfl rfl c64) rfl ?_
          refine FD.skip (wF_no rfl rfl rfl c64) rfl ?_
          refine FD.skip (wF_no rfl rfl rfl c64) rfl ?_
          refine FD.skip (wF_no rfl rfl rfl c64) rfl ?_
          refine FD.skip (wF_no rfl rfl rfl c64) rfl ?_
          refine FD.skip (wF_no rfl rfl rfl c64) rfl ?_
          refine FD.skip (wF_no rfl rfl rfl c64) rfl ?_
          refine FD.val rfl rfl rfl (fun w' hw' => (E.pickF rfl c64 rfl)) ?_
          exact FD.nil ⟨rfl, rfl, (congrArg Value.bool (bifF c64).symm)⟩
      rintro f63 ⟨k65, k66, k67⟩
      refine FD.val rfl rfl rfl (fun w' hw' => (E.move k67)) ?_
      obtain ⟨t80, hqt80, hp⟩ := bnd hp
      refine FD.cut 10 (fun f => f 47 = Value.bool t80) ?_ ?_
      ·
        clear hp; have hp := hqt80; clear hqt80
        rcases ifB hp with ⟨c86, hp⟩ | ⟨c86, hp⟩
        ·
          refine FD.val (wF_yes rfl rfl rfl c86) rfl rfl (fun w' hw' => (E.fieldAddr tf31_1 k65)) ?_
          refine FD.val (wF_yes rfl rfl rfl c86) rfl rfl (fun w' hw' => (E.load rfl (run_load1 Tryz.isAgg22 ((at28.mono i48).now (S54.call hw').sl) rfl))) ?_
          refine FD.val (wF_yes rfl rfl rfl c86) rfl rfl (fun w' hw' => (E.fieldAddr tf89_2 k66)) ?_
          refine FD.val (wF_yes rfl rfl rfl c86) rfl rfl (fun w' hw' => (E.load rfl (run_load1 Tryz.isAgg3 (at49.now (S54.call hw').sl) rfl))) ?_
          obtain ⟨x93, hx94, hp⟩ := bnd hp
          obtain ⟨p87, cs88, pt89, l90, at91, rel92⟩ := p0_1.at hx94
          obtain ⟨v95, rfl, h96⟩ := eL_open rel92
          refine FD.val (wF_yes rfl rfl rfl c86) rfl rfl (fun w' hw' => (E.indexAddr te22 rfl rfl pt89)) ?_
          refine FD.val (wF_yes rfl rfl rfl c86) rfl rfl (fun w' hw' => (E.load rfl (run_load0 Tryz.isAgg39 ((at91.mono (i27.tr i48)).now (S54.call hw').sl) rfl))) ?_
          refine FD.val (wF_yes rfl rfl rfl c86) rfl rfl (fun w' hw' => (E.fieldAddr tf89_0 k66)) ?_
          refine FD.val (wF_yes rfl rfl rfl c86) rfl rfl (fun w' hw' => (E.load rfl (run_load1 Tryz.isAgg39 (at49.now (S54.call hw').sl) rfl))) ?_
          obtain ⟨r97, hr98, hp⟩ := bnd hp
          refine FD.call (wF_yes rfl rfl rfl c86) rfl rfl (fun w' hw' => (E.call Tryz.call245 (A2 rfl rfl))) (fun w' hw' => Calls.cls hw' (w_slices_Equal_int_int (S54.call hw').sl v95 x93 (h96.mono (i27.tr i48)) v37 x35.clause (h38.mono (i27.tr i48)) hr98)) ?_
          obtain rfl := Option.some.inj hp
          refine FD.val rfl rfl rfl (fun w' hw' => (E.pickT rfl c86 rfl)) ?_
          exact FD.nil rfl
        ·
          refine FD.skip (wF_no rfl rfl rfl c86) rfl ?_
          refine FD.skip (wF_no rfl rfl rfl c86) rfl ?_
          refine FD.skip (wF_no rfl rfl rfl c86) rfl ?_
          refine FD.skip (wF_no rfl rfl rfl c86) rfl ?_
          refine FD.skip (wF_no rfl rfl rfl c86) rfl ?_
          refine FD.skip (wF_no rfl rfl rfl c86) rfl ?_
          refine FD.skip (wF_no rfl rfl rfl c86) rfl ?_
          refine FD.skip (wF_no rfl rfl rfl c86) rfl ?_
          refine FD.skip (wF_no rfl rfl rfl c86) rfl ?_
          obtain rfl := Option.some.inj hp
          refine FD.val rfl rfl rfl (fun w' hw' => (E.pickF rfl c86 rfl)) ?_
          exact FD.nil rfl
      intro f85 k99
      refine FD.val rfl rfl rfl (fun w' hw' => (E.assign k99)) ?_
      refine FD.nil ?_
      intro w100 r102
      have S101 := S54.call r102
      refine FW.ret ?_
      obtain rfl := Option.some.inj hp
      exact ⟨.inr rfl, res1 rfl rfl ⟨rfl, S101.back⟩⟩
    ·
      refine FW.condF rfl c56 ?_
      refine FW.skip ?_
      refine FW.seq ?_
      refine FW.region ?_
      refine FL.val rfl rfl rfl (E.load rfl (run_loadA Tryz.isAgg31 Tryz.sizeOf31 ((at28.mono i48).now S54.sl) rfl)) ?_
      refine FL.val rfl rfl rfl (E.move (v := v1) rfl) ?_
      refine FL.val rfl rfl rfl (E.move (v := Value.int .i64 a2) rfl) ?_
      refine FL.val rfl rfl rfl (E.fieldAddr tf89_1 rfl) ?_
      refine FL.val rfl rfl rfl (E.load rfl (run_load1 Tryz.isAgg3 (at49.now S54.sl) rfl)) ?_
      obtain ⟨r103, hr104, hp⟩ := bnd hp
      refine FL.call rfl rfl rfl (E.call Tryz.call246 (A4 rfl rfl rfl rfl)) (w_impl_earlier S54.sl a0 v0_1 (p0_1.mono (i27.tr i48)) v1 a1 (p1.mono (i27.tr i48)) a2 x35.left hr104) ?_
      rintro e w106 ⟨H105, v109, rfl, r108, h110⟩
      refine ⟨_, rfl, ?_⟩
      have S107 := S54.call r108
      refine FL.val rfl rfl rfl (E.move (v := Value.tuple #[v109, Value.bool r103.2]) rfl) ?_
      refine FL.val rfl rfl rfl (E.extract (i := 0) rfl rfl) ?_
      refine FL.val rfl rfl rfl (E.extract (i := 1) rfl rfl) ?_
      refine FL.val rfl rfl rfl (E.assign (v := v109) rfl) ?_
      refine FL.val rfl rfl rfl (E.assign (v := Value.bool r103.2) rfl) ?_
      refine FL.nil ?_
      refine FW.seq ?_
      refine FW.seq ?_
      refine FW.region ?_
      refine FL.val rfl rfl rfl (E.move (v := Value.bool r103.2) rfl) ?_
      refine FL.val rfl rfl rfl (E.not rfl) ?_
      refine FL.nil ?_
      rcases ifB hp with ⟨c111, hp⟩ | ⟨c111, hp⟩
      ·
        refine FW.condT rfl c111 ?_
        refine FW.seq ?_
        refine FW.region ?_
        refine FL.val rfl rfl rfl (E.assign (v := Value.bool false) rfl) ?_
        refine FL.nil ?_
        refine FW.ret ?_
        obtain rfl := Option.some.inj hp
        exact ⟨.inr rfl, res1 rfl rfl ⟨rfl, S107.back⟩⟩
      ·
        refine FW.condF rfl c111 ?_
        refine FW.skip ?_
        refine FW.seq ?_
        refine FW.seq ?_
        refine FW.region ?_
        refine FL.val rfl rfl rfl (E.fieldAddr tf89_2 rfl) ?_
        refine FL.val rfl rfl rfl (E.load rfl (run_load1 Tryz.isAgg3 ((at49.mono r108.inc).now S107.sl) rfl)) ?_
        refine FL.val rfl rfl rfl (E.eql rfl rfl) ?_
        refine FL.nil ?_
        rcases ifB hp with ⟨c112, hp⟩ | ⟨c112, hp⟩
        ·
          refine FW.condT rfl c112 ?_
          refine FW.seq ?_
          refine FW.region ?_
          refine FL.val rfl rfl rfl (E.fieldAddr tf89_3 rfl) ?_
          refine FL.val rfl rfl rfl (E.load rfl (run_load1 Tryz.isAgg3 ((at49.mono r108.inc).now S107.sl) rfl)) ?_
          refine FL.val rfl rfl rfl (E.eql rfl rfl) ?_
          refine FL.val rfl rfl rfl (E.move (v := Value.bool (x35.pivot == 0)) rfl) ?_
          obtain ⟨t118, hqt118, hp⟩ := bnd hp
          refine FL.cut 5 (fun f w => ∃ H : GH, St Ha wa H w [] ∧ Inc H105 H ∧ f 70 = Value.bool t118) ?_ ?_
          ·
            clear hp; have hp := hqt118; clear hqt118
            rcases ifB hp with ⟨c124, hp⟩ | ⟨c124, hp⟩
            ·
              refine FL.val (wF_yes rfl rfl rfl c124) rfl rfl (E.move (v := v109) rfl) ?_
              refine FL.val (wF_yes rfl rfl rfl c124) rfl rfl (E.fieldAddr tf89_0 rfl) ?_
              refine FL.val (wF_yes rfl rfl rfl c124) rfl rfl (E.load rfl (run_load1 Tryz.isAgg39 ((at49.mono r108.inc).now S107.sl) rfl)) ?_
              obtain ⟨r125, hr126, hp⟩ := bnd hp
              refine FL.call (wF_yes rfl rfl rfl c124) rfl rfl (E.call Tryz.call247 (A2 rfl rfl)) (w_impl_part S107.sl v109 r103.1 h110 v37 x35.clause (h38.mono ((i27.tr i48).tr r108.inc)) hr126) ?_
              rintro e w127 ⟨rfl, r128⟩
              refine ⟨_, rfl, ?_⟩
              have S129 := S107.call r128
              obtain rfl := Option.some.inj hp
              refine FL.val rfl rfl rfl (E.pickT rfl c124 rfl) ?_
              exact FL.nil ⟨rfl, _, S129, (Inc.rfl _), rfl⟩
            ·
              refine FL.skip (wF_no rfl rfl rfl c124) rfl ?_
              refine FL.skip (wF_no rfl rfl rfl c124) rfl ?_
              refine FL.skip (wF_no rfl rfl rfl c124) rfl ?_
              refine FL.skip (wF_no rfl rfl rfl c124) rfl ?_
              obtain rfl := Option.some.inj hp
              refine FL.val rfl rfl rfl (E.pickF rfl c124 rfl) ?_
              exact FL.nil ⟨rfl, _, S107, (Inc.rfl _), rfl⟩
          rintro f123 w122 ⟨H119, S120, i121, k130⟩
          refine FL.val rfl rfl rfl (E.assign k130) ?_
          refine FL.nil ?_
          refine FW.ret ?_
          obtain rfl := Option.some.inj hp
          exact ⟨.inr rfl, res1 rfl rfl ⟨rfl, S120.back⟩⟩
        ·
          refine FW.condF rfl c112 ?_
          refine FW.skip ?_
          refine FW.seq ?_
          refine FW.region ?_
          refine FL.val rfl rfl rfl (E.load rfl (run_loadA Tryz.isAgg31 Tryz.sizeOf31 ((at28.mono (i48.tr r108.inc)).now S107.sl) rfl)) ?_
          refine FL.val rfl rfl rfl (E.move (v := v1) rfl) ?_
          refine FL.val rfl rfl rfl (E.move (v := Value.int .i64 a2) rfl) ?_
          refine FL.val rfl rfl rfl (E.fieldAddr tf89_2 rfl) ?_
          refine FL.val rfl rfl rfl (E.load rfl (run_load1 Tryz.isAgg3 ((at49.mono r108.inc).now S107.sl) rfl)) ?_
          obtain ⟨r131, hr132, hp⟩ := bnd hp
          refine FL.call rfl rfl rfl (E.call Tryz.call246 (A4 rfl rfl rfl rfl)) (w_impl_earlier S107.sl a0 v0_1 (p0_1.mono ((i27.tr i48).tr r108.inc)) v1 a1 (p1.mono ((i27.tr i48).tr r108.inc)) a2 x35.right hr132) ?_
          rintro e w134 ⟨H133, v137, rfl, r136, h138⟩
          refine ⟨_, rfl, ?_⟩
          have S135 := S107.call r136
          refine FL.val rfl rfl rfl (E.move (v := Value.tuple #[v137, Value.bool r131.2]) rfl) ?_
          refine FL.val rfl rfl rfl (E.extract (i := 0) rfl rfl) ?_
          refine FL.val rfl rfl rfl (E.extract (i := 1) rfl rfl) ?_
          refine FL.val rfl rfl rfl (E.assign (v := v137) rfl) ?_
          refine FL.val rfl rfl rfl (E.assign (v := Value.bool r131.2) rfl) ?_
          refine FL.nil ?_
          refine FW.seq ?_
          refine FW.seq ?_
          refine FW.region ?_
          refine FL.val rfl rfl rfl (E.move (v := Value.bool r131.2) rfl) ?_
          refine FL.val rfl rfl rfl (E.not rfl) ?_
          refine FL.val rfl rfl rfl (E.move (v := Value.bool (!r131.2)) rfl) ?_
          refine FL.cut 7 (fun f w => ∃ H : GH, St Ha wa H w [] ∧ Inc H133 H ∧ f 7 = Value.pointer (some ⟨b39, 0, none⟩) ∧ f 8 = v109 ∧ f 10 = v137 ∧ f 89 = Value.bool (bif (!r131.2) then true else (!(PF.impl_isVar a0.vars x35.pivot)))) ?_ ?_
          ·
            rcases bcase (!r131.2) with c148 | c148
            ·
              refine FL.skip (wF_no rfl rfl rfl c148) rfl ?_
              refine FL.skip (wF_no rfl rfl rfl c148) rfl ?_
              refine FL.skip (wF_no rfl rfl rfl c148) rfl ?_
              refine FL.skip (wF_no rfl rfl rfl c148) rfl ?_
              refine FL.skip (wF_no rfl rfl rfl c148) rfl ?_
              refine FL.skip (wF_no rfl rfl rfl c148) rfl ?_
              refine FL.val rfl rfl rfl (E.pickT rfl c148 rfl) ?_
              exact FL.nil ⟨rfl, _, S135, (Inc.rfl _), rfl, rfl, rfl, (congrArg Value.bool (bifT c148).symm)⟩
            ·
              refine FL.val (wF_yes rfl rfl rfl c148) rfl rfl (E.fieldAddr tf31_0 rfl) ?_
              refine FL.val (wF_yes rfl rfl rfl c148) rfl rfl (E.load rfl (run_load1 Tryz.isAgg3 ((at28.mono ((i48.tr r108.inc).tr r136.inc)).now S135.sl) rfl)) ?_
              refine FL.val (wF_yes rfl rfl rfl c148) rfl rfl (E.fieldAddr tf89_3 rfl) ?_
              refine FL.val (wF_yes rfl rfl rfl c148) rfl rfl (E.load rfl (run_load1 Tryz.isAgg3 ((at49.mono (r108.inc.tr r136.inc)).now S135.sl) rfl)) ?_
              refine FL.call (wF_yes rfl rfl rfl c148) rfl rfl (E.call Tryz.call248 (A2 rfl rfl)) (w_impl_isVar S135.sl a0.vars x35.pivot) ?_
              rintro e w149 ⟨rfl, r150⟩
              refine ⟨_, rfl, ?_⟩
              have S151 := S135.call r150
              refine FL.val (wF_yes rfl rfl rfl c148) rfl rfl (E.not rfl) ?_
              refine FL.val rfl rfl rfl (E.pickF rfl c148 rfl) ?_
              exact FL.nil ⟨rfl, _, S151, (Inc.rfl _), rfl, rfl, rfl, (congrArg Value.bool (bifF c148).symm)⟩
          rintro f147 w146 ⟨H143, S144, i145, k152, k153, k154, k155⟩
          refine FL.nil ?_
          rcases ifB hp with ⟨c156, hp⟩ | ⟨c156, hp⟩
          ·
            refine FW.condT k155 c156 ?_
            refine FW.seq ?_
            refine FW.region ?_
            refine FL.val rfl rfl rfl (E.assign (v := Value.bool false) rfl) ?_
            refine FL.nil ?_
            refine FW.ret ?_
            obtain rfl := Option.some.inj hp
            exact ⟨.inr rfl, res1 rfl rfl ⟨rfl, S144.back⟩⟩
          ·
            refine FW.condF k155 c156 ?_
            refine FW.skip ?_
            refine FW.seq ?_
            refine FW.region ?_
            refine FL.val rfl rfl rfl (E.move k153) ?_
            refine FL.val rfl rfl rfl (E.move k154) ?_
            refine FL.val rfl rfl rfl (E.fieldAddr tf89_3 k152) ?_
            refine FL.val rfl rfl rfl (E.load rfl (run_load1 Tryz.isAgg3 ((at49.mono ((r108.inc.tr r136.inc).tr i145)).now S144.sl) rfl)) ?_
            obtain ⟨r157, hr158, hp⟩ := bnd hp
            refine FL.call rfl rfl rfl (E.call Tryz.call203 (A3 rfl rfl rfl)) (w_impl_resolve S144.sl v109 r103.1 (h110.mono (r136.inc.tr i145)) v137 r131.1 (h138.mono i145) x35.pivot hr158) ?_
            rintro e w160 ⟨H159, v163, n164, cs165, rfl, r162, els166⟩
            refine ⟨_, rfl, ?_⟩
            have els166 := els166.mono (up_le S144.size)
            have S161 := S144.join (l' := [.row 3 1 v163 n164 cs165]) r162 rfl
            refine FL.val rfl rfl rfl (E.move (v := Value.tuple #[v163, Value.bool r157.2]) rfl) ?_
            refine FL.val rfl rfl rfl (E.extract (i := 0) rfl rfl) ?_
            refine FL.val rfl rfl rfl (E.extract (i := 1) rfl rfl) ?_
            refine FL.val rfl rfl rfl (E.assign (v := v163) rfl) ?_
            refine FL.val rfl rfl rfl (E.assign (v := Value.bool r157.2) rfl) ?_
            refine FL.nil ?_
            refine FW.seq ?_
            refine FW.region ?_
            refine FL.val rfl rfl rfl (E.move (v := Value.bool r157.2) rfl) ?_
            refine FL.val rfl rfl rfl (E.move (v := Value.bool r157.2) rfl) ?_
            obtain ⟨t177, hqt177, hp⟩ := bnd hp
            refine FL.cut 5 (fun f w => ∃ H : GH, St Ha wa H w [.row 3 1 v163 n164 cs165] ∧ Inc H159 H ∧ f 104 = Value.bool t177) ?_ ?_
            ·
              clear hp; have hp := hqt177; clear hqt177
              rcases ifB hp with ⟨c183, hp⟩ | ⟨c183, hp⟩
              ·
                refine FL.val (wF_yes rfl rfl rfl c183) rfl rfl (E.move (v := v163) rfl) ?_
                refine FL.val (wF_yes rfl rfl rfl c183) rfl rfl (E.fieldAddr tf89_0 k152) ?_
                refine FL.val (wF_yes rfl rfl rfl c183) rfl rfl (E.load rfl (run_load1 Tryz.isAgg39 ((at49.mono (((r108.inc.tr r136.inc).tr i145).tr r162.run.inc)).now S161.sl) rfl)) ?_
                obtain ⟨H184, S185, i186, h187, nv188⟩ := S161.sealRowU (i := 0) (l' := []) rfl els166 (by decide) rfl
                obtain ⟨r189, hr190, hp⟩ := bnd hp
                refine FL.call (wF_yes rfl rfl rfl c183) rfl rfl (E.call Tryz.call245 (A2 rfl rfl)) (w_slices_Equal_int_int S185.sl v163 r157.1 (h187.mono upI) v37 x35.clause (h38.mono ((((((i27.tr i48).tr r108.inc).tr r136.inc).tr i145).tr r162.run.inc).tr i186)) hr190) ?_
                rintro e w191 ⟨rfl, r192⟩
                refine ⟨_, rfl, ?_⟩
                have r192 := Run.lend i186 S161.sl r192
                have S193 := S161.call r192
                obtain rfl := Option.some.inj hp
                refine FL.val rfl rfl rfl (E.pickT rfl c183 rfl) ?_
                exact FL.nil ⟨rfl, _, S193, (Inc.rfl _), rfl⟩
              ·
                refine FL.skip (wF_no rfl rfl rfl c183) rfl ?_
                refine FL.skip (wF_no rfl rfl rfl c183) rfl ?_
                refine FL.skip (wF_no rfl rfl rfl c183) rfl ?_
                refine FL.skip (wF_no rfl rfl rfl c183) rfl ?_
                obtain rfl := Option.some.inj hp
                refine FL.val rfl rfl rfl (E.pickF rfl c183 rfl) ?_
                exact FL.nil ⟨rfl, _, S161, (Inc.rfl _), rfl⟩
            rintro f182 w181 ⟨H178, S179, i180, k194⟩
            refine FL.val rfl rfl rfl (E.assign k194) ?_
            refine FL.nil ?_
            refine FW.ret ?_
            obtain rfl := Option.some.inj hp
            exact ⟨.inr rfl, res1 rfl rfl ⟨rfl, S179.back⟩⟩

theorem w_impl_firstWrong {Ha : GH} {wa : World} (hs : Sl Ha wa) (a0 : Cnf) (v0_1 : Value) (p0_1 : RSl Ha (eL eI 1) 1 v0_1 a0.clauses) (v1 : Value) (a1 : List ResStep) (p1 : RSl Ha eResStep 4 v1 a1) {r : Int} (hp : (PF.impl_firstWrong a0 a1) = some r) :
    Calls Tryz.prog 135 #[Value.agg #[Value.int .i64 a0.vars, v0_1], v1] wa (Sc Ha wa (Value.int .i64 r)) := by
  unfold PF.impl_firstWrong at hp
  have S0 := St.init hs
  refine calls_go (N := 18) (args := [Value.agg #[Value.int .i64 a0.vars, v0_1], v1]) Tryz.func135 rfl rfl rfl ?_
  refine FW.seq ?_
  refine FW.region ?_
  obtain ⟨b21, w22, run23, S24⟩ := S0.box (P := Tryz.prog) 31 [Value.int .i64 a0.vars, v0_1] (v := Value.agg #[Value.int .i64 a0.vars, v0_1]) rfl (ones_cons rfl (ones_cons p0_1.one ones_nil))
  refine FL.val rfl rfl rfl (E.box rfl run23) ?_
  obtain ⟨H25, S26, i27, at28⟩ := S24.sealBox (i := 0) (l' := []) rfl rfl
  refine FL.val rfl rfl rfl (E.assign (v := Value.int .i64 0) rfl) ?_
  refine FL.nil ?_
  refine FW.seq ?_
  refine FW.seq ?_
  refine FW.region ?_
  refine FL.val rfl rfl rfl (E.move (v := v1) rfl) ?_
  refine FL.val rfl rfl rfl (E.lenP te28 rfl p1) ?_
  refine FL.val rfl rfl rfl (E.move (v := Value.int .i64 0) rfl) ?_
  refine FL.nil ?_
  obtain ⟨q30, hq, hp⟩ := bndR hp
  refine FW.block ?_
  refine FW.mono (FW.forL (S := Unit) (X := Int) (fun (i30 : Nat) (s30 : Unit) f w => ∃ H : GH, St Ha wa H w [] ∧ Inc H25 H ∧ f 8 = Value.int .i64 ((i30 : Nat) : Int) ∧ f 1 = v1 ∧ f 2 = Value.pointer (some ⟨b21, 0, none⟩) ∧ f 7 = Value.int .i64 (len a1)) (fun q e f w => match q with | .go s30 => e = Exit.exit 0 ∧ (∃ H : GH, St Ha wa H w [] ∧ Inc H25 H) | .rt x => ((e = Exit.ret) ∧ (fun e f w => (e = Exit.normal ∨ e = Exit.ret) ∧ ∀ a, Fr (δ := []) 18 a f → ∃ v, (results Tryz.f135 a.tmps).run Tryz.prog w = .ok v w ∧ (Sc Ha wa (Value.int .i64 x)) (.returned v) w) e f w)) hq ⟨_, S26, (Inc.rfl _), rfl, rfl, rfl, rfl⟩ ?_ ?_) ?_
  ·
    clear hp hq
    rintro i30 y29 s30 f50 w49 ⟨H46, S47, i48, k51, k52, k53, k54⟩ hx30 o61 hp
    refine FW.seq ?_
    refine FW.region ?_
    refine FL.val rfl rfl rfl (E.lssT k51 k54 (lss_len hx30)) ?_
    refine FL.nil ?_
    refine FW.seq ?_
    refine FW.condT rfl rfl ?_
    refine FW.skip ?_
    refine FW.seq ?_
    refine FW.block ?_
    refine FW.seq ?_
    refine FW.region ?_
    refine FL.val rfl rfl rfl (E.move k51) ?_
    refine FL.val rfl rfl rfl (E.assign (v := Value.int .i64 ((i30 : Nat) : Int)) rfl) ?_
    refine FL.nil ?_
    refine FW.seq ?_
    refine FW.region ?_
    refine FL.val rfl rfl rfl (E.load k53 (run_loadA Tryz.isAgg31 Tryz.sizeOf31 ((at28.mono i48).now S47.sl) rfl)) ?_
    refine FL.val rfl rfl rfl (E.move k52) ?_
    refine FL.val rfl rfl rfl (E.move (v := Value.int .i64 ((i30 : Nat) : Int)) rfl) ?_
    obtain ⟨r55, hr56, hp⟩ := bnd hp
    refine FL.call rfl rfl rfl (E.call Tryz.call201 (A3 rfl rfl rfl)) (w_impl_correct S47.sl a0 v0_1 (p0_1.mono (i27.tr i48)) v1 a1 (p1.mono (i27.tr i48)) ((i30 : Nat) : Int) hr56) ?_
    rintro e w57 ⟨rfl, r58⟩
    refine ⟨_, rfl, ?_⟩
    have S59 := S47.call r58
    refine FL.val rfl rfl rfl (E.not rfl) ?_
    refine FL.nil ?_
    rcases ifB hp with ⟨c60, hp⟩ | ⟨c60, hp⟩
    ·
      refine FW.condT rfl c60 ?_
      refine FW.seq ?_
      refine FW.region ?_
      refine FL.val rfl rfl rfl (E.move (v := Value.int .i64 ((i30 : Nat) : Int)) rfl) ?_
      refine FL.val rfl rfl rfl (E.assign (v := Value.int .i64 ((i30 : Nat) : Int)) rfl) ?_
      refine FL.nil ?_
      refine FW.ret ?_
      obtain rfl := Option.some.inj hp
      exact ⟨nofun, rfl, ⟨.inr rfl, res1 rfl rfl ⟨rfl, S59.back⟩⟩⟩
    ·
      refine FW.condF rfl c60 ?_
      refine FW.skip ?_
      refine FW.region ?_
      refine FL.val rfl rfl rfl (E.add k51 rfl) ?_
      refine FL.val rfl rfl rfl (E.move (v := Value.int .i64 (wr (((i30 : Nat) : Int) + 1))) rfl) ?_
      refine FL.nil ?_
      obtain rfl := Option.some.inj hp
      exact ⟨rfl, ⟨_, S59, i48, (nat_succ rfl (lt_of_get hx30) (p1.mono (i27.tr i48)).le), k52, k53, k54⟩⟩
  ·
    clear hp hq
    rintro s30 f71 w70 ⟨H67, S68, i69, k72, k73, k74, k75⟩
    refine FW.seq ?_
    refine FW.region ?_
    refine FL.val rfl rfl rfl (E.lss k72 k75) ?_
    refine FL.nil ?_
    refine FW.seq ?_
    refine FW.condF rfl dlt_len ?_
    refine FW.exit ?_
    exact ⟨nofun, rfl, ⟨_, S68, i69⟩⟩
  ·
    clear hq
    intro e f66 w65 hD
    rcases q30 with s30 | x30
    ·
      obtain ⟨rfl, hD⟩ := hD
      obtain ⟨H62, S63, i64⟩ := hD
      replace hp := el_go hp
      refine FW.seq ?_
      refine FW.region ?_
      refine FL.val rfl rfl rfl (E.assign (v := Value.int .i64 (-1)) rfl) ?_
      refine FL.nil ?_
      refine FW.ret ?_
      obtain rfl := Option.some.inj hp
      exact ⟨.inr rfl, res1 rfl rfl ⟨rfl, S63.back⟩⟩
    ·
      obtain ⟨he, hL⟩ := hD
      replace hp := el_rt hp
      obtain rfl := Option.some.inj hp
      subst he
      exact hL

theorem w_impl_IsDerivation {Ha : GH} {wa : World} (hs : Sl Ha wa) (a0 : Cnf) (v0_1 : Value) (p0_1 : RSl Ha (eL eI 1) 1 v0_1 a0.clauses) (v1 : Value) (a1 : List ResStep) (p1 : RSl Ha eResStep 4 v1 a1) {r : Bool} (hp : (PF.impl_IsDerivation a0 a1) = some r) :
    Calls Tryz.prog 74 #[Value.agg #[Value.int .i64 a0.vars, v0_1], v1] wa (Sc Ha wa (Value.bool r)) := by
  unfold PF.impl_IsDerivation at hp
  have S0 := St.init hs
  refine calls_go (N := 18) (args := [Value.agg #[Value.int .i64 a0.vars, v0_1], v1]) Tryz.func74 rfl rfl rfl ?_
  refine FW.seq ?_
  refine FW.region ?_
  obtain ⟨b21, w22, run23, S24⟩ := S0.box (P := Tryz.prog) 31 [Value.int .i64 a0.vars, v0_1] (v := Value.agg #[Value.int .i64 a0.vars, v0_1]) rfl (ones_cons rfl (ones_cons p0_1.one ones_nil))
  refine FL.val rfl rfl rfl (E.box rfl run23) ?_
  obtain ⟨H25, S26, i27, at28⟩ := S24.sealBox (i := 0) (l' := []) rfl rfl
  refine FL.val rfl rfl rfl (E.assign (v := Value.bool false) rfl) ?_
  refine FL.nil ?_
  refine FW.seq ?_
  refine FW.region ?_
  refine FL.val rfl rfl rfl (E.load rfl (run_loadA Tryz.isAgg31 Tryz.sizeOf31 (at28.now S26.sl) rfl)) ?_
  obtain ⟨r29, hr30, hp⟩ := bnd hp
  refine FL.call rfl rfl rfl (E.call Tryz.call134 (A1 rfl)) (w_impl_IsCnf S26.sl a0 v0_1 (p0_1.mono i27) hr30) ?_
  rintro e w31 ⟨rfl, r32⟩
  refine ⟨_, rfl, ?_⟩
  have S33 := S26.call r32
  refine FL.val rfl rfl rfl (E.move (v := Value.bool r29) rfl) ?_
  refine FL.cut 4 (fun f w => ∃ H : GH, St Ha wa H w [] ∧ Inc H25 H ∧ f 1 = v1 ∧ f 2 = Value.pointer (some ⟨b21, 0, none⟩) ∧ f 11 = Value.bool (bif r29 then (decide ((len a1) ≤ 200)) else false)) ?_ ?_
  ·
    rcases bcase r29 with c40 | c40
    ·
      refine FL.val (wF_yes rfl rfl rfl c40) rfl rfl (E.move (v := v1) rfl) ?_
      refine FL.val (wF_yes rfl rfl rfl c40) rfl rfl (E.lenP te28 rfl p1) ?_
      refine FL.val (wF_yes rfl rfl rfl c40) rfl rfl (E.leq rfl rfl) ?_
      refine FL.val rfl rfl rfl (E.pickT rfl c40 rfl) ?_
      exact FL.nil ⟨rfl, _, S33, (Inc.rfl _), rfl, rfl, (congrArg Value.bool (bifT c40).symm)⟩
    ·
      refine FL.skip (wF_no rfl rfl rfl c40) rfl ?_
      refine FL.skip (wF_no rfl rfl rfl c40) rfl ?_
      refine FL.skip (wF_no rfl rfl rfl c40) rfl ?_
      refine FL.val rfl rfl rfl (E.pickF rfl c40 rfl) ?_
      exact FL.nil ⟨rfl, _, S33, (Inc.rfl _), rfl, rfl, (congrArg Value.bool (bifF c40).symm)⟩
  rintro f39 w38 ⟨H35, S36, i37, k41, k42, k43⟩
  refine FL.val rfl rfl rfl (E.move k43) ?_
  obtain ⟨t49, hqt49, hp⟩ := bnd hp
  refine FL.cut 5 (fun f w => ∃ H : GH, St Ha wa H w [] ∧ Inc H35 H ∧ f 17 = Value.bool t49) ?_ ?_
  ·
    clear hp; have hp := hqt49; clear hqt49
    rcases ifB hp with ⟨c55, hp⟩ | ⟨c55, hp⟩
    ·
      refine FL.val (wF_yes rfl rfl rfl c55) rfl rfl (E.load k42 (run_loadA Tryz.isAgg31 Tryz.sizeOf31 ((at28.mono i37).now S36.sl) rfl)) ?_
      refine FL.val (wF_yes rfl rfl rfl c55) rfl rfl (E.move k41) ?_
      obtain ⟨r56, hr57, hp⟩ := bnd hp
      refine FL.call (wF_yes rfl rfl rfl c55) rfl rfl (E.call Tryz.call135 (A2 rfl rfl)) (w_impl_firstWrong S36.sl a0 v0_1 (p0_1.mono (i27.tr i37)) v1 a1 (p1.mono (i27.tr i37)) hr57) ?_
      rintro e w58 ⟨rfl, r59⟩
      refine ⟨_, rfl, ?_⟩
      have S60 := S36.call r59
      refine FL.val (wF_yes rfl rfl rfl c55) rfl rfl (E.lss rfl rfl) ?_
      obtain rfl := Option.some.inj hp
      refine FL.val rfl rfl rfl (E.pickT rfl c55 rfl) ?_
      exact FL.nil ⟨rfl, _, S60, (Inc.rfl _), rfl⟩
    ·
      refine FL.skip (wF_no rfl rfl rfl c55) rfl ?_
      refine FL.skip (wF_no rfl rfl rfl c55) rfl ?_
      refine FL.skip (wF_no rfl rfl rfl c55) rfl ?_
      refine FL.skip (wF_no rfl rfl rfl c55) rfl ?_
      obtain rfl := Option.some.inj hp
      refine FL.val rfl rfl rfl (E.pickF rfl c55 rfl) ?_
      exact FL.nil ⟨rfl, _, S36, (Inc.rfl _), rfl⟩
  rintro f54 w53 ⟨H50, S51, i52, k61⟩
  refine FL.val rfl rfl rfl (E.assign k61) ?_
  refine FL.nil ?_
  refine FW.ret ?_
  obtain rfl := Option.some.inj hp
  exact ⟨.inr rfl, res1 rfl rfl ⟨rfl, S51.back⟩⟩

theorem w_impl_IsAssignment {Ha : GH} {wa : World} (hs : Sl Ha wa) (a0 : Int) (v1 : Value) (a1 : List Int) (p1 : RSl Ha eI 1 v1 a1) {r : Bool} (hp : (PF.impl_IsAssignment a0 a1) = some r) :
    Calls Tryz.prog 81 #[Value.int .i64 a0, v1] wa (Sc Ha wa (Value.bool r)) := by
  unfold PF.impl_IsAssignment at hp
  have S0 := St.init hs
  refine calls_go (N := 8) (args := [Value.int .i64 a0, v1]) Tryz.func81 rfl rfl rfl ?_
  refine FW.seq ?_
  refine FW.region ?_
  refine FL.val rfl rfl rfl (E.assign (v := Value.bool false) rfl) ?_
  refine FL.nil ?_
  refine FW.seq ?_
  refine FW.region ?_
  refine FL.val rfl rfl rfl (E.move (v := Value.int .i64 a0) rfl) ?_
  refine FL.val rfl rfl rfl (E.move (v := v1) rfl) ?_
  obtain ⟨r21, hr22, hp⟩ := bnd hp
  refine FL.call rfl rfl rfl (E.call Tryz.call142 (A2 rfl rfl)) (w_impl_IsClause S0.sl a0 v1 a1 p1 hr22) ?_
  rintro e w23 ⟨rfl, r24⟩
  refine ⟨_, rfl, ?_⟩
  have S25 := S0.call r24
  refine FL.val rfl rfl rfl (E.assign (v := Value.bool r21) rfl) ?_
  refine FL.nil ?_
  refine FW.ret ?_
  obtain rfl := Option.some.inj hp
  exact ⟨.inr rfl, res1 rfl rfl ⟨rfl, S25.back⟩⟩

theorem w_impl_clauseValue {Ha : GH} {wa : World} (hs : Sl Ha wa) (v0 : Value) (a0 : List Int) (p0 : RSl Ha eI 1 v0 a0) (v1 : Value) (a1 : List Int) (p1 : RSl Ha eI 1 v1 a1) {r : Int} (hp : (PF.impl_clauseValue a0 a1) = some r) :
    Calls Tryz.prog 143 #[v0, v1] wa (Sc Ha wa (Value.int .i64 r)) := by
  unfold PF.impl_clauseValue at hp
  have S0 := St.init hs
  refine calls_go (N := 26) (args := [v0, v1]) Tryz.func143 rfl rfl rfl ?_
  refine FW.seq ?_
  refine FW.region ?_
  refine FL.val rfl rfl rfl (E.assign (v := Value.int .i64 0) rfl) ?_
  refine FL.nil ?_
  refine FW.seq ?_
  refine FW.region ?_
  refine FL.val rfl rfl rfl (E.assign (v := Value.int .i64 (-1)) rfl) ?_
  refine FL.nil ?_
  refine FW.seq ?_
  refine FW.seq ?_
  refine FW.region ?_
  refine FL.val rfl rfl rfl (E.move (v := v0) rfl) ?_
  refine FL.val rfl rfl rfl (E.lenP te39 rfl p0) ?_
  refine FL.val rfl rfl rfl (E.move (v := Value.int .i64 0) rfl) ?_
  refine FL.nil ?_
  obtain ⟨q22, hq, hp⟩ := bndR hp
  refine FW.block ?_
  refine FW.mono (FW.forL (S := Int) (X := Int) (fun (i22 : Nat) (s22 : Int) f w => ∃ H : GH, St Ha wa H w [] ∧ Inc Ha H ∧ f 10 = Value.int .i64 ((i22 : Nat) : Int) ∧ f 1 = v1 ∧ f 5 = Value.int .i64 s22 ∧ f 8 = v0 ∧ f 9 = Value.int .i64 (len a0)) (fun q e f w => match q with | .go s22 => e = Exit.exit 0 ∧ (∃ H : GH, St Ha wa H w [] ∧ Inc Ha H ∧ f 5 = Value.int .i64 s22) | .rt x => ((e = Exit.ret) ∧ (fun e f w => (e = Exit.normal ∨ e = Exit.ret) ∧ ∀ a, Fr (δ := []) 26 a f → ∃ v, (results Tryz.f143 a.tmps).run Tryz.prog w = .ok v w ∧ (Sc Ha wa (Value.int .i64 x)) (.returned v) w) e f w)) hq ⟨_, S0, (Inc.rfl _), rfl, rfl, rfl, rfl, rfl⟩ ?_ ?_) ?_
  ·
    clear hp hq
    rintro i22 y21 s22 f55 w54 ⟨H51, S52, i53, k56, k57, k58, k59, k60⟩ hx22 o79 hp
    refine FW.seq ?_
    refine FW.region ?_
    refine FL.val rfl rfl rfl (E.lssT k56 k60 (lss_len hx22)) ?_
    refine FL.nil ?_
    refine FW.seq ?_
    refine FW.condT rfl rfl ?_
    refine FW.skip ?_
    refine FW.seq ?_
    refine FW.block ?_
    refine FW.seq ?_
    refine FW.region ?_
    obtain ⟨p61, cs62, pt63, l64, at65, rel66⟩ := p0.at (ix_nat hx22)
    obtain rfl := eI_open rel66
    refine FL.val rfl rfl rfl (E.indexAddr te39 k59 k56 pt63) ?_
    refine FL.val rfl rfl rfl (E.load rfl (run_load0 Tryz.isAgg3 ((at65.mono i53).now S52.sl) rfl)) ?_
    refine FL.val rfl rfl rfl (E.assign (v := Value.int .i64 y21) rfl) ?_
    refine FL.nil ?_
    refine FW.block ?_
    refine FW.seq ?_
    refine FW.region ?_
    refine FL.val rfl rfl rfl (E.move k57) ?_
    refine FL.val rfl rfl rfl (E.move (v := Value.int .i64 y21) rfl) ?_
    obtain ⟨r67, hr68, hp⟩ := bnd hp
    refine FL.call rfl rfl rfl (E.call Tryz.call162 (A2 rfl rfl)) (w_slices_Contains_int_int S52.sl v1 a1 (p1.mono i53) y21 hr68) ?_
    rintro e w69 ⟨rfl, r70⟩
    refine ⟨_, rfl, ?_⟩
    have S71 := S52.call r70
    refine FL.val rfl rfl rfl (E.assign (v := Value.bool r67) rfl) ?_
    refine FL.nil ?_
    rcases ifB hp with ⟨c72, hp⟩ | ⟨c72, hp⟩
    ·
      refine FW.condT rfl c72 ?_
      refine FW.seq ?_
      refine FW.region ?_
      refine FL.val rfl rfl rfl (E.assign (v := Value.int .i64 1) rfl) ?_
      refine FL.nil ?_
      refine FW.ret ?_
      obtain rfl := Option.some.inj hp
      exact ⟨nofun, rfl, ⟨.inr rfl, res1 rfl rfl ⟨rfl, S71.back⟩⟩⟩
    ·
      refine FW.condF rfl c72 ?_
      refine FW.seq ?_
      refine FW.region ?_
      refine FL.val rfl rfl rfl (E.move k57) ?_
      refine FL.val rfl rfl rfl (E.move (v := Value.int .i64 y21) rfl) ?_
      refine FL.val rfl rfl rfl (E.neg rfl) ?_
      obtain ⟨r73, hr74, hp⟩ := bnd hp
      refine FL.call rfl rfl rfl (E.call Tryz.call162 (A2 rfl rfl)) (w_slices_Contains_int_int S71.sl v1 a1 (p1.mono i53) (wr (-y21)) hr74) ?_
      rintro e w75 ⟨rfl, r76⟩
      refine ⟨_, rfl, ?_⟩
      have S77 := S71.call r76
      refine FL.val rfl rfl rfl (E.not rfl) ?_
      refine FL.val rfl rfl rfl (E.assign (v := Value.bool (!r73)) rfl) ?_
      refine FL.nil ?_
      rcases ifB hp with ⟨c78, hp⟩ | ⟨c78, hp⟩
      ·
        refine FW.condT rfl c78 ?_
        refine FW.region ?_
        refine FL.val rfl rfl rfl (E.assign (v := Value.int .i64 0) rfl) ?_
        refine FL.nil ?_
        refine FW.region ?_
        refine FL.val rfl rfl rfl (E.add k56 rfl) ?_
        refine FL.val rfl rfl rfl (E.move (v := Value.int .i64 (wr (((i22 : Nat) : Int) + 1))) rfl) ?_
        refine FL.nil ?_
        obtain rfl := Option.some.inj hp
        exact ⟨rfl, ⟨_, S77, i53, (nat_succ rfl (lt_of_get hx22) (p0.mono i53).le), k57, rfl, k59, k60⟩⟩
      ·
        refine FW.condF rfl c78 ?_
        refine FW.skip ?_
        refine FW.region ?_
        refine FL.val rfl rfl rfl (E.add k56 rfl) ?_
        refine FL.val rfl rfl rfl (E.move (v := Value.int .i64 (wr (((i22 : Nat) : Int) + 1))) rfl) ?_
        refine FL.nil ?_
        obtain rfl := Option.some.inj hp
        exact ⟨rfl, ⟨_, S77, i53, (nat_succ rfl (lt_of_get hx22) (p0.mono i53).le), k57, k58, k59, k60⟩⟩
  ·
    clear hp hq
    rintro s22 f90 w89 ⟨H86, S87, i88, k91, k92, k93, k94, k95⟩
    refine FW.seq ?_
    refine FW.region ?_
    refine FL.val rfl rfl rfl (E.lss k91 k95) ?_
    refine FL.nil ?_
    refine FW.seq ?_
    refine FW.condF rfl dlt_len ?_
    refine FW.exit ?_
    exact ⟨nofun, rfl, ⟨_, S87, i88, k93⟩⟩
  ·
    clear hq
    intro e f84 w83 hD
    rcases q22 with s22 | x22
    ·
      obtain ⟨rfl, hD⟩ := hD
      obtain ⟨H80, S81, i82, k85⟩ := hD
      replace hp := el_go hp
      refine FW.seq ?_
      refine FW.region ?_
      refine FL.val rfl rfl rfl (E.move k85) ?_
      refine FL.val rfl rfl rfl (E.assign (v := Value.int .i64 s22) rfl) ?_
      refine FL.nil ?_
      refine FW.ret ?_
      obtain rfl := Option.some.inj hp
      exact ⟨.inr rfl, res1 rfl rfl ⟨rfl, S81.back⟩⟩
    ·
      obtain ⟨he, hL⟩ := hD
      replace hp := el_rt hp
      obtain rfl := Option.some.inj hp
      subst he
      exact hL

theorem w_impl_ResStep_isAxiom {Ha : GH} {wa : World} (hs : Sl Ha wa) (a0 : ResStep) (v0_0 : Value) (p0_0 : RSl Ha eI 1 v0_0 a0.clause) :
    Calls Tryz.prog 87 #[Value.agg #[v0_0, Value.int .i64 a0.left, Value.int .i64 a0.right, Value.int .i64 a0.pivot]] wa (Sc Ha wa (Value.bool (PF.impl_ResStep_isAxiom a0))) := by
  obtain ⟨r, hp⟩ : ∃ r, (PF.impl_ResStep_isAxiom a0) = r := ⟨_, rfl⟩
  rw [hp]
  unfold PF.impl_ResStep_isAxiom at hp
  have S0 := St.init hs
  refine calls_go (N := 6) (args := [Value.agg #[v0_0, Value.int .i64 a0.left, Value.int .i64 a0.right, Value.int .i64 a0.pivot]]) Tryz.func87 rfl rfl rfl ?_
  refine FW.seq ?_
  refine FW.region ?_
  obtain ⟨b21, w22, run23, S24⟩ := S0.box (P := Tryz.prog) 89 [v0_0, Value.int .i64 a0.left, Value.int .i64 a0.right, Value.int .i64 a0.pivot] (v := Value.agg #[v0_0, Value.int .i64 a0.left, Value.int .i64 a0.right, Value.int .i64 a0.pivot]) rfl (ones_cons p0_0.one (ones_cons rfl (ones_cons rfl (ones_cons rfl ones_nil))))
  refine FL.val rfl rfl rfl (E.box rfl run23) ?_
  obtain ⟨H25, S26, i27, at28⟩ := S24.sealBox (i := 0) (l' := []) rfl rfl
  refine FL.val rfl rfl rfl (E.assign (v := Value.bool false) rfl) ?_
  refine FL.nil ?_
  refine FW.seq ?_
  refine FW.region ?_
  refine FL.val rfl rfl rfl (E.fieldAddr tf89_1 rfl) ?_
  refine FL.val rfl rfl rfl (E.load rfl (run_load1 Tryz.isAgg3 (at28.now S26.sl) rfl)) ?_
  refine FL.val rfl rfl rfl (E.lss rfl rfl) ?_
  refine FL.val rfl rfl rfl (E.assign (v := Value.bool (decide (a0.left < 0))) rfl) ?_
  refine FL.nil ?_
  refine FW.ret ?_
  obtain rfl := hp
  exact ⟨.inr rfl, res1 rfl rfl ⟨rfl, S26.back⟩⟩

end Go.Proofs
