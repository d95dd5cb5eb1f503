/- Part of the walks and plain laws behind the claim: it proves helpers, under no condition beyond their own. -/
import Derived.Test.YtjpjbfbloplacaaGreatPpWk1
set_option linter.unusedVariables false
set_option maxRecDepth 100000
namespace Go.Proofs
open Go.Mr Go.Pu Go.PF Go.RowKit

@[reducible] def p_spec_l17Planes (Ha : GH) (wa : World) (r : ((List PlaneStep) × (List Int))) : Ending → World → Prop :=
  fun e w' => ∃ H' : GH, ∃ v0 : Value, ∃ n0 : Nat, ∃ c0 : List Value, ∃ v1 : Value, ∃ n1 : Nat, ∃ c1 : List Value, e = .returned (Value.tuple #[v0, v1]) ∧ St Ha wa H' w' [.row 129 6 v0 n0 c0, .row 3 1 v1 n1 c1] ∧ Els H' ePlaneStep 6 c0 r.1 ∧ Els (up wa.heap.size H') eI 1 c1 r.2
set_option maxHeartbeats 4000000 in
theorem w_spec_l17Planes {Ha : GH} {wa : World} (hs : Sl Ha wa) (a0 : Cnf) (v0_1 : Value) (p0_1 : RSl Ha (eL eI 1) 1 v0_1 a0.clauses) (v1 : Value) (a1 : List ResStep) (p1 : RSl Ha eResStep 4 v1 a1) {r : ((List PlaneStep) × (List Int))} (hp : (PF.spec_l17Planes a0 a1) = some r) :
    Calls Tryz.prog 78 #[Value.agg #[Value.int .i64 a0.vars, v0_1], v1] wa (p_spec_l17Planes Ha wa r) := by
  unfold PF.spec_l17Planes at hp
  have S0 := St.init hs
  refine calls_go (N := 155) (args := [Value.agg #[Value.int .i64 a0.vars, v0_1], v1]) Tryz.func78 rfl rfl rfl ?_
  refine FW.seq (FW.region ?_)
  obtain ⟨b21, w22, run23, S24⟩ := S0.box (P := Tryz.prog) 32 [Value.int .i64 a0.vars, v0_1] (v := Value.agg #[Value.int .i64 a0.vars, v0_1]) rfl (ones_cons rfl (ones_cons p0_1.one ones_nil))
  refine FL.v (E.box rfl run23) ?_
  obtain ⟨H25, S26, i27, at28⟩ := S24.sealBox (i := 0) (l' := []) rfl rfl
  refine FL.v (E.assign (v := Value.slice none 0 0) rfl) ?_
  refine FL.v (E.assign (v := Value.slice none 0 0) rfl) ?_
  refine FL.nil (FW.seq (FW.region ?_))
  obtain ⟨v29, w30, run31, S32⟩ := S26.buildSlice (P := Tryz.prog) te45 [] (parts := #[]) (cells := []) rfl szs_nil fc_nil ones_nil (Nat.le_of_ble_eq_true rfl)
  have els33 : Els (up wa.heap.size H25) ePlaneStep 6 [] [] := Els.nil
  refine FL.v (E.buildSlice (B0) run31) ?_
  obtain ⟨v34, w35, run36, S37⟩ := S32.buildSlice (P := Tryz.prog) te73 [] (parts := #[]) (cells := []) rfl szs_nil fc_nil ones_nil (Nat.le_of_ble_eq_true rfl)
  have els38 : Els (up wa.heap.size H25) eI 1 [] [] := Els.nil
  refine FL.v (E.buildSlice (B0) run36) ?_
  refine FL.v (E.assign (v := v29) rfl) ?_
  refine FL.v (E.assign (v := v34) rfl) ?_
  refine FL.nil (FW.seq (FW.seq (FW.region ?_)))
  refine FL.v (E.assign (v := Value.int .i64 0) rfl) ?_
  refine FL.nil ?_
  obtain ⟨q39, hq, hp⟩ := bndR hp
  refine FW.block ?_
  refine FW.mono (FW.iter (S := ((List Int) × (List PlaneStep) × Int)) (X := Empty) (fun (s39 : ((List Int) × (List PlaneStep) × Int)) f w => ∃ H : GH, ∃ v40 : Value, ∃ n41 : Nat, ∃ cs42 : List Value, ∃ v44 : Value, ∃ n45 : Nat, ∃ cs46 : List Value, St Ha wa H w [.row 3 1 v40 n41 cs42, .row 129 6 v44 n45 cs46] ∧ Inc H25 H ∧ Els (up wa.heap.size H) eI 1 cs42 s39.1 ∧ Els H ePlaneStep 6 cs46 s39.2.1 ∧ f 1 = v1 ∧ f 2 = Value.pointer (some ⟨b21, 0, none⟩) ∧ f 6 = v44 ∧ f 7 = v40 ∧ f 8 = Value.int .i64 s39.2.2) (fun (q : Rs ((List Int) × (List PlaneStep) × Int) Empty) e f w => match q with | .go s39 => e = Exit.exit 0 ∧ (∃ H : GH, ∃ v40 : Value, ∃ n41 : Nat, ∃ cs42 : List Value, ∃ v44 : Value, ∃ n45 : Nat, ∃ cs46 : List Value, St Ha wa H w [.row 3 1 v40 n41 cs42, .row 129 6 v44 n45 cs46] ∧ Inc H25 H ∧ Els (up wa.heap.size H) eI 1 cs42 s39.1 ∧ Els H ePlaneStep 6 cs46 s39.2.1 ∧ f 6 = v44 ∧ f 7 = v40) | .rt x => x.elim) hq ⟨_, _, _, _, _, _, _, S37, (Inc.rfl _), els38, (els33.mono upI), rfl, rfl, rfl, rfl, rfl⟩ ?_) ?_
  ·
    clear hp hq
    rintro s39 f52 w51 ⟨H48, v40, n41, cs42, v44, n45, cs46, S49, i50, els43, els47, k53, k54, k55, k56, k57⟩ o432 hp
    refine FW.seq (FW.seq (FW.region ?_))
    refine FL.v (E.move k57) ?_
    refine FL.v (E.move k53) ?_
    refine FL.v (E.lenP te34 rfl p1) ?_
    refine FL.v (E.lss rfl rfl) ?_
    refine FL.v (E.move (v := Value.bool (decide (s39.2.2 < (len a1)))) rfl) ?_
    refine FL.cut 4 (fun f w => ∃ H : GH, St Ha wa H w [.row 3 1 v40 n41 cs42, .row 129 6 v44 n45 cs46] ∧ Inc H48 H ∧ f 1 = v1 ∧ f 2 = Value.pointer (some ⟨b21, 0, none⟩) ∧ f 6 = v44 ∧ f 7 = v40 ∧ f 8 = Value.int .i64 s39.2.2 ∧ f 24 = Value.bool (bif (decide (s39.2.2 < (len a1))) then (decide ((len s39.2.1) ≤ 400)) else false)) ?_ ?_
    ·
      rcases bcase (decide (s39.2.2 < (len a1))) with c63 | c63
      ·
        refine FL.val (wF_yes rfl rfl rfl c63) rfl rfl (E.move k55) ?_
        refine FL.val (wF_yes rfl rfl rfl c63) rfl rfl (E.lenO te45 rfl S49 (i := 1) rfl els47 (by decide)) ?_
        refine FL.val (wF_yes rfl rfl rfl c63) rfl rfl (E.leq rfl rfl) ?_
        refine FL.v (E.pickT rfl c63 rfl) ?_
        exact FL.nil ⟨rfl, _, S49, (Inc.rfl _), k53, k54, k55, k56, k57, (congrArg Value.bool (bifT c63).symm)⟩
      ·
        refine FL.skip (wF_no rfl rfl rfl c63) rfl ?_
        refine FL.skip (wF_no rfl rfl rfl c63) rfl ?_
        refine FL.skip (wF_no rfl rfl rfl c63) rfl ?_
        refine FL.v (E.pickF rfl c63 rfl) ?_
        exact FL.nil ⟨rfl, _, S49, (Inc.rfl _), k53, k54, k55, k56, k57, (congrArg Value.bool (bifF c63).symm)⟩
    rintro f62 w61 ⟨H58, S59, i60, k64, k65, k66, k67, k68, k69⟩
    refine FL.nil ?_
    rcases ifB hp with ⟨c70, hp⟩ | ⟨c70, hp⟩
    ·
      refine FW.condT k69 c70 ?_
      refine FW.skip (FW.seq (FW.block (FW.seq (FW.region ?_))))
      refine FL.v (E.move k64) ?_
      refine FL.v (E.move k68) ?_
      obtain ⟨x78, hx79, hp⟩ := bnd hp
      obtain ⟨p71, cs72, pt74, l75, at76, rel77⟩ := p1.at hx79
      obtain ⟨v80, rfl, h81⟩ := eResStep_open rel77
      refine FL.v (E.indexAddr te34 rfl rfl pt74) ?_
      refine FL.v (E.load rfl (run_loadA Tryz.isAgg88 Tryz.sizeOf88 ((at76.mono ((i27.tr i50).tr i60)).now S59.sl) rfl)) ?_
      obtain ⟨b82, w83, run84, S85⟩ := S59.alloc (P := Tryz.prog) 88 [Value.slice none 0 0, Value.int .i64 0, Value.int .i64 0, Value.int .i64 0] Tryz.zeroValue88 rfl (ones_cons rfl (ones_cons rfl (ones_cons rfl (ones_cons rfl ones_nil))))
      refine FL.v (E.alloc run84) ?_
      obtain ⟨w86, run87, S89⟩ := S85.store0 (P := Tryz.prog) (t := 88) (i := 0) (cs' := [v80, Value.int .i64 x78.left, Value.int .i64 x78.right, Value.int .i64 x78.pivot]) (l' := [.box b82 88 [v80, Value.int .i64 x78.left, Value.int .i64 x78.right, Value.int .i64 x78.pivot], .row 3 1 v40 n41 cs42, .row 129 6 v44 n45 cs46]) (v := Value.agg #[v80, Value.int .i64 x78.left, Value.int .i64 x78.right, Value.int .i64 x78.pivot]) (c := [v80, Value.int .i64 x78.left, Value.int .i64 x78.right, Value.int .i64 x78.pivot]) rfl Tryz.sizeOf88 rfl rfl (ones_cons h81.one (ones_cons rfl (ones_cons rfl (ones_cons rfl ones_nil)))) (Nat.le_of_ble_eq_true rfl) rfl rfl
      refine FL.act rfl rfl (E.store rfl rfl run87) ?_
      obtain ⟨H90, S91, i92, at93⟩ := S89.sealBox (i := 0) (l' := [.row 3 1 v40 n41 cs42, .row 129 6 v44 n45 cs46]) rfl rfl
      refine FL.nil (FW.block (FW.seq (FW.region ?_)))
      refine FL.v (E.load rfl (run_loadA Tryz.isAgg88 Tryz.sizeOf88 (at93.now S91.sl) rfl)) ?_
      refine FL.call rfl rfl rfl (E.call Tryz.call131 (A1 rfl)) (w_spec_l8Axiom S91.sl x78 v80 (h81.mono (((i27.tr i50).tr i60).tr i92))) ?_
      rintro e w94 ⟨rfl, r95⟩
      refine ⟨_, rfl, ?_⟩
      have S96 := S91.call r95
      refine FL.v (E.assign (v := Value.bool (PF.spec_l8Axiom x78)) rfl) ?_
      refine FL.nil ?_
      rcases ifB hp with ⟨c97, hp⟩ | ⟨c97, hp⟩
      ·
        refine FW.condT rfl c97 ?_
        refine FW.seq ?_
        obtain ⟨r101, hr102, hp⟩ := bnd hp
        obtain ⟨r110, hr111, hp⟩ := bnd hp
        refine FW.drawB (Sl H90) (fun f w => ∃ H : GH, ∃ v121 : Value, ∃ n122 : Nat, ∃ cs123 : List Value, St Ha wa H w [.row 3 1 v40 n41 cs42, .row 129 6 v121 n122 cs123] ∧ Inc H90 H ∧ Els H ePlaneStep 6 cs123 r110 ∧ f 1 = v1 ∧ f 2 = Value.pointer (some ⟨b21, 0, none⟩) ∧ f 6 = v121 ∧ f 7 = v40 ∧ f 8 = Value.int .i64 s39.2.2) (by kernel_rfl) S96.sl ?_ ?_
        ·
          intro w98 r99
          have S100 := S96.call r99
          refine FB.t (i := 0) (bs 10 1) rfl (SP.nil S100.sl) rfl (fun w' hw' => (E.move k66)) ?_
          refine FB.t (i := 1) (bs 10 3) rfl (SP.nil S100.sl) rfl (fun w' hw' => (E.fieldAddr tf88_2 rfl)) ?_
          refine FB.t (i := 2) (bs 10 7) rfl (SP.nil S100.sl) rfl (fun w' hw' => (E.load rfl (run_load1 Tryz.isAgg3 (at93.now hw') rfl))) ?_
          refine FB.t (i := 3) (bs 10 15) rfl (SP.nil S100.sl) rfl (fun w' hw' => (E.fieldAddr tf32_0 k65)) ?_
          refine FB.t (i := 4) (bs 10 31) rfl (SP.nil S100.sl) rfl (fun w' hw' => (E.load rfl (run_load1 Tryz.isAgg3 ((at28.mono ((i50.tr i60).tr i92)).now hw') rfl))) ?_
          refine FB.t (i := 5) (bs 10 63) rfl (SP.nil S100.sl) rfl (fun w' hw' => (E.fieldAddr tf88_0 rfl)) ?_
          refine FB.t (i := 6) (bs 10 127) rfl (SP.nil S100.sl) rfl (fun w' hw' => (E.load rfl (run_load1 Tryz.isAgg73 (at93.now hw') rfl))) ?_
          refine FB.all1 (i := 7) (by kernel_rfl) ?_
          ·
            refine FC.call (l' := (bs 10 255)) rfl (by kernel_rfl) rfl rfl rfl (E.call Tryz.call133 (A2 rfl rfl)) (w_spec_l16OfClause S100.sl a0.vars v80 x78.clause (h81.mono (((i27.tr i50).tr i60).tr i92)) hr102) ?_
            rintro e w104 ⟨H103, v107, rfl, r106, h108⟩
            refine ⟨_, rfl, ?_⟩
            have nv109 : New H90 [v107] := New.of_up S100.sl h108.dom
            have h108 := h108.mono (up_le S100.size)
            have S105 := S100.call r106
            refine ⟨(SP.nil (Sl.of_inc r106.inc S105.sl)), ?_⟩
            refine FB.all1 (i := 8) (by kernel_rfl) ?_
            ·
              have S112 : St Ha wa H103 w104 [.row 129 6 v44 n45 cs46, .row 3 1 v40 n41 cs42] := S105.front 1 rfl rfl
              refine FC.call (l' := (bs 10 511)) rfl (by kernel_rfl) rfl rfl rfl (E.call Tryz.call132 (A6 rfl rfl rfl rfl rfl rfl)) (w_spec_l17Add (L := [.row 3 1 v40 n41 cs42]) S112 s39.2.1 (els47.mono ((i60.tr i92).tr r106.inc)) 1 x78.right 0 0 r101 v107 (h108.mono upI) hr111) ?_
              rintro e w114 ⟨H113, v117, n118, cs119, rfl, ⟨S115, i116⟩, els120⟩
              refine ⟨_, rfl, ?_⟩
              have S115 : St Ha wa H113 w114 [.row 129 6 v117 n118 cs119, .row 3 1 v40 n41 cs42] := S115
              refine ⟨(SP.nil (Sl.of_inc (r106.inc.tr i116) S115.sl)), ?_⟩
              refine FB.t (i := 9) (bs 10 1023) rfl (SP.nil (Sl.of_inc (r106.inc.tr i116) S115.sl)) rfl (fun w' hw' => (E.assign (v := v117) rfl)) ?_
              exact FB.done (by kernel_rfl) ⟨_, _, _, _, (S115.sel [1, 0] (by decide) rfl), (r106.inc.tr i116), els120, k64, k65, rfl, k67, k68⟩
        ·
          rintro f130 w128 ⟨H125, v121, n122, cs123, S126, i127, els124, k131, k132, k133, k134, k135⟩
          refine FW.region ?_
          refine FL.v (E.move k134) ?_
          refine FL.v (E.move k133) ?_
          refine FL.v (E.lenO te45 rfl S126 (i := 1) rfl els124 (by decide)) ?_
          refine FL.v (E.sub rfl rfl) ?_
          obtain ⟨v136, w137, run138, S139⟩ := S126.buildSlice (P := Tryz.prog) te73 [Value.int .i64 (wr ((len r110) - 1))] (parts := #[(0, Value.int .i64 (wr ((len r110) - 1)))]) (cells := [Value.int .i64 (wr ((len r110) - 1))]) rfl (szs_cons rfl szs_nil) (fc_cons rfl fc_nil) (ones_cons rfl ones_nil) (Nat.le_of_ble_eq_true rfl)
          have els140 : Els (up wa.heap.size H125) eI 1 [Value.int .i64 (wr ((len r110) - 1))] [(wr ((len r110) - 1))] := (Els.snoc (H := (up wa.heap.size H125)) (E := eI) (k := 1) (c := [Value.int .i64 (wr ((len r110) - 1))]) (x := (wr ((len r110) - 1))) Els.nil rfl rfl)
          refine FL.v (E.buildSlice (B1 rfl) run138) ?_
          obtain ⟨xs141, hz142, hp⟩ := bnd hp
          obtain ⟨v143, w146, n144, cs145, run147, S148, els149, ce150⟩ := S139.appendO (P := Tryz.prog) te73 (i := 1) (j := 0) rfl (els43.mono (up_mono ((i60.tr i92).tr i127))) rfl els140 hz142
          have S148 : St Ha wa H125 w146 [.row 3 1 v136 1 [Value.int .i64 (wr ((len r110) - 1))], .row 3 1 v143 n144 cs145, .row 129 6 v121 n122 cs123] := S148
          have S151 : St Ha wa H125 w146 [.row 3 1 v143 n144 cs145, .row 129 6 v121 n122 cs123] := S148.drop 0
          refine FL.v (E.append rfl rfl run147) ?_
          refine FL.v (E.assign (v := v143) rfl) ?_
          refine FL.nil (FW.region ?_)
          refine FL.v (E.move k135) ?_
          refine FL.v (E.add rfl rfl) ?_
          refine FL.v (E.assign (v := Value.int .i64 (wr (s39.2.2 + 1))) rfl) ?_
          refine FL.nil ?_
          obtain rfl := Option.some.inj hp
          exact ⟨rfl, ⟨_, _, _, _, _, _, _, S151, (((i50.tr i60).tr i92).tr i127), els149, els124, k131, k132, k133, rfl, rfl⟩⟩
      ·
        refine FW.condF rfl c97 ?_
        refine FW.seq (FW.region ?_)
        refine FL.v (E.load rfl (run_loadA Tryz.isAgg88 Tryz.sizeOf88 (at93.now S96.sl) rfl)) ?_
        refine FL.call rfl rfl rfl (E.call Tryz.call134 (A1 rfl)) (w_spec_l8Resolvent S96.sl x78 v80 (h81.mono (((i27.tr i50).tr i60).tr i92))) ?_
        rintro e w152 ⟨rfl, r153⟩
        refine ⟨_, rfl, ?_⟩
        have S154 := S96.call r153
        refine FL.v (E.not rfl) ?_
        refine FL.v (E.assign (v := Value.bool (!(PF.spec_l8Resolvent x78))) rfl) ?_
        refine FL.nil ?_
        rcases ifB hp with ⟨c155, hp⟩ | ⟨c155, hp⟩
        ·
          refine FW.condT rfl c155 ?_
          refine FW.seq (FW.region ?_)
          refine FL.v (E.assign (v := Value.int .i64 0) rfl) ?_
          refine FL.nil (FW.seq ?_)
          obtain ⟨x165, hx166, hp⟩ := bnd hp
          obtain ⟨x174, hx175, hp⟩ := bnd hp
          obtain ⟨r178, hr179, hp⟩ := bnd hp
          obtain ⟨s300, hq300, hp⟩ := bnd hp
          refine FW.drawB (SX Ha wa H90 [.row 3 1 v40 n41 cs42]) (fun f w => ∃ H : GH, ∃ v188 : Value, ∃ n189 : Nat, ∃ cs190 : List Value, St Ha wa H w [.row 3 1 v40 n41 cs42, .row 129 6 v188 n189 cs190] ∧ Inc H90 H ∧ Els H ePlaneStep 6 cs190 s300.1 ∧ f 1 = v1 ∧ f 2 = Value.pointer (some ⟨b21, 0, none⟩) ∧ f 6 = v188 ∧ f 7 = v40 ∧ f 8 = Value.int .i64 s39.2.2 ∧ f 10 = Value.int .i64 s300.2) (by kernel_rfl) S154.sl ?_ ?_
          ·
            intro w156 r157
            have S158 := S154.call r157
            refine FB.t (i := 0) (bs 23 1) rfl (SP.nil ⟨_, (S158.sel [0] (by decide) rfl), (Inc.rfl _)⟩) rfl (fun w' hw' => (E.fieldAddr tf32_0 k65)) ?_
            refine FB.t (i := 1) (bs 23 3) rfl (SP.nil ⟨_, (S158.sel [0] (by decide) rfl), (Inc.rfl _)⟩) rfl (fun w' hw' => (E.load rfl (run_load1 Tryz.isAgg3 ((at28.mono ((i50.tr i60).tr i92)).now hw'.sl) rfl))) ?_
            refine FB.t (i := 2) (bs 23 7) rfl (SP.nil ⟨_, (S158.sel [0] (by decide) rfl), (Inc.rfl _)⟩) rfl (fun w' hw' => (E.move k66)) ?_
            refine FB.t (i := 3) (bs 23 15) rfl (SP.nil ⟨_, (S158.sel [0] (by decide) rfl), (Inc.rfl _)⟩) rfl (fun w' hw' => (E.move k67)) ?_
            refine FB.t (i := 4) (bs 23 31) rfl (SP.nil ⟨_, (S158.sel [0] (by decide) rfl), (Inc.rfl _)⟩) rfl (fun w' hw' => (E.fieldAddr tf88_1 rfl)) ?_
            refine FB.t (i := 5) (bs 23 63) rfl (SP.nil ⟨_, (S158.sel [0] (by decide) rfl), (Inc.rfl _)⟩) rfl (fun w' hw' => (E.load rfl (run_load1 Tryz.isAgg3 (at93.now hw'.sl) rfl))) ?_
            obtain ⟨p159, cs160, pt161, l162, at163, rel164, hall167⟩ := S158.row_atA (i := 0) rfl els43 (by decide) hx166
            obtain rfl := eI_open rel164
            refine FB.t (i := 6) (bs 23 127) rfl (SP.nil ⟨_, (S158.sel [0] (by decide) rfl), (Inc.rfl _)⟩) rfl (fun w' hw' => (E.indexAddr te73 rfl rfl pt161)) ?_
            refine FB.t (i := 7) (bs 23 255) rfl (SP.nil ⟨_, (S158.sel [0] (by decide) rfl), (Inc.rfl _)⟩) rfl (fun w' hw' => (E.load rfl (run_load0 Tryz.isAgg3 (hw'.use fun _ st => hall167 _ _ _ 0 st rfl) rfl))) ?_
            refine FB.t (i := 8) (bs 23 511) rfl (SP.nil ⟨_, (S158.sel [0] (by decide) rfl), (Inc.rfl _)⟩) rfl (fun w' hw' => (E.fieldAddr tf88_0 rfl)) ?_
            refine FB.t (i := 9) (bs 23 1023) rfl (SP.nil ⟨_, (S158.sel [0] (by decide) rfl), (Inc.rfl _)⟩) rfl (fun w' hw' => (E.load rfl (run_load1 Tryz.isAgg73 (at93.now hw'.sl) rfl))) ?_
            refine FB.t (i := 10) (bs 23 2047) rfl (SP.nil ⟨_, (S158.sel [0] (by decide) rfl), (Inc.rfl _)⟩) rfl (fun w' hw' => (E.move k64)) ?_
            refine FB.t (i := 11) (bs 23 4095) rfl (SP.nil ⟨_, (S158.sel [0] (by decide) rfl), (Inc.rfl _)⟩) rfl (fun w' hw' => (E.fieldAddr tf88_1 rfl)) ?_
            refine FB.t (i := 12) (bs 23 8191) rfl (SP.nil ⟨_, (S158.sel [0] (by decide) rfl), (Inc.rfl _)⟩) rfl (fun w' hw' => (E.load rfl (run_load1 Tryz.isAgg3 (at93.now hw'.sl) rfl))) ?_
            obtain ⟨p168, cs169, pt170, l171, at172, rel173⟩ := p1.at hx175
            obtain ⟨v176, rfl, h177⟩ := eResStep_open rel173
            refine FB.t (i := 13) (bs 23 16383) rfl (SP.nil ⟨_, (S158.sel [0] (by decide) rfl), (Inc.rfl _)⟩) rfl (fun w' hw' => (E.indexAddr te34 rfl rfl pt170)) ?_
            refine FB.t (i := 14) (bs 23 32767) rfl (SP.nil ⟨_, (S158.sel [0] (by decide) rfl), (Inc.rfl _)⟩) rfl (fun w' hw' => (E.fieldAddr tf88_0 rfl)) ?_
            refine FB.t (i := 15) (bs 23 65535) rfl (SP.nil ⟨_, (S158.sel [0] (by decide) rfl), (Inc.rfl _)⟩) rfl (fun w' hw' => (E.load rfl (run_load1 Tryz.isAgg73 ((at172.mono (((i27.tr i50).tr i60).tr i92)).now hw'.sl) rfl))) ?_
            refine FB.all1 (i := 16) (by kernel_rfl) ?_
            ·
              refine FC.call (l' := (bs 23 131071)) rfl (by kernel_rfl) rfl rfl rfl (E.call Tryz.call136 (A2 rfl rfl)) (w_spec_l17Extra S158.sl v80 x78.clause (h81.mono (((i27.tr i50).tr i60).tr i92)) v176 x174.clause (h177.mono (((i27.tr i50).tr i60).tr i92)) hr179) ?_
              rintro e w181 ⟨H180, v184, n185, cs186, rfl, r183, els187⟩
              refine ⟨_, rfl, ?_⟩
              have els187 := els187.mono (up_le S158.size)
              have S182 := S158.join (l' := [.row 3 1 v184 n185 cs186, .row 3 1 v40 n41 cs42, .row 129 6 v44 n45 cs46]) r183 rfl
              refine ⟨(SP.nil ⟨_, (S182.sel [1] (by decide) rfl), r183.run.inc⟩), ?_⟩
              refine FB.all1 (i := 17) (by kernel_rfl) ?_
              ·
                obtain ⟨R300, hR300⟩ : ∃ R300 : ((List PlaneStep) × Int) → Ending → World → Prop, R300 = (fun s300 e w => ∃ H : GH, ∃ v301 : Value, ∃ n302 : Nat, ∃ cs303 : List Value, e = Ending.returned (Value.tuple #[v301, Value.int .i64 s300.2]) ∧ St Ha wa H w [.row 3 1 v184 n185 cs186, .row 3 1 v40 n41 cs42, .row 129 6 v301 n302 cs303] ∧ Inc H180 H ∧ Els H ePlaneStep 6 cs303 s300.1) := ⟨_, rfl⟩
                have hc300 : Calls Tryz.prog 135 #[Value.int .i64 a0.vars, v44, Value.int .i64 x165, v184] w181 (R300 s300) := by
                  clear hp; have hp := hq300; clear hq300
                  refine calls_go (N := 61) (args := [Value.int .i64 a0.vars, v44, Value.int .i64 x165, v184]) Tryz.func135 rfl rfl rfl ?_
                  refine FW.seq (FW.region ?_)
                  refine FL.v (E.assign (v := Value.slice none 0 0) rfl) ?_
                  refine FL.v (E.assign (v := Value.int .i64 0) rfl) ?_
                  refine FL.nil (FW.seq (FW.seq (FW.region ?_)))
                  refine FL.v (E.assign (v := Value.int .i64 0) rfl) ?_
                  refine FL.nil ?_
                  obtain ⟨q305, hq, hp⟩ := bndR hp
                  refine FW.block ?_
                  refine FW.mono (FW.iter (S := ((List PlaneStep) × Int × Int)) (X := Empty) (fun (s305 : ((List PlaneStep) × Int × Int)) f w => ∃ H : GH, ∃ v306 : Value, ∃ n307 : Nat, ∃ cs308 : List Value, St Ha wa H w [.row 3 1 v184 n185 cs186, .row 3 1 v40 n41 cs42, .row 129 6 v306 n307 cs308] ∧ Inc H180 H ∧ Els H ePlaneStep 6 cs308 s305.1 ∧ f 0 = Value.int .i64 a0.vars ∧ f 1 = v306 ∧ f 2 = Value.int .i64 s305.2.1 ∧ f 3 = v184 ∧ f 10 = Value.int .i64 s305.2.2) (fun (q : Rs ((List PlaneStep) × Int × Int) Empty) e f w => match q with | .go s305 => e = Exit.exit 0 ∧ (∃ H : GH, ∃ v306 : Value, ∃ n307 : Nat, ∃ cs308 : List Value, St Ha wa H w [.row 3 1 v184 n185 cs186, .row 3 1 v40 n41 cs42, .row 129 6 v306 n307 cs308] ∧ Inc H180 H ∧ Els H ePlaneStep 6 cs308 s305.1 ∧ f 1 = v306 ∧ f 2 = Value.int .i64 s305.2.1) | .rt x => x.elim) hq ⟨_, _, _, _, S182, (Inc.rfl _), (els47.mono ((i60.tr i92).tr r183.run.inc)), rfl, rfl, rfl, rfl, rfl⟩ ?_) ?_
                  ·
                    clear hp hq
                    rintro s305 f444 w443 ⟨H440, v306, n307, cs308, S441, i442, els309, k445, k446, k447, k448, k449⟩ o761 hp
                    refine FW.seq (FW.seq (FW.region ?_))
                    refine FL.v (E.move k449) ?_
                    refine FL.v (E.move k448) ?_
                    refine FL.v (E.lenO te73 rfl S441 (i := 0) rfl els187 (by decide)) ?_
                    refine FL.v (E.lss rfl rfl) ?_
                    refine FL.nil ?_
                    rcases ifB hp with ⟨c450, hp⟩ | ⟨c450, hp⟩
                    ·
                      refine FW.condT rfl c450 ?_
                      refine FW.skip (FW.seq (FW.block (FW.seq (FW.region ?_))))
                      refine FL.v (E.assign (v := Value.int .i64 2) rfl) ?_
                      refine FL.nil (FW.seq (FW.seq (FW.region ?_)))
                      refine FL.v (E.move k448) ?_
                      refine FL.v (E.move k449) ?_
                      obtain ⟨x457, hx458, hp⟩ := bnd hp
                      obtain ⟨p451, cs452, pt453, l454, at455, rel456⟩ := S441.row_at (i := 0) rfl els187 (by decide) hx458
                      obtain rfl := eI_open rel456
                      refine FL.v (E.indexAddr te73 rfl rfl pt453) ?_
                      refine FL.v (E.load rfl (run_load0 Tryz.isAgg3 at455 rfl)) ?_
                      refine FL.v (E.lss rfl rfl) ?_
                      refine FL.nil ?_
                      rcases ifB hp with ⟨c459, hp⟩ | ⟨c459, hp⟩
                      ·
                        refine FW.condT rfl c459 ?_
                        refine FW.region ?_
                        refine FL.v (E.assign (v := Value.int .i64 3) rfl) ?_
                        refine FL.nil (FW.seq ?_)
                        obtain ⟨x469, hx470, hp⟩ := bnd hp
                        obtain ⟨x481, hx482, hp⟩ := bnd hp
                        obtain ⟨r484, hr485, hp⟩ := bnd hp
                        obtain ⟨r493, hr494, hp⟩ := bnd hp
                        refine FW.drawB (SX Ha wa H440 [.row 3 1 v184 n185 cs186]) (fun f w => ∃ H : GH, ∃ v504 : Value, ∃ n505 : Nat, ∃ cs506 : List Value, St Ha wa H w [.row 3 1 v184 n185 cs186, .row 3 1 v40 n41 cs42, .row 129 6 v504 n505 cs506] ∧ Inc H440 H ∧ Els H ePlaneStep 6 cs506 r493 ∧ f 0 = Value.int .i64 a0.vars ∧ f 1 = v504 ∧ f 2 = Value.int .i64 s305.2.1 ∧ f 3 = v184 ∧ f 10 = Value.int .i64 s305.2.2) (by kernel_rfl) S441.sl ?_ ?_
                        ·
                          intro w460 r461
                          have S462 := S441.call r461
                          refine FB.t (i := 0) (bs 15 1) rfl (SP.nil ⟨_, (S462.sel [0] (by decide) rfl), (Inc.rfl _)⟩) rfl (fun w' hw' => (E.move k446)) ?_
                          refine FB.t (i := 1) (bs 15 3) rfl (SP.nil ⟨_, (S462.sel [0] (by decide) rfl), (Inc.rfl _)⟩) rfl (fun w' hw' => (E.move (v := Value.int .i64 3) rfl)) ?_
                          refine FB.t (i := 2) (bs 15 7) rfl (SP.nil ⟨_, (S462.sel [0] (by decide) rfl), (Inc.rfl _)⟩) rfl (fun w' hw' => (E.move k448)) ?_
                          refine FB.t (i := 3) (bs 15 15) rfl (SP.nil ⟨_, (S462.sel [0] (by decide) rfl), (Inc.rfl _)⟩) rfl (fun w' hw' => (E.move k449)) ?_
                          obtain ⟨p463, cs464, pt465, l466, at467, rel468, hall471⟩ := S462.row_atA (i := 0) rfl els187 (by decide) hx470
                          obtain rfl := eI_open rel468
                          refine FB.t (i := 4) (bs 15 31) rfl (SP.nil ⟨_, (S462.sel [0] (by decide) rfl), (Inc.rfl _)⟩) rfl (fun w' hw' => (E.indexAddr te73 rfl rfl pt465)) ?_
                          refine FB.t (i := 5) (bs 15 63) rfl (SP.nil ⟨_, (S462.sel [0] (by decide) rfl), (Inc.rfl _)⟩) rfl (fun w' hw' => (E.load rfl (run_load0 Tryz.isAgg3 (hw'.use fun _ st => hall471 _ _ _ 0 st rfl) rfl))) ?_
                          refine FB.t (i := 7) (bs 15 191) rfl (SP.nil ⟨_, (S462.sel [0] (by decide) rfl), (Inc.rfl _)⟩) rfl (fun w' hw' => (E.move k445)) ?_
                          refine FB.t (i := 8) (bs 15 447) rfl (SP.nil ⟨_, (S462.sel [0] (by decide) rfl), (Inc.rfl _)⟩) rfl (fun w' hw' => (E.move k448)) ?_
                          refine FB.t (i := 9) (bs 15 959) rfl (SP.nil ⟨_, (S462.sel [0] (by decide) rfl), (Inc.rfl _)⟩) rfl (fun w' hw' => (E.move k449)) ?_
                          obtain ⟨p475, cs476, pt477, l478, at479, rel480, hall483⟩ := S462.row_atA (i := 0) rfl els187 (by decide) hx482
                          obtain rfl := eI_open rel480
                          refine FB.t (i := 10) (bs 15 1983) rfl (SP.nil ⟨_, (S462.sel [0] (by decide) rfl), (Inc.rfl _)⟩) rfl (fun w' hw' => (E.indexAddr te73 rfl rfl pt477)) ?_
                          refine FB.t (i := 11) (bs 15 4031) rfl (SP.nil ⟨_, (S462.sel [0] (by decide) rfl), (Inc.rfl _)⟩) rfl (fun w' hw' => (E.load rfl (run_load0 Tryz.isAgg3 (hw'.use fun _ st => hall483 _ _ _ 0 st rfl) rfl))) ?_
                          refine FB.all1 (i := 6) (by kernel_rfl) ?_
                          ·
                            refine FC.call (l' := (bs 15 4095)) rfl (by kernel_rfl) rfl rfl rfl (E.call Tryz.call116 (A1 rfl)) (w_spec_l2Var S462.sl x469) ?_
                            rintro e w472 ⟨rfl, r473⟩
                            refine ⟨_, rfl, ?_⟩
                            have S474 := S462.call r473
                            refine ⟨(SP.nil ⟨_, (S474.sel [0] (by decide) rfl), (Inc.rfl _)⟩), ?_⟩
                            refine FB.all1 (i := 12) (by kernel_rfl) ?_
                            ·
                              refine FC.call (l' := (bs 15 8191)) rfl (by kernel_rfl) rfl rfl rfl (E.call Tryz.call189 (A2 rfl rfl)) (w_spec_l17Literal S474.sl a0.vars x481 hr485) ?_
                              rintro e w487 ⟨H486, v490, rfl, r489, h491⟩
                              refine ⟨_, rfl, ?_⟩
                              have nv492 : New H440 [v490] := New.of_up S474.sl h491.dom
                              have h491 := h491.mono (up_le S474.size)
                              have S488 := S474.call r489
                              refine ⟨(SP.nil ⟨_, (S488.sel [0] (by decide) rfl), r489.inc⟩), ?_⟩
                              refine FB.all1 (i := 13) (by kernel_rfl) ?_
                              ·
                                have S495 : St Ha wa H486 w487 [.row 129 6 v306 n307 cs308, .row 3 1 v184 n185 cs186, .row 3 1 v40 n41 cs42] := S488.front 2 rfl rfl
                                refine FC.call (l' := (bs 15 16383)) rfl (by kernel_rfl) rfl rfl rfl (E.call Tryz.call132 (A6 rfl rfl rfl rfl rfl rfl)) (w_spec_l17Add (L := [.row 3 1 v184 n185 cs186, .row 3 1 v40 n41 cs42]) S495 s305.1 (els309.mono r489.inc) 3 (PF.spec_l2Var x469) 0 0 r484 v490 (h491.mono upI) hr494) ?_
                                rintro e w497 ⟨H496, v500, n501, cs502, rfl, ⟨S498, i499⟩, els503⟩
                                refine ⟨_, rfl, ?_⟩
                                have S498 : St Ha wa H496 w497 [.row 129 6 v500 n501 cs502, .row 3 1 v184 n185 cs186, .row 3 1 v40 n41 cs42] := S498
                                refine ⟨(SP.nil ⟨_, (S498.sel [1] (by decide) rfl), (r489.inc.tr i499)⟩), ?_⟩
                                refine FB.t (i := 14) (bs 15 32767) rfl (SP.nil ⟨_, (S498.sel [1] (by decide) rfl), (r489.inc.tr i499)⟩) rfl (fun w' hw' => (E.assign (v := v500) rfl)) ?_
                                exact FB.done (by kernel_rfl) ⟨_, _, _, _, (S498.sel [1, 2, 0] (by decide) rfl), (r489.inc.tr i499), els503, k445, rfl, k447, k448, k449⟩
                        ·
                          rintro f512 w511 ⟨H508, v504, n505, cs506, S509, i510, els507, k513, k514, k515, k516, k517⟩
                          refine FW.seq ?_
                          obtain ⟨x537, hx538, hp⟩ := bnd hp
                          obtain ⟨x548, hx549, hp⟩ := bnd hp
                          obtain ⟨r553, hr554, hp⟩ := bnd hp
                          obtain ⟨r562, hr563, hp⟩ := bnd hp
                          refine FW.drawB (Sl H508) (fun f w => ∃ H : GH, ∃ v573 : Value, ∃ n574 : Nat, ∃ cs575 : List Value, St Ha wa H w [.row 3 1 v184 n185 cs186, .row 3 1 v40 n41 cs42, .row 129 6 v573 n574 cs575] ∧ Inc H508 H ∧ Els H ePlaneStep 6 cs575 r562 ∧ f 0 = Value.int .i64 a0.vars ∧ f 1 = v573 ∧ f 3 = v184 ∧ f 10 = Value.int .i64 s305.2.2) (by kernel_rfl) S509.sl ?_ ?_
                          ·
                            intro w518 r519
                            have S520 := S509.call r519
                            refine FB.t (i := 0) (bs 20 1) rfl (SP.nil S520.sl) rfl (fun w' hw' => (E.move k514)) ?_
                            refine FB.t (i := 1) (bs 20 3) rfl (SP.nil S520.sl) rfl (fun w' hw' => (E.move k515)) ?_
                            refine FB.t (i := 2) (bs 20 7) rfl (SP.nil S520.sl) rfl (fun w' hw' => (E.move k514)) ?_
                            refine FB.t (i := 3) (bs 20 15) rfl (SP.nil S520.sl) rfl (fun w' hw' => (E.lenOW te45 rfl S520 (i := 2) rfl els507 (by decide))) ?_
                            refine FB.t (i := 4) (bs 20 31) rfl (SP.nil S520.sl) rfl (fun w' hw' => (E.sub rfl rfl)) ?_
                            refine FB.t (i := 5) (bs 20 63) rfl (SP.nil S520.sl) rfl (fun w' hw' => (E.move k514)) ?_
                            refine FB.t (i := 6) (bs 20 127) rfl (SP.nil S520.sl) rfl (fun w' hw' => (E.move k515)) ?_
                            obtain ⟨p531, cs532, pt533, l534, at535, rel536, hall539⟩ := S520.row_atA (i := 2) rfl els507 (by decide) hx538
                            obtain ⟨v540, rfl, h541⟩ := ePlaneStep_open rel536
                            refine FB.t (i := 7) (bs 20 255) rfl (SP.nil S520.sl) rfl (fun w' hw' => (E.indexAddr te45 rfl rfl pt533)) ?_
                            refine FB.t (i := 8) (bs 20 511) rfl (SP.nil S520.sl) rfl (fun w' hw' => (E.fieldAddr tf129_0 rfl)) ?_
                            refine FB.phase [18] (fun w' => WAt w' p531 [v540, Value.int .i64 x537.ineq.bound, Value.int .i64 x537.kind, Value.int .i64 x537.a, Value.int .i64 x537.b, Value.int .i64 x537.k]) ?_
                            refine FB.p (i := 9) (bs 20 1023) 0 [17, 18, 19] rfl (SP.on (hall539 _ _ _ 2 S520 rfl) (SP.nil S520.sl)) rfl rfl (fun w' hw' => (E.load rfl (run_loadA Tryz.isAgg127 Tryz.sizeOf127 (hw'.sub (j := 0) (n := 2) (c := [v540, Value.int .i64 x537.ineq.bound]) rfl) rfl))) ?_
                            refine FB.t (i := 10) (bs 20 2047) rfl (SP.on (hall539 _ _ _ 2 S520 rfl) (SP.nil S520.sl)) rfl (fun w' hw' => (E.move k514)) ?_
                            refine FB.t (i := 11) (bs 20 4095) rfl (SP.on (hall539 _ _ _ 2 S520 rfl) (SP.nil S520.sl)) rfl (fun w' hw' => (E.move k514)) ?_
                            refine FB.t (i := 12) (bs 20 8191) rfl (SP.on (hall539 _ _ _ 2 S520 rfl) (SP.nil S520.sl)) rfl (fun w' hw' => (E.lenOW te45 rfl S520 (i := 2) rfl els507 (by decide))) ?_
                            refine FB.t (i := 13) (bs 20 16383) rfl (SP.on (hall539 _ _ _ 2 S520 rfl) (SP.nil S520.sl)) rfl (fun w' hw' => (E.sub rfl rfl)) ?_
                            obtain ⟨p542, cs543, pt544, l545, at546, rel547, hall550⟩ := S520.row_atA (i := 2) rfl els507 (by decide) hx549
                            obtain ⟨v551, rfl, h552⟩ := ePlaneStep_open rel547
                            refine FB.t (i := 14) (bs 20 32767) rfl (SP.on (hall539 _ _ _ 2 S520 rfl) (SP.nil S520.sl)) rfl (fun w' hw' => (E.indexAddr te45 rfl rfl pt544)) ?_
                            refine FB.t (i := 15) (bs 20 65535) rfl (SP.on (hall539 _ _ _ 2 S520 rfl) (SP.nil S520.sl)) rfl (fun w' hw' => (E.fieldAddr tf129_0 rfl)) ?_
                            refine FB.phase [18] (fun w' => WAt w' p542 [v551, Value.int .i64 x548.ineq.bound, Value.int .i64 x548.kind, Value.int .i64 x548.a, Value.int .i64 x548.b, Value.int .i64 x548.k]) ?_
                            refine FB.p (i := 16) (bs 20 131071) 0 [17, 18, 19] rfl (SP.on (hall550 _ _ _ 2 S520 rfl) (SP.on (hall539 _ _ _ 2 S520 rfl) (SP.nil S520.sl))) rfl rfl (fun w' hw' => (E.load rfl (run_loadA Tryz.isAgg127 Tryz.sizeOf127 (hw'.sub (j := 0) (n := 2) (c := [v551, Value.int .i64 x548.ineq.bound]) rfl) rfl))) ?_
                            refine FB.all1 (i := 17) (by kernel_rfl) ?_
                            ·
                              refine FC.call (l' := (bs 20 262143)) rfl (by kernel_rfl) rfl rfl rfl (E.call Tryz.call137 (A2 rfl rfl)) (w_spec_l16Add S520.sl x537.ineq v540 h541 x548.ineq v551 h552 hr554) ?_
                              rintro e w556 ⟨H555, v559, rfl, r558, h560⟩
                              refine ⟨_, rfl, ?_⟩
                              have nv561 : New H508 [v559] := New.of_up S520.sl h560.dom
                              have h560 := h560.mono (up_le S520.size)
                              have S557 := S520.call r558
                              refine ⟨(SP.on (hall550 _ _ _ 2 S557 rfl) (SP.on (hall539 _ _ _ 2 S557 rfl) (SP.nil (Sl.of_inc r558.inc S557.sl)))), ?_⟩
                              refine FB.all1 (i := 18) (by kernel_rfl) ?_
                              ·
                                have S564 : St Ha wa H555 w556 [.row 129 6 v504 n505 cs506, .row 3 1 v184 n185 cs186, .row 3 1 v40 n41 cs42] := S557.front 2 rfl rfl
                                refine FC.call (l' := (bs 20 524287)) rfl (by kernel_rfl) rfl rfl rfl (E.call Tryz.call132 (A6 rfl rfl rfl rfl rfl rfl)) (w_spec_l17Add (L := [.row 3 1 v184 n185 cs186, .row 3 1 v40 n41 cs42]) S564 r493 (els507.mono r558.inc) 4 s305.2.1 (wr ((len r493) - 1)) 0 r553 v559 (h560.mono upI) hr563) ?_
                                rintro e w566 ⟨H565, v569, n570, cs571, rfl, ⟨S567, i568⟩, els572⟩
                                refine ⟨_, rfl, ?_⟩
                                have S567 : St Ha wa H565 w566 [.row 129 6 v569 n570 cs571, .row 3 1 v184 n185 cs186, .row 3 1 v40 n41 cs42] := S567
                                refine ⟨(SP.o (SP.o (SP.nil (Sl.of_inc (r558.inc.tr i568) S567.sl)))), ?_⟩
                                refine FB.t (i := 19) (bs 20 1048575) rfl (SP.o (SP.o (SP.nil (Sl.of_inc (r558.inc.tr i568) S567.sl)))) rfl (fun w' hw' => (E.assign (v := v569) rfl)) ?_
                                exact FB.done (by kernel_rfl) ⟨_, _, _, _, (S567.sel [1, 2, 0] (by decide) rfl), (r558.inc.tr i568), els572, k513, rfl, k516, k517⟩
                          ·
                            rintro f581 w580 ⟨H577, v573, n574, cs575, S578, i579, els576, k582, k583, k584, k585⟩
                            refine FW.region ?_
                            refine FL.v (E.move k583) ?_
                            refine FL.v (E.lenO te45 rfl S578 (i := 2) rfl els576 (by decide)) ?_
                            refine FL.v (E.sub rfl rfl) ?_
                            refine FL.v (E.assign (v := Value.int .i64 (wr ((len r562) - 1))) rfl) ?_
                            refine FL.nil (FW.region ?_)
                            refine FL.v (E.move k585) ?_
                            refine FL.v (E.add rfl rfl) ?_
                            refine FL.v (E.assign (v := Value.int .i64 (wr (s305.2.2 + 1))) rfl) ?_
                            refine FL.nil ?_
                            obtain rfl := Option.some.inj hp
                            exact ⟨rfl, ⟨_, _, _, _, S578, ((i442.tr i510).tr i579), els576, k582, k583, rfl, k584, rfl⟩⟩
                      ·
                        refine FW.condF rfl c459 ?_
                        refine FW.skip (FW.seq ?_)
                        obtain ⟨x595, hx596, hp⟩ := bnd hp
                        obtain ⟨x607, hx608, hp⟩ := bnd hp
                        obtain ⟨r610, hr611, hp⟩ := bnd hp
                        obtain ⟨r619, hr620, hp⟩ := bnd hp
                        refine FW.drawB (SX Ha wa H440 [.row 3 1 v184 n185 cs186]) (fun f w => ∃ H : GH, ∃ v630 : Value, ∃ n631 : Nat, ∃ cs632 : List Value, St Ha wa H w [.row 3 1 v184 n185 cs186, .row 3 1 v40 n41 cs42, .row 129 6 v630 n631 cs632] ∧ Inc H440 H ∧ Els H ePlaneStep 6 cs632 r619 ∧ f 0 = Value.int .i64 a0.vars ∧ f 1 = v630 ∧ f 2 = Value.int .i64 s305.2.1 ∧ f 3 = v184 ∧ f 10 = Value.int .i64 s305.2.2) (by kernel_rfl) S441.sl ?_ ?_
                        ·
                          intro w586 r587
                          have S588 := S441.call r587
                          refine FB.t (i := 0) (bs 15 1) rfl (SP.nil ⟨_, (S588.sel [0] (by decide) rfl), (Inc.rfl _)⟩) rfl (fun w' hw' => (E.move k446)) ?_
                          refine FB.t (i := 1) (bs 15 3) rfl (SP.nil ⟨_, (S588.sel [0] (by decide) rfl), (Inc.rfl _)⟩) rfl (fun w' hw' => (E.move (v := Value.int .i64 2) rfl)) ?_
                          refine FB.t (i := 2) (bs 15 7) rfl (SP.nil ⟨_, (S588.sel [0] (by decide) rfl), (Inc.rfl _)⟩) rfl (fun w' hw' => (E.move k448)) ?_
                          refine FB.t (i := 3) (bs 15 15) rfl (SP.nil ⟨_, (S588.sel [0] (by decide) rfl), (Inc.rfl _)⟩) rfl (fun w' hw' => (E.move k449)) ?_
                          obtain ⟨p589, cs590, pt591, l592, at593, rel594, hall597⟩ := S588.row_atA (i := 0) rfl els187 (by decide) hx596
                          obtain rfl := eI_open rel594
                          refine FB.t (i := 4) (bs 15 31) rfl (SP.nil ⟨_, (S588.sel [0] (by decide) rfl), (Inc.rfl _)⟩) rfl (fun w' hw' => (E.indexAddr te73 rfl rfl pt591)) ?_
                          refine FB.t (i := 5) (bs 15 63) rfl (SP.nil ⟨_, (S588.sel [0] (by decide) rfl), (Inc.rfl _)⟩) rfl (fun w' hw' => (E.load rfl (run_load0 Tryz.isAgg3 (hw'.use fun _ st => hall597 _ _ _ 0 st rfl) rfl))) ?_
                          refine FB.t (i := 7) (bs 15 191) rfl (SP.nil ⟨_, (S588.sel [0] (by decide) rfl), (Inc.rfl _)⟩) rfl (fun w' hw' => (E.move k445)) ?_
                          refine FB.t (i := 8) (bs 15 447) rfl (SP.nil ⟨_, (S588.sel [0] (by decide) rfl), (Inc.rfl _)⟩) rfl (fun w' hw' => (E.move k448)) ?_
                          refine FB.t (i := 9) (bs 15 959) rfl (SP.nil ⟨_, (S588.sel [0] (by decide) rfl), (Inc.rfl _)⟩) rfl (fun w' hw' => (E.move k449)) ?_
                          obtain ⟨p601, cs602, pt603, l604, at605, rel606, hall609⟩ := S588.row_atA (i := 0) rfl els187 (by decide) hx608
                          obtain rfl := eI_open rel606
                          refine FB.t (i := 10) (bs 15 1983) rfl (SP.nil ⟨_, (S588.sel [0] (by decide) rfl), (Inc.rfl _)⟩) rfl (fun w' hw' => (E.indexAddr te73 rfl rfl pt603)) ?_
                          refine FB.t (i := 11) (bs 15 4031) rfl (SP.nil ⟨_, (S588.sel [0] (by decide) rfl), (Inc.rfl _)⟩) rfl (fun w' hw' => (E.load rfl (run_load0 Tryz.isAgg3 (hw'.use fun _ st => hall609 _ _ _ 0 st rfl) rfl))) ?_
                          refine FB.all1 (i := 6) (by kernel_rfl) ?_
                          ·
                            refine FC.call (l' := (bs 15 4095)) rfl (by kernel_rfl) rfl rfl rfl (E.call Tryz.call116 (A1 rfl)) (w_spec_l2Var S588.sl x595) ?_
                            rintro e w598 ⟨rfl, r599⟩
                            refine ⟨_, rfl, ?_⟩
                            have S600 := S588.call r599
                            refine ⟨(SP.nil ⟨_, (S600.sel [0] (by decide) rfl), (Inc.rfl _)⟩), ?_⟩
                            refine FB.all1 (i := 12) (by kernel_rfl) ?_
                            ·
                              refine FC.call (l' := (bs 15 8191)) rfl (by kernel_rfl) rfl rfl rfl (E.call Tryz.call189 (A2 rfl rfl)) (w_spec_l17Literal S600.sl a0.vars x607 hr611) ?_
                              rintro e w613 ⟨H612, v616, rfl, r615, h617⟩
                              refine ⟨_, rfl, ?_⟩
                              have nv618 : New H440 [v616] := New.of_up S600.sl h617.dom
                              have h617 := h617.mono (up_le S600.size)
                              have S614 := S600.call r615
                              refine ⟨(SP.nil ⟨_, (S614.sel [0] (by decide) rfl), r615.inc⟩), ?_⟩
                              refine FB.all1 (i := 13) (by kernel_rfl) ?_
                              ·
                                have S621 : St Ha wa H612 w613 [.row 129 6 v306 n307 cs308, .row 3 1 v184 n185 cs186, .row 3 1 v40 n41 cs42] := S614.front 2 rfl rfl
                                refine FC.call (l' := (bs 15 16383)) rfl (by kernel_rfl) rfl rfl rfl (E.call Tryz.call132 (A6 rfl rfl rfl rfl rfl rfl)) (w_spec_l17Add (L := [.row 3 1 v184 n185 cs186, .row 3 1 v40 n41 cs42]) S621 s305.1 (els309.mono r615.inc) 2 (PF.spec_l2Var x595) 0 0 r610 v616 (h617.mono upI) hr620) ?_
                                rintro e w623 ⟨H622, v626, n627, cs628, rfl, ⟨S624, i625⟩, els629⟩
                                refine ⟨_, rfl, ?_⟩
                                have S624 : St Ha wa H622 w623 [.row 129 6 v626 n627 cs628, .row 3 1 v184 n185 cs186, .row 3 1 v40 n41 cs42] := S624
                                refine ⟨(SP.nil ⟨_, (S624.sel [1] (by decide) rfl), (r615.inc.tr i625)⟩), ?_⟩
                                refine FB.t (i := 14) (bs 15 32767) rfl (SP.nil ⟨_, (S624.sel [1] (by decide) rfl), (r615.inc.tr i625)⟩) rfl (fun w' hw' => (E.assign (v := v626) rfl)) ?_
                                exact FB.done (by kernel_rfl) ⟨_, _, _, _, (S624.sel [1, 2, 0] (by decide) rfl), (r615.inc.tr i625), els629, k445, rfl, k447, k448, k449⟩
                        ·
                          rintro f638 w637 ⟨H634, v630, n631, cs632, S635, i636, els633, k639, k640, k641, k642, k643⟩
                          refine FW.seq ?_
                          obtain ⟨x676, hx677, hp⟩ := bnd hp
                          obtain ⟨x699, hx700, hp⟩ := bnd hp
                          obtain ⟨r704, hr705, hp⟩ := bnd hp
                          obtain ⟨r717, hr718, hp⟩ := bnd hp
                          refine FW.drawB (Sl H634) (fun f w => ∃ H : GH, ∃ v748 : Value, ∃ n749 : Nat, ∃ cs750 : List Value, St Ha wa H w [.row 3 1 v184 n185 cs186, .row 3 1 v40 n41 cs42, .row 129 6 v748 n749 cs750] ∧ Inc H634 H ∧ Els H ePlaneStep 6 cs750 r717 ∧ f 0 = Value.int .i64 a0.vars ∧ f 1 = v748 ∧ f 3 = v184 ∧ f 10 = Value.int .i64 s305.2.2) (by kernel_rfl) S635.sl ?_ ?_
                          ·
                            intro w644 r645
                            have S646 := S635.call r645
                            refine FB.t (i := 0) (bs 20 1) rfl (SP.nil S646.sl) rfl (fun w' hw' => (E.move k640)) ?_
                            refine FB.t (i := 1) (bs 20 3) rfl (SP.nil S646.sl) rfl (fun w' hw' => (E.move k641)) ?_
                            refine FB.t (i := 2) (bs 20 7) rfl (SP.nil S646.sl) rfl (fun w' hw' => (E.move k640)) ?_
                            refine FB.t (i := 3) (bs 20 15) rfl (SP.nil S646.sl) rfl (fun w' hw' => (E.lenOW te45 rfl S646 (i := 2) rfl els633 (by decide))) ?_
                            refine FB.t (i := 4) (bs 20 31) rfl (SP.nil S646.sl) rfl (fun w' hw' => (E.sub rfl rfl)) ?_
                            refine FB.t (i := 5) (bs 20 63) rfl (SP.nil S646.sl) rfl (fun w' hw' => (E.move k640)) ?_
                            refine FB.t (i := 6) (bs 20 127) rfl (SP.nil S646.sl) rfl (fun w' hw' => (E.move k641)) ?_
                            obtain ⟨p670, cs671, pt672, l673, at674, rel675, hall678⟩ := S646.row_atA (i := 2) rfl els633 (by decide) hx677
                            obtain ⟨v679, rfl, h680⟩ := ePlaneStep_open rel675
                            refine FB.t (i := 7) (bs 20 255) rfl (SP.nil S646.sl) rfl (fun w' hw' => (E.indexAddr te45 rfl rfl pt672)) ?_
                            refine FB.t (i := 8) (bs 20 511) rfl (SP.nil S646.sl) rfl (fun w' hw' => (E.fieldAddr tf129_0 rfl)) ?_
                            refine FB.phase [18] (fun w' => WAt w' p670 [v679, Value.int .i64 x676.ineq.bound, Value.int .i64 x676.kind, Value.int .i64 x676.a, Value.int .i64 x676.b, Value.int .i64 x676.k]) ?_
                            refine FB.p (i := 9) (bs 20 1023) 0 [17, 18, 19] rfl (SP.on (hall678 _ _ _ 2 S646 rfl) (SP.nil S646.sl)) rfl rfl (fun w' hw' => (E.load rfl (run_loadA Tryz.isAgg127 Tryz.sizeOf127 (hw'.sub (j := 0) (n := 2) (c := [v679, Value.int .i64 x676.ineq.bound]) rfl) rfl))) ?_
                            refine FB.t (i := 10) (bs 20 2047) rfl (SP.on (hall678 _ _ _ 2 S646 rfl) (SP.nil S646.sl)) rfl (fun w' hw' => (E.move k640)) ?_
                            refine FB.t (i := 11) (bs 20 4095) rfl (SP.on (hall678 _ _ _ 2 S646 rfl) (SP.nil S646.sl)) rfl (fun w' hw' => (E.move k640)) ?_
                            refine FB.t (i := 12) (bs 20 8191) rfl (SP.on (hall678 _ _ _ 2 S646 rfl) (SP.nil S646.sl)) rfl (fun w' hw' => (E.lenOW te45 rfl S646 (i := 2) rfl els633 (by decide))) ?_
                            refine FB.t (i := 13) (bs 20 16383) rfl (SP.on (hall678 _ _ _ 2 S646 rfl) (SP.nil S646.sl)) rfl (fun w' hw' => (E.sub rfl rfl)) ?_
                            obtain ⟨p693, cs694, pt695, l696, at697, rel698, hall701⟩ := S646.row_atA (i := 2) rfl els633 (by decide) hx700
                            obtain ⟨v702, rfl, h703⟩ := ePlaneStep_open rel698
                            refine FB.t (i := 14) (bs 20 32767) rfl (SP.on (hall678 _ _ _ 2 S646 rfl) (SP.nil S646.sl)) rfl (fun w' hw' => (E.indexAddr te45 rfl rfl pt695)) ?_
                            refine FB.t (i := 15) (bs 20 65535) rfl (SP.on (hall678 _ _ _ 2 S646 rfl) (SP.nil S646.sl)) rfl (fun w' hw' => (E.fieldAddr tf129_0 rfl)) ?_
                            refine FB.phase [18] (fun w' => WAt w' p693 [v702, Value.int .i64 x699.ineq.bound, Value.int .i64 x699.kind, Value.int .i64 x699.a, Value.int .i64 x699.b, Value.int .i64 x699.k]) ?_
                            refine FB.p (i := 16) (bs 20 131071) 0 [17, 18, 19] rfl (SP.on (hall701 _ _ _ 2 S646 rfl) (SP.on (hall678 _ _ _ 2 S646 rfl) (SP.nil S646.sl))) rfl rfl (fun w' hw' => (E.load rfl (run_loadA Tryz.isAgg127 Tryz.sizeOf127 (hw'.sub (j := 0) (n := 2) (c := [v702, Value.int .i64 x699.ineq.bound]) rfl) rfl))) ?_
                            refine FB.all1 (i := 17) (by kernel_rfl) ?_
                            ·
                              refine FC.call (l' := (bs 20 262143)) rfl (by kernel_rfl) rfl rfl rfl (E.call Tryz.call137 (A2 rfl rfl)) (w_spec_l16Add S646.sl x676.ineq v679 h680 x699.ineq v702 h703 hr705) ?_
                              rintro e w707 ⟨H706, v710, rfl, r709, h711⟩
                              refine ⟨_, rfl, ?_⟩
                              have nv712 : New H634 [v710] := New.of_up S646.sl h711.dom
                              have h711 := h711.mono (up_le S646.size)
                              have S708 := S646.call r709
                              refine ⟨(SP.on (hall701 _ _ _ 2 S708 rfl) (SP.on (hall678 _ _ _ 2 S708 rfl) (SP.nil (Sl.of_inc r709.inc S708.sl)))), ?_⟩
                              refine FB.all1 (i := 18) (by kernel_rfl) ?_
                              ·
                                have S719 : St Ha wa H706 w707 [.row 129 6 v630 n631 cs632, .row 3 1 v184 n185 cs186, .row 3 1 v40 n41 cs42] := S708.front 2 rfl rfl
                                refine FC.call (l' := (bs 20 524287)) rfl (by kernel_rfl) rfl rfl rfl (E.call Tryz.call132 (A6 rfl rfl rfl rfl rfl rfl)) (w_spec_l17Add (L := [.row 3 1 v184 n185 cs186, .row 3 1 v40 n41 cs42]) S719 r619 (els633.mono r709.inc) 4 s305.2.1 (wr ((len r619) - 1)) 0 r704 v710 (h711.mono upI) hr718) ?_
                                rintro e w721 ⟨H720, v724, n725, cs726, rfl, ⟨S722, i723⟩, els727⟩
                                refine ⟨_, rfl, ?_⟩
                                have S722 : St Ha wa H720 w721 [.row 129 6 v724 n725 cs726, .row 3 1 v184 n185 cs186, .row 3 1 v40 n41 cs42] := S722
                                refine ⟨(SP.o (SP.o (SP.nil (Sl.of_inc (r709.inc.tr i723) S722.sl)))), ?_⟩
                                refine FB.t (i := 19) (bs 20 1048575) rfl (SP.o (SP.o (SP.nil (Sl.of_inc (r709.inc.tr i723) S722.sl)))) rfl (fun w' hw' => (E.assign (v := v724) rfl)) ?_
                                exact FB.done (by kernel_rfl) ⟨_, _, _, _, (S722.sel [1, 2, 0] (by decide) rfl), (r709.inc.tr i723), els727, k639, rfl, k642, k643⟩
                          ·
                            rintro f756 w755 ⟨H752, v748, n749, cs750, S753, i754, els751, k757, k758, k759, k760⟩
                            refine FW.region ?_
                            refine FL.v (E.move k758) ?_
                            refine FL.v (E.lenO te45 rfl S753 (i := 2) rfl els751 (by decide)) ?_
                            refine FL.v (E.sub rfl rfl) ?_
                            refine FL.v (E.assign (v := Value.int .i64 (wr ((len r717) - 1))) rfl) ?_
                            refine FL.nil (FW.region ?_)
                            refine FL.v (E.move k760) ?_
                            refine FL.v (E.add rfl rfl) ?_
                            refine FL.v (E.assign (v := Value.int .i64 (wr (s305.2.2 + 1))) rfl) ?_
                            refine FL.nil ?_
                            obtain rfl := Option.some.inj hp
                            exact ⟨rfl, ⟨_, _, _, _, S753, ((i442.tr i636).tr i754), els751, k757, k758, rfl, k759, rfl⟩⟩
                    ·
                      refine FW.condF rfl c450 ?_
                      refine FW.exit ?_
                      obtain rfl := Option.some.inj hp
                      exact ⟨nofun, rfl, ⟨_, _, _, _, S441, i442, els309, k446, k447⟩⟩
                  ·
                    clear hq
                    intro e f766 w765 hD
                    rcases q305 with s305 | x305
                    ·
                      obtain ⟨rfl, hD⟩ := hD
                      obtain ⟨H762, v306, n307, cs308, S763, i764, els309, k767, k768⟩ := hD
                      replace hp := el_go hp
                      refine FW.seq (FW.region ?_)
                      refine FL.v (E.move k767) ?_
                      refine FL.v (E.move k768) ?_
                      refine FL.v (E.assign (v := v306) rfl) ?_
                      refine FL.v (E.assign (v := Value.int .i64 s305.2.1) rfl) ?_
                      refine FL.nil ?_
                      refine FW.ret ?_
                      obtain rfl := Option.some.inj hp
                      exact ⟨.inr rfl, res2 rfl rfl rfl (by rw [hR300]; exact ⟨_, _, _, _, rfl, S763, i764, els309⟩)⟩
                    · exact x305.elim
                clear hq300
                refine FC.call (l' := (bs 23 262143)) rfl (by kernel_rfl) rfl rfl rfl (E.call Tryz.call135 (A4 rfl rfl rfl rfl)) hc300 ?_
                intro e w772 hQ300
                rw [hR300] at hQ300
                obtain ⟨H769, v301, n302, cs303, rfl, S770, i771, els304⟩ := hQ300
                refine ⟨_, rfl, ?_⟩
                refine ⟨(SP.nil ⟨_, (S770.sel [1] (by decide) rfl), (r183.run.inc.tr i771)⟩), ?_⟩
                refine FB.t (i := 18) (bs 23 524287) rfl (SP.nil ⟨_, (S770.sel [1] (by decide) rfl), (r183.run.inc.tr i771)⟩) rfl (fun w' hw' => (E.move (v := Value.tuple #[v301, Value.int .i64 s300.2]) rfl)) ?_
                refine FB.t (i := 19) (bs 23 1048575) rfl (SP.nil ⟨_, (S770.sel [1] (by decide) rfl), (r183.run.inc.tr i771)⟩) rfl (fun w' hw' => (E.extract (i := 0) rfl rfl)) ?_
                refine FB.t (i := 20) (bs 23 2097151) rfl (SP.nil ⟨_, (S770.sel [1] (by decide) rfl), (r183.run.inc.tr i771)⟩) rfl (fun w' hw' => (E.extract (i := 1) rfl rfl)) ?_
                refine FB.t (i := 21) (bs 23 4194303) rfl (SP.nil ⟨_, (S770.sel [1] (by decide) rfl), (r183.run.inc.tr i771)⟩) rfl (fun w' hw' => (E.assign (v := v301) rfl)) ?_
                refine FB.t (i := 22) (bs 23 8388607) rfl (SP.nil ⟨_, (S770.sel [1] (by decide) rfl), (r183.run.inc.tr i771)⟩) rfl (fun w' hw' => (E.assign (v := Value.int .i64 s300.2) rfl)) ?_
                exact FB.done (by kernel_rfl) ⟨_, _, _, _, (S770.sel [1, 2] (by decide) rfl), (r183.run.inc.tr i771), els304, k64, k65, rfl, k67, k68, rfl⟩
          ·
            rintro f196 w195 ⟨H192, v188, n189, cs190, S193, i194, els191, k197, k198, k199, k200, k201, k202⟩
            refine FW.region ?_
            refine FL.v (E.move k200) ?_
            refine FL.v (E.move k202) ?_
            obtain ⟨v203, w204, run205, S206⟩ := S193.buildSlice (P := Tryz.prog) te73 [Value.int .i64 s300.2] (parts := #[(0, Value.int .i64 s300.2)]) (cells := [Value.int .i64 s300.2]) rfl (szs_cons rfl szs_nil) (fc_cons rfl fc_nil) (ones_cons rfl ones_nil) (Nat.le_of_ble_eq_true rfl)
            have els207 : Els (up wa.heap.size H192) eI 1 [Value.int .i64 s300.2] [s300.2] := (Els.snoc (H := (up wa.heap.size H192)) (E := eI) (k := 1) (c := [Value.int .i64 s300.2]) (x := s300.2) Els.nil rfl rfl)
            refine FL.v (E.buildSlice (B1 rfl) run205) ?_
            obtain ⟨xs208, hz209, hp⟩ := bnd hp
            obtain ⟨v210, w213, n211, cs212, run214, S215, els216, ce217⟩ := S206.appendO (P := Tryz.prog) te73 (i := 1) (j := 0) rfl (els43.mono (up_mono ((i60.tr i92).tr i194))) rfl els207 hz209
            have S215 : St Ha wa H192 w213 [.row 3 1 v203 1 [Value.int .i64 s300.2], .row 3 1 v210 n211 cs212, .row 129 6 v188 n189 cs190] := S215
            have S218 : St Ha wa H192 w213 [.row 3 1 v210 n211 cs212, .row 129 6 v188 n189 cs190] := S215.drop 0
            refine FL.v (E.append rfl rfl run214) ?_
            refine FL.v (E.assign (v := v210) rfl) ?_
            refine FL.nil (FW.region ?_)
            refine FL.v (E.move k201) ?_
            refine FL.v (E.add rfl rfl) ?_
            refine FL.v (E.assign (v := Value.int .i64 (wr (s39.2.2 + 1))) rfl) ?_
            refine FL.nil ?_
            obtain rfl := Option.some.inj hp
            exact ⟨rfl, ⟨_, _, _, _, _, _, _, S218, (((i50.tr i60).tr i92).tr i194), els216, els191, k197, k198, k199, rfl, rfl⟩⟩
        ·
          refine FW.condF rfl c155 ?_
          refine FW.seq ?_
          obtain ⟨x228, hx229, hp⟩ := bnd hp
          obtain ⟨x237, hx238, hp⟩ := bnd hp
          obtain ⟨x246, hx247, hp⟩ := bnd hp
          obtain ⟨x255, hx256, hp⟩ := bnd hp
          obtain ⟨x266, hx267, hp⟩ := bnd hp
          obtain ⟨x275, hx276, hp⟩ := bnd hp
          obtain ⟨r280, hr281, hp⟩ := bnd hp
          obtain ⟨r289, hr290, hp⟩ := bnd hp
          refine FW.drawB (SX Ha wa H90 [.row 3 1 v40 n41 cs42]) (fun f w => ∃ H : GH, ∃ v310 : Value, ∃ n311 : Nat, ∃ cs312 : List Value, St Ha wa H w [.row 3 1 v40 n41 cs42, .row 129 6 v310 n311 cs312] ∧ Inc H90 H ∧ Els H ePlaneStep 6 cs312 r289 ∧ f 1 = v1 ∧ f 2 = Value.pointer (some ⟨b21, 0, none⟩) ∧ f 6 = v310 ∧ f 7 = v40 ∧ f 8 = Value.int .i64 s39.2.2 ∧ f 9 = Value.pointer (some ⟨b82, 0, none⟩)) (by kernel_rfl) S154.sl ?_ ?_
          ·
            intro w219 r220
            have S221 := S154.call r220
            refine FB.t (i := 0) (bs 32 1) rfl (SP.nil ⟨_, (S221.sel [0] (by decide) rfl), (Inc.rfl _)⟩) rfl (fun w' hw' => (E.move k66)) ?_
            refine FB.t (i := 1) (bs 32 3) rfl (SP.nil ⟨_, (S221.sel [0] (by decide) rfl), (Inc.rfl _)⟩) rfl (fun w' hw' => (E.move k67)) ?_
            refine FB.t (i := 2) (bs 32 7) rfl (SP.nil ⟨_, (S221.sel [0] (by decide) rfl), (Inc.rfl _)⟩) rfl (fun w' hw' => (E.fieldAddr tf88_1 rfl)) ?_
            refine FB.t (i := 3) (bs 32 15) rfl (SP.nil ⟨_, (S221.sel [0] (by decide) rfl), (Inc.rfl _)⟩) rfl (fun w' hw' => (E.load rfl (run_load1 Tryz.isAgg3 (at93.now hw'.sl) rfl))) ?_
            obtain ⟨p222, cs223, pt224, l225, at226, rel227, hall230⟩ := S221.row_atA (i := 0) rfl els43 (by decide) hx229
            obtain rfl := eI_open rel227
            refine FB.t (i := 4) (bs 32 31) rfl (SP.nil ⟨_, (S221.sel [0] (by decide) rfl), (Inc.rfl _)⟩) rfl (fun w' hw' => (E.indexAddr te73 rfl rfl pt224)) ?_
            refine FB.t (i := 5) (bs 32 63) rfl (SP.nil ⟨_, (S221.sel [0] (by decide) rfl), (Inc.rfl _)⟩) rfl (fun w' hw' => (E.load rfl (run_load0 Tryz.isAgg3 (hw'.use fun _ st => hall230 _ _ _ 0 st rfl) rfl))) ?_
            refine FB.t (i := 6) (bs 32 127) rfl (SP.nil ⟨_, (S221.sel [0] (by decide) rfl), (Inc.rfl _)⟩) rfl (fun w' hw' => (E.move k67)) ?_
            refine FB.t (i := 7) (bs 32 255) rfl (SP.nil ⟨_, (S221.sel [0] (by decide) rfl), (Inc.rfl _)⟩) rfl (fun w' hw' => (E.fieldAddr tf88_2 rfl)) ?_
            refine FB.t (i := 8) (bs 32 511) rfl (SP.nil ⟨_, (S221.sel [0] (by decide) rfl), (Inc.rfl _)⟩) rfl (fun w' hw' => (E.load rfl (run_load1 Tryz.isAgg3 (at93.now hw'.sl) rfl))) ?_
            obtain ⟨p231, cs232, pt233, l234, at235, rel236, hall239⟩ := S221.row_atA (i := 0) rfl els43 (by decide) hx238
            obtain rfl := eI_open rel236
            refine FB.t (i := 9) (bs 32 1023) rfl (SP.nil ⟨_, (S221.sel [0] (by decide) rfl), (Inc.rfl _)⟩) rfl (fun w' hw' => (E.indexAddr te73 rfl rfl pt233)) ?_
            refine FB.t (i := 10) (bs 32 2047) rfl (SP.nil ⟨_, (S221.sel [0] (by decide) rfl), (Inc.rfl _)⟩) rfl (fun w' hw' => (E.load rfl (run_load0 Tryz.isAgg3 (hw'.use fun _ st => hall239 _ _ _ 0 st rfl) rfl))) ?_
            refine FB.t (i := 11) (bs 32 4095) rfl (SP.nil ⟨_, (S221.sel [0] (by decide) rfl), (Inc.rfl _)⟩) rfl (fun w' hw' => (E.move k66)) ?_
            refine FB.t (i := 12) (bs 32 8191) rfl (SP.nil ⟨_, (S221.sel [0] (by decide) rfl), (Inc.rfl _)⟩) rfl (fun w' hw' => (E.move k67)) ?_
            refine FB.t (i := 13) (bs 32 16383) rfl (SP.nil ⟨_, (S221.sel [0] (by decide) rfl), (Inc.rfl _)⟩) rfl (fun w' hw' => (E.fieldAddr tf88_1 rfl)) ?_
            refine FB.t (i := 14) (bs 32 32767) rfl (SP.nil ⟨_, (S221.sel [0] (by decide) rfl), (Inc.rfl _)⟩) rfl (fun w' hw' => (E.load rfl (run_load1 Tryz.isAgg3 (at93.now hw'.sl) rfl))) ?_
            obtain ⟨p240, cs241, pt242, l243, at244, rel245, hall248⟩ := S221.row_atA (i := 0) rfl els43 (by decide) hx247
            obtain rfl := eI_open rel245
            refine FB.t (i := 15) (bs 32 65535) rfl (SP.nil ⟨_, (S221.sel [0] (by decide) rfl), (Inc.rfl _)⟩) rfl (fun w' hw' => (E.indexAddr te73 rfl rfl pt242)) ?_
            refine FB.t (i := 16) (bs 32 131071) rfl (SP.nil ⟨_, (S221.sel [0] (by decide) rfl), (Inc.rfl _)⟩) rfl (fun w' hw' => (E.load rfl (run_load0 Tryz.isAgg3 (hw'.use fun _ st => hall248 _ _ _ 0 st rfl) rfl))) ?_
            obtain ⟨p249, cs250, pt251, l252, at253, rel254, hall257⟩ := S221.row_atA (i := 1) rfl els47 (by decide) hx256
            obtain ⟨v258, rfl, h259⟩ := ePlaneStep_open rel254
            refine FB.t (i := 17) (bs 32 262143) rfl (SP.nil ⟨_, (S221.sel [0] (by decide) rfl), (Inc.rfl _)⟩) rfl (fun w' hw' => (E.indexAddr te45 rfl rfl pt251)) ?_
            refine FB.t (i := 18) (bs 32 524287) rfl (SP.nil ⟨_, (S221.sel [0] (by decide) rfl), (Inc.rfl _)⟩) rfl (fun w' hw' => (E.fieldAddr tf129_0 rfl)) ?_
            refine FB.phase [30] (fun w' => WAt w' p249 [v258, Value.int .i64 x255.ineq.bound, Value.int .i64 x255.kind, Value.int .i64 x255.a, Value.int .i64 x255.b, Value.int .i64 x255.k]) ?_
            refine FB.p (i := 19) (bs 32 1048575) 0 [29, 30, 31] rfl (SP.on (hall257 _ _ _ 1 S221 rfl) (SP.nil ⟨_, (S221.sel [0] (by decide) rfl), (Inc.rfl _)⟩)) rfl rfl (fun w' hw' => (E.load rfl (run_loadA Tryz.isAgg127 Tryz.sizeOf127 (hw'.sub (j := 0) (n := 2) (c := [v258, Value.int .i64 x255.ineq.bound]) rfl) rfl))) ?_
            refine FB.t (i := 20) (bs 32 2097151) rfl (SP.on (hall257 _ _ _ 1 S221 rfl) (SP.nil ⟨_, (S221.sel [0] (by decide) rfl), (Inc.rfl _)⟩)) rfl (fun w' hw' => (E.move k66)) ?_
            refine FB.t (i := 21) (bs 32 4194303) rfl (SP.on (hall257 _ _ _ 1 S221 rfl) (SP.nil ⟨_, (S221.sel [0] (by decide) rfl), (Inc.rfl _)⟩)) rfl (fun w' hw' => (E.move k67)) ?_
            refine FB.t (i := 22) (bs 32 8388607) rfl (SP.on (hall257 _ _ _ 1 S221 rfl) (SP.nil ⟨_, (S221.sel [0] (by decide) rfl), (Inc.rfl _)⟩)) rfl (fun w' hw' => (E.fieldAddr tf88_2 rfl)) ?_
            refine FB.t (i := 23) (bs 32 16777215) rfl (SP.on (hall257 _ _ _ 1 S221 rfl) (SP.nil ⟨_, (S221.sel [0] (by decide) rfl), (Inc.rfl _)⟩)) rfl (fun w' hw' => (E.load rfl (run_load1 Tryz.isAgg3 (at93.now hw'.sl) rfl))) ?_
            obtain ⟨p260, cs261, pt262, l263, at264, rel265, hall268⟩ := S221.row_atA (i := 0) rfl els43 (by decide) hx267
            obtain rfl := eI_open rel265
            refine FB.t (i := 24) (bs 32 33554431) rfl (SP.on (hall257 _ _ _ 1 S221 rfl) (SP.nil ⟨_, (S221.sel [0] (by decide) rfl), (Inc.rfl _)⟩)) rfl (fun w' hw' => (E.indexAddr te73 rfl rfl pt262)) ?_
            refine FB.t (i := 25) (bs 32 67108863) rfl (SP.on (hall257 _ _ _ 1 S221 rfl) (SP.nil ⟨_, (S221.sel [0] (by decide) rfl), (Inc.rfl _)⟩)) rfl (fun w' hw' => (E.load rfl (run_load0 Tryz.isAgg3 (hw'.use fun _ st => hall268 _ _ _ 0 st rfl) rfl))) ?_
            obtain ⟨p269, cs270, pt271, l272, at273, rel274, hall277⟩ := S221.row_atA (i := 1) rfl els47 (by decide) hx276
            obtain ⟨v278, rfl, h279⟩ := ePlaneStep_open rel274
            refine FB.t (i := 26) (bs 32 134217727) rfl (SP.on (hall257 _ _ _ 1 S221 rfl) (SP.nil ⟨_, (S221.sel [0] (by decide) rfl), (Inc.rfl _)⟩)) rfl (fun w' hw' => (E.indexAddr te45 rfl rfl pt271)) ?_
            refine FB.t (i := 27) (bs 32 268435455) rfl (SP.on (hall257 _ _ _ 1 S221 rfl) (SP.nil ⟨_, (S221.sel [0] (by decide) rfl), (Inc.rfl _)⟩)) rfl (fun w' hw' => (E.fieldAddr tf129_0 rfl)) ?_
            refine FB.phase [30] (fun w' => WAt w' p269 [v278, Value.int .i64 x275.ineq.bound, Value.int .i64 x275.kind, Value.int .i64 x275.a, Value.int .i64 x275.b, Value.int .i64 x275.k]) ?_
            refine FB.p (i := 28) (bs 32 536870911) 0 [29, 30, 31] rfl (SP.on (hall277 _ _ _ 1 S221 rfl) (SP.on (hall257 _ _ _ 1 S221 rfl) (SP.nil ⟨_, (S221.sel [0] (by decide) rfl), (Inc.rfl _)⟩))) rfl rfl (fun w' hw' => (E.load rfl (run_loadA Tryz.isAgg127 Tryz.sizeOf127 (hw'.sub (j := 0) (n := 2) (c := [v278, Value.int .i64 x275.ineq.bound]) rfl) rfl))) ?_
            refine FB.all1 (i := 29) (by kernel_rfl) ?_
            ·
              refine FC.call (l' := (bs 32 1073741823)) rfl (by kernel_rfl) rfl rfl rfl (E.call Tryz.call137 (A2 rfl rfl)) (w_spec_l16Add S221.sl x255.ineq v258 (h259.mono (i60.tr i92)) x275.ineq v278 (h279.mono (i60.tr i92)) hr281) ?_
              rintro e w283 ⟨H282, v286, rfl, r285, h287⟩
              refine ⟨_, rfl, ?_⟩
              have nv288 : New H90 [v286] := New.of_up S221.sl h287.dom
              have h287 := h287.mono (up_le S221.size)
              have S284 := S221.call r285
              refine ⟨(SP.on (hall277 _ _ _ 1 S284 rfl) (SP.on (hall257 _ _ _ 1 S284 rfl) (SP.nil ⟨_, (S284.sel [0] (by decide) rfl), r285.inc⟩))), ?_⟩
              refine FB.all1 (i := 30) (by kernel_rfl) ?_
              ·
                have S291 : St Ha wa H282 w283 [.row 129 6 v44 n45 cs46, .row 3 1 v40 n41 cs42] := S284.front 1 rfl rfl
                refine FC.call (l' := (bs 32 2147483647)) rfl (by kernel_rfl) rfl rfl rfl (E.call Tryz.call132 (A6 rfl rfl rfl rfl rfl rfl)) (w_spec_l17Add (L := [.row 3 1 v40 n41 cs42]) S291 s39.2.1 (els47.mono ((i60.tr i92).tr r285.inc)) 4 x228 x237 0 r280 v286 (h287.mono upI) hr290) ?_
                rintro e w293 ⟨H292, v296, n297, cs298, rfl, ⟨S294, i295⟩, els299⟩
                refine ⟨_, rfl, ?_⟩
                have S294 : St Ha wa H292 w293 [.row 129 6 v296 n297 cs298, .row 3 1 v40 n41 cs42] := S294
                refine ⟨(SP.o (SP.o (SP.nil ⟨_, (S294.sel [1] (by decide) rfl), (r285.inc.tr i295)⟩))), ?_⟩
                refine FB.t (i := 31) (bs 32 4294967295) rfl (SP.o (SP.o (SP.nil ⟨_, (S294.sel [1] (by decide) rfl), (r285.inc.tr i295)⟩))) rfl (fun w' hw' => (E.assign (v := v296) rfl)) ?_
                exact FB.done (by kernel_rfl) ⟨_, _, _, _, (S294.sel [1, 0] (by decide) rfl), (r285.inc.tr i295), els299, k64, k65, rfl, k67, k68, rfl⟩
          ·
            rintro f318 w317 ⟨H314, v310, n311, cs312, S315, i316, els313, k319, k320, k321, k322, k323, k324⟩
            refine FW.seq (FW.region ?_)
            refine FL.v (E.assign (v := Value.int .i64 0) rfl) ?_
            refine FL.nil (FW.seq ?_)
            obtain ⟨x334, hx335, hp⟩ := bnd hp
            obtain ⟨x344, hx345, hp⟩ := bnd hp
            obtain ⟨r348, hr349, hp⟩ := bnd hp
            obtain ⟨s521, hq521, hp⟩ := bnd hp
            refine FW.drawB (Sl H314) (fun f w => ∃ H : GH, ∃ v358 : Value, ∃ n359 : Nat, ∃ cs360 : List Value, St Ha wa H w [.row 3 1 v40 n41 cs42, .row 129 6 v358 n359 cs360] ∧ Inc H314 H ∧ Els H ePlaneStep 6 cs360 s521.1 ∧ f 1 = v1 ∧ f 2 = Value.pointer (some ⟨b21, 0, none⟩) ∧ f 6 = v358 ∧ f 7 = v40 ∧ f 8 = Value.int .i64 s39.2.2 ∧ f 11 = Value.int .i64 s521.2) (by kernel_rfl) S315.sl ?_ ?_
            ·
              intro w325 r326
              have S327 := S315.call r326
              refine FB.t (i := 0) (bs 27 1) rfl (SP.nil S327.sl) rfl (fun w' hw' => (E.fieldAddr tf32_0 k320)) ?_
              refine FB.t (i := 1) (bs 27 3) rfl (SP.nil S327.sl) rfl (fun w' hw' => (E.load rfl (run_load1 Tryz.isAgg3 ((at28.mono (((i50.tr i60).tr i92).tr i316)).now hw') rfl))) ?_
              refine FB.t (i := 2) (bs 27 7) rfl (SP.nil S327.sl) rfl (fun w' hw' => (E.move k321)) ?_
              refine FB.t (i := 3) (bs 27 15) rfl (SP.nil S327.sl) rfl (fun w' hw' => (E.move k321)) ?_
              refine FB.t (i := 4) (bs 27 31) rfl (SP.nil S327.sl) rfl (fun w' hw' => (E.lenOW te45 rfl S327 (i := 1) rfl els313 (by decide))) ?_
              refine FB.t (i := 5) (bs 27 63) rfl (SP.nil S327.sl) rfl (fun w' hw' => (E.sub rfl rfl)) ?_
              refine FB.t (i := 6) (bs 27 127) rfl (SP.nil S327.sl) rfl (fun w' hw' => (E.fieldAddr tf88_0 k324)) ?_
              refine FB.t (i := 7) (bs 27 255) rfl (SP.nil S327.sl) rfl (fun w' hw' => (E.load rfl (run_load1 Tryz.isAgg73 ((at93.mono i316).now hw') rfl))) ?_
              refine FB.t (i := 8) (bs 27 511) rfl (SP.nil S327.sl) rfl (fun w' hw' => (E.move k319)) ?_
              refine FB.t (i := 9) (bs 27 1023) rfl (SP.nil S327.sl) rfl (fun w' hw' => (E.fieldAddr tf88_1 k324)) ?_
              refine FB.t (i := 10) (bs 27 2047) rfl (SP.nil S327.sl) rfl (fun w' hw' => (E.load rfl (run_load1 Tryz.isAgg3 ((at93.mono i316).now hw') rfl))) ?_
              obtain ⟨p328, cs329, pt330, l331, at332, rel333⟩ := p1.at hx335
              obtain ⟨v336, rfl, h337⟩ := eResStep_open rel333
              refine FB.t (i := 11) (bs 27 4095) rfl (SP.nil S327.sl) rfl (fun w' hw' => (E.indexAddr te34 rfl rfl pt330)) ?_
              refine FB.t (i := 12) (bs 27 8191) rfl (SP.nil S327.sl) rfl (fun w' hw' => (E.fieldAddr tf88_0 rfl)) ?_
              refine FB.t (i := 13) (bs 27 16383) rfl (SP.nil S327.sl) rfl (fun w' hw' => (E.load rfl (run_load1 Tryz.isAgg73 ((at332.mono ((((i27.tr i50).tr i60).tr i92).tr i316)).now hw') rfl))) ?_
              refine FB.t (i := 14) (bs 27 32767) rfl (SP.nil S327.sl) rfl (fun w' hw' => (E.move k319)) ?_
              refine FB.t (i := 15) (bs 27 65535) rfl (SP.nil S327.sl) rfl (fun w' hw' => (E.fieldAddr tf88_2 k324)) ?_
              refine FB.t (i := 16) (bs 27 131071) rfl (SP.nil S327.sl) rfl (fun w' hw' => (E.load rfl (run_load1 Tryz.isAgg3 ((at93.mono i316).now hw') rfl))) ?_
              obtain ⟨p338, cs339, pt340, l341, at342, rel343⟩ := p1.at hx345
              obtain ⟨v346, rfl, h347⟩ := eResStep_open rel343
              refine FB.t (i := 17) (bs 27 262143) rfl (SP.nil S327.sl) rfl (fun w' hw' => (E.indexAddr te34 rfl rfl pt340)) ?_
              refine FB.t (i := 18) (bs 27 524287) rfl (SP.nil S327.sl) rfl (fun w' hw' => (E.fieldAddr tf88_0 rfl)) ?_
              refine FB.t (i := 19) (bs 27 1048575) rfl (SP.nil S327.sl) rfl (fun w' hw' => (E.load rfl (run_load1 Tryz.isAgg73 ((at342.mono ((((i27.tr i50).tr i60).tr i92).tr i316)).now hw') rfl))) ?_
              refine FB.all1 (i := 20) (by kernel_rfl) ?_
              ·
                refine FC.call (l' := (bs 27 2097151)) rfl (by kernel_rfl) rfl rfl rfl (E.call Tryz.call138 (A3 rfl rfl rfl)) (w_spec_l17Single S327.sl v80 x78.clause (h81.mono ((((i27.tr i50).tr i60).tr i92).tr i316)) v336 x334.clause (h337.mono ((((i27.tr i50).tr i60).tr i92).tr i316)) v346 x344.clause (h347.mono ((((i27.tr i50).tr i60).tr i92).tr i316)) hr349) ?_
                rintro e w351 ⟨H350, v354, n355, cs356, rfl, r353, els357⟩
                refine ⟨_, rfl, ?_⟩
                have els357 := els357.mono (up_le S327.size)
                have S352 := S327.join (l' := [.row 3 1 v354 n355 cs356, .row 3 1 v40 n41 cs42, .row 129 6 v310 n311 cs312]) r353 rfl
                refine ⟨(SP.nil (Sl.of_inc r353.run.inc S352.sl)), ?_⟩
                refine FB.all1 (i := 21) (by kernel_rfl) ?_
                ·
                  obtain ⟨R521, hR521⟩ : ∃ R521 : ((List PlaneStep) × Int) → Ending → World → Prop, R521 = (fun s521 e w => ∃ H : GH, ∃ v522 : Value, ∃ n523 : Nat, ∃ cs524 : List Value, e = Ending.returned (Value.tuple #[v522, Value.int .i64 s521.2]) ∧ St Ha wa H w [.row 3 1 v354 n355 cs356, .row 3 1 v40 n41 cs42, .row 129 6 v522 n523 cs524] ∧ Inc H350 H ∧ Els H ePlaneStep 6 cs524 s521.1) := ⟨_, rfl⟩
                  have hc521 : Calls Tryz.prog 135 #[Value.int .i64 a0.vars, v310, Value.int .i64 (wr ((len r289) - 1)), v354] w351 (R521 s521) := by
                    clear hp; have hp := hq521; clear hq521
                    refine calls_go (N := 61) (args := [Value.int .i64 a0.vars, v310, Value.int .i64 (wr ((len r289) - 1)), v354]) Tryz.func135 rfl rfl rfl ?_
                    refine FW.seq (FW.region ?_)
                    refine FL.v (E.assign (v := Value.slice none 0 0) rfl) ?_
                    refine FL.v (E.assign (v := Value.int .i64 0) rfl) ?_
                    refine FL.nil (FW.seq (FW.seq (FW.region ?_)))
                    refine FL.v (E.assign (v := Value.int .i64 0) rfl) ?_
                    refine FL.nil ?_
                    obtain ⟨q526, hq, hp⟩ := bndR hp
                    refine FW.block ?_
                    refine FW.mono (FW.iter (S := ((List PlaneStep) × Int × Int)) (X := Empty) (fun (s526 : ((List PlaneStep) × Int × Int)) f w => ∃ H : GH, ∃ v527 : Value, ∃ n528 : Nat, ∃ cs529 : List Value, St Ha wa H w [.row 3 1 v354 n355 cs356, .row 3 1 v40 n41 cs42, .row 129 6 v527 n528 cs529] ∧ Inc H350 H ∧ Els H ePlaneStep 6 cs529 s526.1 ∧ f 0 = Value.int .i64 a0.vars ∧ f 1 = v527 ∧ f 2 = Value.int .i64 s526.2.1 ∧ f 3 = v354 ∧ f 10 = Value.int .i64 s526.2.2) (fun (q : Rs ((List PlaneStep) × Int × Int) Empty) e f w => match q with | .go s526 => e = Exit.exit 0 ∧ (∃ H : GH, ∃ v527 : Value, ∃ n528 : Nat, ∃ cs529 : List Value, St Ha wa H w [.row 3 1 v354 n355 cs356, .row 3 1 v40 n41 cs42, .row 129 6 v527 n528 cs529] ∧ Inc H350 H ∧ Els H ePlaneStep 6 cs529 s526.1 ∧ f 1 = v527 ∧ f 2 = Value.int .i64 s526.2.1) | .rt x => x.elim) hq ⟨_, _, _, _, S352, (Inc.rfl _), (els313.mono r353.run.inc), rfl, rfl, rfl, rfl, rfl⟩ ?_) ?_
                    ·
                      clear hp hq
                      rintro s526 f651 w650 ⟨H647, v527, n528, cs529, S648, i649, els530, k652, k653, k654, k655, k656⟩ o961 hp
                      refine FW.seq (FW.seq (FW.region ?_))
                      refine FL.v (E.move k656) ?_
                      refine FL.v (E.move k655) ?_
                      refine FL.v (E.lenO te73 rfl S648 (i := 0) rfl els357 (by decide)) ?_
                      refine FL.v (E.lss rfl rfl) ?_
                      refine FL.nil ?_
                      rcases ifB hp with ⟨c657, hp⟩ | ⟨c657, hp⟩
                      ·
                        refine FW.condT rfl c657 ?_
                        refine FW.skip (FW.seq (FW.block (FW.seq (FW.region ?_))))
                        refine FL.v (E.assign (v := Value.int .i64 2) rfl) ?_
                        refine FL.nil (FW.seq (FW.seq (FW.region ?_)))
                        refine FL.v (E.move k655) ?_
                        refine FL.v (E.move k656) ?_
                        obtain ⟨x664, hx665, hp⟩ := bnd hp
                        obtain ⟨p658, cs659, pt660, l661, at662, rel663⟩ := S648.row_at (i := 0) rfl els357 (by decide) hx665
                        obtain rfl := eI_open rel663
                        refine FL.v (E.indexAddr te73 rfl rfl pt660) ?_
                        refine FL.v (E.load rfl (run_load0 Tryz.isAgg3 at662 rfl)) ?_
                        refine FL.v (E.lss rfl rfl) ?_
                        refine FL.nil ?_
                        rcases ifB hp with ⟨c666, hp⟩ | ⟨c666, hp⟩
                        ·
                          refine FW.condT rfl c666 ?_
                          refine FW.region ?_
                          refine FL.v (E.assign (v := Value.int .i64 3) rfl) ?_
                          refine FL.nil (FW.seq ?_)
                          obtain ⟨x687, hx688, hp⟩ := bnd hp
                          obtain ⟨x714, hx715, hp⟩ := bnd hp
                          obtain ⟨r728, hr729, hp⟩ := bnd hp
                          obtain ⟨r737, hr738, hp⟩ := bnd hp
                          refine FW.drawB (SX Ha wa H647 [.row 3 1 v354 n355 cs356]) (fun f w => ∃ H : GH, ∃ v773 : Value, ∃ n774 : Nat, ∃ cs775 : List Value, St Ha wa H w [.row 3 1 v354 n355 cs356, .row 3 1 v40 n41 cs42, .row 129 6 v773 n774 cs775] ∧ Inc H647 H ∧ Els H ePlaneStep 6 cs775 r737 ∧ f 0 = Value.int .i64 a0.vars ∧ f 1 = v773 ∧ f 2 = Value.int .i64 s526.2.1 ∧ f 3 = v354 ∧ f 10 = Value.int .i64 s526.2.2) (by kernel_rfl) S648.sl ?_ ?_
                          ·
                            intro w667 r668
                            have S669 := S648.call r668
                            refine FB.t (i := 0) (bs 15 1) rfl (SP.nil ⟨_, (S669.sel [0] (by decide) rfl), (Inc.rfl _)⟩) rfl (fun w' hw' => (E.move k653)) ?_
                            refine FB.t (i := 1) (bs 15 3) rfl (SP.nil ⟨_, (S669.sel [0] (by decide) rfl), (Inc.rfl _)⟩) rfl (fun w' hw' => (E.move (v := Value.int .i64 3) rfl)) ?_
                            refine FB.t (i := 2) (bs 15 7) rfl (SP.nil ⟨_, (S669.sel [0] (by decide) rfl), (Inc.rfl _)⟩) rfl (fun w' hw' => (E.move k655)) ?_
                            refine FB.t (i := 3) (bs 15 15) rfl (SP.nil ⟨_, (S669.sel [0] (by decide) rfl), (Inc.rfl _)⟩) rfl (fun w' hw' => (E.move k656)) ?_
                            obtain ⟨p681, cs682, pt683, l684, at685, rel686, hall689⟩ := S669.row_atA (i := 0) rfl els357 (by decide) hx688
                            obtain rfl := eI_open rel686
                            refine FB.t (i := 4) (bs 15 31) rfl (SP.nil ⟨_, (S669.sel [0] (by decide) rfl), (Inc.rfl _)⟩) rfl (fun w' hw' => (E.indexAddr te73 rfl rfl pt683)) ?_
                            refine FB.t (i := 5) (bs 15 63) rfl (SP.nil ⟨_, (S669.sel [0] (by decide) rfl), (Inc.rfl _)⟩) rfl (fun w' hw' => (E.load rfl (run_load0 Tryz.isAgg3 (hw'.use fun _ st => hall689 _ _ _ 0 st rfl) rfl))) ?_
                            refine FB.t (i := 7) (bs 15 191) rfl (SP.nil ⟨_, (S669.sel [0] (by decide) rfl), (Inc.rfl _)⟩) rfl (fun w' hw' => (E.move k652)) ?_
                            refine FB.t (i := 8) (bs 15 447) rfl (SP.nil ⟨_, (S669.sel [0] (by decide) rfl), (Inc.rfl _)⟩) rfl (fun w' hw' => (E.move k655)) ?_
                            refine FB.t (i := 9) (bs 15 959) rfl (SP.nil ⟨_, (S669.sel [0] (by decide) rfl), (Inc.rfl _)⟩) rfl (fun w' hw' => (E.move k656)) ?_
                            obtain ⟨p708, cs709, pt710, l711, at712, rel713, hall716⟩ := S669.row_atA (i := 0) rfl els357 (by decide) hx715
                            obtain rfl := eI_open rel713
                            refine FB.t (i := 10) (bs 15 1983) rfl (SP.nil ⟨_, (S669.sel [0] (by decide) rfl), (Inc.rfl _)⟩) rfl (fun w' hw' => (E.indexAddr te73 rfl rfl pt710)) ?_
                            refine FB.t (i := 11) (bs 15 4031) rfl (SP.nil ⟨_, (S669.sel [0] (by decide) rfl), (Inc.rfl _)⟩) rfl (fun w' hw' => (E.load rfl (run_load0 Tryz.isAgg3 (hw'.use fun _ st => hall716 _ _ _ 0 st rfl) rfl))) ?_
                            refine FB.all1 (i := 6) (by kernel_rfl) ?_
                            ·
                              refine FC.call (l' := (bs 15 4095)) rfl (by kernel_rfl) rfl rfl rfl (E.call Tryz.call116 (A1 rfl)) (w_spec_l2Var S669.sl x687) ?_
                              rintro e w690 ⟨rfl, r691⟩
                              refine ⟨_, rfl, ?_⟩
                              have S692 := S669.call r691
                              refine ⟨(SP.nil ⟨_, (S692.sel [0] (by decide) rfl), (Inc.rfl _)⟩), ?_⟩
                              refine FB.all1 (i := 12) (by kernel_rfl) ?_
                              ·
                                refine FC.call (l' := (bs 15 8191)) rfl (by kernel_rfl) rfl rfl rfl (E.call Tryz.call189 (A2 rfl rfl)) (w_spec_l17Literal S692.sl a0.vars x714 hr729) ?_
                                rintro e w731 ⟨H730, v734, rfl, r733, h735⟩
                                refine ⟨_, rfl, ?_⟩
                                have nv736 : New H647 [v734] := New.of_up S692.sl h735.dom
                                have h735 := h735.mono (up_le S692.size)
                                have S732 := S692.call r733
                                refine ⟨(SP.nil ⟨_, (S732.sel [0] (by decide) rfl), r733.inc⟩), ?_⟩
                                refine FB.all1 (i := 13) (by kernel_rfl) ?_
                                ·
                                  have S739 : St Ha wa H730 w731 [.row 129 6 v527 n528 cs529, .row 3 1 v354 n355 cs356, .row 3 1 v40 n41 cs42] := S732.front 2 rfl rfl
                                  refine FC.call (l' := (bs 15 16383)) rfl (by kernel_rfl) rfl rfl rfl (E.call Tryz.call132 (A6 rfl rfl rfl rfl rfl rfl)) (w_spec_l17Add (L := [.row 3 1 v354 n355 cs356, .row 3 1 v40 n41 cs42]) S739 s526.1 (els530.mono r733.inc) 3 (PF.spec_l2Var x687) 0 0 r728 v734 (h735.mono upI) hr738) ?_
                                  rintro e w741 ⟨H740, v744, n745, cs746, rfl, ⟨S742, i743⟩, els747⟩
                                  refine ⟨_, rfl, ?_⟩
                                  have S742 : St Ha wa H740 w741 [.row 129 6 v744 n745 cs746, .row 3 1 v354 n355 cs356, .row 3 1 v40 n41 cs42] := S742
                                  refine ⟨(SP.nil ⟨_, (S742.sel [1] (by decide) rfl), (r733.inc.tr i743)⟩), ?_⟩
                                  refine FB.t (i := 14) (bs 15 32767) rfl (SP.nil ⟨_, (S742.sel [1] (by decide) rfl), (r733.inc.tr i743)⟩) rfl (fun w' hw' => (E.assign (v := v744) rfl)) ?_
                                  exact FB.done (by kernel_rfl) ⟨_, _, _, _, (S742.sel [1, 2, 0] (by decide) rfl), (r733.inc.tr i743), els747, k652, rfl, k654, k655, k656⟩
                          ·
                            rintro f781 w780 ⟨H777, v773, n774, cs775, S778, i779, els776, k782, k783, k784, k785, k786⟩
                            refine FW.seq ?_
                            obtain ⟨x796, hx797, hp⟩ := bnd hp
                            obtain ⟨x807, hx808, hp⟩ := bnd hp
                            obtain ⟨r812, hr813, hp⟩ := bnd hp
                            obtain ⟨r821, hr822, hp⟩ := bnd hp
                            refine FW.drawB (Sl H777) (fun f w => ∃ H : GH, ∃ v832 : Value, ∃ n833 : Nat, ∃ cs834 : List Value, St Ha wa H w [.row 3 1 v354 n355 cs356, .row 3 1 v40 n41 cs42, .row 129 6 v832 n833 cs834] ∧ Inc H777 H ∧ Els H ePlaneStep 6 cs834 r821 ∧ f 0 = Value.int .i64 a0.vars ∧ f 1 = v832 ∧ f 3 = v354 ∧ f 10 = Value.int .i64 s526.2.2) (by kernel_rfl) S778.sl ?_ ?_
                            ·
                              intro w787 r788
                              have S789 := S778.call r788
                              refine FB.t (i := 0) (bs 20 1) rfl (SP.nil S789.sl) rfl (fun w' hw' => (E.move k783)) ?_
                              refine FB.t (i := 1) (bs 20 3) rfl (SP.nil S789.sl) rfl (fun w' hw' => (E.move k784)) ?_
                              refine FB.t (i := 2) (bs 20 7) rfl (SP.nil S789.sl) rfl (fun w' hw' => (E.move k783)) ?_
                              refine FB.t (i := 3) (bs 20 15) rfl (SP.nil S789.sl) rfl (fun w' hw' => (E.lenOW te45 rfl S789 (i := 2) rfl els776 (by decide))) ?_
                              refine FB.t (i := 4) (bs 20 31) rfl (SP.nil S789.sl) rfl (fun w' hw' => (E.sub rfl rfl)) ?_
                              refine FB.t (i := 5) (bs 20 63) rfl (SP.nil S789.sl) rfl (fun w' hw' => (E.move k783)) ?_
                              refine FB.t (i := 6) (bs 20 127) rfl (SP.nil S789.sl) rfl (fun w' hw' => (E.move k784)) ?_
                              obtain ⟨p790, cs791, pt792, l793, at794, rel795, hall798⟩ := S789.row_atA (i := 2) rfl els776 (by decide) hx797
                              obtain ⟨v799, rfl, h800⟩ := ePlaneStep_open rel795
                              refine FB.t (i := 7) (bs 20 255) rfl (SP.nil S789.sl) rfl (fun w' hw' => (E.indexAddr te45 rfl rfl pt792)) ?_
                              refine FB.t (i := 8) (bs 20 511) rfl (SP.nil S789.sl) rfl (fun w' hw' => (E.fieldAddr tf129_0 rfl)) ?_
                              refine FB.phase [18] (fun w' => WAt w' p790 [v799, Value.int .i64 x796.ineq.bound, Value.int .i64 x796.kind, Value.int .i64 x796.a, Value.int .i64 x796.b, Value.int .i64 x796.k]) ?_
                              refine FB.p (i := 9) (bs 20 1023) 0 [17, 18, 19] rfl (SP.on (hall798 _ _ _ 2 S789 rfl) (SP.nil S789.sl)) rfl rfl (fun w' hw' => (E.load rfl (run_loadA Tryz.isAgg127 Tryz.sizeOf127 (hw'.sub (j := 0) (n := 2) (c := [v799, Value.int .i64 x796.ineq.bound]) rfl) rfl))) ?_
                              refine FB.t (i := 10) (bs 20 2047) rfl (SP.on (hall798 _ _ _ 2 S789 rfl) (SP.nil S789.sl)) rfl (fun w' hw' => (E.move k783)) ?_
                              refine FB.t (i := 11) (bs 20 4095) rfl (SP.on (hall798 _ _ _ 2 S789 rfl) (SP.nil S789.sl)) rfl (fun w' hw' => (E.move k783)) ?_
                              refine FB.t (i := 12) (bs 20 8191) rfl (SP.on (hall798 _ _ _ 2 S789 rfl) (SP.nil S789.sl)) rfl (fun w' hw' => (E.lenOW te45 rfl S789 (i := 2) rfl els776 (by decide))) ?_
                              refine FB.t (i := 13) (bs 20 16383) rfl (SP.on (hall798 _ _ _ 2 S789 rfl) (SP.nil S789.sl)) rfl (fun w' hw' => (E.sub rfl rfl)) ?_
                              obtain ⟨p801, cs802, pt803, l804, at805, rel806, hall809⟩ := S789.row_atA (i := 2) rfl els776 (by decide) hx808
                              obtain ⟨v810, rfl, h811⟩ := ePlaneStep_open rel806
                              refine FB.t (i := 14) (bs 20 32767) rfl (SP.on (hall798 _ _ _ 2 S789 rfl) (SP.nil S789.sl)) rfl (fun w' hw' => (E.indexAddr te45 rfl rfl pt803)) ?_
                              refine FB.t (i := 15) (bs 20 65535) rfl (SP.on (hall798 _ _ _ 2 S789 rfl) (SP.nil S789.sl)) rfl (fun w' hw' => (E.fieldAddr tf129_0 rfl)) ?_
                              refine FB.phase [18] (fun w' => WAt w' p801 [v810, Value.int .i64 x807.ineq.bound, Value.int .i64 x807.kind, Value.int .i64 x807.a, Value.int .i64 x807.b, Value.int .i64 x807.k]) ?_
                              refine FB.p (i := 16) (bs 20 131071) 0 [17, 18, 19] rfl (SP.on (hall809 _ _ _ 2 S789 rfl) (SP.on (hall798 _ _ _ 2 S789 rfl) (SP.nil S789.sl))) rfl rfl (fun w' hw' => (E.load rfl (run_loadA Tryz.isAgg127 Tryz.sizeOf127 (hw'.sub (j := 0) (n := 2) (c := [v810, Value.int .i64 x807.ineq.bound]) rfl) rfl))) ?_
                              refine FB.all1 (i := 17) (by kernel_rfl) ?_
                              ·
                                refine FC.call (l' := (bs 20 262143)) rfl (by kernel_rfl) rfl rfl rfl (E.call Tryz.call137 (A2 rfl rfl)) (w_spec_l16Add S789.sl x796.ineq v799 h800 x807.ineq v810 h811 hr813) ?_
                                rintro e w815 ⟨H814, v818, rfl, r817, h819⟩
                                refine ⟨_, rfl, ?_⟩
                                have nv820 : New H777 [v818] := New.of_up S789.sl h819.dom
                                have h819 := h819.mono (up_le S789.size)
                                have S816 := S789.call r817
                                refine ⟨(SP.on (hall809 _ _ _ 2 S816 rfl) (SP.on (hall798 _ _ _ 2 S816 rfl) (SP.nil (Sl.of_inc r817.inc S816.sl)))), ?_⟩
                                refine FB.all1 (i := 18) (by kernel_rfl) ?_
                                ·
                                  have S823 : St Ha wa H814 w815 [.row 129 6 v773 n774 cs775, .row 3 1 v354 n355 cs356, .row 3 1 v40 n41 cs42] := S816.front 2 rfl rfl
                                  refine FC.call (l' := (bs 20 524287)) rfl (by kernel_rfl) rfl rfl rfl (E.call Tryz.call132 (A6 rfl rfl rfl rfl rfl rfl)) (w_spec_l17Add (L := [.row 3 1 v354 n355 cs356, .row 3 1 v40 n41 cs42]) S823 r737 (els776.mono r817.inc) 4 s526.2.1 (wr ((len r737) - 1)) 0 r812 v818 (h819.mono upI) hr822) ?_
                                  rintro e w825 ⟨H824, v828, n829, cs830, rfl, ⟨S826, i827⟩, els831⟩
                                  refine ⟨_, rfl, ?_⟩
                                  have S826 : St Ha wa H824 w825 [.row 129 6 v828 n829 cs830, .row 3 1 v354 n355 cs356, .row 3 1 v40 n41 cs42] := S826
                                  refine ⟨(SP.o (SP.o (SP.nil (Sl.of_inc (r817.inc.tr i827) S826.sl)))), ?_⟩
                                  refine FB.t (i := 19) (bs 20 1048575) rfl (SP.o (SP.o (SP.nil (Sl.of_inc (r817.inc.tr i827) S826.sl)))) rfl (fun w' hw' => (E.assign (v := v828) rfl)) ?_
                                  exact FB.done (by kernel_rfl) ⟨_, _, _, _, (S826.sel [1, 2, 0] (by decide) rfl), (r817.inc.tr i827), els831, k782, rfl, k785, k786⟩
                            ·
                              rintro f840 w839 ⟨H836, v832, n833, cs834, S837, i838, els835, k841, k842, k843, k844⟩
                              refine FW.region ?_
                              refine FL.v (E.move k842) ?_
                              refine FL.v (E.lenO te45 rfl S837 (i := 2) rfl els835 (by decide)) ?_
                              refine FL.v (E.sub rfl rfl) ?_
                              refine FL.v (E.assign (v := Value.int .i64 (wr ((len r821) - 1))) rfl) ?_
                              refine FL.nil (FW.region ?_)
                              refine FL.v (E.move k844) ?_
                              refine FL.v (E.add rfl rfl) ?_
                              refine FL.v (E.assign (v := Value.int .i64 (wr (s526.2.2 + 1))) rfl) ?_
                              refine FL.nil ?_
                              obtain rfl := Option.some.inj hp
                              exact ⟨rfl, ⟨_, _, _, _, S837, ((i649.tr i779).tr i838), els835, k841, k842, rfl, k843, rfl⟩⟩
                        ·
                          refine FW.condF rfl c666 ?_
                          refine FW.skip (FW.seq ?_)
                          obtain ⟨x854, hx855, hp⟩ := bnd hp
                          obtain ⟨x866, hx867, hp⟩ := bnd hp
                          obtain ⟨r869, hr870, hp⟩ := bnd hp
                          obtain ⟨r878, hr879, hp⟩ := bnd hp
                          refine FW.drawB (SX Ha wa H647 [.row 3 1 v354 n355 cs356]) (fun f w => ∃ H : GH, ∃ v889 : Value, ∃ n890 : Nat, ∃ cs891 : List Value, St Ha wa H w [.row 3 1 v354 n355 cs356, .row 3 1 v40 n41 cs42, .row 129 6 v889 n890 cs891] ∧ Inc H647 H ∧ Els H ePlaneStep 6 cs891 r878 ∧ f 0 = Value.int .i64 a0.vars ∧ f 1 = v889 ∧ f 2 = Value.int .i64 s526.2.1 ∧ f 3 = v354 ∧ f 10 = Value.int .i64 s526.2.2) (by kernel_rfl) S648.sl ?_ ?_
                          ·
                            intro w845 r846
                            have S847 := S648.call r846
                            refine FB.t (i := 0) (bs 15 1) rfl (SP.nil ⟨_, (S847.sel [0] (by decide) rfl), (Inc.rfl _)⟩) rfl (fun w' hw' => (E.move k653)) ?_
                            refine FB.t (i := 1) (bs 15 3) rfl (SP.nil ⟨_, (S847.sel [0] (by decide) rfl), (Inc.rfl _)⟩) rfl (fun w' hw' => (E.move (v := Value.int .i64 2) rfl)) ?_
                            refine FB.t (i := 2) (bs 15 7) rfl (SP.nil ⟨_, (S847.sel [0] (by decide) rfl), (Inc.rfl _)⟩) rfl (fun w' hw' => (E.move k655)) ?_
                            refine FB.t (i := 3) (bs 15 15) rfl (SP.nil ⟨_, (S847.sel [0] (by decide) rfl), (Inc.rfl _)⟩) rfl (fun w' hw' => (E.move k656)) ?_
                            obtain ⟨p848, cs849, pt850, l851, at852, rel853, hall856⟩ := S847.row_atA (i := 0) rfl els357 (by decide) hx855
                            obtain rfl := eI_open rel853
                            refine FB.t (i := 4) (bs 15 31) rfl (SP.nil ⟨_, (S847.sel [0] (by decide) rfl), (Inc.rfl _)⟩) rfl (fun w' hw' => (E.indexAddr te73 rfl rfl pt850)) ?_
                            refine FB.t (i := 5) (bs 15 63) rfl (SP.nil ⟨_, (S847.sel [0] (by decide) rfl), (Inc.rfl _)⟩) rfl (fun w' hw' => (E.load rfl (run_load0 Tryz.isAgg3 (hw'.use fun _ st => hall856 _ _ _ 0 st rfl) rfl))) ?_
                            refine FB.t (i := 7) (bs 15 191) rfl (SP.nil ⟨_, (S847.sel [0] (by decide) rfl), (Inc.rfl _)⟩) rfl (fun w' hw' => (E.move k652)) ?_
                            refine FB.t (i := 8) (bs 15 447) rfl (SP.nil ⟨_, (S847.sel [0] (by decide) rfl), (Inc.rfl _)⟩) rfl (fun w' hw' => (E.move k655)) ?_
                            refine FB.t (i := 9) (bs 15 959) rfl (SP.nil ⟨_, (S847.sel [0] (by decide) rfl), (Inc.rfl _)⟩) rfl (fun w' hw' => (E.move k656)) ?_
                            obtain ⟨p860, cs861, pt862, l863, at864, rel865, hall868⟩ := S847.row_atA (i := 0) rfl els357 (by decide) hx867
                            obtain rfl := eI_open rel865
                            refine FB.t (i := 10) (bs 15 1983) rfl (SP.nil ⟨_, (S847.sel [0] (by decide) rfl), (Inc.rfl _)⟩) rfl (fun w' hw' => (E.indexAddr te73 rfl rfl pt862)) ?_
                            refine FB.t (i := 11) (bs 15 4031) rfl (SP.nil ⟨_, (S847.sel [0] (by decide) rfl), (Inc.rfl _)⟩) rfl (fun w' hw' => (E.load rfl (run_load0 Tryz.isAgg3 (hw'.use fun _ st => hall868 _ _ _ 0 st rfl) rfl))) ?_
                            refine FB.all1 (i := 6) (by kernel_rfl) ?_
                            ·
                              refine FC.call (l' := (bs 15 4095)) rfl (by kernel_rfl) rfl rfl rfl (E.call Tryz.call116 (A1 rfl)) (w_spec_l2Var S847.sl x854) ?_
                              rintro e w857 ⟨rfl, r858⟩
                              refine ⟨_, rfl, ?_⟩
                              have S859 := S847.call r858
                              refine ⟨(SP.nil ⟨_, (S859.sel [0] (by decide) rfl), (Inc.rfl _)⟩), ?_⟩
                              refine FB.all1 (i := 12) (by kernel_rfl) ?_
                              ·
                                refine FC.call (l' := (bs 15 8191)) rfl (by kernel_rfl) rfl rfl rfl (E.call Tryz.call189 (A2 rfl rfl)) (w_spec_l17Literal S859.sl a0.vars x866 hr870) ?_
                                rintro e w872 ⟨H871, v875, rfl, r874, h876⟩
                                refine ⟨_, rfl, ?_⟩
                                have nv877 : New H647 [v875] := New.of_up S859.sl h876.dom
                                have h876 := h876.mono (up_le S859.size)
                                have S873 := S859.call r874
                                refine ⟨(SP.nil ⟨_, (S873.sel [0] (by decide) rfl), r874.inc⟩), ?_⟩
                                refine FB.all1 (i := 13) (by kernel_rfl) ?_
                                ·
                                  have S880 : St Ha wa H871 w872 [.row 129 6 v527 n528 cs529, .row 3 1 v354 n355 cs356, .row 3 1 v40 n41 cs42] := S873.front 2 rfl rfl
                                  refine FC.call (l' := (bs 15 16383)) rfl (by kernel_rfl) rfl rfl rfl (E.call Tryz.call132 (A6 rfl rfl rfl rfl rfl rfl)) (w_spec_l17Add (L := [.row 3 1 v354 n355 cs356, .row 3 1 v40 n41 cs42]) S880 s526.1 (els530.mono r874.inc) 2 (PF.spec_l2Var x854) 0 0 r869 v875 (h876.mono upI) hr879) ?_
                                  rintro e w882 ⟨H881, v885, n886, cs887, rfl, ⟨S883, i884⟩, els888⟩
                                  refine ⟨_, rfl, ?_⟩
                                  have S883 : St Ha wa H881 w882 [.row 129 6 v885 n886 cs887, .row 3 1 v354 n355 cs356, .row 3 1 v40 n41 cs42] := S883
                                  refine ⟨(SP.nil ⟨_, (S883.sel [1] (by decide) rfl), (r874.inc.tr i884)⟩), ?_⟩
                                  refine FB.t (i := 14) (bs 15 32767) rfl (SP.nil ⟨_, (S883.sel [1] (by decide) rfl), (r874.inc.tr i884)⟩) rfl (fun w' hw' => (E.assign (v := v885) rfl)) ?_
                                  exact FB.done (by kernel_rfl) ⟨_, _, _, _, (S883.sel [1, 2, 0] (by decide) rfl), (r874.inc.tr i884), els888, k652, rfl, k654, k655, k656⟩
                          ·
                            rintro f897 w896 ⟨H893, v889, n890, cs891, S894, i895, els892, k898, k899, k900, k901, k902⟩
                            refine FW.seq ?_
                            obtain ⟨x912, hx913, hp⟩ := bnd hp
                            obtain ⟨x923, hx924, hp⟩ := bnd hp
                            obtain ⟨r928, hr929, hp⟩ := bnd hp
                            obtain ⟨r937, hr938, hp⟩ := bnd hp
                            refine FW.drawB (Sl H893) (fun f w => ∃ H : GH, ∃ v948 : Value, ∃ n949 : Nat, ∃ cs950 : List Value, St Ha wa H w [.row 3 1 v354 n355 cs356, .row 3 1 v40 n41 cs42, .row 129 6 v948 n949 cs950] ∧ Inc H893 H ∧ Els H ePlaneStep 6 cs950 r937 ∧ f 0 = Value.int .i64 a0.vars ∧ f 1 = v948 ∧ f 3 = v354 ∧ f 10 = Value.int .i64 s526.2.2) (by kernel_rfl) S894.sl ?_ ?_
                            ·
                              intro w903 r904
                              have S905 := S894.call r904
                              refine FB.t (i := 0) (bs 20 1) rfl (SP.nil S905.sl) rfl (fun w' hw' => (E.move k899)) ?_
                              refine FB.t (i := 1) (bs 20 3) rfl (SP.nil S905.sl) rfl (fun w' hw' => (E.move k900)) ?_
                              refine FB.t (i := 2) (bs 20 7) rfl (SP.nil S905.sl) rfl (fun w' hw' => (E.move k899)) ?_
                              refine FB.t (i := 3) (bs 20 15) rfl (SP.nil S905.sl) rfl (fun w' hw' => (E.lenOW te45 rfl S905 (i := 2) rfl els892 (by decide))) ?_
                              refine FB.t (i := 4) (bs 20 31) rfl (SP.nil S905.sl) rfl (fun w' hw' => (E.sub rfl rfl)) ?_
                              refine FB.t (i := 5) (bs 20 63) rfl (SP.nil S905.sl) rfl (fun w' hw' => (E.move k899)) ?_
                              refine FB.t (i := 6) (bs 20 127) rfl (SP.nil S905.sl) rfl (fun w' hw' => (E.move k900)) ?_
                              obtain ⟨p906, cs907, pt908, l909, at910, rel911, hall914⟩ := S905.row_atA (i := 2) rfl els892 (by decide) hx913
                              obtain ⟨v915, rfl, h916⟩ := ePlaneStep_open rel911
                              refine FB.t (i := 7) (bs 20 255) rfl (SP.nil S905.sl) rfl (fun w' hw' => (E.indexAddr te45 rfl rfl pt908)) ?_
                              refine FB.t (i := 8) (bs 20 511) rfl (SP.nil S905.sl) rfl (fun w' hw' => (E.fieldAddr tf129_0 rfl)) ?_
                              refine FB.phase [18] (fun w' => WAt w' p906 [v915, Value.int .i64 x912.ineq.bound, Value.int .i64 x912.kind, Value.int .i64 x912.a, Value.int .i64 x912.b, Value.int .i64 x912.k]) ?_
                              refine FB.p (i := 9) (bs 20 1023) 0 [17, 18, 19] rfl (SP.on (hall914 _ _ _ 2 S905 rfl) (SP.nil S905.sl)) rfl rfl (fun w' hw' => (E.load rfl (run_loadA Tryz.isAgg127 Tryz.sizeOf127 (hw'.sub (j := 0) (n := 2) (c := [v915, Value.int .i64 x912.ineq.bound]) rfl) rfl))) ?_
                              refine FB.t (i := 10) (bs 20 2047) rfl (SP.on (hall914 _ _ _ 2 S905 rfl) (SP.nil S905.sl)) rfl (fun w' hw' => (E.move k899)) ?_
                              refine FB.t (i := 11) (bs 20 4095) rfl (SP.on (hall914 _ _ _ 2 S905 rfl) (SP.nil S905.sl)) rfl (fun w' hw' => (E.move k899)) ?_
                              refine FB.t (i := 12) (bs 20 8191) rfl (SP.on (hall914 _ _ _ 2 S905 rfl) (SP.nil S905.sl)) rfl (fun w' hw' => (E.lenOW te45 rfl S905 (i := 2) rfl els892 (by decide))) ?_
                              refine FB.t (i := 13) (bs 20 16383) rfl (SP.on (hall914 _ _ _ 2 S905 rfl) (SP.nil S905.sl)) rfl (fun w' hw' => (E.sub rfl rfl)) ?_
                              obtain ⟨p917, cs918, pt919, l920, at921, rel922, hall925⟩ := S905.row_atA (i := 2) rfl els892 (by decide) hx924
                              obtain ⟨v926, rfl, h927⟩ := ePlaneStep_open rel922
                              refine FB.t (i := 14) (bs 20 32767) rfl (SP.on (hall914 _ _ _ 2 S905 rfl) (SP.nil S905.sl)) rfl (fun w' hw' => (E.indexAddr te45 rfl rfl pt919)) ?_
                              refine FB.t (i := 15) (bs 20 65535) rfl (SP.on (hall914 _ _ _ 2 S905 rfl) (SP.nil S905.sl)) rfl (fun w' hw' => (E.fieldAddr tf129_0 rfl)) ?_
                              refine FB.phase [18] (fun w' => WAt w' p917 [v926, Value.int .i64 x923.ineq.bound, Value.int .i64 x923.kind, Value.int .i64 x923.a, Value.int .i64 x923.b, Value.int .i64 x923.k]) ?_
                              refine FB.p (i := 16) (bs 20 131071) 0 [17, 18, 19] rfl (SP.on (hall925 _ _ _ 2 S905 rfl) (SP.on (hall914 _ _ _ 2 S905 rfl) (SP.nil S905.sl))) rfl rfl (fun w' hw' => (E.load rfl (run_loadA Tryz.isAgg127 Tryz.sizeOf127 (hw'.sub (j := 0) (n := 2) (c := [v926, Value.int .i64 x923.ineq.bound]) rfl) rfl))) ?_
                              refine FB.all1 (i := 17) (by kernel_rfl) ?_
                              ·
                                refine FC.call (l' := (bs 20 262143)) rfl (by kernel_rfl) rfl rfl rfl (E.call Tryz.call137 (A2 rfl rfl)) (w_spec_l16Add S905.sl x912.ineq v915 h916 x923.ineq v926 h927 hr929) ?_
                                rintro e w931 ⟨H930, v934, rfl, r933, h935⟩
                                refine ⟨_, rfl, ?_⟩
                                have nv936 : New H893 [v934] := New.of_up S905.sl h935.dom
                                have h935 := h935.mono (up_le S905.size)
                                have S932 := S905.call r933
                                refine ⟨(SP.on (hall925 _ _ _ 2 S932 rfl) (SP.on (hall914 _ _ _ 2 S932 rfl) (SP.nil (Sl.of_inc r933.inc S932.sl)))), ?_⟩
                                refine FB.all1 (i := 18) (by kernel_rfl) ?_
                                ·
                                  have S939 : St Ha wa H930 w931 [.row 129 6 v889 n890 cs891, .row 3 1 v354 n355 cs356, .row 3 1 v40 n41 cs42] := S932.front 2 rfl rfl
                                  refine FC.call (l' := (bs 20 524287)) rfl (by kernel_rfl) rfl rfl rfl (E.call Tryz.call132 (A6 rfl rfl rfl rfl rfl rfl)) (w_spec_l17Add (L := [.row 3 1 v354 n355 cs356, .row 3 1 v40 n41 cs42]) S939 r878 (els892.mono r933.inc) 4 s526.2.1 (wr ((len r878) - 1)) 0 r928 v934 (h935.mono upI) hr938) ?_
                                  rintro e w941 ⟨H940, v944, n945, cs946, rfl, ⟨S942, i943⟩, els947⟩
                                  refine ⟨_, rfl, ?_⟩
                                  have S942 : St Ha wa H940 w941 [.row 129 6 v944 n945 cs946, .row 3 1 v354 n355 cs356, .row 3 1 v40 n41 cs42] := S942
                                  refine ⟨(SP.o (SP.o (SP.nil (Sl.of_inc (r933.inc.tr i943) S942.sl)))), ?_⟩
                                  refine FB.t (i := 19) (bs 20 1048575) rfl (SP.o (SP.o (SP.nil (Sl.of_inc (r933.inc.tr i943) S942.sl)))) rfl (fun w' hw' => (E.assign (v := v944) rfl)) ?_
                                  exact FB.done (by kernel_rfl) ⟨_, _, _, _, (S942.sel [1, 2, 0] (by decide) rfl), (r933.inc.tr i943), els947, k898, rfl, k901, k902⟩
                            ·
                              rintro f956 w955 ⟨H952, v948, n949, cs950, S953, i954, els951, k957, k958, k959, k960⟩
                              refine FW.region ?_
                              refine FL.v (E.move k958) ?_
                              refine FL.v (E.lenO te45 rfl S953 (i := 2) rfl els951 (by decide)) ?_
                              refine FL.v (E.sub rfl rfl) ?_
                              refine FL.v (E.assign (v := Value.int .i64 (wr ((len r937) - 1))) rfl) ?_
                              refine FL.nil (FW.region ?_)
                              refine FL.v (E.move k960) ?_
                              refine FL.v (E.add rfl rfl) ?_
                              refine FL.v (E.assign (v := Value.int .i64 (wr (s526.2.2 + 1))) rfl) ?_
                              refine FL.nil ?_
                              obtain rfl := Option.some.inj hp
                              exact ⟨rfl, ⟨_, _, _, _, S953, ((i649.tr i895).tr i954), els951, k957, k958, rfl, k959, rfl⟩⟩
                      ·
                        refine FW.condF rfl c657 ?_
                        refine FW.exit ?_
                        obtain rfl := Option.some.inj hp
                        exact ⟨nofun, rfl, ⟨_, _, _, _, S648, i649, els530, k653, k654⟩⟩
                    ·
                      clear hq
                      intro e f966 w965 hD
                      rcases q526 with s526 | x526
                      ·
                        obtain ⟨rfl, hD⟩ := hD
                        obtain ⟨H962, v527, n528, cs529, S963, i964, els530, k967, k968⟩ := hD
                        replace hp := el_go hp
                        refine FW.seq (FW.region ?_)
                        refine FL.v (E.move k967) ?_
                        refine FL.v (E.move k968) ?_
                        refine FL.v (E.assign (v := v527) rfl) ?_
                        refine FL.v (E.assign (v := Value.int .i64 s526.2.1) rfl) ?_
                        refine FL.nil ?_
                        refine FW.ret ?_
                        obtain rfl := Option.some.inj hp
                        exact ⟨.inr rfl, res2 rfl rfl rfl (by rw [hR521]; exact ⟨_, _, _, _, rfl, S963, i964, els530⟩)⟩
                      · exact x526.elim
                  clear hq521
                  refine FC.call (l' := (bs 27 4194303)) rfl (by kernel_rfl) rfl rfl rfl (E.call Tryz.call135 (A4 rfl rfl rfl rfl)) hc521 ?_
                  intro e w972 hQ521
                  rw [hR521] at hQ521
                  obtain ⟨H969, v522, n523, cs524, rfl, S970, i971, els525⟩ := hQ521
                  refine ⟨_, rfl, ?_⟩
                  refine ⟨(SP.nil (Sl.of_inc (r353.run.inc.tr i971) S970.sl)), ?_⟩
                  refine FB.t (i := 22) (bs 27 8388607) rfl (SP.nil (Sl.of_inc (r353.run.inc.tr i971) S970.sl)) rfl (fun w' hw' => (E.move (v := Value.tuple #[v522, Value.int .i64 s521.2]) rfl)) ?_
                  refine FB.t (i := 23) (bs 27 16777215) rfl (SP.nil (Sl.of_inc (r353.run.inc.tr i971) S970.sl)) rfl (fun w' hw' => (E.extract (i := 0) rfl rfl)) ?_
                  refine FB.t (i := 24) (bs 27 33554431) rfl (SP.nil (Sl.of_inc (r353.run.inc.tr i971) S970.sl)) rfl (fun w' hw' => (E.extract (i := 1) rfl rfl)) ?_
                  refine FB.t (i := 25) (bs 27 67108863) rfl (SP.nil (Sl.of_inc (r353.run.inc.tr i971) S970.sl)) rfl (fun w' hw' => (E.assign (v := v522) rfl)) ?_
                  refine FB.t (i := 26) (bs 27 134217727) rfl (SP.nil (Sl.of_inc (r353.run.inc.tr i971) S970.sl)) rfl (fun w' hw' => (E.assign (v := Value.int .i64 s521.2) rfl)) ?_
                  exact FB.done (by kernel_rfl) ⟨_, _, _, _, (S970.sel [1, 2] (by decide) rfl), (r353.run.inc.tr i971), els525, k319, k320, rfl, k322, k323, rfl⟩
            ·
              rintro f366 w365 ⟨H362, v358, n359, cs360, S363, i364, els361, k367, k368, k369, k370, k371, k372⟩
              refine FW.seq (FW.region ?_)
              refine FL.v (E.move k369) ?_
              refine FL.v (E.move k372) ?_
              obtain ⟨x379, hx380, hp⟩ := bnd hp
              obtain ⟨p373, cs374, pt375, l376, at377, rel378⟩ := S363.row_at (i := 1) rfl els361 (by decide) hx380
              obtain ⟨v381, rfl, h382⟩ := ePlaneStep_open rel378
              refine FL.v (E.indexAddr te45 rfl rfl pt375) ?_
              refine FL.v (E.fieldAddr tf129_0 rfl) ?_
              refine FL.v (E.load rfl (run_loadA Tryz.isAgg127 Tryz.sizeOf127 (at377.sub (j := 0) (n := 2) (c := [v381, Value.int .i64 x379.ineq.bound]) rfl) rfl)) ?_
              obtain ⟨r383, hr384, hp⟩ := bnd hp
              refine FL.call rfl rfl rfl (E.call Tryz.call139 (A2 rfl rfl)) (w_spec_l16Divide S363.sl x379.ineq v381 h382 2 hr384) ?_
              rintro e w386 ⟨H385, v389, rfl, r388, h390⟩
              refine ⟨_, rfl, ?_⟩
              have nv391 : New H362 [v389] := New.of_up S363.sl h390.dom
              have h390 := h390.mono (up_le S363.size)
              have S387 := S363.call r388
              refine FL.v (E.move (v := Value.tuple #[Value.agg #[v389, Value.int .i64 r383.1.bound], Value.bool r383.2]) rfl) ?_
              refine FL.v (E.extract (i := 0) rfl rfl) ?_
              refine FL.v (E.extract (i := 1) rfl rfl) ?_
              have S396 := S387.nil 3 1
              have els397 : Els (up wa.heap.size H385) eI 1 [] [] := Els.nil
              obtain ⟨b392, w393, run394, S395⟩ := S396.alloc (P := Tryz.prog) 127 [Value.slice none 0 0, Value.int .i64 0] Tryz.zeroValue127 rfl (ones_cons rfl (ones_cons rfl ones_nil))
              refine FL.v (E.alloc run394) ?_
              obtain ⟨w398, run399, S400⟩ := S395.store0 (P := Tryz.prog) (t := 127) (i := 0) (cs' := [v389, Value.int .i64 r383.1.bound]) (l' := [.box b392 127 [v389, Value.int .i64 r383.1.bound], .row 3 1 (Value.slice none 0 0) 0 [], .row 3 1 v40 n41 cs42, .row 129 6 v358 n359 cs360]) (v := Value.agg #[v389, Value.int .i64 r383.1.bound]) (c := [v389, Value.int .i64 r383.1.bound]) rfl Tryz.sizeOf127 rfl rfl (ones_cons h390.one (ones_cons rfl ones_nil)) (Nat.le_of_ble_eq_true rfl) rfl rfl
              refine FL.act rfl rfl (E.store rfl rfl run399) ?_
              obtain ⟨H401, S402, i403, at404⟩ := S400.sealBox (i := 0) (l' := [.row 3 1 (Value.slice none 0 0) 0 [], .row 3 1 v40 n41 cs42, .row 129 6 v358 n359 cs360]) rfl rfl
              refine FL.v (E.assign (v := Value.bool r383.2) rfl) ?_
              refine FL.nil (FW.seq (FW.region ?_))
              refine FL.v (E.move k369) ?_
              refine FL.v (E.move k372) ?_
              refine FL.v (E.load rfl (run_loadA Tryz.isAgg127 Tryz.sizeOf127 (at404.now S402.sl) rfl)) ?_
              obtain ⟨r405, hr406, hp⟩ := bnd hp
              have S407 : St Ha wa H401 w398 [.row 129 6 v358 n359 cs360, .row 3 1 (Value.slice none 0 0) 0 [], .row 3 1 v40 n41 cs42] := S402.front 2 rfl rfl
              refine FL.call rfl rfl rfl (E.call Tryz.call132 (A6 rfl rfl rfl rfl rfl rfl)) (w_spec_l17Add (L := [.row 3 1 (Value.slice none 0 0) 0 [], .row 3 1 v40 n41 cs42]) S407 s521.1 (els361.mono (r388.inc.tr i403)) 6 s521.2 0 2 r383.1 v389 (h390.mono (upI.tr i403)) hr406) ?_
              rintro e w409 ⟨H408, v412, n413, cs414, rfl, ⟨S410, i411⟩, els415⟩
              refine ⟨_, rfl, ?_⟩
              have S410 : St Ha wa H408 w409 [.row 129 6 v412 n413 cs414, .row 3 1 (Value.slice none 0 0) 0 [], .row 3 1 v40 n41 cs42] := S410
              refine FL.v (E.assign (v := v412) rfl) ?_
              refine FL.nil (FW.region ?_)
              refine FL.v (E.move k370) ?_
              refine FL.v (E.move (v := v412) rfl) ?_
              refine FL.v (E.lenO te45 rfl S410 (i := 0) rfl els415 (by decide)) ?_
              refine FL.v (E.sub rfl rfl) ?_
              obtain ⟨v416, w417, run418, S419⟩ := S410.buildSlice (P := Tryz.prog) te73 [Value.int .i64 (wr ((len r405) - 1))] (parts := #[(0, Value.int .i64 (wr ((len r405) - 1)))]) (cells := [Value.int .i64 (wr ((len r405) - 1))]) rfl (szs_cons rfl szs_nil) (fc_cons rfl fc_nil) (ones_cons rfl ones_nil) (Nat.le_of_ble_eq_true rfl)
              have els420 : Els (up wa.heap.size H408) eI 1 [Value.int .i64 (wr ((len r405) - 1))] [(wr ((len r405) - 1))] := (Els.snoc (H := (up wa.heap.size H408)) (E := eI) (k := 1) (c := [Value.int .i64 (wr ((len r405) - 1))]) (x := (wr ((len r405) - 1))) Els.nil rfl rfl)
              refine FL.v (E.buildSlice (B1 rfl) run418) ?_
              obtain ⟨xs421, hz422, hp⟩ := bnd hp
              obtain ⟨v423, w426, n424, cs425, run427, S428, els429, ce430⟩ := S419.appendO (P := Tryz.prog) te73 (i := 3) (j := 0) rfl (els43.mono (up_mono ((((((i60.tr i92).tr i316).tr i364).tr r388.inc).tr i403).tr i411))) rfl els420 hz422
              have S428 : St Ha wa H408 w426 [.row 3 1 v416 1 [Value.int .i64 (wr ((len r405) - 1))], .row 129 6 v412 n413 cs414, .row 3 1 (Value.slice none 0 0) 0 [], .row 3 1 v423 n424 cs425] := S428
              have S431 : St Ha wa H408 w426 [.row 129 6 v412 n413 cs414, .row 3 1 (Value.slice none 0 0) 0 [], .row 3 1 v423 n424 cs425] := S428.drop 0
              refine FL.v (E.append rfl rfl run427) ?_
              refine FL.v (E.assign (v := v423) rfl) ?_
              refine FL.nil (FW.region ?_)
              refine FL.v (E.move k371) ?_
              refine FL.v (E.add rfl rfl) ?_
              refine FL.v (E.assign (v := Value.int .i64 (wr (s39.2.2 + 1))) rfl) ?_
              refine FL.nil ?_
              obtain rfl := Option.some.inj hp
              exact ⟨rfl, ⟨_, _, _, _, _, _, _, (S431.sel [2, 0] (by decide) rfl), (((((((i50.tr i60).tr i92).tr i316).tr i364).tr r388.inc).tr i403).tr i411), els429, els415, k367, k368, rfl, rfl, rfl⟩⟩
    ·
      refine FW.condF k69 c70 ?_
      refine FW.exit ?_
      obtain rfl := Option.some.inj hp
      exact ⟨nofun, rfl, ⟨_, _, _, _, _, _, _, S59, (i50.tr i60), (els43.mono (up_mono i60)), (els47.mono i60), k66, k67⟩⟩
  ·
    clear hq
    intro e f437 w436 hD
    rcases q39 with s39 | x39
    ·
      obtain ⟨rfl, hD⟩ := hD
      obtain ⟨H433, v40, n41, cs42, v44, n45, cs46, S434, i435, els43, els47, k438, k439⟩ := hD
      replace hp := el_go hp
      refine FW.seq (FW.region ?_)
      refine FL.v (E.move k438) ?_
      refine FL.v (E.move k439) ?_
      refine FL.v (E.assign (v := v44) rfl) ?_
      refine FL.v (E.assign (v := v40) rfl) ?_
      refine FL.nil ?_
      refine FW.ret ?_
      obtain rfl := Option.some.inj hp
      exact ⟨.inr rfl, res2 rfl rfl rfl ⟨_, _, _, _, _, _, _, rfl, (S434.sel [1, 0] (by decide) rfl), els47, els43⟩⟩
    · exact x39.elim

@[reducible] def p_spec_ProofToPlanes (Ha : GH) (wa : World) (r : ((List PlaneStep) × Bool)) : Ending → World → Prop :=
 fun e w' => ∃ H' : GH, ∃ v0 : Value, ∃ n0 : Nat, ∃ c0 : List Value, e = .returned (Value.tuple #[v0, Value.bool r.2]) ∧ St Ha wa H' w' [.row 129 6 v0 n0 c0] ∧ Els H' ePlaneStep 6 c0 r.1
theorem w_spec_ProofToPlanes {Ha : GH} {wa : World} (hs : Sl Ha wa) (a0 : Cnf) (v0_1 : Value) (p0_1 : RSl Ha (eL eI 1) 1 v0_1 a0.clauses) (v1 : Value) (a1 : List ResStep) (p1 : RSl Ha eResStep 4 v1 a1) {r : ((List PlaneStep) × Bool)} (hp : (PF.spec_ProofToPlanes a0 a1) = some r) :
  Calls Tryz.prog 24 #[Value.agg #[Value.int .i64 a0.vars, v0_1], v1] wa (p_spec_ProofToPlanes Ha wa r) := by
 unfold PF.spec_ProofToPlanes at hp
 have S0 := St.init hs
 refine calls_go (N := 32) (args := [Value.agg #[Value.int .i64 a0.vars, v0_1], v1]) Tryz.func24 rfl rfl rfl ?_
 refine FW.seq (FW.region ?_)
 obtain ⟨b21, w22, run23, S24⟩ := S0.box (P := Tryz.prog) 32 [Value.int .i64 a0.vars, v0_1] (v := Value.agg #[Value.int .i64 a0.vars, v0_1]) rfl (ones_cons rfl (ones_cons p0_1.one ones_nil))
 refine FL.v (E.box rfl run23) ?_
 obtain ⟨H25, S26, i27, at28⟩ := S24.sealBox (i := 0) (l' := []) rfl rfl
 refine FL.v (E.assign (v := Value.slice none 0 0) rfl) ?_
 refine FL.v (E.assign (v := Value.bool false) rfl) ?_
 refine FL.nil (FW.seq (FW.seq (FW.region ?_)))
 refine FL.v (E.load rfl (run_loadA Tryz.isAgg32 Tryz.sizeOf32 (at28.now S26.sl) rfl)) ?_
 refine FL.v (E.move (v := v1) rfl) ?_
 obtain ⟨r29, hr30, hp⟩ := bnd hp
 refine FL.call rfl rfl rfl (E.call Tryz.call77 (A2 rfl rfl)) (w_spec_l8Takes S26.sl a0 v0_1 (p0_1.mono i27) v1 a1 (p1.mono i27) hr30) ?_
 rintro e w31 ⟨rfl, r32⟩
 refine ⟨_, rfl, ?_⟩
 have S33 := S26.call r32
 refine FL.v (E.not rfl) ?_
 refine FL.nil ?_
 rcases ifB hp with ⟨c34, hp⟩ | ⟨c34, hp⟩
 ·
  refine FW.condT rfl c34 ?_
  refine FW.seq (FW.region ?_)
  obtain ⟨v35, w36, run37, S38⟩ := S33.buildSlice (P := Tryz.prog) te45 [] (parts := #[]) (cells := []) rfl szs_nil fc_nil ones_nil (Nat.le_of_ble_eq_true rfl)
  have els39 : Els (up wa.heap.size H25) ePlaneStep 6 [] [] := Els.nil
  refine FL.v (E.buildSlice (B0) run37) ?_
  refine FL.v (E.assign (v := v35) rfl) ?_
  refine FL.v (E.assign (v := Value.bool false) rfl) ?_
  refine FL.nil ?_
  refine FW.ret ?_
  obtain rfl := Option.some.inj hp
  exact ⟨.inr rfl, res2 rfl rfl rfl ⟨_, _, _, _, rfl, S38, (els39.mono upI)⟩⟩
 ·
  refine FW.condF rfl c34 ?_
  refine FW.skip (FW.seq (FW.region ?_))
  refine FL.v (E.load rfl (run_loadA Tryz.isAgg32 Tryz.sizeOf32 (at28.now S33.sl) rfl)) ?_
  refine FL.v (E.move (v := v1) rfl) ?_
  obtain ⟨r40, hr41, hp⟩ := bnd hp
  refine FL.call rfl rfl rfl (E.call Tryz.call78 (A2 rfl rfl)) (w_spec_l17Planes S33.sl a0 v0_1 (p0_1.mono i27) v1 a1 (p1.mono i27) hr41) ?_
  rintro e w43 ⟨H42, v46, n47, cs48, v50, n51, cs52, rfl, r45, els49, els53⟩
  refine ⟨_, rfl, ?_⟩
  have els53 := els53.mono (up_le S33.size)
  have S44 := S33.join (l' := [.row 129 6 v46 n47 cs48, .row 3 1 v50 n51 cs52]) r45 rfl
  refine FL.v (E.move (v := Value.tuple #[v46, v50]) rfl) ?_
  refine FL.v (E.extract (i := 0) rfl rfl) ?_
  refine FL.v (E.extract (i := 1) rfl rfl) ?_
  refine FL.v (E.assign (v := v46) rfl) ?_
  refine FL.v (E.assign (v := v50) rfl) ?_
  refine FL.nil (FW.seq (FW.seq (FW.region ?_)))
  refine FL.v (E.move (v := v46) rfl) ?_
  refine FL.v (E.lenO te45 rfl S44 (i := 0) rfl els49 (by decide)) ?_
  refine FL.v (E.gtr rfl rfl) ?_
  refine FL.nil ?_
  rcases ifB hp with ⟨c54, hp⟩ | ⟨c54, hp⟩
  ·
   refine FW.condT rfl c54 ?_
   refine FW.seq (FW.region ?_)
   obtain ⟨v55, w56, run57, S58⟩ := S44.buildSlice (P := Tryz.prog) te45 [] (parts := #[]) (cells := []) rfl szs_nil fc_nil ones_nil (Nat.le_of_ble_eq_true rfl)
   have els59 : Els (up wa.heap.size H42) ePlaneStep 6 [] [] := Els.nil
   refine FL.v (E.buildSlice (B0) run57) ?_
   refine FL.v (E.assign (v := v55) rfl) ?_
   refine FL.v (E.assign (v := Value.bool false) rfl) ?_
   refine FL.nil ?_
   refine FW.ret ?_
   obtain rfl := Option.some.inj hp
   exact ⟨.inr rfl, res2 rfl rfl rfl ⟨_, _, _, _, rfl, (S58.sel [0] (by decide) rfl), (els59.mono upI)⟩⟩
  ·
   refine FW.condF rfl c54 ?_
   refine FW.skip (FW.seq (FW.region ?_))
   refine FL.v (E.move (v := v46) rfl) ?_
   refine FL.v (E.move (v := v50) rfl) ?_
   refine FL.v (E.move (v := v50) rfl) ?_
   refine FL.v (E.lenO te73 rfl S44 (i := 1) rfl els53 (by decide)) ?_
   refine FL.v (E.sub rfl rfl) ?_
   obtain ⟨x66, hx67, hp⟩ := bnd hp
   obtain ⟨p60, cs61, pt62, l63, at64, rel65⟩ := S44.row_at (i := 1) rfl els53 (by decide) hx67
   obtain rfl := eI_open rel65
   refine FL.v (E.indexAddr te73 rfl rfl pt62) ?_
   refine FL.v (E.load rfl (run_load0 Tryz.isAgg3 at64 rfl)) ?_
   refine FL.v (E.add rfl rfl) ?_
   obtain ⟨xs68, hc69, hp⟩ := bnd hp
   obtain ⟨v70, n71, cs72, run73, S74, els75, nd76⟩ := S44.cutRow te45 (kk := .i64) (i := 0) rfl els49 hc69
   have S74 : St Ha wa H42 w43 [.row 129 6 v70 n71 cs72, .row 3 1 v50 n51 cs52] := S74
   refine FL.v (E.slice te45 rfl rfl (congrArg some rfl) rfl (run73 _)) ?_
   refine FL.v (E.assign (v := v70) rfl) ?_
   refine FL.v (E.assign (v := Value.bool true) rfl) ?_
   refine FL.nil ?_
   refine FW.ret ?_
   obtain rfl := Option.some.inj hp
   exact ⟨.inr rfl, res2 rfl rfl rfl ⟨_, _, _, _, rfl, (S74.sel [0] (by decide) rfl), els75⟩⟩

theorem w_impl_within {Ha : GH} {wa : World} (hs : Sl Ha wa) (a0 : Int) (a1 : Int) (a2 : Int) :
  Calls Tryz.prog 162 #[Value.int .i64 a0, Value.int .i64 a1, Value.int .i64 a2] wa (Sc Ha wa (Value.bool (PF.impl_within a0 a1 a2))) := by
 obtain ⟨r, hp⟩ : ∃ r, (PF.impl_within a0 a1 a2) = r := ⟨_, rfl⟩
 rw [hp]
 unfold PF.impl_within at hp
 have S0 := St.init hs
 refine calls_go (N := 15) (args := [Value.int .i64 a0, Value.int .i64 a1, Value.int .i64 a2]) Tryz.func162 rfl rfl rfl ?_
 refine FW.seq (FW.region ?_)
 refine FL.v (E.assign (v := Value.bool false) rfl) ?_
 refine FL.nil (FW.seq (FW.region ?_))
 refine FL.v (E.move (v := Value.int .i64 a0) rfl) ?_
 refine FL.v (E.move (v := Value.int .i64 a1) rfl) ?_
 refine FL.v (E.geq rfl rfl) ?_
 refine FL.v (E.move (v := Value.bool (decide (a1 ≤ a0))) rfl) ?_
 refine FL.cut 4 (fun f w => ∃ H : GH, St Ha wa H w [] ∧ Inc Ha H ∧ f 14 = Value.bool (bif (decide (a1 ≤ a0)) then (decide (a0 ≤ a2)) else false)) ?_ ?_
 ·
  rcases bcase (decide (a1 ≤ a0)) with c27 | c27
  ·
   refine FL.val (wF_yes rfl rfl rfl c27) rfl rfl (E.move (v := Value.int .i64 a0) rfl) ?_
   refine FL.val (wF_yes rfl rfl rfl c27) rfl rfl (E.move (v := Value.int .i64 a2) rfl) ?_
   refine FL.val (wF_yes rfl rfl rfl c27) rfl rfl (E.leq rfl rfl) ?_
   refine FL.v (E.pickT rfl c27 rfl) ?_
   exact FL.nil ⟨rfl, _, S0, (Inc.rfl _), (congrArg Value.bool (bifT c27).symm)⟩
  ·
   refine FL.skip (wF_no rfl rfl rfl c27) rfl ?_
   refine FL.skip (wF_no rfl rfl rfl c27) rfl ?_
   refine FL.skip (wF_no rfl rfl rfl c27) rfl ?_
   refine FL.v (E.pickF rfl c27 rfl) ?_
   exact FL.nil ⟨rfl, _, S0, (Inc.rfl _), (congrArg Value.bool (bifF c27).symm)⟩
 rintro f26 w25 ⟨H22, S23, i24, k28⟩
 refine FL.v (E.assign k28) ?_
 refine FL.nil ?_
 refine FW.ret ?_
 obtain rfl := hp
 exact ⟨.inr rfl, res1 rfl rfl ⟨rfl, S23.back⟩⟩

theorem w_impl_isLiteral {Ha : GH} {wa : World} (hs : Sl Ha wa) (a0 : Int) (a1 : Int) :
  Calls Tryz.prog 229 #[Value.int .i64 a0, Value.int .i64 a1] wa (Sc Ha wa (Value.bool (PF.impl_isLiteral a0 a1))) := by
 obtain ⟨r, hp⟩ : ∃ r, (PF.impl_isLiteral a0 a1) = r := ⟨_, rfl⟩
 rw [hp]
 unfold PF.impl_isLiteral at hp
 have S0 := St.init hs
 refine calls_go (N := 14) (args := [Value.int .i64 a0, Value.int .i64 a1]) Tryz.func229 rfl rfl rfl ?_
 refine FW.seq (FW.region ?_)
 refine FL.v (E.assign (v := Value.bool false) rfl) ?_
 refine FL.nil (FW.seq (FW.region ?_))
 refine FL.v (E.move (v := Value.int .i64 a1) rfl) ?_
 refine FL.v (E.neq rfl rfl) ?_
 refine FL.v (E.move (v := Value.bool (!(a1 == 0))) rfl) ?_
 refine FL.cut 6 (fun f w => ∃ H : GH, St Ha wa H w [] ∧ Inc Ha H ∧ f 13 = Value.bool (bif (!(a1 == 0)) then (PF.impl_within a1 (wr (-a0)) a0) else false)) ?_ ?_
 ·
  rcases bcase (!(a1 == 0)) with c30 | c30
  ·
   refine FL.val (wF_yes rfl rfl rfl c30) rfl rfl (E.move (v := Value.int .i64 a1) rfl) ?_
   refine FL.val (wF_yes rfl rfl rfl c30) rfl rfl (E.move (v := Value.int .i64 a0) rfl) ?_
   refine FL.val (wF_yes rfl rfl rfl c30) rfl rfl (E.neg rfl) ?_
   refine FL.val (wF_yes rfl rfl rfl c30) rfl rfl (E.move (v := Value.int .i64 a0) rfl) ?_
   refine FL.call (wF_yes rfl rfl rfl c30) rfl rfl (E.call Tryz.call162 (A3 rfl rfl rfl)) (w_impl_within S0.sl a1 (wr (-a0)) a0) ?_
   rintro e w31 ⟨rfl, r32⟩
   refine ⟨_, rfl, ?_⟩
   have S33 := S0.call r32
   refine FL.v (E.pickT rfl c30 rfl) ?_
   exact FL.nil ⟨rfl, _, S33, (Inc.rfl _), (congrArg Value.bool (bifT c30).symm)⟩
  ·
   refine FL.skip (wF_no rfl rfl rfl c30) rfl ?_
   refine FL.skip (wF_no rfl rfl rfl c30) rfl ?_
   refine FL.skip (wF_no rfl rfl rfl c30) rfl ?_
   refine FL.skip (wF_no rfl rfl rfl c30) rfl ?_
   refine FL.skip (wF_no rfl rfl rfl c30) rfl ?_
   refine FL.v (E.pickF rfl c30 rfl) ?_
   exact FL.nil ⟨rfl, _, S0, (Inc.rfl _), (congrArg Value.bool (bifF c30).symm)⟩
 rintro f29 w28 ⟨H25, S26, i27, k34⟩
 refine FL.v (E.assign k34) ?_
 refine FL.nil ?_
 refine FW.ret ?_
 obtain rfl := hp
 exact ⟨.inr rfl, res1 rfl rfl ⟨rfl, S26.back⟩⟩

theorem w_impl_abs {Ha : GH} {wa : World} (hs : Sl Ha wa) (a0 : Int) :
  Calls Tryz.prog 143 #[Value.int .i64 a0] wa (Sc Ha wa (Value.int .i64 (PF.impl_abs a0))) := by
 obtain ⟨r, hp⟩ : ∃ r, (PF.impl_abs a0) = r := ⟨_, rfl⟩
 rw [hp]
 unfold PF.impl_abs at hp
 have S0 := St.init hs
 refine calls_go (N := 7) (args := [Value.int .i64 a0]) Tryz.func143 rfl rfl rfl ?_
 refine FW.seq (FW.region ?_)
 refine FL.v (E.assign (v := Value.int .i64 0) rfl) ?_
 refine FL.nil (FW.seq (FW.region ?_))
 refine FL.v (E.move (v := Value.int .i64 a0) rfl) ?_
 refine FL.v (E.move (v := Value.int .i64 a0) rfl) ?_
 refine FL.v (E.neg rfl) ?_
 refine FL.v (E.max2 rfl rfl) ?_
 refine FL.v (E.assign (v := Value.int .i64 (mx a0 (wr (-a0)))) rfl) ?_
 refine FL.nil ?_
 refine FW.ret ?_
 obtain rfl := hp
 exact ⟨.inr rfl, res1 rfl rfl ⟨rfl, S0.back⟩⟩

theorem w_impl_varsOk {Ha : GH} {wa : World} (hs : Sl Ha wa) (a0 : Int) :
  Calls Tryz.prog 181 #[Value.int .i64 a0] wa (Sc Ha wa (Value.bool (PF.impl_varsOk a0))) := by
 obtain ⟨r, hp⟩ : ∃ r, (PF.impl_varsOk a0) = r := ⟨_, rfl⟩
 rw [hp]
 unfold PF.impl_varsOk at hp
 have S0 := St.init hs
 refine calls_go (N := 5) (args := [Value.int .i64 a0]) Tryz.func181 rfl rfl rfl ?_
 refine FW.seq (FW.region ?_)
 refine FL.v (E.assign (v := Value.bool false) rfl) ?_
 refine FL.nil (FW.seq (FW.region ?_))
 refine FL.v (E.move (v := Value.int .i64 a0) rfl) ?_
 refine FL.call rfl rfl rfl (E.call Tryz.call162 (A3 rfl rfl rfl)) (w_impl_within S0.sl a0 0 12) ?_
 rintro e w21 ⟨rfl, r22⟩
 refine ⟨_, rfl, ?_⟩
 have S23 := S0.call r22
 refine FL.v (E.assign (v := Value.bool (PF.impl_within a0 0 12)) rfl) ?_
 refine FL.nil ?_
 refine FW.ret ?_
 obtain rfl := hp
 exact ⟨.inr rfl, res1 rfl rfl ⟨rfl, S23.back⟩⟩

theorem w_impl_IsClause {Ha : GH} {wa : World} (hs : Sl Ha wa) (a0 : Int) (v1 : Value) (a1 : List Int) (p1 : RSl Ha eI 1 v1 a1) {r : Bool} (hp : (PF.impl_IsClause a0 a1) = some r) :
  Calls Tryz.prog 180 #[Value.int .i64 a0, v1] wa (Sc Ha wa (Value.bool r)) := by
 unfold PF.impl_IsClause at hp
 have S0 := St.init hs
 refine calls_go (N := 36) (args := [Value.int .i64 a0, v1]) Tryz.func180 rfl rfl rfl ?_
 refine FW.seq (FW.region ?_)
 refine FL.v (E.assign (v := Value.bool false) rfl) ?_
 refine FL.nil (FW.seq (FW.seq (FW.region ?_)))
 refine FL.v (E.move (v := v1) rfl) ?_
 refine FL.v (E.lenP te73 rfl p1) ?_
 refine FL.v (E.move (v := Value.int .i64 0) rfl) ?_
 refine FL.nil ?_
 obtain ⟨q22, hq, hp⟩ := bndR hp
 refine FW.block ?_
 refine FW.mono (FW.forL (S := Unit) (X := Bool) (fun (i22 : Nat) (s22 : Unit) f w => ∃ H : GH, St Ha wa H w [] ∧ Inc Ha H ∧ f 9 = Value.int .i64 ((i22 : Nat) : Int) ∧ f 0 = Value.int .i64 a0 ∧ f 1 = v1 ∧ f 7 = v1 ∧ f 8 = Value.int .i64 (len a1)) (fun q e f w => match q with | .go s22 => e = Exit.exit 0 ∧ (∃ H : GH, St Ha wa H w [] ∧ Inc Ha H ∧ f 0 = Value.int .i64 a0) | .rt x => ((e = Exit.ret) ∧ (fun e f w => (e = Exit.normal ∨ e = Exit.ret) ∧ ∀ a, Fr (δ := []) 36 a f → ∃ v, (results Tryz.f180 a.tmps).run Tryz.prog w = .ok v w ∧ (Sc Ha wa (Value.bool x)) (.returned v) w) e f w)) hq ⟨_, S0, (Inc.rfl _), rfl, rfl, rfl, rfl, rfl⟩ ?_ ?_) ?_
 ·
  clear hp hq
  rintro i22 y21 s22 f121 w120 ⟨H117, S118, i119, k122, k123, k124, k125, k126⟩ hx22 o211 hp
  refine FW.seq (FW.region ?_)
  refine FL.v (E.lssT k122 k126 (lss_len hx22)) ?_
  refine FL.nil (FW.seq ?_)
  refine FW.condT rfl rfl ?_
  refine FW.skip (FW.seq (FW.block (FW.seq (FW.region ?_))))
  refine FL.v (E.move k122) ?_
  obtain ⟨p127, cs128, pt129, l130, at131, rel132⟩ := p1.at (ix_nat hx22)
  obtain rfl := eI_open rel132
  refine FL.v (E.indexAddr te73 k125 k122 pt129) ?_
  refine FL.v (E.load rfl (run_load0 Tryz.isAgg3 ((at131.mono i119).now S118.sl) rfl)) ?_
  refine FL.v (E.assign (v := Value.int .i64 ((i22 : Nat) : Int)) rfl) ?_
  refine FL.v (E.assign (v := Value.int .i64 y21) rfl) ?_
  refine FL.nil (FW.seq ?_)
  refine FW.draw (fun w' => Run w120.heap.size H117 w120 H117 w') (by kernel_rfl) (by kernel_rfl) (run_drew S118.sl) ?_
  refine FD.val rfl rfl rfl (fun w' hw' => (E.move k123)) ?_
  refine FD.val rfl rfl rfl (fun w' hw' => (E.move (v := Value.int .i64 y21) rfl)) ?_
  refine FD.call rfl rfl rfl (fun w' hw' => (E.call Tryz.call229 (A2 rfl rfl))) (fun w' hw' => Calls.cls hw' (w_impl_isLiteral (S118.call hw').sl a0 y21)) ?_
  refine FD.val rfl rfl rfl (fun w' hw' => (E.not rfl)) ?_
  refine FD.val rfl rfl rfl (fun w' hw' => (E.move (v := Value.bool (!(PF.impl_isLiteral a0 y21))) rfl)) ?_
  obtain ⟨t164, hqt164, hp⟩ := bnd hp
  refine FD.cut 14 (fun f => f 0 = Value.int .i64 a0 ∧ f 1 = v1 ∧ f 7 = v1 ∧ f 8 = Value.int .i64 (len a1) ∧ f 9 = Value.int .i64 ((i22 : Nat) : Int) ∧ f 32 = Value.bool t164) ?_ ?_
  ·
   clear hp; have hp := hqt164; clear hqt164
   rcases ifB hp with ⟨c170, hp⟩ | ⟨c170, hp⟩
   ·
    refine FD.skip (wF_no rfl rfl rfl c170) rfl ?_
    refine FD.skip (wF_no rfl rfl rfl c170) rfl ?_
    refine FD.skip (wF_no rfl rfl rfl c170) rfl ?_
    refine FD.skip (wF_undef rfl rfl rfl) rfl ?_
    refine FD.skip (wF_undef rfl rfl rfl) rfl ?_
    refine FD.skip (wF_undef rfl rfl rfl) rfl ?_
    refine FD.skip (wF_undef rfl rfl rfl) rfl ?_
    refine FD.skip (wF_undef rfl rfl rfl) rfl ?_
    refine FD.skip (wF_undef rfl rfl rfl) rfl ?_
    refine FD.skip (wF_undef rfl rfl rfl) rfl ?_
    refine FD.skip (wF_undef rfl rfl rfl) rfl ?_
    refine FD.skip (wF_undef rfl rfl rfl) rfl ?_
    refine FD.skip (wF_no rfl rfl rfl c170) rfl ?_
    obtain rfl := Option.some.inj hp
    refine FD.val rfl rfl rfl (fun w' hw' => (E.pickT rfl c170 rfl)) ?_
    exact FD.nil ⟨k123, k124, k125, k126, k122, rfl⟩
   ·
    refine FD.val (wF_yes rfl rfl rfl c170) rfl rfl (fun w' hw' => (E.move (v := Value.int .i64 ((i22 : Nat) : Int)) rfl)) ?_
    refine FD.val (wF_yes rfl rfl rfl c170) rfl rfl (fun w' hw' => (E.gtr rfl rfl)) ?_
    refine FD.val (wF_yes rfl rfl rfl c170) rfl rfl (fun w' hw' => (E.move (v := Value.bool (decide (0 < ((i22 : Nat) : Int)))) rfl)) ?_
    obtain ⟨t179, hqt179, hp⟩ := bnd hp
    refine FD.cut 10 (fun f => f 0 = Value.int .i64 a0 ∧ f 1 = v1 ∧ f 7 = v1 ∧ f 8 = Value.int .i64 (len a1) ∧ f 9 = Value.int .i64 ((i22 : Nat) : Int) ∧ f 18 = Value.bool (!(PF.impl_isLiteral a0 y21)) ∧ f 31 = Value.bool t179) ?_ ?_
    ·
     clear hp; have hp := hqt179; clear hqt179
     rcases ifB hp with ⟨c185, hp⟩ | ⟨c185, hp⟩
     ·
      refine FD.val (wF_yes rfl rfl rfl c185) rfl rfl (fun w' hw' => (E.move (v := Value.int .i64 y21) rfl)) ?_
      refine FD.call (wF_yes rfl rfl rfl c185) rfl rfl (fun w' hw' => (E.call Tryz.call143 (A1 rfl))) (fun w' hw' => Calls.cls hw' (w_impl_abs (S118.call hw').sl y21)) ?_
      refine FD.val (wF_yes rfl rfl rfl c185) rfl rfl (fun w' hw' => (E.move k124)) ?_
      refine FD.val (wF_yes rfl rfl rfl c185) rfl rfl (fun w' hw' => (E.move (v := Value.int .i64 ((i22 : Nat) : Int)) rfl)) ?_
      refine FD.val (wF_yes rfl rfl rfl c185) rfl rfl (fun w' hw' => (E.sub rfl rfl)) ?_
      obtain ⟨x192, hx193, hp⟩ := bnd hp
      obtain ⟨p186, cs187, pt188, l189, at190, rel191⟩ := p1.at hx193
      obtain rfl := eI_open rel191
      refine FD.val (wF_yes rfl rfl rfl c185) rfl rfl (fun w' hw' => (E.indexAddr te73 rfl rfl pt188)) ?_
      refine FD.val (wF_yes rfl rfl rfl c185) rfl rfl (fun w' hw' => (E.load rfl (run_load0 Tryz.isAgg3 ((at190.mono i119).now (S118.call hw').sl) rfl))) ?_
      refine FD.call (wF_yes rfl rfl rfl c185) rfl rfl (fun w' hw' => (E.call Tryz.call143 (A1 rfl))) (fun w' hw' => Calls.cls hw' (w_impl_abs (S118.call hw').sl x192)) ?_
      refine FD.val (wF_yes rfl rfl rfl c185) rfl rfl (fun w' hw' => (E.leq rfl rfl)) ?_
      obtain rfl := Option.some.inj hp
      refine FD.val (wF_yes rfl rfl rfl c170) rfl rfl (fun w' hw' => (E.pickT rfl c185 rfl)) ?_
      exact FD.nil ⟨k123, k124, k125, k126, k122, rfl, rfl⟩
     ·
      refine FD.skip (wF_no rfl rfl rfl c185) rfl ?_
      refine FD.skip (wF_no rfl rfl rfl c185) rfl ?_
      refine FD.skip (wF_no rfl rfl rfl c185) rfl ?_
      refine FD.skip (wF_no rfl rfl rfl c185) rfl ?_
      refine FD.skip (wF_no rfl rfl rfl c185) rfl ?_
      refine FD.skip (wF_no rfl rfl rfl c185) rfl ?_
      refine FD.skip (wF_no rfl rfl rfl c185) rfl ?_
      refine FD.skip (wF_no rfl rfl rfl c185) rfl ?_
      refine FD.skip (wF_no rfl rfl rfl c185) rfl ?_
      obtain rfl := Option.some.inj hp
      refine FD.val (wF_yes rfl rfl rfl c170) rfl rfl (fun w' hw' => (E.pickF rfl c185 rfl)) ?_
      exact FD.nil ⟨k123, k124, k125, k126, k122, rfl, rfl⟩
    rintro f184 ⟨k194, k195, k196, k197, k198, k199, k200⟩
    obtain rfl := Option.some.inj hp
    refine FD.val rfl rfl rfl (fun w' hw' => (E.pickF k199 c170 k200)) ?_
    exact FD.nil ⟨k194, k195, k196, k197, k198, rfl⟩
  rintro f169 ⟨k201, k202, k203, k204, k205, k206⟩
  refine FD.nil ?_
  intro w207 r209
  have S208 := S118.call r209
  rcases ifB hp with ⟨c210, hp⟩ | ⟨c210, hp⟩
  ·
   refine FW.condT k206 c210 ?_
   refine FW.seq (FW.region ?_)
   refine FL.v (E.assign (v := Value.bool false) rfl) ?_
   refine FL.nil ?_
   refine FW.ret ?_
   obtain rfl := Option.some.inj hp
   exact ⟨nofun, rfl, ⟨.inr rfl, res1 rfl rfl ⟨rfl, S208.back⟩⟩⟩
  ·
   refine FW.condF k206 c210 ?_
   refine FW.skip (FW.region ?_)
   refine FL.v (E.add k205 rfl) ?_
   refine FL.v (E.move (v := Value.int .i64 (wr (((i22 : Nat) : Int) + 1))) rfl) ?_
   refine FL.nil ?_
   obtain rfl := Option.some.inj hp
   exact ⟨rfl, ⟨_, S208, i119, (nat_succ rfl (lt_of_get hx22) (p1.mono i119).le), k201, k202, k203, k204⟩⟩
 ·
  clear hp hq
  rintro s22 f225 w224 ⟨H221, S222, i223, k226, k227, k228, k229, k230⟩
  refine FW.seq (FW.region ?_)
  refine FL.v (E.lss k226 k230) ?_
  refine FL.nil (FW.seq ?_)
  refine FW.condF rfl dlt_len ?_
  refine FW.exit ?_
  exact ⟨nofun, rfl, ⟨_, S222, i223, k227⟩⟩
 ·
  clear hq
  intro e f216 w215 hD
  rcases q22 with s22 | x22
  ·
   obtain ⟨rfl, hD⟩ := hD
   obtain ⟨H212, S213, i214, k217⟩ := hD
   replace hp := el_go hp
   refine FW.seq (FW.region ?_)
   refine FL.v (E.move k217) ?_
   refine FL.call rfl rfl rfl (E.call Tryz.call181 (A1 rfl)) (w_impl_varsOk S213.sl a0) ?_
   rintro e w218 ⟨rfl, r219⟩
   refine ⟨_, rfl, ?_⟩
   have S220 := S213.call r219
   refine FL.v (E.assign (v := Value.bool (PF.impl_varsOk a0)) rfl) ?_
   refine FL.nil ?_
   refine FW.ret ?_
   obtain rfl := Option.some.inj hp
   exact ⟨.inr rfl, res1 rfl rfl ⟨rfl, S220.back⟩⟩
  ·
   obtain ⟨he, hL⟩ := hD
   replace hp := el_rt hp
   obtain rfl := Option.some.inj hp
   subst he
   exact hL

theorem w_impl_IsCnf {Ha : GH} {wa : World} (hs : Sl Ha wa) (a0 : Cnf) (v0_1 : Value) (p0_1 : RSl Ha (eL eI 1) 1 v0_1 a0.clauses) {r : Bool} (hp : (PF.impl_IsCnf a0) = some r) :
  Calls Tryz.prog 120 #[Value.agg #[Value.int .i64 a0.vars, v0_1]] wa (Sc Ha wa (Value.bool r)) := by
 unfold PF.impl_IsCnf at hp
 have S0 := St.init hs
 refine calls_go (N := 27) (args := [Value.agg #[Value.int .i64 a0.vars, v0_1]]) Tryz.func120 rfl rfl rfl ?_
 refine FW.seq (FW.region ?_)
 obtain ⟨b21, w22, run23, S24⟩ := S0.box (P := Tryz.prog) 32 [Value.int .i64 a0.vars, v0_1] (v := Value.agg #[Value.int .i64 a0.vars, v0_1]) rfl (ones_cons rfl (ones_cons p0_1.one ones_nil))
 refine FL.v (E.box rfl run23) ?_
 obtain ⟨H25, S26, i27, at28⟩ := S24.sealBox (i := 0) (l' := []) rfl rfl
 refine FL.v (E.assign (v := Value.bool false) rfl) ?_
 refine FL.nil (FW.seq (FW.seq (FW.region ?_)))
 refine FL.v (E.fieldAddr tf32_1 rfl) ?_
 refine FL.v (E.load rfl (run_load1 Tryz.isAgg22 (at28.now S26.sl) rfl)) ?_
 refine FL.v (E.lenP te22 rfl p0_1) ?_
 refine FL.v (E.move (v := Value.int .i64 0) rfl) ?_
 refine FL.nil ?_
 obtain ⟨q30, hq, hp⟩ := bndR hp
 refine FW.block ?_
 refine FW.mono (FW.forL (S := Unit) (X := Bool) (fun (i30 : Nat) (s30 : Unit) f w => ∃ H : GH, St Ha wa H w [] ∧ Inc H25 H ∧ f 8 = Value.int .i64 ((i30 : Nat) : Int) ∧ f 1 = Value.pointer (some ⟨b21, 0, none⟩) ∧ f 6 = v0_1 ∧ f 7 = Value.int .i64 (len a0.clauses)) (fun q e f w => match q with | .go s30 => e = Exit.exit 0 ∧ (∃ H : GH, St Ha wa H w [] ∧ Inc H25 H ∧ f 1 = Value.pointer (some ⟨b21, 0, none⟩)) | .rt x => ((e = Exit.ret) ∧ (fun e f w => (e = Exit.normal ∨ e = Exit.ret) ∧ ∀ a, Fr (δ := []) 27 a f → ∃ v, (results Tryz.f120 a.tmps).run Tryz.prog w = .ok v w ∧ (Sc Ha wa (Value.bool x)) (.returned v) w) e f w)) hq ⟨_, S26, (Inc.rfl _), rfl, rfl, rfl, rfl⟩ ?_ ?_) ?_
 ·
  clear hp hq
  rintro i30 y29 s30 f58 w57 ⟨H54, S55, i56, k59, k60, k61, k62⟩ hx30 o77 hp
  refine FW.seq (FW.region ?_)
  refine FL.v (E.lssT k59 k62 (lss_len hx30)) ?_
  refine FL.nil (FW.seq ?_)
  refine FW.condT rfl rfl ?_
  refine FW.skip (FW.seq (FW.block (FW.seq (FW.region ?_))))
  obtain ⟨p63, cs64, pt65, l66, at67, rel68⟩ := p0_1.at (ix_nat hx30)
  obtain ⟨v69, rfl, h70⟩ := eL_open rel68
  refine FL.v (E.indexAddr te22 k61 k59 pt65) ?_
  refine FL.v (E.load rfl (run_load0 Tryz.isAgg73 ((at67.mono (i27.tr i56)).now S55.sl) rfl)) ?_
  refine FL.v (E.assign (v := v69) rfl) ?_
  refine FL.nil (FW.seq (FW.region ?_))
  refine FL.v (E.fieldAddr tf32_0 k60) ?_
  refine FL.v (E.load rfl (run_load1 Tryz.isAgg3 ((at28.mono i56).now S55.sl) rfl)) ?_
  refine FL.v (E.move (v := v69) rfl) ?_
  obtain ⟨r71, hr72, hp⟩ := bnd hp
  refine FL.call rfl rfl rfl (E.call Tryz.call180 (A2 rfl rfl)) (w_impl_IsClause S55.sl a0.vars v69 y29 (h70.mono (i27.tr i56)) hr72) ?_
  rintro e w73 ⟨rfl, r74⟩
  refine ⟨_, rfl, ?_⟩
  have S75 := S55.call r74
  refine FL.v (E.not rfl) ?_
  refine FL.nil ?_
  rcases ifB hp with ⟨c76, hp⟩ | ⟨c76, hp⟩
  ·
   refine FW.condT rfl c76 ?_
   refine FW.seq (FW.region ?_)
   refine FL.v (E.assign (v := Value.bool false) rfl) ?_
   refine FL.nil ?_
   refine FW.ret ?_
   obtain rfl := Option.some.inj hp
   exact ⟨nofun, rfl, ⟨.inr rfl, res1 rfl rfl ⟨rfl, S75.back⟩⟩⟩
  ·
   refine FW.condF rfl c76 ?_
   refine FW.skip (FW.region ?_)
   refine FL.v (E.add k59 rfl) ?_
   refine FL.v (E.move (v := Value.int .i64 (wr (((i30 : Nat) : Int) + 1))) rfl) ?_
   refine FL.nil ?_
   obtain rfl := Option.some.inj hp
   exact ⟨rfl, ⟨_, S75, i56, (nat_succ rfl (lt_of_get hx30) (p0_1.mono (i27.tr i56)).le), k60, k61, k62⟩⟩
 ·
  clear hp hq
  rintro s30 f99 w98 ⟨H95, S96, i97, k100, k101, k102, k103⟩
  refine FW.seq (FW.region ?_)
  refine FL.v (E.lss k100 k103) ?_
  refine FL.nil (FW.seq ?_)
  refine FW.condF rfl dlt_len ?_
  refine FW.exit ?_
  exact ⟨nofun, rfl, ⟨_, S96, i97, k101⟩⟩
 ·
  clear hq
  intro e f82 w81 hD
  rcases q30 with s30 | x30
  ·
   obtain ⟨rfl, hD⟩ := hD
   obtain ⟨H78, S79, i80, k83⟩ := hD
   replace hp := el_go hp
   refine FW.seq (FW.region ?_)
   refine FL.v (E.fieldAddr tf32_0 k83) ?_
   refine FL.v (E.load rfl (run_load1 Tryz.isAgg3 ((at28.mono i80).now S79.sl) rfl)) ?_
   refine FL.call rfl rfl rfl (E.call Tryz.call181 (A1 rfl)) (w_impl_varsOk S79.sl a0.vars) ?_
   rintro e w84 ⟨rfl, r85⟩
   refine ⟨_, rfl, ?_⟩
   have S86 := S79.call r85
   refine FL.v (E.move (v := Value.bool (PF.impl_varsOk a0.vars)) rfl) ?_
   refine FL.cut 5 (fun f w => ∃ H : GH, St Ha wa H w [] ∧ Inc H78 H ∧ f 26 = Value.bool (bif (PF.impl_varsOk a0.vars) then (decide ((len a0.clauses) ≤ 60)) else false)) ?_ ?_
   ·
    rcases bcase (PF.impl_varsOk a0.vars) with c93 | c93
    ·
     refine FL.val (wF_yes rfl rfl rfl c93) rfl rfl (E.fieldAddr tf32_1 k83) ?_
     refine FL.val (wF_yes rfl rfl rfl c93) rfl rfl (E.load rfl (run_load1 Tryz.isAgg22 ((at28.mono i80).now S86.sl) rfl)) ?_
     refine FL.val (wF_yes rfl rfl rfl c93) rfl rfl (E.lenP te22 rfl p0_1) ?_
     refine FL.val (wF_yes rfl rfl rfl c93) rfl rfl (E.leq rfl rfl) ?_
     refine FL.v (E.pickT rfl c93 rfl) ?_
     exact FL.nil ⟨rfl, _, S86, (Inc.rfl _), (congrArg Value.bool (bifT c93).symm)⟩
    ·
     refine FL.skip (wF_no rfl rfl rfl c93) rfl ?_
     refine FL.skip (wF_no rfl rfl rfl c93) rfl ?_
     refine FL.skip (wF_no rfl rfl rfl c93) rfl ?_
     refine FL.skip (wF_no rfl rfl rfl c93) rfl ?_
     refine FL.v (E.pickF rfl c93 rfl) ?_
     exact FL.nil ⟨rfl, _, S86, (Inc.rfl _), (congrArg Value.bool (bifF c93).symm)⟩
   rintro f92 w91 ⟨H88, S89, i90, k94⟩
   refine FL.v (E.assign k94) ?_
   refine FL.nil ?_
   refine FW.ret ?_
   obtain rfl := Option.some.inj hp
   exact ⟨.inr rfl, res1 rfl rfl ⟨rfl, S89.back⟩⟩
  ·
   obtain ⟨he, hL⟩ := hD
   replace hp := el_rt hp
   obtain rfl := Option.some.inj hp
   subst he
   exact hL

theorem w_slices_Equal_int_int {Ha : GH} {wa : World} (hs : Sl Ha wa) (v0 : Value) (a0 : List Int) (p0 : RSl Ha eI 1 v0 a0) (v1 : Value) (a1 : List Int) (p1 : RSl Ha eI 1 v1 a1) {r : Bool} (hp : (PF.slices_Equal_int_int a0 a1) = some r) :
  Calls Tryz.prog 230 #[v0, v1] wa (Sc Ha wa (Value.bool r)) := by
 unfold PF.slices_Equal_int_int at hp
 have S0 := St.init hs
 refine calls_go (N := 26) (args := [v0, v1]) Tryz.func230 rfl rfl rfl ?_
 refine FW.seq (FW.region ?_)
 refine FL.v (E.assign (v := Value.bool false) rfl) ?_
 refine FL.nil (FW.seq (FW.seq (FW.region ?_)))
 refine FL.v (E.move (v := v0) rfl) ?_
 refine FL.v (E.lenP te73 rfl p0) ?_
 refine FL.v (E.move (v := v1) rfl) ?_
 refine FL.v (E.lenP te73 rfl p1) ?_
 refine FL.v (E.neq rfl rfl) ?_
 refine FL.nil ?_
 rcases ifB hp with ⟨c21, hp⟩ | ⟨c21, hp⟩
 ·
  refine FW.condT rfl c21 ?_
  refine FW.seq (FW.region ?_)
  refine FL.v (E.assign (v := Value.bool false) rfl) ?_
  refine FL.nil ?_
  refine FW.ret ?_
  obtain rfl := Option.some.inj hp
  exact ⟨.inr rfl, res1 rfl rfl ⟨rfl, S0.back⟩⟩
 ·
  refine FW.condF rfl c21 ?_
  refine FW.skip (FW.seq (FW.seq (FW.region ?_)))
  refine FL.v (E.move (v := v0) rfl) ?_
  refine FL.v (E.lenP te73 rfl p0) ?_
  refine FL.v (E.move (v := Value.int .i64 0) rfl) ?_
  refine FL.nil ?_
  obtain ⟨q23, hq, hp⟩ := bndR hp
  refine FW.block ?_
  refine FW.mono (FW.forL (S := Unit) (X := Bool) (fun (i23 : Nat) (s23 : Unit) f w => ∃ H : GH, St Ha wa H w [] ∧ Inc Ha H ∧ f 13 = Value.int .i64 ((i23 : Nat) : Int) ∧ f 0 = v0 ∧ f 1 = v1 ∧ f 12 = Value.int .i64 (len a0)) (fun q e f w => match q with | .go s23 => e = Exit.exit 0 ∧ (∃ H : GH, St Ha wa H w [] ∧ Inc Ha H) | .rt x => ((e = Exit.ret) ∧ (fun e f w => (e = Exit.normal ∨ e = Exit.ret) ∧ ∀ a, Fr (δ := []) 26 a f → ∃ v, (results Tryz.f230 a.tmps).run Tryz.prog w = .ok v w ∧ (Sc Ha wa (Value.bool x)) (.returned v) w) e f w)) hq ⟨_, S0, (Inc.rfl _), rfl, rfl, rfl, rfl⟩ ?_ ?_) ?_
  ·
   clear hp hq
   rintro i23 y22 s23 f56 w55 ⟨H52, S53, i54, k57, k58, k59, k60⟩ hx23 o80 hp
   refine FW.seq (FW.region ?_)
   refine FL.v (E.lssT k57 k60 (lss_len hx23)) ?_
   refine FL.nil (FW.seq ?_)
   refine FW.condT rfl rfl ?_
   refine FW.skip (FW.seq (FW.block (FW.seq (FW.region ?_))))
   refine FL.v (E.move k57) ?_
   refine FL.v (E.assign (v := Value.int .i64 ((i23 : Nat) : Int)) rfl) ?_
   refine FL.nil (FW.seq ?_)
   refine FW.draw (fun w' => Run w55.heap.size H52 w55 H52 w') (by kernel_rfl) (by kernel_rfl) (run_drew S53.sl) ?_
   refine FD.val rfl rfl rfl (fun w' hw' => (E.move k58)) ?_
   refine FD.val rfl rfl rfl (fun w' hw' => (E.move (v := Value.int .i64 ((i23 : Nat) : Int)) rfl)) ?_
   obtain ⟨p62, cs63, pt64, l65, at66, rel67⟩ := p0.at (ix_nat hx23)
   obtain rfl := eI_open rel67
   refine FD.val rfl rfl rfl (fun w' hw' => (E.indexAddr te73 rfl rfl pt64)) ?_
   refine FD.val rfl rfl rfl (fun w' hw' => (E.load rfl (run_load0 Tryz.isAgg3 ((at66.mono i54).now (S53.call hw').sl) rfl))) ?_
   refine FD.val rfl rfl rfl (fun w' hw' => (E.move k59)) ?_
   refine FD.val rfl rfl rfl (fun w' hw' => (E.move (v := Value.int .i64 ((i23 : Nat) : Int)) rfl)) ?_
   obtain ⟨x74, hx75, hp⟩ := bnd hp
   obtain ⟨p68, cs69, pt70, l71, at72, rel73⟩ := p1.at hx75
   obtain rfl := eI_open rel73
   refine FD.val rfl rfl rfl (fun w' hw' => (E.indexAddr te73 rfl rfl pt70)) ?_
   refine FD.val rfl rfl rfl (fun w' hw' => (E.load rfl (run_load0 Tryz.isAgg3 ((at72.mono i54).now (S53.call hw').sl) rfl))) ?_
   refine FD.val rfl rfl rfl (fun w' hw' => (E.neq rfl rfl)) ?_
   refine FD.nil ?_
   intro w76 r78
   have S77 := S53.call r78
   rcases ifB hp with ⟨c79, hp⟩ | ⟨c79, hp⟩
   ·
    refine FW.condT rfl c79 ?_
    refine FW.seq (FW.region ?_)
    refine FL.v (E.assign (v := Value.bool false) rfl) ?_
    refine FL.nil ?_
    refine FW.ret ?_
    obtain rfl := Option.some.inj hp
    exact ⟨nofun, rfl, ⟨.inr rfl, res1 rfl rfl ⟨rfl, S77.back⟩⟩⟩
   ·
    refine FW.condF rfl c79 ?_
    refine FW.skip (FW.region ?_)
    refine FL.v (E.add k57 rfl) ?_
    refine FL.v (E.move (v := Value.int .i64 (wr (((i23 : Nat) : Int) + 1))) rfl) ?_
    refine FL.nil ?_
    obtain rfl := Option.some.inj hp
    exact ⟨rfl, ⟨_, S77, i54, (nat_succ rfl (lt_of_get hx23) (p0.mono i54).le), k58, k59, k60⟩⟩
  ·
   clear hp hq
   rintro s23 f90 w89 ⟨H86, S87, i88, k91, k92, k93, k94⟩
   refine FW.seq (FW.region ?_)
   refine FL.v (E.lss k91 k94) ?_
   refine FL.nil (FW.seq ?_)
   refine FW.condF rfl dlt_len ?_
   refine FW.exit ?_
   exact ⟨nofun, rfl, ⟨_, S87, i88⟩⟩
  ·
   clear hq
   intro e f85 w84 hD
   rcases q23 with s23 | x23
   ·
    obtain ⟨rfl, hD⟩ := hD
    obtain ⟨H81, S82, i83⟩ := hD
    replace hp := el_go hp
    refine FW.seq (FW.region ?_)
    refine FL.v (E.assign (v := Value.bool true) rfl) ?_
    refine FL.nil ?_
    refine FW.ret ?_
    obtain rfl := Option.some.inj hp
    exact ⟨.inr rfl, res1 rfl rfl ⟨rfl, S82.back⟩⟩
   ·
    obtain ⟨he, hL⟩ := hD
    replace hp := el_rt hp
    obtain rfl := Option.some.inj hp
    subst he
    exact hL

@[reducible] def p_impl_earlier (Ha : GH) (wa : World) (r : ((List Int) × Bool)) : Ending → World → Prop :=
 fun e w' => ∃ H' : GH, ∃ v0 : Value, e = .returned (Value.tuple #[v0, Value.bool r.2]) ∧ Run wa.heap.size Ha wa H' w' ∧ RSl H' eI 1 v0 r.1
theorem w_impl_earlier {Ha : GH} {wa : World} (hs : Sl Ha wa) (a0 : Cnf) (v0_1 : Value) (p0_1 : RSl Ha (eL eI 1) 1 v0_1 a0.clauses) (v1 : Value) (a1 : List ResStep) (p1 : RSl Ha eResStep 4 v1 a1) (a2 : Int) (a3 : Int) {r : ((List Int) × Bool)} (hp : (PF.impl_earlier a0 a1 a2 a3) = some r) :
  Calls Tryz.prog 231 #[Value.agg #[Value.int .i64 a0.vars, v0_1], v1, Value.int .i64 a2, Value.int .i64 a3] wa (p_impl_earlier Ha wa r) := by
 unfold PF.impl_earlier at hp
 have S0 := St.init hs
 refine calls_go (N := 31) (args := [Value.agg #[Value.int .i64 a0.vars, v0_1], v1, Value.int .i64 a2, Value.int .i64 a3]) Tryz.func231 rfl rfl rfl ?_
 refine FW.seq (FW.region ?_)
 obtain ⟨b21, w22, run23, S24⟩ := S0.box (P := Tryz.prog) 32 [Value.int .i64 a0.vars, v0_1] (v := Value.agg #[Value.int .i64 a0.vars, v0_1]) rfl (ones_cons rfl (ones_cons p0_1.one ones_nil))
 refine FL.v (E.box rfl run23) ?_
 obtain ⟨H25, S26, i27, at28⟩ := S24.sealBox (i := 0) (l' := []) rfl rfl
 refine FL.v (E.assign (v := Value.slice none 0 0) rfl) ?_
 refine FL.v (E.assign (v := Value.bool false) rfl) ?_
 refine FL.nil (FW.seq (FW.seq ?_))
 refine FW.draw (fun w' => Run w22.heap.size H25 w22 H25 w') (by kernel_rfl) (by kernel_rfl) (run_drew S26.sl) ?_
 refine FD.val rfl rfl rfl (fun w' hw' => (E.move (v := Value.int .i64 a3) rfl)) ?_
 refine FD.val rfl rfl rfl (fun w' hw' => (E.move (v := Value.int .i64 a2) rfl)) ?_
 refine FD.val rfl rfl rfl (fun w' hw' => (E.sub rfl rfl)) ?_
 refine FD.call rfl rfl rfl (fun w' hw' => (E.call Tryz.call162 (A3 rfl rfl rfl))) (fun w' hw' => Calls.cls hw' (w_impl_within (S26.call hw').sl a3 0 (wr (a2 - 1)))) ?_
 refine FD.val rfl rfl rfl (fun w' hw' => (E.not rfl)) ?_
 refine FD.val rfl rfl rfl (fun w' hw' => (E.move (v := Value.bool (!(PF.impl_within a3 0 (wr (a2 - 1))))) rfl)) ?_
 obtain ⟨t42, hqt42, hp⟩ := bnd hp
 refine FD.cut 10 (fun f => f 1 = v1 ∧ f 3 = Value.int .i64 a3 ∧ f 25 = Value.bool t42) ?_ ?_
 ·
  clear hp; have hp := hqt42; clear hqt42
  rcases ifB hp with ⟨c48, hp⟩ | ⟨c48, hp⟩
  ·
   refine FD.skip (wF_no rfl rfl rfl c48) rfl ?_
   refine FD.skip (wF_no rfl rfl rfl c48) rfl ?_
   refine FD.skip (wF_no rfl rfl rfl c48) rfl ?_
   refine FD.skip (wF_no rfl rfl rfl c48) rfl ?_
   refine FD.skip (wF_no rfl rfl rfl c48) rfl ?_
   refine FD.skip (wF_no rfl rfl rfl c48) rfl ?_
   refine FD.skip (wF_no rfl rfl rfl c48) rfl ?_
   refine FD.skip (wF_no rfl rfl rfl c48) rfl ?_
   refine FD.skip (wF_no rfl rfl rfl c48) rfl ?_
   obtain rfl := Option.some.inj hp
   refine FD.val rfl rfl rfl (fun w' hw' => (E.pickT rfl c48 rfl)) ?_
   exact FD.nil ⟨rfl, rfl, rfl⟩
  ·
   refine FD.val (wF_yes rfl rfl rfl c48) rfl rfl (fun w' hw' => (E.fieldAddr tf32_0 rfl)) ?_
   refine FD.val (wF_yes rfl rfl rfl c48) rfl rfl (fun w' hw' => (E.load rfl (run_load1 Tryz.isAgg3 (at28.now (S26.call hw').sl) rfl))) ?_
   refine FD.val (wF_yes rfl rfl rfl c48) rfl rfl (fun w' hw' => (E.move (v := v1) rfl)) ?_
   refine FD.val (wF_yes rfl rfl rfl c48) rfl rfl (fun w' hw' => (E.move (v := Value.int .i64 a3) rfl)) ?_
   obtain ⟨x55, hx56, hp⟩ := bnd hp
   obtain ⟨p49, cs50, pt51, l52, at53, rel54⟩ := p1.at hx56
   obtain ⟨v57, rfl, h58⟩ := eResStep_open rel54
   refine FD.val (wF_yes rfl rfl rfl c48) rfl rfl (fun w' hw' => (E.indexAddr te34 rfl rfl pt51)) ?_
   refine FD.val (wF_yes rfl rfl rfl c48) rfl rfl (fun w' hw' => (E.fieldAddr tf88_0 rfl)) ?_
   refine FD.val (wF_yes rfl rfl rfl c48) rfl rfl (fun w' hw' => (E.load rfl (run_load1 Tryz.isAgg73 ((at53.mono i27).now (S26.call hw').sl) rfl))) ?_
   obtain ⟨r59, hr60, hp⟩ := bnd hp
   refine FD.call (wF_yes rfl rfl rfl c48) rfl rfl (fun w' hw' => (E.call Tryz.call180 (A2 rfl rfl))) (fun w' hw' => Calls.cls hw' (w_impl_IsClause (S26.call hw').sl a0.vars v57 x55.clause (h58.mono i27) hr60)) ?_
   refine FD.val (wF_yes rfl rfl rfl c48) rfl rfl (fun w' hw' => (E.not rfl)) ?_
   obtain rfl := Option.some.inj hp
   refine FD.val rfl rfl rfl (fun w' hw' => (E.pickF rfl c48 rfl)) ?_
   exact FD.nil ⟨rfl, rfl, rfl⟩
 rintro f47 ⟨k61, k62, k63⟩
 refine FD.nil ?_
 intro w64 r66
 have S65 := S26.call r66
 rcases ifB hp with ⟨c67, hp⟩ | ⟨c67, hp⟩
 ·
  refine FW.condT k63 c67 ?_
  refine FW.seq (FW.region ?_)
  refine FL.v (E.assign (v := Value.slice none 0 0) rfl) ?_
  refine FL.v (E.assign (v := Value.bool false) rfl) ?_
  refine FL.nil ?_
  refine FW.ret ?_
  obtain rfl := Option.some.inj hp
  exact ⟨.inr rfl, res2 rfl rfl rfl ⟨_, _, rfl, S65.run, (RSl.nil _ _ _)⟩⟩
 ·
  refine FW.condF k63 c67 ?_
  refine FW.skip (FW.seq (FW.region ?_))
  refine FL.v (E.move k61) ?_
  refine FL.v (E.move k62) ?_
  obtain ⟨x74, hx75, hp⟩ := bnd hp
  obtain ⟨p68, cs69, pt70, l71, at72, rel73⟩ := p1.at hx75
  obtain ⟨v76, rfl, h77⟩ := eResStep_open rel73
  refine FL.v (E.indexAddr te34 rfl rfl pt70) ?_
  refine FL.v (E.fieldAddr tf88_0 rfl) ?_
  refine FL.v (E.load rfl (run_load1 Tryz.isAgg73 ((at72.mono i27).now S65.sl) rfl)) ?_
  refine FL.v (E.assign (v := v76) rfl) ?_
  refine FL.v (E.assign (v := Value.bool true) rfl) ?_
  refine FL.nil ?_
  refine FW.ret ?_
  obtain rfl := Option.some.inj hp
  exact ⟨.inr rfl, res2 rfl rfl rfl ⟨_, _, rfl, S65.run, (h77.mono i27)⟩⟩

theorem w_slices_IndexFunc_int_int {Ha : GH} {wa : World} (hs : Sl Ha wa) (v0 : Value) (a0 : List Int) (p0 : RSl Ha eI 1 v0 a0) (v1 : Value) (a1 : Int → Option Bool) (p1 : Fn_I_to_B Tryz.prog Ha v1 a1) {r : Int} (hp : (PF.slices_IndexFunc_int_int a0 a1) = some r) :
  Calls Tryz.prog 193 #[v0, v1] wa (Sc Ha wa (Value.int .i64 r)) := by
 unfold PF.slices_IndexFunc_int_int at hp
 have S0 := St.init hs
 refine calls_go (N := 19) (args := [v0, v1]) Tryz.func193 rfl rfl rfl ?_
 refine FW.seq (FW.region ?_)
 refine FL.v (E.assign (v := Value.int .i64 0) rfl) ?_
 refine FL.nil (FW.seq (FW.seq (FW.region ?_)))
 refine FL.v (E.move (v := v0) rfl) ?_
 refine FL.v (E.lenP te73 rfl p0) ?_
 refine FL.v (E.move (v := Value.int .i64 0) rfl) ?_
 refine FL.nil ?_
 obtain ⟨q22, hq, hp⟩ := bndR hp
 refine FW.block ?_
 refine FW.mono (FW.forL (S := Unit) (X := Int) (fun (i22 : Nat) (s22 : Unit) f w => ∃ H : GH, St Ha wa H w [] ∧ Inc Ha H ∧ f 8 = Value.int .i64 ((i22 : Nat) : Int) ∧ f 0 = v0 ∧ f 1 = v1 ∧ f 7 = Value.int .i64 (len a0)) (fun q e f w => match q with | .go s22 => e = Exit.exit 0 ∧ (∃ H : GH, St Ha wa H w [] ∧ Inc Ha H) | .rt x => ((e = Exit.ret) ∧ (fun e f w => (e = Exit.normal ∨ e = Exit.ret) ∧ ∀ a, Fr (δ := []) 19 a f → ∃ v, (results Tryz.f193 a.tmps).run Tryz.prog w = .ok v w ∧ (Sc Ha wa (Value.int .i64 x)) (.returned v) w) e f w)) hq ⟨_, S0, (Inc.rfl _), rfl, rfl, rfl, rfl⟩ ?_ ?_) ?_
 ·
  clear hp hq
  rintro i22 y21 s22 f53 w52 ⟨H49, S50, i51, k54, k55, k56, k57⟩ hx22 o75 hp
  refine FW.seq (FW.region ?_)
  refine FL.v (E.lssT k54 k57 (lss_len hx22)) ?_
  refine FL.nil (FW.seq ?_)
  refine FW.condT rfl rfl ?_
  refine FW.skip (FW.seq (FW.block (FW.seq (FW.region ?_))))
  refine FL.v (E.move k54) ?_
  refine FL.v (E.assign (v := Value.int .i64 ((i22 : Nat) : Int)) rfl) ?_
  refine FL.nil (FW.seq (FW.region ?_))
  refine FL.v (E.move k56) ?_
  refine FL.v (E.move k55) ?_
  refine FL.v (E.move (v := Value.int .i64 ((i22 : Nat) : Int)) rfl) ?_
  obtain ⟨p58, cs59, pt60, l61, at62, rel63⟩ := p0.at (ix_nat hx22)
  obtain rfl := eI_open rel63
  refine FL.v (E.indexAddr te73 rfl rfl pt60) ?_
  refine FL.v (E.load rfl (run_load0 Tryz.isAgg3 ((at62.mono i51).now S50.sl) rfl)) ?_
  obtain ⟨r64, hr65, hp⟩ := bnd hp
  obtain ⟨fi69, cs70, hv71, he72, hc73⟩ := (p1.mono i51) H49 w52 (Inc.rfl _) S50.sl y21 r64 hr65
  refine FL.call rfl rfl rfl (E.callV he72 (Eq.trans rfl hv71) (appA (A1 rfl) cs70)) hc73 ?_
  rintro e w66 ⟨rfl, r67⟩
  refine ⟨_, rfl, ?_⟩
  have S68 := S50.call r67
  refine FL.nil ?_
  rcases ifB hp with ⟨c74, hp⟩ | ⟨c74, hp⟩
  ·
   refine FW.condT rfl c74 ?_
   refine FW.seq (FW.region ?_)
   refine FL.v (E.move (v := Value.int .i64 ((i22 : Nat) : Int)) rfl) ?_
   refine FL.v (E.assign (v := Value.int .i64 ((i22 : Nat) : Int)) rfl) ?_
   refine FL.nil ?_
   refine FW.ret ?_
   obtain rfl := Option.some.inj hp
   exact ⟨nofun, rfl, ⟨.inr rfl, res1 rfl rfl ⟨rfl, S68.back⟩⟩⟩
  ·
   refine FW.condF rfl c74 ?_
   refine FW.skip (FW.region ?_)
   refine FL.v (E.add k54 rfl) ?_
   refine FL.v (E.move (v := Value.int .i64 (wr (((i22 : Nat) : Int) + 1))) rfl) ?_
   refine FL.nil ?_
   obtain rfl := Option.some.inj hp
   exact ⟨rfl, ⟨_, S68, i51, (nat_succ rfl (lt_of_get hx22) (p0.mono i51).le), k55, k56, k57⟩⟩
 ·
  clear hp hq
  rintro s22 f85 w84 ⟨H81, S82, i83, k86, k87, k88, k89⟩
  refine FW.seq (FW.region ?_)
  refine FL.v (E.lss k86 k89) ?_
  refine FL.nil (FW.seq ?_)
  refine FW.condF rfl dlt_len ?_
  refine FW.exit ?_
  exact ⟨nofun, rfl, ⟨_, S82, i83⟩⟩
 ·
  clear hq
  intro e f80 w79 hD
  rcases q22 with s22 | x22
  ·
   obtain ⟨rfl, hD⟩ := hD
   obtain ⟨H76, S77, i78⟩ := hD
   replace hp := el_go hp
   refine FW.seq (FW.region ?_)
   refine FL.v (E.assign (v := Value.int .i64 (-1)) rfl) ?_
   refine FL.nil ?_
   refine FW.ret ?_
   obtain rfl := Option.some.inj hp
   exact ⟨.inr rfl, res1 rfl rfl ⟨rfl, S77.back⟩⟩
  ·
   obtain ⟨he, hL⟩ := hD
   replace hp := el_rt hp
   obtain rfl := Option.some.inj hp
   subst he
   exact hL

theorem w_slices_ContainsFunc_int_int {Ha : GH} {wa : World} (hs : Sl Ha wa) (v0 : Value) (a0 : List Int) (p0 : RSl Ha eI 1 v0 a0) (v1 : Value) (a1 : Int → Option Bool) (p1 : Fn_I_to_B Tryz.prog Ha v1 a1) {r : Bool} (hp : (PF.slices_ContainsFunc_int_int a0 a1) = some r) :
  Calls Tryz.prog 197 #[v0, v1] wa (Sc Ha wa (Value.bool r)) := by
 unfold PF.slices_ContainsFunc_int_int at hp
 have S0 := St.init hs
 refine calls_go (N := 9) (args := [v0, v1]) Tryz.func197 rfl rfl rfl ?_
 refine FW.seq (FW.region ?_)
 refine FL.v (E.assign (v := Value.bool false) rfl) ?_
 refine FL.nil (FW.seq (FW.region ?_))
 refine FL.v (E.move (v := v0) rfl) ?_
 refine FL.v (E.move (v := v1) rfl) ?_
 obtain ⟨r21, hr22, hp⟩ := bnd hp
 refine FL.call rfl rfl rfl (E.call Tryz.call193 (A2 rfl rfl)) (w_slices_IndexFunc_int_int S0.sl v0 a0 p0 v1 a1 p1 hr22) ?_
 rintro e w23 ⟨rfl, r24⟩
 refine ⟨_, rfl, ?_⟩
 have S25 := S0.call r24
 refine FL.v (E.geq rfl rfl) ?_
 refine FL.v (E.assign (v := Value.bool (decide (0 ≤ r21))) rfl) ?_
 refine FL.nil ?_
 refine FW.ret ?_
 obtain rfl := Option.some.inj hp
 exact ⟨.inr rfl, res1 rfl rfl ⟨rfl, S25.back⟩⟩

theorem w_slices_Index_int_int {Ha : GH} {wa : World} (hs : Sl Ha wa) (v0 : Value) (a0 : List Int) (p0 : RSl Ha eI 1 v0 a0) (a1 : Int) {r : Int} (hp : (PF.slices_Index_int_int a0 a1) = some r) :
  Calls Tryz.prog 194 #[v0, Value.int .i64 a1] wa (Sc Ha wa (Value.int .i64 r)) := by
 unfold PF.slices_Index_int_int at hp
 have S0 := St.init hs
 refine calls_go (N := 19) (args := [v0, Value.int .i64 a1]) Tryz.func194 rfl rfl rfl ?_
 refine FW.seq (FW.region ?_)
 refine FL.v (E.assign (v := Value.int .i64 0) rfl) ?_
 refine FL.nil (FW.seq (FW.seq (FW.region ?_)))
 refine FL.v (E.move (v := v0) rfl) ?_
 refine FL.v (E.lenP te73 rfl p0) ?_
 refine FL.v (E.move (v := Value.int .i64 0) rfl) ?_
 refine FL.nil ?_
 obtain ⟨q22, hq, hp⟩ := bndR hp
 refine FW.block ?_
 refine FW.mono (FW.forL (S := Unit) (X := Int) (fun (i22 : Nat) (s22 : Unit) f w => ∃ H : GH, St Ha wa H w [] ∧ Inc Ha H ∧ f 8 = Value.int .i64 ((i22 : Nat) : Int) ∧ f 0 = v0 ∧ f 1 = Value.int .i64 a1 ∧ f 7 = Value.int .i64 (len a0)) (fun q e f w => match q with | .go s22 => e = Exit.exit 0 ∧ (∃ H : GH, St Ha wa H w [] ∧ Inc Ha H) | .rt x => ((e = Exit.ret) ∧ (fun e f w => (e = Exit.normal ∨ e = Exit.ret) ∧ ∀ a, Fr (δ := []) 19 a f → ∃ v, (results Tryz.f194 a.tmps).run Tryz.prog w = .ok v w ∧ (Sc Ha wa (Value.int .i64 x)) (.returned v) w) e f w)) hq ⟨_, S0, (Inc.rfl _), rfl, rfl, rfl, rfl⟩ ?_ ?_) ?_
 ·
  clear hp hq
  rintro i22 y21 s22 f43 w42 ⟨H39, S40, i41, k44, k45, k46, k47⟩ hx22 o55 hp
  refine FW.seq (FW.region ?_)
  refine FL.v (E.lssT k44 k47 (lss_len hx22)) ?_
  refine FL.nil (FW.seq ?_)
  refine FW.condT rfl rfl ?_
  refine FW.skip (FW.seq (FW.block (FW.seq (FW.region ?_))))
  refine FL.v (E.move k44) ?_
  refine FL.v (E.assign (v := Value.int .i64 ((i22 : Nat) : Int)) rfl) ?_
  refine FL.nil (FW.seq (FW.region ?_))
  refine FL.v (E.move k46) ?_
  refine FL.v (E.move k45) ?_
  refine FL.v (E.move (v := Value.int .i64 ((i22 : Nat) : Int)) rfl) ?_
  obtain ⟨p48, cs49, pt50, l51, at52, rel53⟩ := p0.at (ix_nat hx22)
  obtain rfl := eI_open rel53
  refine FL.v (E.indexAddr te73 rfl rfl pt50) ?_
  refine FL.v (E.load rfl (run_load0 Tryz.isAgg3 ((at52.mono i41).now S40.sl) rfl)) ?_
  refine FL.v (E.eql rfl rfl) ?_
  refine FL.nil ?_
  rcases ifB hp with ⟨c54, hp⟩ | ⟨c54, hp⟩
  ·
   refine FW.condT rfl c54 ?_
   refine FW.seq (FW.region ?_)
   refine FL.v (E.move (v := Value.int .i64 ((i22 : Nat) : Int)) rfl) ?_
   refine FL.v (E.assign (v := Value.int .i64 ((i22 : Nat) : Int)) rfl) ?_
   refine FL.nil ?_
   refine FW.ret ?_
   obtain rfl := Option.some.inj hp
   exact ⟨nofun, rfl, ⟨.inr rfl, res1 rfl rfl ⟨rfl, S40.back⟩⟩⟩
  ·
   refine FW.condF rfl c54 ?_
   refine FW.skip (FW.region ?_)
   refine FL.v (E.add k44 rfl) ?_
   refine FL.v (E.move (v := Value.int .i64 (wr (((i22 : Nat) : Int) + 1))) rfl) ?_
   refine FL.nil ?_
   obtain rfl := Option.some.inj hp
   exact ⟨rfl, ⟨_, S40, i41, (nat_succ rfl (lt_of_get hx22) (p0.mono i41).le), k45, k46, k47⟩⟩
 ·
  clear hp hq
  rintro s22 f65 w64 ⟨H61, S62, i63, k66, k67, k68, k69⟩
  refine FW.seq (FW.region ?_)
  refine FL.v (E.lss k66 k69) ?_
  refine FL.nil (FW.seq ?_)
  refine FW.condF rfl dlt_len ?_
  refine FW.exit ?_
  exact ⟨nofun, rfl, ⟨_, S62, i63⟩⟩
 ·
  clear hq
  intro e f60 w59 hD
  rcases q22 with s22 | x22
  ·
   obtain ⟨rfl, hD⟩ := hD
   obtain ⟨H56, S57, i58⟩ := hD
   replace hp := el_go hp
   refine FW.seq (FW.region ?_)
   refine FL.v (E.assign (v := Value.int .i64 (-1)) rfl) ?_
   refine FL.nil ?_
   refine FW.ret ?_
   obtain rfl := Option.some.inj hp
   exact ⟨.inr rfl, res1 rfl rfl ⟨rfl, S57.back⟩⟩
  ·
   obtain ⟨he, hL⟩ := hD
   replace hp := el_rt hp
   obtain rfl := Option.some.inj hp
   subst he
   exact hL

theorem w_slices_Contains_int_int {Ha : GH} {wa : World} (hs : Sl Ha wa) (v0 : Value) (a0 : List Int) (p0 : RSl Ha eI 1 v0 a0) (a1 : Int) {r : Bool} (hp : (PF.slices_Contains_int_int a0 a1) = some r) :
  Calls Tryz.prog 146 #[v0, Value.int .i64 a1] wa (Sc Ha wa (Value.bool r)) := by
 unfold PF.slices_Contains_int_int at hp
 have S0 := St.init hs
 refine calls_go (N := 9) (args := [v0, Value.int .i64 a1]) Tryz.func146 rfl rfl rfl ?_
 refine FW.seq (FW.region ?_)
 refine FL.v (E.assign (v := Value.bool false) rfl) ?_
 refine FL.nil (FW.seq (FW.region ?_))
 refine FL.v (E.move (v := v0) rfl) ?_
 refine FL.v (E.move (v := Value.int .i64 a1) rfl) ?_
 obtain ⟨r21, hr22, hp⟩ := bnd hp
 refine FL.call rfl rfl rfl (E.call Tryz.call194 (A2 rfl rfl)) (w_slices_Index_int_int S0.sl v0 a0 p0 a1 hr22) ?_
 rintro e w23 ⟨rfl, r24⟩
 refine ⟨_, rfl, ?_⟩
 have S25 := S0.call r24
 refine FL.v (E.geq rfl rfl) ?_
 refine FL.v (E.assign (v := Value.bool (decide (0 ≤ r21))) rfl) ?_
 refine FL.nil ?_
 refine FW.ret ?_
 obtain rfl := Option.some.inj hp
 exact ⟨.inr rfl, res1 rfl rfl ⟨rfl, S25.back⟩⟩

theorem w_impl_part_1 {Ha : GH} {wa : World} (hs : Sl Ha wa) (a0 : Int) (q0 : Addr) (b0 : List Int) (u0_0 : Value) (g0_0 : RSl Ha eI 1 u0_0 b0) (c0 : CAt Ha q0 [u0_0]) {r : Bool} (hp : (PF.impl_part_1 a0 b0) = some r) :
  Calls Tryz.prog 256 #[Value.int .i64 a0, Value.pointer (some q0)] wa (Sc Ha wa (Value.bool r)) := by
 unfold PF.impl_part_1 at hp
 have S0 := St.init hs
 refine calls_go (N := 8) (args := [Value.int .i64 a0, Value.pointer (some q0)]) Tryz.func256 rfl rfl rfl ?_
 refine FW.seq (FW.region ?_)
 refine FL.v (E.assign (v := Value.bool false) rfl) ?_
 refine FL.nil (FW.seq (FW.region ?_))
 refine FL.v (E.load rfl (run_load0 Tryz.isAgg73 (c0.now S0.sl) rfl)) ?_
 refine FL.v (E.move (v := Value.int .i64 a0) rfl) ?_
 obtain ⟨r21, hr22, hp⟩ := bnd hp
 refine FL.call rfl rfl rfl (E.call Tryz.call146 (A2 rfl rfl)) (w_slices_Contains_int_int S0.sl u0_0 b0 g0_0 a0 hr22) ?_
 rintro e w23 ⟨rfl, r24⟩
 refine ⟨_, rfl, ?_⟩
 have S25 := S0.call r24
 refine FL.v (E.not rfl) ?_
 refine FL.v (E.assign (v := Value.bool (!r21)) rfl) ?_
 refine FL.nil ?_
 refine FW.ret ?_
 obtain rfl := Option.some.inj hp
 exact ⟨.inr rfl, res1 rfl rfl ⟨rfl, S25.back⟩⟩

theorem w_impl_part {Ha : GH} {wa : World} (hs : Sl Ha wa) (v0 : Value) (a0 : List Int) (p0 : RSl Ha eI 1 v0 a0) (v1 : Value) (a1 : List Int) (p1 : RSl Ha eI 1 v1 a1) {r : Bool} (hp : (PF.impl_part a0 a1) = some r) :
  Calls Tryz.prog 232 #[v0, v1] wa (Sc Ha wa (Value.bool r)) := by
 unfold PF.impl_part at hp
 have S0 := St.init hs
 refine calls_go (N := 9) (args := [v0, v1]) Tryz.func232 rfl rfl rfl ?_
 refine FW.seq (FW.region ?_)
 obtain ⟨b21, w22, run23, S24⟩ := S0.box (P := Tryz.prog) 73 [v1] (v := v1) p1.cells (ones_cons p1.one ones_nil)
 refine FL.v (E.box rfl run23) ?_
 obtain ⟨H25, S26, i27, at28⟩ := S24.sealBox (i := 0) (l' := []) rfl rfl
 refine FL.v (E.assign (v := Value.bool false) rfl) ?_
 refine FL.nil (FW.seq (FW.region ?_))
 refine FL.v (E.move (v := v0) rfl) ?_
 refine FL.v (E.makeFunc A0 (A1 rfl)) ?_
 obtain ⟨r29, hr30, hp⟩ := bnd hp
 refine FL.call rfl rfl rfl (E.call Tryz.call197 (A2 rfl rfl)) (w_slices_ContainsFunc_int_int S26.sl v0 a0 (p0.mono i27) (Value.func (.func 256) #[] #[Value.pointer (some ⟨b21, 0, none⟩)]) (fun x0 => PF.impl_part_1 x0 a1) (fun H2 w2 hi2 hs2 x0 r hr => ⟨256, #[Value.pointer (some ⟨b21, 0, none⟩)], rfl, Tryz.call256, w_impl_part_1 hs2 x0 ⟨b21, 0, none⟩ a1 v1 ((p1.mono i27).mono hi2) (at28.mono hi2) hr⟩) hr30) ?_
 rintro e w31 ⟨rfl, r32⟩
 refine ⟨_, rfl, ?_⟩
 have S33 := S26.call r32
 refine FL.v (E.not rfl) ?_
 refine FL.v (E.assign (v := Value.bool (!r29)) rfl) ?_
 refine FL.nil ?_
 refine FW.ret ?_
 obtain rfl := Option.some.inj hp
 exact ⟨.inr rfl, res1 rfl rfl ⟨rfl, S33.back⟩⟩

theorem w_impl_isVar {Ha : GH} {wa : World} (hs : Sl Ha wa) (a0 : Int) (a1 : Int) :
  Calls Tryz.prog 233 #[Value.int .i64 a0, Value.int .i64 a1] wa (Sc Ha wa (Value.bool (PF.impl_isVar a0 a1))) := by
 obtain ⟨r, hp⟩ : ∃ r, (PF.impl_isVar a0 a1) = r := ⟨_, rfl⟩
 rw [hp]
 unfold PF.impl_isVar at hp
 have S0 := St.init hs
 refine calls_go (N := 8) (args := [Value.int .i64 a0, Value.int .i64 a1]) Tryz.func233 rfl rfl rfl ?_
 refine FW.seq (FW.region ?_)
 refine FL.v (E.assign (v := Value.bool false) rfl) ?_
 refine FL.nil (FW.seq (FW.region ?_))
 refine FL.v (E.move (v := Value.int .i64 a1) rfl) ?_
 refine FL.v (E.move (v := Value.int .i64 a0) rfl) ?_
 refine FL.call rfl rfl rfl (E.call Tryz.call162 (A3 rfl rfl rfl)) (w_impl_within S0.sl a1 1 a0) ?_
 rintro e w21 ⟨rfl, r22⟩
 refine ⟨_, rfl, ?_⟩
 have S23 := S0.call r22
 refine FL.v (E.assign (v := Value.bool (PF.impl_within a1 1 a0)) rfl) ?_
 refine FL.nil ?_
 refine FW.ret ?_
 obtain rfl := hp
 exact ⟨.inr rfl, res1 rfl rfl ⟨rfl, S23.back⟩⟩

@[reducible] def p_slices_Clone_int_int (Ha : GH) (wa : World) (r : (List Int)) : Ending → World → Prop :=
 fun e w' => ∃ H' : GH, ∃ v0 : Value, ∃ n0 : Nat, ∃ c0 : List Value, e = .returned (v0) ∧ St Ha wa H' w' [.row 3 1 v0 n0 c0] ∧ Els (up wa.heap.size H') eI 1 c0 r
theorem w_slices_Clone_int_int {Ha : GH} {wa : World} (hs : Sl Ha wa) (v0 : Value) (a0 : List Int) (p0 : RSl Ha eI 1 v0 a0) {r : (List Int)} (hp : (PF.slices_Clone_int_int a0) = some r) :
  Calls Tryz.prog 108 #[v0] wa (p_slices_Clone_int_int Ha wa r) := by
 unfold PF.slices_Clone_int_int at hp
 have S0 := St.init hs
 refine calls_go (N := 8) (args := [v0]) Tryz.func108 rfl rfl rfl ?_
 refine FW.seq (FW.region ?_)
 refine FL.v (E.assign (v := Value.slice none 0 0) rfl) ?_
 refine FL.nil (FW.seq (FW.seq (FW.region ?_)))
 refine FL.v (E.move (v := v0) rfl) ?_
 obtain ⟨nb21, run22, hn23⟩ := RSl.nilTest te73 p0
 refine FL.v (run22 _ _ _ _ _ _ _ _ _ _ _ _ rfl rfl) ?_
 refine FL.nil ?_
 rcases bcase nb21 with c24 | c24
 ·
  refine FW.condT (b := nb21) rfl c24 ?_
  rw [hn23 c24, app_nil2] at hp
  refine FW.seq (FW.region ?_)
  refine FL.v (E.assign (v := Value.slice none 0 0) rfl) ?_
  refine FL.nil ?_
  refine FW.ret ?_
  obtain rfl := Option.some.inj hp
  exact ⟨.inr rfl, res1 rfl rfl ⟨_, _, _, _, rfl, (S0.nil 3 1), Els.nil⟩⟩
 ·
  refine FW.condF (b := nb21) rfl c24 ?_
  refine FW.skip (FW.seq (FW.region ?_))
  obtain ⟨v25, w26, run27, S28⟩ := S0.buildSlice (P := Tryz.prog) te73 [] (parts := #[]) (cells := []) rfl szs_nil fc_nil ones_nil (Nat.le_of_ble_eq_true rfl)
  have els29 : Els (up wa.heap.size Ha) eI 1 [] [] := Els.nil
  refine FL.v (E.buildSlice (B0) run27) ?_
  refine FL.v (E.move (v := v0) rfl) ?_
  obtain ⟨xs30, hz31, hp⟩ := bnd hp
  obtain ⟨v32, w35, n33, cs34, run36, S37, els38⟩ := S28.appendP (P := Tryz.prog) (Inc.rfl _) te73 (i := 0) rfl (els29.mono upI) p0 hz31
  have S37 : St Ha wa Ha w35 [.row 3 1 v32 n33 cs34] := S37
  have els38 : Els (up wa.heap.size Ha) eI 1 cs34 xs30 := els38.any (fun _ _ _ _ h => h)
  refine FL.v (E.append rfl rfl run36) ?_
  refine FL.v (E.assign (v := v32) rfl) ?_
  refine FL.nil ?_
  refine FW.ret ?_
  obtain rfl := Option.some.inj hp
  exact ⟨.inr rfl, res1 rfl rfl ⟨_, _, _, _, rfl, S37, els38⟩⟩

@[reducible] def p_slices_DeleteFunc_int_int (H0 : GH) (w0 : World) (Ha : GH) (L : List MO) (r : (List Int)) : Ending → World → Prop :=
  fun e w' => ∃ H' : GH, ∃ v0r : Value, ∃ n0r : Nat, ∃ c0r : List Value, e = .returned (v0r) ∧ (St H0 w0 H' w' (.row 3 1 v0r n0r c0r :: L) ∧ Inc Ha H') ∧ Els (up w0.heap.size H') eI 1 c0r r
theorem w_slices_DeleteFunc_int_int {H0 Ha : GH} {w0 wa : World} {L : List MO} {v0 : Value} {n0 : Nat} {k0 : List Value} (S0 : St H0 w0 Ha wa (.row 3 1 v0 n0 k0 :: L)) (a0 : List Int) (p0 : Els (up w0.heap.size Ha) eI 1 k0 a0) (v1 : Value) (a1 : Int → Option Bool) (p1 : Fn_I_to_B Tryz.prog Ha v1 a1) {r : (List Int)} (hp : (PF.slices_DeleteFunc_int_int a0 a1) = some r) :
    Calls Tryz.prog 144 #[v0, v1] wa (p_slices_DeleteFunc_int_int H0 w0 Ha L r) := by
  unfold PF.slices_DeleteFunc_int_int at hp
  refine calls_go (N := 42) (args := [v0, v1]) Tryz.func144 rfl rfl rfl ?_
  refine FW.seq (FW.region ?_)
  refine FL.v (E.assign (v := Value.slice none 0 0) rfl) ?_
  refine FL.nil (FW.seq (FW.region ?_))
  refine FL.v (E.move (v := v0) rfl) ?_
  refine FL.v (E.move (v := v1) rfl) ?_
  obtain ⟨H21, S22, i23, h24, nv25⟩ := S0.sealRowU (i := 0) (l' := L) rfl p0 (by decide) rfl
  obtain ⟨r26, hr27, hp⟩ := bnd hp
  refine FL.call rfl rfl rfl (E.call Tryz.call193 (A2 rfl rfl)) (w_slices_IndexFunc_int_int S22.sl v0 a0 (h24.mono upI) v1 a1 (p1.mono i23) hr27) ?_
  rintro e w28 ⟨rfl, r29⟩
  refine ⟨_, rfl, ?_⟩
  have r29 := Run.lend i23 S0.sl r29
  have S30 := S0.call r29
  refine FL.v (E.assign (v := Value.int .i64 r26) rfl) ?_
  refine FL.nil (FW.seq (FW.seq (FW.region ?_)))
  refine FL.v (E.move (v := Value.int .i64 r26) rfl) ?_
  refine FL.v (E.eql rfl rfl) ?_
  refine FL.nil ?_
  rcases ifB hp with ⟨c31, hp⟩ | ⟨c31, hp⟩
  ·
    refine FW.condT rfl c31 ?_
    refine FW.seq (FW.region ?_)
    refine FL.v (E.move (v := v0) rfl) ?_
    refine FL.v (E.assign (v := v0) rfl) ?_
    refine FL.nil ?_
    refine FW.ret ?_
    obtain rfl := Option.some.inj hp
    exact ⟨.inr rfl, res1 rfl rfl ⟨_, _, _, _, rfl, ⟨S30, (Inc.rfl _)⟩, p0⟩⟩
  ·
    refine FW.condF rfl c31 ?_
    refine FW.skip (FW.seq (FW.seq (FW.region ?_)))
    refine FL.v (E.move (v := Value.int .i64 r26) rfl) ?_
    refine FL.v (E.add rfl rfl) ?_
    refine FL.v (E.assign (v := Value.int .i64 (wr (r26 + 1))) rfl) ?_
    refine FL.nil ?_
    obtain ⟨q32, hq, hp⟩ := bndR hp
    refine FW.block ?_
    refine FW.mono (FW.iter (S := ((List Int) × Int × Int)) (X := Empty) (fun (s32 : ((List Int) × Int × Int)) f w => ∃ H : GH, ∃ cs78 : List Value, St H0 w0 H w (.row 3 1 v0 n0 cs78 :: L) ∧ Inc Ha H ∧ Els (up w0.heap.size H) eI 1 cs78 s32.1 ∧ f 0 = v0 ∧ f 1 = v1 ∧ f 5 = Value.int .i64 s32.2.1 ∧ f 6 = Value.int .i64 s32.2.2) (fun (q : Rs ((List Int) × Int × Int) Empty) e f w => match q with | .go s32 => e = Exit.exit 0 ∧ (∃ H : GH, ∃ cs78 : List Value, St H0 w0 H w (.row 3 1 v0 n0 cs78 :: L) ∧ Inc Ha H ∧ Els (up w0.heap.size H) eI 1 cs78 s32.1 ∧ f 0 = v0 ∧ f 5 = Value.int .i64 s32.2.1) | .rt x => x.elim) hq ⟨_, _, S30, (Inc.rfl _), p0, rfl, rfl, rfl, rfl⟩ ?_) ?_
    ·
      clear hp hq
      rintro s32 f129 w128 ⟨H125, cs78, S126, i127, els79, k130, k131, k132, k133⟩ o170 hp
      refine FW.seq (FW.seq (FW.region ?_))
      refine FL.v (E.move k133) ?_
      refine FL.v (E.move k130) ?_
      refine FL.v (E.lenO te73 rfl S126 (i := 0) rfl els79 (by decide)) ?_
      refine FL.v (E.lss rfl rfl) ?_
      refine FL.nil ?_
      rcases ifB hp with ⟨c134, hp⟩ | ⟨c134, hp⟩
      ·
        refine FW.condT rfl c134 ?_
        refine FW.skip (FW.seq (FW.block (FW.seq (FW.region ?_))))
        refine FL.v (E.move k130) ?_
        refine FL.v (E.move k133) ?_
        obtain ⟨x141, hx142, hp⟩ := bnd hp
        obtain ⟨p135, cs136, pt137, l138, at139, rel140⟩ := S126.row_at (i := 0) rfl els79 (by decide) hx142
        obtain rfl := eI_open rel140
        refine FL.v (E.indexAddr te73 rfl rfl pt137) ?_
        refine FL.v (E.load rfl (run_load0 Tryz.isAgg3 at139 rfl)) ?_
        refine FL.v (E.assign (v := Value.int .i64 x141) rfl) ?_
        refine FL.nil (FW.seq (FW.region ?_))
        refine FL.v (E.move k131) ?_
        refine FL.v (E.move (v := Value.int .i64 x141) rfl) ?_
        obtain ⟨r143, hr144, hp⟩ := bnd hp
        obtain ⟨fi148, cs149, hv150, he151, hc152⟩ := (p1.mono i127) H125 w128 (Inc.rfl _) S126.sl x141 r143 hr144
        refine FL.call rfl rfl rfl (E.callV he151 (Eq.trans rfl hv150) (appA (A1 rfl) cs149)) hc152 ?_
        rintro e w145 ⟨rfl, r146⟩
        refine ⟨_, rfl, ?_⟩
        have S147 := S126.call r146
        refine FL.v (E.not rfl) ?_
        refine FL.nil ?_
        rcases ifB hp with ⟨c153, hp⟩ | ⟨c153, hp⟩
        ·
          refine FW.condT rfl c153 ?_
          refine FW.seq (FW.region ?_)
          refine FL.v (E.move k130) ?_
          refine FL.v (E.move k132) ?_
          refine FL.v (E.move (v := Value.int .i64 x141) rfl) ?_
          obtain ⟨x160, hx161, hp⟩ := bnd hp
          obtain ⟨p154, cs155, pt156, l157, at158, rel159⟩ := S147.row_at (i := 0) rfl els79 (by decide) hx161
          obtain rfl := eI_open rel159
          refine FL.v (E.indexAddr te73 rfl rfl pt156) ?_
          obtain ⟨xs165, hput166, hp⟩ := bnd hp
          obtain ⟨w162, cs168, run163, S164, els167, ce169⟩ := S147.putEls (P := Tryz.prog) (t := 3) (i := 0) rfl els79 hput166 pt156 Tryz.sizeOf3 (u := Value.int .i64 x141) (c := [Value.int .i64 x141]) rfl rfl (ones_cons rfl ones_nil) rfl
          have S164 : St H0 w0 H125 w162 (.row 3 1 v0 n0 cs168 :: L) := S164
          refine FL.act rfl rfl (E.store rfl rfl run163) ?_
          refine FL.nil (FW.region ?_)
          refine FL.v (E.move k132) ?_
          refine FL.v (E.add rfl rfl) ?_
          refine FL.v (E.assign (v := Value.int .i64 (wr (s32.2.1 + 1))) rfl) ?_
          refine FL.nil (FW.region ?_)
          refine FL.v (E.move k133) ?_
          refine FL.v (E.add rfl rfl) ?_
          refine FL.v (E.assign (v := Value.int .i64 (wr (s32.2.2 + 1))) rfl) ?_
          refine FL.nil ?_
          obtain rfl := Option.some.inj hp
          exact ⟨rfl, ⟨_, _, S164, i127, els167, k130, k131, rfl, rfl⟩⟩
        ·
          refine FW.condF rfl c153 ?_
          refine FW.skip (FW.region ?_)
          refine FL.v (E.move k133) ?_
          refine FL.v (E.add rfl rfl) ?_
          refine FL.v (E.assign (v := Value.int .i64 (wr (s32.2.2 + 1))) rfl) ?_
          refine FL.nil ?_
          obtain rfl := Option.some.inj hp
          exact ⟨rfl, ⟨_, _, S147, i127, els79, k130, k131, k132, rfl⟩⟩
      ·
        refine FW.condF rfl c134 ?_
        refine FW.exit ?_
        obtain rfl := Option.some.inj hp
        exact ⟨nofun, rfl, ⟨_, _, S126, i127, els79, k130, k132⟩⟩
    ·
      clear hq
      intro e f175 w174 hD
      rcases q32 with s32 | x32
      ·
        obtain ⟨rfl, hD⟩ := hD
        obtain ⟨H171, cs78, S172, i173, els79, k176, k177⟩ := hD
        replace hp := el_go hp
        refine FW.seq (FW.region ?_)
        refine FL.v (E.move k176) ?_
        refine FL.v (E.move k177) ?_
        obtain ⟨xs178, hc179, hp⟩ := bnd hp
        obtain ⟨v180, run181, h182⟩ := S172.tail te73 (kk := .i64) (i := 0) rfl els79 hc179
        refine FL.v (E.slice te73 rfl (congrArg some rfl) rfl rfl (run181 _)) ?_
        obtain ⟨w183, cs184, run185, S186, els187⟩ := S172.clearTail (P := Tryz.prog) te73 (i := 0) rfl els79 h182 rfl (ones_cons rfl ones_nil)
        have S186 : St H0 w0 H171 w183 (.row 3 1 v0 n0 cs184 :: L) := S186
        refine FL.val0 rfl rfl (E.clear rfl run185) ?_
        refine FL.nil (FW.seq (FW.region ?_))
        refine FL.v (E.move k176) ?_
        refine FL.v (E.move k177) ?_
        obtain ⟨xs188, hc189, hp⟩ := bnd hp
        obtain ⟨v190, n191, cs192, run193, S194, els195, nd196⟩ := S186.cutRow te73 (kk := .i64) (i := 0) rfl els187 hc189
        have S194 : St H0 w0 H171 w183 (.row 3 1 v190 n191 cs192 :: L) := S194
        refine FL.v (E.slice te73 rfl rfl (congrArg some rfl) rfl (run193 _)) ?_
        refine FL.v (E.assign (v := v190) rfl) ?_
        refine FL.nil ?_
        refine FW.ret ?_
        obtain rfl := Option.some.inj hp
        exact ⟨.inr rfl, res1 rfl rfl ⟨_, _, _, _, rfl, ⟨S194, i173⟩, els195⟩⟩
      · exact x32.elim

theorem w_impl_withoutVar_1 {Ha : GH} {wa : World} (hs : Sl Ha wa) (a0 : Int) (q0 : Addr) (b0 : Int) (c0 : CAt Ha q0 [Value.int .i64 b0]) :
  Calls Tryz.prog 260 #[Value.int .i64 a0, Value.pointer (some q0)] wa (Sc Ha wa (Value.bool (PF.impl_withoutVar_1 a0 b0))) := by
 obtain ⟨r, hp⟩ : ∃ r, (PF.impl_withoutVar_1 a0 b0) = r := ⟨_, rfl⟩
 rw [hp]
 unfold PF.impl_withoutVar_1 at hp
 have S0 := St.init hs
 refine calls_go (N := 8) (args := [Value.int .i64 a0, Value.pointer (some q0)]) Tryz.func260 rfl rfl rfl ?_
 refine FW.seq (FW.region ?_)
 refine FL.v (E.assign (v := Value.bool false) rfl) ?_
 refine FL.nil (FW.seq ?_)
 refine FW.draw (fun w' => Run wa.heap.size Ha wa Ha w') (by kernel_rfl) (by kernel_rfl) (run_drew S0.sl) ?_
 refine FD.val rfl rfl rfl (fun w' hw' => (E.move (v := Value.int .i64 a0) rfl)) ?_
 refine FD.call rfl rfl rfl (fun w' hw' => (E.call Tryz.call143 (A1 rfl))) (fun w' hw' => Calls.cls hw' (w_impl_abs (S0.call hw').sl a0)) ?_
 refine FD.val rfl rfl rfl (fun w' hw' => (E.load rfl (run_load0 Tryz.isAgg3 (c0.now (S0.call hw').sl) rfl))) ?_
 refine FD.val rfl rfl rfl (fun w' hw' => (E.eql rfl rfl)) ?_
 refine FD.val rfl rfl rfl (fun w' hw' => (E.assign (v := Value.bool ((PF.impl_abs a0) == b0)) rfl)) ?_
 refine FD.nil ?_
 intro w22 r24
 have S23 := S0.call r24
 refine FW.ret ?_
 obtain rfl := hp
 exact ⟨.inr rfl, res1 rfl rfl ⟨rfl, S23.back⟩⟩

@[reducible] def p_impl_withoutVar (Ha : GH) (wa : World) (r : (List Int)) : Ending → World → Prop :=
 fun e w' => ∃ H' : GH, ∃ v0 : Value, ∃ n0 : Nat, ∃ c0 : List Value, e = .returned (v0) ∧ St Ha wa H' w' [.row 3 1 v0 n0 c0] ∧ Els (up wa.heap.size H') eI 1 c0 r
theorem w_impl_withoutVar {Ha : GH} {wa : World} (hs : Sl Ha wa) (v0 : Value) (a0 : List Int) (p0 : RSl Ha eI 1 v0 a0) (a1 : Int) {r : (List Int)} (hp : (PF.impl_withoutVar a0 a1) = some r) :
  Calls Tryz.prog 240 #[v0, Value.int .i64 a1] wa (p_impl_withoutVar Ha wa r) := by
 unfold PF.impl_withoutVar at hp
 have S0 := St.init hs
 refine calls_go (N := 9) (args := [v0, Value.int .i64 a1]) Tryz.func240 rfl rfl rfl ?_
 refine FW.seq (FW.region ?_)
 obtain ⟨b21, w22, run23, S24⟩ := S0.box (P := Tryz.prog) 3 [Value.int .i64 a1] (v := Value.int .i64 a1) rfl (ones_cons rfl ones_nil)
 refine FL.v (E.box rfl run23) ?_
 obtain ⟨H25, S26, i27, at28⟩ := S24.sealBox (i := 0) (l' := []) rfl rfl
 refine FL.v (E.assign (v := Value.slice none 0 0) rfl) ?_
 refine FL.nil (FW.seq (FW.region ?_))
 refine FL.v (E.move (v := v0) rfl) ?_
 obtain ⟨r29, hr30, hp⟩ := bnd hp
 refine FL.call rfl rfl rfl (E.call Tryz.call108 (A1 rfl)) (w_slices_Clone_int_int S26.sl v0 a0 (p0.mono i27) hr30) ?_
 rintro e w32 ⟨H31, v35, n36, cs37, rfl, r34, els38⟩
 refine ⟨_, rfl, ?_⟩
 have els38 := els38.mono (up_le S26.size)
 have S33 := S26.join (l' := [.row 3 1 v35 n36 cs37]) r34 rfl
 refine FL.v (E.makeFunc A0 (A1 rfl)) ?_
 obtain ⟨r39, hr40, hp⟩ := bnd hp
 refine FL.call rfl rfl rfl (E.call Tryz.call144 (A2 rfl rfl)) (w_slices_DeleteFunc_int_int (L := []) S33 r29 els38 (Value.func (.func 260) #[] #[Value.pointer (some ⟨b21, 0, none⟩)]) (fun x0 => some (PF.impl_withoutVar_1 x0 a1)) (fun H2 w2 hi2 hs2 x0 r hr => ⟨260, #[Value.pointer (some ⟨b21, 0, none⟩)], rfl, Tryz.call260, by cases hr; exact w_impl_withoutVar_1 hs2 x0 ⟨b21, 0, none⟩ a1 ((at28.mono r34.run.inc).mono hi2)⟩) hr40) ?_
 rintro e w42 ⟨H41, v45, n46, cs47, rfl, ⟨S43, i44⟩, els48⟩
 refine ⟨_, rfl, ?_⟩
 have S43 : St Ha wa H41 w42 [.row 3 1 v45 n46 cs47] := S43
 refine FL.v (E.assign (v := v45) rfl) ?_
 refine FL.nil ?_
 refine FW.ret ?_
 obtain rfl := Option.some.inj hp
 exact ⟨.inr rfl, res1 rfl rfl ⟨_, _, _, _, rfl, S43, els48⟩⟩

@[reducible] def p_slices_Grow_int_int (Ha : GH) (wa : World) (r : List Int) : Ending → World → Prop :=
  fun e w' => ∃ H' : GH, ∃ v0 : Value, ∃ n0 : Nat, ∃ c0 : List Value, e = .returned (v0) ∧ St Ha wa H' w' [.row 3 1 v0 n0 c0] ∧ Els (up wa.heap.size H') eI 1 c0 r
theorem w_slices_Grow_int_int {Ha : GH} {wa : World} (hs : Sl Ha wa) (a1 : Int) {r : List Int} (hp : PF.slices_Grow_int_int a1 = some r) :
    Calls Tryz.prog 276 #[.slice none 0 0, .int .i64 a1] wa (p_slices_Grow_int_int Ha wa r) := by
  unfold PF.slices_Grow_int_int at hp
  split at hp
  · rename_i h
    cases hp
    refine (growNil (En := eI) te73 hs h.1 h.2 (fun w => Any8.slices_Grow_room (P := Tryz.prog) Tryz.grow276 none 0 0 0 w (Nat.le_refl _) (by decide) (by decide) (by decide))
      (fun n w h0 hl => ?_)).mono ?_
    · have h := Any8.slices_Grow_grow (P := Tryz.prog) Tryz.grow276 _ _ Tryz.type3 rfl (by decide) none 0 0 n [] w (Nat.le_refl _) (by omega) ?_ (by unfold lim at hl; omega) (by simp) (fun _ => rfl) (by simp)
      · refine h.mono ?_
        rintro _ _ ⟨rfl, rfl⟩
        refine ⟨by simp; rfl, ?_⟩
        simp
        rfl
      · rw [Nat.zero_add]; refine Nat.le_trans (Nat.mul_le_mul hl (show _ ≤ 4096 by decide)) (by decide)
    · rintro e w' ⟨v, n, c, rfl, h1, h2⟩
      exact ⟨_, _, _, _, rfl, h1, h2 _⟩
  · cases hp

@[reducible] def p_slices_Concat_int_int (Ha : GH) (wa : World) (r : (List Int)) : Ending → World → Prop :=
  fun e w' => ∃ H' : GH, ∃ v0 : Value, ∃ n0 : Nat, ∃ c0 : List Value, e = .returned (v0) ∧ St Ha wa H' w' [.row 3 1 v0 n0 c0] ∧ Els (up wa.heap.size H') eI 1 c0 r
theorem w_slices_Concat_int_int {Ha : GH} {wa : World} (hs : Sl Ha wa) (v0 : Value) (a0 : List (List Int)) (p0 : RSl Ha (eL eI 1) 1 v0 a0) {r : (List Int)} (hp : (PF.slices_Concat_int_int a0) = some r) :
    Calls Tryz.prog 258 #[v0] wa (p_slices_Concat_int_int Ha wa r) := by
  unfold PF.slices_Concat_int_int at hp
  have S0 := St.init hs
  refine calls_go (N := 36) (args := [v0]) Tryz.func258 rfl rfl rfl ?_
  refine FW.seq (FW.region ?_)
  refine FL.v (E.assign (v := Value.slice none 0 0) rfl) ?_
  refine FL.nil (FW.seq (FW.region ?_))
  refine FL.v (E.assign (v := Value.int .i64 0) rfl) ?_
  refine FL.nil (FW.seq (FW.seq (FW.region ?_)))
  refine FL.v (E.move (v := v0) rfl) ?_
  refine FL.v (E.lenP te22 rfl p0) ?_
  refine FL.v (E.move (v := Value.int .i64 0) rfl) ?_
  refine FL.nil ?_
  obtain ⟨q22, hq, hp⟩ := bndR hp
  refine FW.block ?_
  refine FW.mono (FW.forL (S := Int) (X := Empty) (fun (i22 : Nat) (s22 : Int) f w => ∃ H : GH, St Ha wa H w [] ∧ Inc Ha H ∧ f 11 = Value.int .i64 ((i22 : Nat) : Int) ∧ f 0 = v0 ∧ f 3 = Value.int .i64 s22 ∧ f 9 = v0 ∧ f 10 = Value.int .i64 (len a0)) (fun (q : Rs Int Empty) e f w => match q with | .go s22 => e = Exit.exit 0 ∧ (∃ H : GH, St Ha wa H w [] ∧ Inc Ha H ∧ f 0 = v0 ∧ f 3 = Value.int .i64 s22) | .rt x => x.elim) hq ⟨_, S0, (Inc.rfl _), rfl, rfl, rfl, rfl, rfl⟩ ?_ ?_) ?_
  ·
    clear hp hq
    rintro i22 y21 s22 f46 w45 ⟨H42, S43, i44, k47, k48, k49, k50, k51⟩ hx22 o61 hp
    refine FW.seq (FW.region ?_)
    refine FL.v (E.lssT k47 k51 (lss_len hx22)) ?_
    refine FL.nil (FW.seq ?_)
    refine FW.condT rfl rfl ?_
    refine FW.skip (FW.seq (FW.block (FW.seq (FW.region ?_))))
    obtain ⟨p52, cs53, pt54, l55, at56, rel57⟩ := p0.at (ix_nat hx22)
    obtain ⟨v58, rfl, h59⟩ := eL_open rel57
    refine FL.v (E.indexAddr te22 k50 k47 pt54) ?_
    refine FL.v (E.load rfl (run_load0 Tryz.isAgg73 ((at56.mono i44).now S43.sl) rfl)) ?_
    refine FL.v (E.assign (v := v58) rfl) ?_
    refine FL.nil (FW.seq (FW.region ?_))
    refine FL.v (E.move k49) ?_
    refine FL.v (E.move (v := v58) rfl) ?_
    refine FL.v (E.lenP te73 rfl h59) ?_
    refine FL.v (E.add rfl rfl) ?_
    refine FL.v (E.assign (v := Value.int .i64 (wr (s22 + (len y21)))) rfl) ?_
    refine FL.nil (FW.seq (FW.region ?_))
    refine FL.v (E.move (v := Value.int .i64 (wr (s22 + (len y21)))) rfl) ?_
    refine FL.v (E.lss rfl rfl) ?_
    refine FL.nil ?_
    rcases ifB hp with ⟨c60, hp⟩ | ⟨c60, hp⟩
    ·
      refine FW.condT rfl c60 ?_
      cases hp
    ·
      refine FW.condF rfl c60 ?_
      refine FW.skip (FW.region ?_)
      refine FL.v (E.add k47 rfl) ?_
      refine FL.v (E.move (v := Value.int .i64 (wr (((i22 : Nat) : Int) + 1))) rfl) ?_
      refine FL.nil ?_
      obtain rfl := Option.some.inj hp
      exact ⟨rfl, ⟨_, S43, i44, (nat_succ rfl (lt_of_get hx22) (p0.mono i44).le), k48, rfl, k50, k51⟩⟩
  ·
    clear hp hq
    rintro s22 f159 w158 ⟨H155, S156, i157, k160, k161, k162, k163, k164⟩
    refine FW.seq (FW.region ?_)
    refine FL.v (E.lss k160 k164) ?_
    refine FL.nil (FW.seq ?_)
    refine FW.condF rfl dlt_len ?_
    refine FW.exit ?_
    exact ⟨nofun, rfl, ⟨_, S156, i157, k161, k162⟩⟩
  ·
    clear hq
    intro e f66 w65 hD
    rcases q22 with s22 | x22
    ·
      obtain ⟨rfl, hD⟩ := hD
      obtain ⟨H62, S63, i64, k67, k68⟩ := hD
      replace hp := el_go hp
      refine FW.seq (FW.region ?_)
      refine FL.v (E.move k68) ?_
      obtain ⟨r69, hr70, hp⟩ := bnd hp
      refine FL.call rfl rfl rfl (E.call Tryz.call276 (A2 rfl rfl)) (w_slices_Grow_int_int S63.sl s22 hr70) ?_
      rintro e w72 ⟨H71, v75, n76, cs77, rfl, r74, els78⟩
      refine ⟨_, rfl, ?_⟩
      have els78 := els78.mono (up_le S63.size)
      have S73 := S63.join (l' := [.row 3 1 v75 n76 cs77]) r74 rfl
      refine FL.v (E.assign (v := v75) rfl) ?_
      refine FL.nil (FW.seq (FW.seq (FW.region ?_)))
      refine FL.v (E.move k67) ?_
      refine FL.v (E.lenP te22 rfl p0) ?_
      refine FL.v (E.move (v := Value.int .i64 0) rfl) ?_
      refine FL.nil ?_
      obtain ⟨q80, hq, hp⟩ := bndR hp
      refine FW.block ?_
      refine FW.mono (FW.forL (S := (List Int)) (X := Empty) (fun (i80 : Nat) (s80 : (List Int)) f w => ∃ H : GH, ∃ v81 : Value, ∃ n82 : Nat, ∃ cs83 : List Value, St Ha wa H w [.row 3 1 v81 n82 cs83] ∧ Inc H71 H ∧ Els (up wa.heap.size H) eI 1 cs83 s80 ∧ f 27 = Value.int .i64 ((i80 : Nat) : Int) ∧ f 6 = v81 ∧ f 25 = v0 ∧ f 26 = Value.int .i64 (len a0)) (fun (q : Rs (List Int) Empty) e f w => match q with | .go s80 => e = Exit.exit 2 ∧ (∃ H : GH, ∃ v81 : Value, ∃ n82 : Nat, ∃ cs83 : List Value, St Ha wa H w [.row 3 1 v81 n82 cs83] ∧ Inc H71 H ∧ Els (up wa.heap.size H) eI 1 cs83 s80 ∧ f 6 = v81) | .rt x => x.elim) hq ⟨_, _, _, _, S73, (Inc.rfl _), els78, rfl, rfl, rfl, rfl⟩ ?_ ?_) ?_
      ·
        clear hp hq
        rintro i80 y79 s80 f116 w115 ⟨H112, v81, n82, cs83, S113, i114, els84, k117, k118, k119, k120⟩ hx80 o139 hp
        refine FW.seq (FW.region ?_)
        refine FL.v (E.lssT k117 k120 (lss_len hx80)) ?_
        refine FL.nil (FW.seq ?_)
        refine FW.condT rfl rfl ?_
        refine FW.skip (FW.seq (FW.block (FW.seq (FW.region ?_))))
        obtain ⟨p121, cs122, pt123, l124, at125, rel126⟩ := p0.at (ix_nat hx80)
        obtain ⟨v127, rfl, h128⟩ := eL_open rel126
        refine FL.v (E.indexAddr te22 k119 k117 pt123) ?_
        refine FL.v (E.load rfl (run_load0 Tryz.isAgg73 ((at125.mono ((i64.tr r74.run.inc).tr i114)).now S113.sl) rfl)) ?_
        refine FL.v (E.assign (v := v127) rfl) ?_
        refine FL.nil (FW.region ?_)
        refine FL.v (E.move k118) ?_
        refine FL.v (E.move (v := v127) rfl) ?_
        obtain ⟨xs129, hz130, hp⟩ := bnd hp
        obtain ⟨v131, w134, n132, cs133, run135, S136, els137⟩ := S113.appendP (P := Tryz.prog) (Inc.rfl _) te73 (i := 0) rfl (els84.mono upI) (h128.mono ((i64.tr r74.run.inc).tr i114)) hz130
        have S136 : St Ha wa H112 w134 [.row 3 1 v131 n132 cs133] := S136
        have els137 : Els (up wa.heap.size H112) eI 1 cs133 xs129 := els137.any (fun _ _ _ _ h => h)
        refine FL.v (E.append rfl rfl run135) ?_
        refine FL.v (E.assign (v := v131) rfl) ?_
        refine FL.nil (FW.region ?_)
        refine FL.v (E.add k117 rfl) ?_
        refine FL.v (E.move (v := Value.int .i64 (wr (((i80 : Nat) : Int) + 1))) rfl) ?_
        refine FL.nil ?_
        obtain rfl := Option.some.inj hp
        exact ⟨rfl, ⟨_, _, _, _, S136, i114, els137, (nat_succ rfl (lt_of_get hx80) (p0.mono ((i64.tr r74.run.inc).tr i114)).le), rfl, k119, k120⟩⟩
      ·
        clear hp hq
        rintro s80 f150 w149 ⟨H146, v81, n82, cs83, S147, i148, els84, k151, k152, k153, k154⟩
        refine FW.seq (FW.region ?_)
        refine FL.v (E.lss k151 k154) ?_
        refine FL.nil (FW.seq ?_)
        refine FW.condF rfl dlt_len ?_
        refine FW.exit ?_
        exact ⟨nofun, rfl, ⟨_, _, _, _, S147, i148, els84, k152⟩⟩
      ·
        clear hq
        intro e f144 w143 hD
        rcases q80 with s80 | x80
        ·
          obtain ⟨rfl, hD⟩ := hD
          obtain ⟨H140, v81, n82, cs83, S141, i142, els84, k145⟩ := hD
          replace hp := el_go hp
          refine FW.seq (FW.region ?_)
          refine FL.v (E.move k145) ?_
          refine FL.v (E.assign (v := v81) rfl) ?_
          refine FL.nil ?_
          refine FW.ret ?_
          obtain rfl := Option.some.inj hp
          exact ⟨.inr rfl, res1 rfl rfl ⟨_, _, _, _, rfl, S141, els84⟩⟩
        · exact x80.elim
    · exact x22.elim

@[reducible] def p_slices_SortFunc_int_int (H0 : GH) (w0 : World) (Ha : GH) (L : List MO) (v0 : Value) (n0 : Nat) (r : (List Int)) : Ending → World → Prop :=
 fun e w' => ∃ H' : GH, ∃ c0k : List Value, e = .returned (Value.tuple #[]) ∧ (St H0 w0 H' w' (.row 3 1 v0 n0 c0k :: L) ∧ Inc Ha H') ∧ Els (up w0.heap.size H') eI 1 c0k r
theorem w_slices_SortFunc_int_int {H0 Ha : GH} {w0 wa : World} {L : List MO} {v0 : Value} {n0 : Nat} {k0 : List Value} (S0 : St H0 w0 Ha wa (.row 3 1 v0 n0 k0 :: L)) (a0 : List Int) (p0 : Els (up w0.heap.size Ha) eI 1 k0 a0) (v1 : Value) (a1 : Int → Int → Option Int) (p1 : Fn_I_I_to_I Tryz.prog Ha v1 a1) {r : (List Int)} (hp : (PF.slices_SortFunc_int_int a0 a1) = some r) :
  Calls Tryz.prog 274 #[v0, v1] wa (p_slices_SortFunc_int_int H0 w0 Ha L v0 n0 r) := by
 refine (St.sortF (l := .row 3 1 v0 n0 k0 :: L) (i := 0) upI S0 rfl p0 (fun H2 w2 hi hs2 c x hc d y hd r hr => by cases eI_open hc; cases eI_open hd; exact p1 H2 w2 hi hs2 x y r hr) (fun p cap fv w => AnyF.slices_SortFunc_none (P := Tryz.prog) (ρ := Tryz.sort274_ren) { Tryz.sort274 with } p cap fv w) (fun α _ enc h1 cf hO g cb blk off cap d w eg hc hH hb hs => Any.slices_SortFunc Tryz.sort274 enc h1 cf hO g cb blk off cap d w eg hc hH hb hs) hp).mono ?_
 rintro e w' ⟨rfl, c', h1, h2⟩
 exact ⟨_, _, rfl, ⟨h1, Inc.rfl _⟩, h2⟩

theorem w_cmp_isNaN_int {Ha : GH} {wa : World} (hs : Sl Ha wa) (a0 : Int) :
  Calls Tryz.prog 225 #[Value.int .i64 a0] wa (Sc Ha wa (Value.bool (PF.cmp_isNaN_int a0))) := by
 obtain ⟨r, hp⟩ : ∃ r, (PF.cmp_isNaN_int a0) = r := ⟨_, rfl⟩
 rw [hp]
 unfold PF.cmp_isNaN_int at hp
 have S0 := St.init hs
 refine calls_go (N := 6) (args := [Value.int .i64 a0]) Tryz.func225 rfl rfl rfl ?_
 refine FW.seq (FW.region ?_)
 refine FL.v (E.assign (v := Value.bool false) rfl) ?_
 refine FL.nil (FW.seq (FW.region ?_))
 refine FL.v (E.move (v := Value.int .i64 a0) rfl) ?_
 refine FL.v (E.move (v := Value.int .i64 a0) rfl) ?_
 refine FL.v (E.neq rfl rfl) ?_
 refine FL.v (E.assign (v := Value.bool (!(a0 == a0))) rfl) ?_
 refine FL.nil ?_
 refine FW.ret ?_
 obtain rfl := hp
 exact ⟨.inr rfl, res1 rfl rfl ⟨rfl, S0.back⟩⟩

theorem w_cmp_Compare_int {Ha : GH} {wa : World} (hs : Sl Ha wa) (a0 : Int) (a1 : Int) :
  Calls Tryz.prog 171 #[Value.int .i64 a0, Value.int .i64 a1] wa (Sc Ha wa (Value.int .i64 (PF.cmp_Compare_int a0 a1))) := by
 obtain ⟨r, hp⟩ : ∃ r, (PF.cmp_Compare_int a0 a1) = r := ⟨_, rfl⟩
 rw [hp]
 unfold PF.cmp_Compare_int at hp
 have S0 := St.init hs
 refine calls_go (N := 20) (args := [Value.int .i64 a0, Value.int .i64 a1]) Tryz.func171 rfl rfl rfl ?_
 refine FW.seq (FW.region ?_)
 refine FL.v (E.assign (v := Value.int .i64 0) rfl) ?_
 refine FL.nil (FW.seq (FW.region ?_))
 refine FL.v (E.move (v := Value.int .i64 a0) rfl) ?_
 refine FL.call rfl rfl rfl (E.call Tryz.call225 (A1 rfl)) (w_cmp_isNaN_int S0.sl a0) ?_
 rintro e w21 ⟨rfl, r22⟩
 refine ⟨_, rfl, ?_⟩
 have S23 := S0.call r22
 refine FL.v (E.assign (v := Value.bool (PF.cmp_isNaN_int a0)) rfl) ?_
 refine FL.nil (FW.seq (FW.region ?_))
 refine FL.v (E.move (v := Value.int .i64 a1) rfl) ?_
 refine FL.call rfl rfl rfl (E.call Tryz.call225 (A1 rfl)) (w_cmp_isNaN_int S23.sl a1) ?_
 rintro e w24 ⟨rfl, r25⟩
 refine ⟨_, rfl, ?_⟩
 have S26 := S23.call r25
 refine FL.v (E.assign (v := Value.bool (PF.cmp_isNaN_int a1)) rfl) ?_
 refine FL.nil (FW.seq (FW.seq (FW.region ?_)))
 refine FL.v (E.move (v := Value.bool (PF.cmp_isNaN_int a0)) rfl) ?_
 refine FL.nil ?_
 rcases ifT hp with ⟨c27, hp⟩ | ⟨c27, hp⟩
 ·
  refine FW.condT rfl c27 ?_
  refine FW.seq (FW.seq (FW.region ?_))
  refine FL.v (E.move (v := Value.bool (PF.cmp_isNaN_int a1)) rfl) ?_
  refine FL.nil ?_
  rcases ifT hp with ⟨c28, hp⟩ | ⟨c28, hp⟩
  ·
   refine FW.condT rfl c28 ?_
   refine FW.seq (FW.region ?_)
   refine FL.v (E.assign (v := Value.int .i64 0) rfl) ?_
   refine FL.nil ?_
   refine FW.ret ?_
   obtain rfl := hp
   exact ⟨.inr rfl, res1 rfl rfl ⟨rfl, S26.back⟩⟩
  ·
   refine FW.condF rfl c28 ?_
   refine FW.skip (FW.seq (FW.region ?_))
   refine FL.v (E.assign (v := Value.int .i64 (-1)) rfl) ?_
   refine FL.nil ?_
   refine FW.ret ?_
   obtain rfl := hp
   exact ⟨.inr rfl, res1 rfl rfl ⟨rfl, S26.back⟩⟩
 ·
  refine FW.condF rfl c27 ?_
  refine FW.skip (FW.seq (FW.seq (FW.region ?_)))
  refine FL.v (E.move (v := Value.bool (PF.cmp_isNaN_int a1)) rfl) ?_
  refine FL.nil ?_
  rcases ifT hp with ⟨c29, hp⟩ | ⟨c29, hp⟩
  ·
   refine FW.condT rfl c29 ?_
   refine FW.seq (FW.region ?_)
   refine FL.v (E.assign (v := Value.int .i64 1) rfl) ?_
   refine FL.nil ?_
   refine FW.ret ?_
   obtain rfl := hp
   exact ⟨.inr rfl, res1 rfl rfl ⟨rfl, S26.back⟩⟩
  ·
   refine FW.condF rfl c29 ?_
   refine FW.skip (FW.seq (FW.seq (FW.region ?_)))
   refine FL.v (E.move (v := Value.int .i64 a0) rfl) ?_
   refine FL.v (E.move (v := Value.int .i64 a1) rfl) ?_
   refine FL.v (E.lss rfl rfl) ?_
   refine FL.nil ?_
   rcases ifT hp with ⟨c30, hp⟩ | ⟨c30, hp⟩
   ·
    refine FW.condT rfl c30 ?_
    refine FW.seq (FW.region ?_)
    refine FL.v (E.assign (v := Value.int .i64 (-1)) rfl) ?_
    refine FL.nil ?_
    refine FW.ret ?_
    obtain rfl := hp
    exact ⟨.inr rfl, res1 rfl rfl ⟨rfl, S26.back⟩⟩
   ·
    refine FW.condF rfl c30 ?_
    refine FW.skip (FW.seq (FW.seq (FW.region ?_)))
    refine FL.v (E.move (v := Value.int .i64 a0) rfl) ?_
    refine FL.v (E.move (v := Value.int .i64 a1) rfl) ?_
    refine FL.v (E.gtr rfl rfl) ?_
    refine FL.nil ?_
    rcases ifT hp with ⟨c31, hp⟩ | ⟨c31, hp⟩
    ·
     refine FW.condT rfl c31 ?_
     refine FW.seq (FW.region ?_)
     refine FL.v (E.assign (v := Value.int .i64 1) rfl) ?_
     refine FL.nil ?_
     refine FW.ret ?_
     obtain rfl := hp
     exact ⟨.inr rfl, res1 rfl rfl ⟨rfl, S26.back⟩⟩
    ·
     refine FW.condF rfl c31 ?_
     refine FW.skip (FW.seq (FW.region ?_))
     refine FL.v (E.assign (v := Value.int .i64 0) rfl) ?_
     refine FL.nil ?_
     refine FW.ret ?_
     obtain rfl := hp
     exact ⟨.inr rfl, res1 rfl rfl ⟨rfl, S26.back⟩⟩

theorem w_cmp_Or_int {Ha : GH} {wa : World} (hs : Sl Ha wa) (v0 : Value) (a0 : List Int) (p0 : RSl Ha eI 1 v0 a0) {r : Int} (hp : (PF.cmp_Or_int a0) = some r) :
  Calls Tryz.prog 170 #[v0] wa (Sc Ha wa (Value.int .i64 r)) := by
 unfold PF.cmp_Or_int at hp
 have S0 := St.init hs
 refine calls_go (N := 18) (args := [v0]) Tryz.func170 rfl rfl rfl ?_
 refine FW.seq (FW.region ?_)
 refine FL.v (E.assign (v := Value.int .i64 0) rfl) ?_
 refine FL.nil (FW.seq (FW.region ?_))
 refine FL.v (E.assign (v := Value.int .i64 0) rfl) ?_
 refine FL.nil (FW.seq (FW.seq (FW.region ?_)))
 refine FL.v (E.move (v := v0) rfl) ?_
 refine FL.v (E.lenP te73 rfl p0) ?_
 refine FL.v (E.move (v := Value.int .i64 0) rfl) ?_
 refine FL.nil ?_
 obtain ⟨q22, hq, hp⟩ := bndR hp
 refine FW.block ?_
 refine FW.mono (FW.forL (S := Unit) (X := Int) (fun (i22 : Nat) (s22 : Unit) f w => ∃ H : GH, St Ha wa H w [] ∧ Inc Ha H ∧ f 8 = Value.int .i64 ((i22 : Nat) : Int) ∧ f 3 = Value.int .i64 0 ∧ f 6 = v0 ∧ f 7 = Value.int .i64 (len a0)) (fun q e f w => match q with | .go s22 => e = Exit.exit 0 ∧ (∃ H : GH, St Ha wa H w [] ∧ Inc Ha H ∧ f 3 = Value.int .i64 0) | .rt x => ((e = Exit.ret) ∧ (fun e f w => (e = Exit.normal ∨ e = Exit.ret) ∧ ∀ a, Fr (δ := []) 18 a f → ∃ v, (results Tryz.f170 a.tmps).run Tryz.prog w = .ok v w ∧ (Sc Ha wa (Value.int .i64 x)) (.returned v) w) e f w)) hq ⟨_, S0, (Inc.rfl _), rfl, rfl, rfl, rfl⟩ ?_ ?_) ?_
 ·
  clear hp hq
  rintro i22 y21 s22 f43 w42 ⟨H39, S40, i41, k44, k45, k46, k47⟩ hx22 o55 hp
  refine FW.seq (FW.region ?_)
  refine FL.v (E.lssT k44 k47 (lss_len hx22)) ?_
  refine FL.nil (FW.seq ?_)
  refine FW.condT rfl rfl ?_
  refine FW.skip (FW.seq (FW.block (FW.seq (FW.region ?_))))
  obtain ⟨p48, cs49, pt50, l51, at52, rel53⟩ := p0.at (ix_nat hx22)
  obtain rfl := eI_open rel53
  refine FL.v (E.indexAddr te73 k46 k44 pt50) ?_
  refine FL.v (E.load rfl (run_load0 Tryz.isAgg3 ((at52.mono i41).now S40.sl) rfl)) ?_
  refine FL.v (E.assign (v := Value.int .i64 y21) rfl) ?_
  refine FL.nil (FW.seq (FW.region ?_))
  refine FL.v (E.move (v := Value.int .i64 y21) rfl) ?_
  refine FL.v (E.move k45) ?_
  refine FL.v (E.neq rfl rfl) ?_
  refine FL.nil ?_
  rcases ifB hp with ⟨c54, hp⟩ | ⟨c54, hp⟩
  ·
   refine FW.condT rfl c54 ?_
   refine FW.seq (FW.region ?_)
   refine FL.v (E.move (v := Value.int .i64 y21) rfl) ?_
   refine FL.v (E.assign (v := Value.int .i64 y21) rfl) ?_
   refine FL.nil ?_
   refine FW.ret ?_
   obtain rfl := Option.some.inj hp
   exact ⟨nofun, rfl, ⟨.inr rfl, res1 rfl rfl ⟨rfl, S40.back⟩⟩⟩
  ·
   refine FW.condF rfl c54 ?_
   refine FW.skip (FW.region ?_)
   refine FL.v (E.add k44 rfl) ?_
   refine FL.v (E.move (v := Value.int .i64 (wr (((i22 : Nat) : Int) + 1))) rfl) ?_
   refine FL.nil ?_
   obtain rfl := Option.some.inj hp
   exact ⟨rfl, ⟨_, S40, i41, (nat_succ rfl (lt_of_get hx22) (p0.mono i41).le), k45, k46, k47⟩⟩
 ·
  clear hp hq
  rintro s22 f66 w65 ⟨H62, S63, i64, k67, k68, k69, k70⟩
  refine FW.seq (FW.region ?_)
  refine FL.v (E.lss k67 k70) ?_
  refine FL.nil (FW.seq ?_)
  refine FW.condF rfl dlt_len ?_
  refine FW.exit ?_
  exact ⟨nofun, rfl, ⟨_, S63, i64, k68⟩⟩
 ·
  clear hq
  intro e f60 w59 hD
  rcases q22 with s22 | x22
  ·
   obtain ⟨rfl, hD⟩ := hD
   obtain ⟨H56, S57, i58, k61⟩ := hD
   replace hp := el_go hp
   refine FW.seq (FW.region ?_)
   refine FL.v (E.move k61) ?_
   refine FL.v (E.assign (v := Value.int .i64 0) rfl) ?_
   refine FL.nil ?_
   refine FW.ret ?_
   obtain rfl := Option.some.inj hp
   exact ⟨.inr rfl, res1 rfl rfl ⟨rfl, S57.back⟩⟩
  ·
   obtain ⟨he, hL⟩ := hD
   replace hp := el_rt hp
   obtain rfl := Option.some.inj hp
   subst he
   exact hL

theorem w_impl_compareLiterals {Ha : GH} {wa : World} (hs : Sl Ha wa) (a0 : Int) (a1 : Int) {r : Int} (hp : (PF.impl_compareLiterals a0 a1) = some r) :
  Calls Tryz.prog 173 #[Value.int .i64 a0, Value.int .i64 a1] wa (Sc Ha wa (Value.int .i64 r)) := by
 unfold PF.impl_compareLiterals at hp
 have S0 := St.init hs
 refine calls_go (N := 15) (args := [Value.int .i64 a0, Value.int .i64 a1]) Tryz.func173 rfl rfl rfl ?_
 refine FW.seq (FW.region ?_)
 refine FL.v (E.assign (v := Value.int .i64 0) rfl) ?_
 refine FL.nil (FW.seq (FW.region ?_))
 refine FL.v (E.move (v := Value.int .i64 a0) rfl) ?_
 refine FL.call rfl rfl rfl (E.call Tryz.call143 (A1 rfl)) (w_impl_abs S0.sl a0) ?_
 rintro e w21 ⟨rfl, r22⟩
 refine ⟨_, rfl, ?_⟩
 have S23 := S0.call r22
 refine FL.v (E.move (v := Value.int .i64 a1) rfl) ?_
 refine FL.call rfl rfl rfl (E.call Tryz.call143 (A1 rfl)) (w_impl_abs S23.sl a1) ?_
 rintro e w24 ⟨rfl, r25⟩
 refine ⟨_, rfl, ?_⟩
 have S26 := S23.call r25
 refine FL.call rfl rfl rfl (E.call Tryz.call171 (A2 rfl rfl)) (w_cmp_Compare_int S26.sl (PF.impl_abs a0) (PF.impl_abs a1)) ?_
 rintro e w27 ⟨rfl, r28⟩
 refine ⟨_, rfl, ?_⟩
 have S29 := S26.call r28
 refine FL.v (E.move (v := Value.int .i64 a1) rfl) ?_
 refine FL.v (E.move (v := Value.int .i64 a0) rfl) ?_
 refine FL.call rfl rfl rfl (E.call Tryz.call171 (A2 rfl rfl)) (w_cmp_Compare_int S29.sl a1 a0) ?_
 rintro e w30 ⟨rfl, r31⟩
 refine ⟨_, rfl, ?_⟩
 have S32 := S29.call r31
 obtain ⟨v33, w34, run35, S36⟩ := S32.buildSlice (P := Tryz.prog) te73 [Value.int .i64 (PF.cmp_Compare_int (PF.impl_abs a0) (PF.impl_abs a1)), Value.int .i64 (PF.cmp_Compare_int a1 a0)] (parts := #[(0, Value.int .i64 (PF.cmp_Compare_int (PF.impl_abs a0) (PF.impl_abs a1))), (1, Value.int .i64 (PF.cmp_Compare_int a1 a0))]) (cells := [Value.int .i64 (PF.cmp_Compare_int (PF.impl_abs a0) (PF.impl_abs a1)), Value.int .i64 (PF.cmp_Compare_int a1 a0)]) rfl (szs_cons rfl (szs_cons rfl szs_nil)) (fc_cons rfl (fc_cons rfl fc_nil)) (ones_cons rfl (ones_cons rfl ones_nil)) (Nat.le_of_ble_eq_true rfl)
 have els37 : Els (up wa.heap.size Ha) eI 1 [Value.int .i64 (PF.cmp_Compare_int (PF.impl_abs a0) (PF.impl_abs a1)), Value.int .i64 (PF.cmp_Compare_int a1 a0)] [(PF.cmp_Compare_int (PF.impl_abs a0) (PF.impl_abs a1)), (PF.cmp_Compare_int a1 a0)] := (Els.snoc (H := (up wa.heap.size Ha)) (E := eI) (k := 1) (c := [Value.int .i64 (PF.cmp_Compare_int a1 a0)]) (x := (PF.cmp_Compare_int a1 a0)) (Els.snoc (H := (up wa.heap.size Ha)) (E := eI) (k := 1) (c := [Value.int .i64 (PF.cmp_Compare_int (PF.impl_abs a0) (PF.impl_abs a1))]) (x := (PF.cmp_Compare_int (PF.impl_abs a0) (PF.impl_abs a1))) Els.nil rfl rfl) rfl rfl)
 refine FL.v (E.buildSlice (B2 rfl rfl) run35) ?_
 obtain ⟨H38, S39, i40, h41, nv42⟩ := S36.sealRowU (i := 0) (l' := []) rfl els37 (by decide) rfl
 obtain ⟨r43, hr44, hp⟩ := bnd hp
 refine FL.call rfl rfl rfl (E.call Tryz.call170 (A1 rfl)) (w_cmp_Or_int S39.sl v33 [(PF.cmp_Compare_int (PF.impl_abs a0) (PF.impl_abs a1)), (PF.cmp_Compare_int a1 a0)] (h41.mono upI) hr44) ?_
 rintro e w45 ⟨rfl, r46⟩
 refine ⟨_, rfl, ?_⟩
 have r46 := Run.lend i40 S36.sl r46
 have S47 := S36.call r46
 refine FL.v (E.assign (v := Value.int .i64 r43) rfl) ?_
 refine FL.nil ?_
 refine FW.ret ?_
 obtain rfl := Option.some.inj hp
 exact ⟨.inr rfl, res1 rfl rfl ⟨rfl, S47.back⟩⟩

@[reducible] def p_slices_Compact_int_int (H0 : GH) (w0 : World) (Ha : GH) (L : List MO) (r : (List Int)) : Ending → World → Prop :=
 fun e w' => ∃ H' : GH, ∃ v0r : Value, ∃ n0r : Nat, ∃ c0r : List Value, e = .returned (v0r) ∧ (St H0 w0 H' w' (.row 3 1 v0r n0r c0r :: L) ∧ Inc Ha H') ∧ Els (up w0.heap.size H') eI 1 c0r r
theorem w_slices_Compact_int_int {H0 Ha : GH} {w0 wa : World} {L : List MO} {v0 : Value} {n0 : Nat} {k0 : List Value} (S0 : St H0 w0 Ha wa (.row 3 1 v0 n0 k0 :: L)) (a0 : List Int) (p0 : Els (up w0.heap.size Ha) eI 1 k0 a0) {r : (List Int)} (hp : (PF.slices_Compact_int_int a0) = some r) :
  Calls Tryz.prog 275 #[v0] wa (p_slices_Compact_int_int H0 w0 Ha L r) := by
 cases hp
 refine (St.compactF (l := .row 3 1 v0 n0 k0 :: L) (i := 0) S0 rfl p0 (enc := Value.int .i64) (fun _ => rfl) (fun _ _ _ h => by cases eI_open h; rfl) (fun _ _ => rfl) 0 (fun w => compact_none Tryz.comp275 w) (fun blk off cap d w hH hs hc => AnyE.slices_Compact Tryz.comp275 (Value.int .i64) (fun _ => rfl) (EqlAt.intD _ _ _) (NeqAt.intD _ _ _) 0 (fun w => Tryz.zeroValue3 w) blk off cap d w hH hs hc)).mono ?_
 rintro e w' ⟨v', n', c', rfl, h1, h2⟩
 exact ⟨_, _, _, _, rfl, ⟨h1, Inc.rfl _⟩, h2⟩

@[reducible] def p_impl_clause (Ha : GH) (wa : World) (r : ((List Int) × Bool)) : Ending → World → Prop :=
 fun e w' => ∃ H' : GH, ∃ v0 : Value, ∃ n0 : Nat, ∃ c0 : List Value, e = .returned (Value.tuple #[v0, Value.bool r.2]) ∧ St Ha wa H' w' [.row 3 1 v0 n0 c0] ∧ Els (up wa.heap.size H') eI 1 c0 r.1
theorem w_impl_clause {Ha : GH} {wa : World} (hs : Sl Ha wa) (v0 : Value) (a0 : List Int) (p0 : RSl Ha eI 1 v0 a0) {r : ((List Int) × Bool)} (hp : (PF.impl_clause a0) = some r) :
  Calls Tryz.prog 257 #[v0] wa (p_impl_clause Ha wa r) := by
 unfold PF.impl_clause at hp
 have S0 := St.init hs
 refine calls_go (N := 30) (args := [v0]) Tryz.func257 rfl rfl rfl ?_
 refine FW.seq (FW.region ?_)
 refine FL.v (E.assign (v := Value.slice none 0 0) rfl) ?_
 refine FL.v (E.assign (v := Value.bool false) rfl) ?_
 refine FL.nil (FW.seq (FW.region ?_))
 refine FL.v (E.move (v := v0) rfl) ?_
 obtain ⟨r21, hr22, hp⟩ := bnd hp
 refine FL.call rfl rfl rfl (E.call Tryz.call108 (A1 rfl)) (w_slices_Clone_int_int S0.sl v0 a0 p0 hr22) ?_
 rintro e w24 ⟨H23, v27, n28, cs29, rfl, r26, els30⟩
 refine ⟨_, rfl, ?_⟩
 have els30 := els30.mono (up_le S0.size)
 have S25 := S0.join (l' := [.row 3 1 v27 n28 cs29]) r26 rfl
 refine FL.v (E.assign (v := v27) rfl) ?_
 refine FL.nil (FW.seq (FW.region ?_))
 refine FL.v (E.move (v := v27) rfl) ?_
 obtain ⟨r31, hr32, hp⟩ := bnd hp
 refine FL.call rfl rfl rfl (E.call Tryz.call274 (A2 rfl rfl)) (w_slices_SortFunc_int_int (L := []) S25 r21 els30 (Value.func (.func 173) #[] #[]) (fun x0 x1 => PF.impl_compareLiterals x0 x1) (fun H2 w2 hi2 hs2 x0 x1 r hr => ⟨173, #[], rfl, Tryz.call173, w_impl_compareLiterals hs2 x0 x1  hr⟩) hr32) ?_
 rintro e w34 ⟨H33, cs37, rfl, ⟨S35, i36⟩, els38⟩
 refine ⟨_, rfl, ?_⟩
 have S35 : St Ha wa H33 w34 [.row 3 1 v27 n28 cs37] := S35
 refine FL.nil (FW.seq (FW.region ?_))
 refine FL.v (E.move (v := v27) rfl) ?_
 obtain ⟨r39, hr40, hp⟩ := bnd hp
 refine FL.call rfl rfl rfl (E.call Tryz.call275 (A1 rfl)) (w_slices_Compact_int_int (L := []) S35 r31 els38 hr40) ?_
 rintro e w42 ⟨H41, v45, n46, cs47, rfl, ⟨S43, i44⟩, els48⟩
 refine ⟨_, rfl, ?_⟩
 have S43 : St Ha wa H41 w42 [.row 3 1 v45 n46 cs47] := S43
 refine FL.v (E.assign (v := v45) rfl) ?_
 refine FL.nil (FW.seq (FW.seq (FW.region ?_)))
 refine FL.v (E.assign (v := Value.int .i64 1) rfl) ?_
 refine FL.nil ?_
 obtain ⟨q49, hq, hp⟩ := bndR hp
 refine FW.block ?_
 refine FW.mono (FW.iter (S := Int) (X := ((List Int) × Bool)) (fun (s49 : Int) f w => ∃ H : GH, St Ha wa H w [.row 3 1 v45 n46 cs47] ∧ Inc H41 H ∧ f 4 = v45 ∧ f 5 = Value.int .i64 s49) (fun q e f w => match q with | .go s49 => e = Exit.exit 0 ∧ (∃ H : GH, St Ha wa H w [.row 3 1 v45 n46 cs47] ∧ Inc H41 H ∧ f 4 = v45) | .rt x => ((e = Exit.ret) ∧ (fun e f w => (e = Exit.normal ∨ e = Exit.ret) ∧ ∀ a, Fr (δ := []) 30 a f → ∃ v, (results Tryz.f257 a.tmps).run Tryz.prog w = .ok v w ∧ (p_impl_clause Ha wa x) (.returned v) w) e f w)) hq ⟨_, S43, (Inc.rfl _), rfl, rfl⟩ ?_) ?_
 ·
  clear hp hq
  rintro s49 f83 w82 ⟨H79, S80, i81, k84, k85⟩ o108 hp
  refine FW.seq (FW.seq (FW.region ?_))
  refine FL.v (E.move k85) ?_
  refine FL.v (E.move k84) ?_
  refine FL.v (E.lenO te73 rfl S80 (i := 0) rfl els48 (by decide)) ?_
  refine FL.v (E.lss rfl rfl) ?_
  refine FL.nil ?_
  rcases ifB hp with ⟨c86, hp⟩ | ⟨c86, hp⟩
  ·
   refine FW.condT rfl c86 ?_
   refine FW.skip (FW.seq (FW.block (FW.seq ?_)))
   refine FW.draw (fun w' => Run w82.heap.size H79 w82 H79 w') (by kernel_rfl) (by kernel_rfl) (run_drew S80.sl) ?_
   refine FD.val rfl rfl rfl (fun w' hw' => (E.move k84)) ?_
   refine FD.val rfl rfl rfl (fun w' hw' => (E.move k85)) ?_
   obtain ⟨x94, hx95, hp⟩ := bnd hp
   obtain ⟨p88, cs89, pt90, l91, at92, rel93⟩ := S80.row_at (i := 0) rfl els48 (by decide) hx95
   obtain rfl := eI_open rel93
   refine FD.val rfl rfl rfl (fun w' hw' => (E.indexAddr te73 rfl rfl pt90)) ?_
   refine FD.val rfl rfl rfl (fun w' hw' => (E.load rfl (run_load0 Tryz.isAgg3 (at92.cls hw') rfl))) ?_
   refine FD.val rfl rfl rfl (fun w' hw' => (E.move k84)) ?_
   refine FD.val rfl rfl rfl (fun w' hw' => (E.move k85)) ?_
   refine FD.val rfl rfl rfl (fun w' hw' => (E.sub rfl rfl)) ?_
   obtain ⟨x102, hx103, hp⟩ := bnd hp
   obtain ⟨p96, cs97, pt98, l99, at100, rel101⟩ := S80.row_at (i := 0) rfl els48 (by decide) hx103
   obtain rfl := eI_open rel101
   refine FD.val rfl rfl rfl (fun w' hw' => (E.indexAddr te73 rfl rfl pt98)) ?_
   refine FD.val rfl rfl rfl (fun w' hw' => (E.load rfl (run_load0 Tryz.isAgg3 (at100.cls hw') rfl))) ?_
   refine FD.val rfl rfl rfl (fun w' hw' => (E.neg rfl)) ?_
   refine FD.val rfl rfl rfl (fun w' hw' => (E.eql rfl rfl)) ?_
   refine FD.nil ?_
   intro w104 r106
   have S105 := S80.call r106
   rcases ifB hp with ⟨c107, hp⟩ | ⟨c107, hp⟩
   ·
    refine FW.condT rfl c107 ?_
    refine FW.seq (FW.region ?_)
    refine FL.v (E.assign (v := Value.slice none 0 0) rfl) ?_
    refine FL.v (E.assign (v := Value.bool false) rfl) ?_
    refine FL.nil ?_
    refine FW.ret ?_
    obtain rfl := Option.some.inj hp
    exact ⟨nofun, rfl, ⟨.inr rfl, res2 rfl rfl rfl ⟨_, _, _, _, rfl, ((S105.nil 3 1).sel [0] (by decide) rfl), Els.nil⟩⟩⟩
   ·
    refine FW.condF rfl c107 ?_
    refine FW.skip (FW.region ?_)
    refine FL.v (E.move k85) ?_
    refine FL.v (E.add rfl rfl) ?_
    refine FL.v (E.assign (v := Value.int .i64 (wr (s49 + 1))) rfl) ?_
    refine FL.nil ?_
    obtain rfl := Option.some.inj hp
    exact ⟨rfl, ⟨_, S105, i81, k84, rfl⟩⟩
  ·
   refine FW.condF rfl c86 ?_
   refine FW.exit ?_
   obtain rfl := Option.some.inj hp
   exact ⟨nofun, rfl, ⟨_, S80, i81, k84⟩⟩
 ·
  clear hq
  intro e f113 w112 hD
  rcases q49 with s49 | x49
  ·
   obtain ⟨rfl, hD⟩ := hD
   obtain ⟨H109, S110, i111, k114⟩ := hD
   replace hp := el_go hp
   refine FW.seq (FW.region ?_)
   refine FL.v (E.move k114) ?_
   refine FL.v (E.assign (v := v45) rfl) ?_
   refine FL.v (E.assign (v := Value.bool true) rfl) ?_
   refine FL.nil ?_
   refine FW.ret ?_
   obtain rfl := Option.some.inj hp
   exact ⟨.inr rfl, res2 rfl rfl rfl ⟨_, _, _, _, rfl, S110, (els48.mono (up_mono i111))⟩⟩
  ·
   obtain ⟨he, hL⟩ := hD
   replace hp := el_rt hp
   obtain rfl := Option.some.inj hp
   subst he
   exact hL

@[reducible] def p_impl_resolve (Ha : GH) (wa : World) (r : ((List Int) × Bool)) : Ending → World → Prop :=
 fun e w' => ∃ H' : GH, ∃ v0 : Value, ∃ n0 : Nat, ∃ c0 : List Value, e = .returned (Value.tuple #[v0, Value.bool r.2]) ∧ St Ha wa H' w' [.row 3 1 v0 n0 c0] ∧ Els (up wa.heap.size H') eI 1 c0 r.1
theorem w_impl_resolve {Ha : GH} {wa : World} (hs : Sl Ha wa) (v0 : Value) (a0 : List Int) (p0 : RSl Ha eI 1 v0 a0) (v1 : Value) (a1 : List Int) (p1 : RSl Ha eI 1 v1 a1) (a2 : Int) {r : ((List Int) × Bool)} (hp : (PF.impl_resolve a0 a1 a2) = some r) :
  Calls Tryz.prog 234 #[v0, v1, Value.int .i64 a2] wa (p_impl_resolve Ha wa r) := by
 unfold PF.impl_resolve at hp
 have S0 := St.init hs
 refine calls_go (N := 30) (args := [v0, v1, Value.int .i64 a2]) Tryz.func234 rfl rfl rfl ?_
 refine FW.seq (FW.region ?_)
 refine FL.v (E.assign (v := Value.slice none 0 0) rfl) ?_
 refine FL.v (E.assign (v := Value.bool false) rfl) ?_
 refine FL.nil (FW.seq (FW.seq (FW.region ?_)))
 refine FL.v (E.move (v := v0) rfl) ?_
 refine FL.v (E.move (v := Value.int .i64 a2) rfl) ?_
 obtain ⟨r21, hr22, hp⟩ := bnd hp
 refine FL.call rfl rfl rfl (E.call Tryz.call146 (A2 rfl rfl)) (w_slices_Contains_int_int S0.sl v0 a0 p0 a2 hr22) ?_
 rintro e w23 ⟨rfl, r24⟩
 refine ⟨_, rfl, ?_⟩
 have S25 := S0.call r24
 refine FL.v (E.not rfl) ?_
 refine FL.v (E.move (v := Value.bool (!r21)) rfl) ?_
 obtain ⟨t31, hqt31, hp⟩ := bnd hp
 refine FL.cut 6 (fun f w => ∃ H : GH, St Ha wa H w [] ∧ Inc Ha H ∧ f 0 = v0 ∧ f 1 = v1 ∧ f 2 = Value.int .i64 a2 ∧ f 18 = Value.bool t31) ?_ ?_
 ·
  clear hp; have hp := hqt31; clear hqt31
  rcases ifB hp with ⟨c37, hp⟩ | ⟨c37, hp⟩
  ·
   refine FL.skip (wF_no rfl rfl rfl c37) rfl ?_
   refine FL.skip (wF_no rfl rfl rfl c37) rfl ?_
   refine FL.skip (wF_no rfl rfl rfl c37) rfl ?_
   refine FL.skip (wF_no rfl rfl rfl c37) rfl ?_
   refine FL.skip (wF_no rfl rfl rfl c37) rfl ?_
   obtain rfl := Option.some.inj hp
   refine FL.v (E.pickT rfl c37 rfl) ?_
   exact FL.nil ⟨rfl, _, S25, (Inc.rfl _), rfl, rfl, rfl, rfl⟩
  ·
   refine FL.val (wF_yes rfl rfl rfl c37) rfl rfl (E.move (v := v1) rfl) ?_
   refine FL.val (wF_yes rfl rfl rfl c37) rfl rfl (E.move (v := Value.int .i64 a2) rfl) ?_
   refine FL.val (wF_yes rfl rfl rfl c37) rfl rfl (E.neg rfl) ?_
   obtain ⟨r38, hr39, hp⟩ := bnd hp
   refine FL.call (wF_yes rfl rfl rfl c37) rfl rfl (E.call Tryz.call146 (A2 rfl rfl)) (w_slices_Contains_int_int S25.sl v1 a1 p1 (wr (-a2)) hr39) ?_
   rintro e w40 ⟨rfl, r41⟩
   refine ⟨_, rfl, ?_⟩
   have S42 := S25.call r41
   refine FL.val (wF_yes rfl rfl rfl c37) rfl rfl (E.not rfl) ?_
   obtain rfl := Option.some.inj hp
   refine FL.v (E.pickF rfl c37 rfl) ?_
   exact FL.nil ⟨rfl, _, S42, (Inc.rfl _), rfl, rfl, rfl, rfl⟩
 rintro f36 w35 ⟨H32, S33, i34, k43, k44, k45, k46⟩
 refine FL.nil ?_
 rcases ifB hp with ⟨c47, hp⟩ | ⟨c47, hp⟩
 ·
  refine FW.condT k46 c47 ?_
  refine FW.seq (FW.region ?_)
  refine FL.v (E.assign (v := Value.slice none 0 0) rfl) ?_
  refine FL.v (E.assign (v := Value.bool false) rfl) ?_
  refine FL.nil ?_
  refine FW.ret ?_
  obtain rfl := Option.some.inj hp
  exact ⟨.inr rfl, res2 rfl rfl rfl ⟨_, _, _, _, rfl, (S33.nil 3 1), Els.nil⟩⟩
 ·
  refine FW.condF k46 c47 ?_
  refine FW.skip (FW.seq (FW.region ?_))
  refine FL.v (E.move k43) ?_
  refine FL.v (E.move k45) ?_
  obtain ⟨r48, hr49, hp⟩ := bnd hp
  refine FL.call rfl rfl rfl (E.call Tryz.call240 (A2 rfl rfl)) (w_impl_withoutVar S33.sl v0 a0 (p0.mono i34) a2 hr49) ?_
  rintro e w51 ⟨H50, v54, n55, cs56, rfl, r53, els57⟩
  refine ⟨_, rfl, ?_⟩
  have els57 := els57.mono (up_le S33.size)
  have S52 := S33.join (l' := [.row 3 1 v54 n55 cs56]) r53 rfl
  refine FL.v (E.move k44) ?_
  refine FL.v (E.move k45) ?_
  obtain ⟨r58, hr59, hp⟩ := bnd hp
  refine FL.call rfl rfl rfl (E.call Tryz.call240 (A2 rfl rfl)) (w_impl_withoutVar S52.sl v1 a1 (p1.mono (i34.tr r53.run.inc)) a2 hr59) ?_
  rintro e w61 ⟨H60, v64, n65, cs66, rfl, r63, els67⟩
  refine ⟨_, rfl, ?_⟩
  have els67 := els67.mono (up_le S52.size)
  have S62 := S52.join (l' := [.row 3 1 v64 n65 cs66, .row 3 1 v54 n55 cs56]) r63 rfl
  obtain ⟨H68, S69, i70, h71, nv72⟩ := S62.sealRowU (i := 1) (l' := [.row 3 1 v64 n65 cs66]) rfl (els57.mono (up_mono r63.run.inc)) (by decide) rfl
  obtain ⟨H73, S74, i75, h76, nv77⟩ := S69.sealRowU (i := 0) (l' := []) rfl (els67.mono (up_mono i70)) (by decide) rfl
  obtain ⟨v78, w79, run80, S81⟩ := S74.buildSlice (P := Tryz.prog) te22 [v54, v64] (parts := #[(0, v54), (1, v64)]) (cells := [v54, v64]) rfl (szs_cons (cells_size h71.cells) (szs_cons (cells_size h76.cells) szs_nil)) (fc_cons h71.cells (fc_cons h76.cells fc_nil)) (ones_cons h71.one (ones_cons h76.one ones_nil)) (Nat.le_of_ble_eq_true rfl)
  have els82 : Els (up wa.heap.size H73) (eL eI 1) 1 [v54, v64] [r48, r58] := (Els.snoc (H := (up wa.heap.size H73)) (E := (eL eI 1)) (k := 1) (c := [v64]) (x := r58) (Els.snoc (H := (up wa.heap.size H73)) (E := (eL eI 1)) (k := 1) (c := [v54]) (x := r48) Els.nil rfl ⟨_, rfl, (h71.mono (up_mono i75))⟩) rfl ⟨_, rfl, h76⟩)
  refine FL.v (E.buildSlice (B2 rfl rfl) run80) ?_
  obtain ⟨H83, S84, i85, h86, nv87⟩ := S81.sealRowU (i := 0) (l' := []) rfl els82 (by decide) rfl
  obtain ⟨r88, hr89, hp⟩ := bnd hp
  refine FL.call rfl rfl rfl (E.call Tryz.call258 (A1 rfl)) (w_slices_Concat_int_int S84.sl v78 [r48, r58] (h86.mono upI) hr89) ?_
  rintro e w91 ⟨H90, v96, n97, cs98, rfl, r93, els99⟩
  refine ⟨_, rfl, ?_⟩
  obtain ⟨H94, r93, hU95⟩ := St.lendX i85 S81.sl r93
  have els99 := els99.mono (hU95.tr (up_le S81.size))
  have S92 := S81.join (l' := [.row 3 1 v96 n97 cs98, .row 73 1 v78 2 [v54, v64]]) r93 rfl
  obtain ⟨H100, S101, i102, h103, nv104⟩ := S92.sealRowU (i := 0) (l' := [.row 73 1 v78 2 [v54, v64]]) rfl els99 (by decide) rfl
  obtain ⟨r105, hr106, hp⟩ := bnd hp
  refine FL.call rfl rfl rfl (E.call Tryz.call257 (A1 rfl)) (w_impl_clause S101.sl v96 r88 (h103.mono upI) hr106) ?_
  rintro e w108 ⟨H107, v113, n114, cs115, rfl, r110, els116⟩
  refine ⟨_, rfl, ?_⟩
  obtain ⟨H111, r110, hU112⟩ := St.lendX i102 S92.sl r110
  have els116 := els116.mono (hU112.tr (up_le S92.size))
  have S109 := S92.join (l' := [.row 3 1 v113 n114 cs115, .row 3 1 v96 n97 cs98, .row 73 1 v78 2 [v54, v64]]) r110 rfl
  refine FL.v (E.extract (i := 0) rfl rfl) ?_
  refine FL.v (E.extract (i := 1) rfl rfl) ?_
  refine FL.v (E.assign (v := v113) rfl) ?_
  refine FL.v (E.assign (v := Value.bool r105.2) rfl) ?_
  refine FL.nil ?_
  refine FW.ret ?_
  obtain rfl := Option.some.inj hp
  exact ⟨.inr rfl, res2 rfl rfl rfl ⟨_, _, _, _, rfl, (S109.sel [0] (by decide) rfl), els116⟩⟩

set_option maxHeartbeats 4000000 in
theorem w_impl_correct {Ha : GH} {wa : World} (hs : Sl Ha wa) (a0 : Cnf) (v0_1 : Value) (p0_1 : RSl Ha (eL eI 1) 1 v0_1 a0.clauses) (v1 : Value) (a1 : List ResStep) (p1 : RSl Ha eResStep 4 v1 a1) (a2 : Int) {r : Bool} (hp : (PF.impl_correct a0 a1 a2) = some r) :
  Calls Tryz.prog 182 #[Value.agg #[Value.int .i64 a0.vars, v0_1], v1, Value.int .i64 a2] wa (Sc Ha wa (Value.bool r)) := by
 unfold PF.impl_correct at hp
 have S0 := St.init hs
 refine calls_go (N := 105) (args := [Value.agg #[Value.int .i64 a0.vars, v0_1], v1, Value.int .i64 a2]) Tryz.func182 rfl rfl rfl ?_
 refine FW.seq (FW.region ?_)
 obtain ⟨b21, w22, run23, S24⟩ := S0.box (P := Tryz.prog) 32 [Value.int .i64 a0.vars, v0_1] (v := Value.agg #[Value.int .i64 a0.vars, v0_1]) rfl (ones_cons rfl (ones_cons p0_1.one ones_nil))
 refine FL.v (E.box rfl run23) ?_
 obtain ⟨H25, S26, i27, at28⟩ := S24.sealBox (i := 0) (l' := []) rfl rfl
 refine FL.v (E.assign (v := Value.bool false) rfl) ?_
 refine FL.nil (FW.seq (FW.region ?_))
 refine FL.v (E.move (v := v1) rfl) ?_
 refine FL.v (E.move (v := Value.int .i64 a2) rfl) ?_
 obtain ⟨x35, hx36, hp⟩ := bnd hp
 obtain ⟨p29, cs30, pt31, l32, at33, rel34⟩ := p1.at hx36
 obtain ⟨v37, rfl, h38⟩ := eResStep_open rel34
 refine FL.v (E.indexAddr te34 rfl rfl pt31) ?_
 refine FL.v (E.load rfl (run_loadA Tryz.isAgg88 Tryz.sizeOf88 ((at33.mono i27).now S26.sl) rfl)) ?_
 obtain ⟨b39, w40, run41, S42⟩ := S26.alloc (P := Tryz.prog) 88 [Value.slice none 0 0, Value.int .i64 0, Value.int .i64 0, Value.int .i64 0] Tryz.zeroValue88 rfl (ones_cons rfl (ones_cons rfl (ones_cons rfl (ones_cons rfl ones_nil))))
 refine FL.v (E.alloc run41) ?_
 obtain ⟨w43, run44, S45⟩ := S42.store0 (P := Tryz.prog) (t := 88) (i := 0) (cs' := [v37, Value.int .i64 x35.left, Value.int .i64 x35.right, Value.int .i64 x35.pivot]) (l' := [.box b39 88 [v37, Value.int .i64 x35.left, Value.int .i64 x35.right, Value.int .i64 x35.pivot]]) (v := Value.agg #[v37, Value.int .i64 x35.left, Value.int .i64 x35.right, Value.int .i64 x35.pivot]) (c := [v37, Value.int .i64 x35.left, Value.int .i64 x35.right, Value.int .i64 x35.pivot]) rfl Tryz.sizeOf88 rfl rfl (ones_cons h38.one (ones_cons rfl (ones_cons rfl (ones_cons rfl ones_nil)))) (Nat.le_of_ble_eq_true rfl) rfl rfl
 refine FL.act rfl rfl (E.store rfl rfl run44) ?_
 obtain ⟨H46, S47, i48, at49⟩ := S45.sealBox (i := 0) (l' := []) rfl rfl
 refine FL.nil (FW.seq (FW.seq (FW.region ?_)))
 refine FL.v (E.fieldAddr tf32_0 rfl) ?_
 refine FL.v (E.load rfl (run_load1 Tryz.isAgg3 ((at28.mono i48).now S47.sl) rfl)) ?_
 refine FL.v (E.fieldAddr tf88_0 rfl) ?_
 refine FL.v (E.load rfl (run_load1 Tryz.isAgg73 (at49.now S47.sl) rfl)) ?_
 obtain ⟨r50, hr51, hp⟩ := bnd hp
 refine FL.call rfl rfl rfl (E.call Tryz.call180 (A2 rfl rfl)) (w_impl_IsClause S47.sl a0.vars v37 x35.clause (h38.mono (i27.tr i48)) hr51) ?_
 rintro e w52 ⟨rfl, r53⟩
 refine ⟨_, rfl, ?_⟩
 have S54 := S47.call r53
 refine FL.v (E.not rfl) ?_
 refine FL.nil ?_
 rcases ifB hp with ⟨c55, hp⟩ | ⟨c55, hp⟩
 ·
  refine FW.condT rfl c55 ?_
  refine FW.seq (FW.region ?_)
  refine FL.v (E.assign (v := Value.bool false) rfl) ?_
  refine FL.nil ?_
  refine FW.ret ?_
  obtain rfl := Option.some.inj hp
  exact ⟨.inr rfl, res1 rfl rfl ⟨rfl, S54.back⟩⟩
 ·
  refine FW.condF rfl c55 ?_
  refine FW.skip (FW.seq (FW.seq (FW.region ?_)))
  refine FL.v (E.fieldAddr tf88_1 rfl) ?_
  refine FL.v (E.load rfl (run_load1 Tryz.isAgg3 (at49.now S54.sl) rfl)) ?_
  refine FL.v (E.eql rfl rfl) ?_
  refine FL.nil ?_
  rcases ifB hp with ⟨c56, hp⟩ | ⟨c56, hp⟩
  ·
   refine FW.condT rfl c56 ?_
   refine FW.seq ?_
   refine FW.draw (fun w' => Run w52.heap.size H46 w52 H46 w') (by kernel_rfl) (by kernel_rfl) (run_drew S54.sl) ?_
   refine FD.val rfl rfl rfl (fun w' hw' => (E.fieldAddr tf88_3 rfl)) ?_
   refine FD.val rfl rfl rfl (fun w' hw' => (E.load rfl (run_load1 Tryz.isAgg3 (at49.now (S54.call hw').sl) rfl))) ?_
   refine FD.val rfl rfl rfl (fun w' hw' => (E.eql rfl rfl)) ?_
   refine FD.val rfl rfl rfl (fun w' hw' => (E.move (v := Value.bool (x35.pivot == 0)) rfl)) ?_
   refine FD.cut 8 (fun f => f 3 = Value.pointer (some ⟨b21, 0, none⟩) ∧ f 7 = Value.pointer (some ⟨b39, 0, none⟩) ∧ f 36 = Value.bool (bif (x35.pivot == 0) then (PF.impl_within x35.right 0 (wr ((len a0.clauses) - 1))) else false)) ?_ ?_
   ·
    rcases bcase (x35.pivot == 0) with c64 | c64
    ·
     refine FD.val (wF_yes rfl rfl rfl c64) rfl rfl (fun w' hw' => (E.fieldAddr tf88_2 rfl)) ?_
     refine FD.val (wF_yes rfl rfl rfl c64) rfl rfl (fun w' hw' => (E.load rfl (run_load1 Tryz.isAgg3 (at49.now (S54.call hw').sl) rfl))) ?_
     refine FD.val (wF_yes rfl rfl rfl c64) rfl rfl (fun w' hw' => (E.fieldAddr tf32_1 rfl)) ?_
     refine FD.val (wF_yes rfl rfl rfl c64) rfl rfl (fun w' hw' => (E.load rfl (run_load1 Tryz.isAgg22 ((at28.mono i48).now (S54.call hw').sl) rfl))) ?_
     refine FD.val (wF_yes rfl rfl rfl c64) rfl rfl (fun w' hw' => (E.lenP te22 rfl p0_1)) ?_
     refine FD.val (wF_yes rfl rfl rfl c64) rfl rfl (fun w' hw' => (E.sub rfl rfl)) ?_
     refine FD.call (wF_yes rfl rfl rfl c64) rfl rfl (fun w' hw' => (E.call Tryz.call162 (A3 rfl rfl rfl))) (fun w' hw' => Calls.cls hw' (w_impl_within (S54.call hw').sl x35.right 0 (wr ((len a0.clauses) - 1)))) ?_
     refine FD.val rfl rfl rfl (fun w' hw' => (E.pickT rfl c64 rfl)) ?_
     exact FD.nil ⟨rfl, rfl, (congrArg Value.bool (bifT c64).symm)⟩
    ·
     refine FD.skip (wF_no rfl rfl rfl c64) rfl ?_
     refine FD.skip (wF_no rfl rfl rfl c64) rfl ?_
     refine FD.skip (wF_no rfl rfl rfl c64) rfl ?_
     refine FD.skip (wF_no rfl rfl rfl c64) rfl ?_
     refine FD.skip (wF_no rfl rfl rfl c64) rfl ?_
     refine FD.skip (wF_no rfl rfl rfl c64) rfl ?_
     refine FD.skip (wF_no rfl rfl rfl c64) rfl ?_
     refine FD.val rfl rfl rfl (fun w' hw' => (E.pickF rfl c64 rfl)) ?_
     exact FD.nil ⟨rfl, rfl, (congrArg Value.bool (bifF c64).symm)⟩
   rintro f63 ⟨k65, k66, k67⟩
   refine FD.val rfl rfl rfl (fun w' hw' => (E.move k67)) ?_
   obtain ⟨t80, hqt80, hp⟩ := bnd hp
   refine FD.cut 10 (fun f => f 47 = Value.bool t80) ?_ ?_
   ·
    clear hp; have hp := hqt80; clear hqt80
    rcases ifB hp with ⟨c86, hp⟩ | ⟨c86, hp⟩
    ·
     refine FD.val (wF_yes rfl rfl rfl c86) rfl rfl (fun w' hw' => (E.fieldAddr tf32_1 k65)) ?_
     refine FD.val (wF_yes rfl rfl rfl c86) rfl rfl (fun w' hw' => (E.load rfl (run_load1 Tryz.isAgg22 ((at28.mono i48).now (S54.call hw').sl) rfl))) ?_
     refine FD.val (wF_yes rfl rfl rfl c86) rfl rfl (fun w' hw' => (E.fieldAddr tf88_2 k66)) ?_
     refine FD.val (wF_yes rfl rfl rfl c86) rfl rfl (fun w' hw' => (E.load rfl (run_load1 Tryz.isAgg3 (at49.now (S54.call hw').sl) rfl))) ?_
     obtain ⟨x93, hx94, hp⟩ := bnd hp
     obtain ⟨p87, cs88, pt89, l90, at91, rel92⟩ := p0_1.at hx94
     obtain ⟨v95, rfl, h96⟩ := eL_open rel92
     refine FD.val (wF_yes rfl rfl rfl c86) rfl rfl (fun w' hw' => (E.indexAddr te22 rfl rfl pt89)) ?_
     refine FD.val (wF_yes rfl rfl rfl c86) rfl rfl (fun w' hw' => (E.load rfl (run_load0 Tryz.isAgg73 ((at91.mono (i27.tr i48)).now (S54.call hw').sl) rfl))) ?_
     refine FD.val (wF_yes rfl rfl rfl c86) rfl rfl (fun w' hw' => (E.fieldAddr tf88_0 k66)) ?_
     refine FD.val (wF_yes rfl rfl rfl c86) rfl rfl (fun w' hw' => (E.load rfl (run_load1 Tryz.isAgg73 (at49.now (S54.call hw').sl) rfl))) ?_
     obtain ⟨r97, hr98, hp⟩ := bnd hp
     refine FD.call (wF_yes rfl rfl rfl c86) rfl rfl (fun w' hw' => (E.call Tryz.call230 (A2 rfl rfl))) (fun w' hw' => Calls.cls hw' (w_slices_Equal_int_int (S54.call hw').sl v95 x93 (h96.mono (i27.tr i48)) v37 x35.clause (h38.mono (i27.tr i48)) hr98)) ?_
     obtain rfl := Option.some.inj hp
     refine FD.val rfl rfl rfl (fun w' hw' => (E.pickT rfl c86 rfl)) ?_
     exact FD.nil rfl
    ·
     refine FD.skip (wF_no rfl rfl rfl c86) rfl ?_
     refine FD.skip (wF_no rfl rfl rfl c86) rfl ?_
     refine FD.skip (wF_no rfl rfl rfl c86) rfl ?_
     refine FD.skip (wF_no rfl rfl rfl c86) rfl ?_
     refine FD.skip (wF_no rfl rfl rfl c86) rfl ?_
     refine FD.skip (wF_no rfl rfl rfl c86) rfl ?_
     refine FD.skip (wF_no rfl rfl rfl c86) rfl ?_
     refine FD.skip (wF_no rfl rfl rfl c86) rfl ?_
     refine FD.skip (wF_no rfl rfl rfl c86) rfl ?_
     obtain rfl := Option.some.inj hp
     refine FD.val rfl rfl rfl (fun w' hw' => (E.pickF rfl c86 rfl)) ?_
     exact FD.nil rfl
   intro f85 k99
   refine FD.val rfl rfl rfl (fun w' hw' => (E.assign k99)) ?_
   refine FD.nil ?_
   intro w100 r102
   have S101 := S54.call r102
   refine FW.ret ?_
   obtain rfl := Option.some.inj hp
   exact ⟨.inr rfl, res1 rfl rfl ⟨rfl, S101.back⟩⟩
  ·
   refine FW.condF rfl c56 ?_
   refine FW.skip (FW.seq (FW.region ?_))
   refine FL.v (E.load rfl (run_loadA Tryz.isAgg32 Tryz.sizeOf32 ((at28.mono i48).now S54.sl) rfl)) ?_
   refine FL.v (E.move (v := v1) rfl) ?_
   refine FL.v (E.move (v := Value.int .i64 a2) rfl) ?_
   refine FL.v (E.fieldAddr tf88_1 rfl) ?_
   refine FL.v (E.load rfl (run_load1 Tryz.isAgg3 (at49.now S54.sl) rfl)) ?_
   obtain ⟨r103, hr104, hp⟩ := bnd hp
   refine FL.call rfl rfl rfl (E.call Tryz.call231 (A4 rfl rfl rfl rfl)) (w_impl_earlier S54.sl a0 v0_1 (p0_1.mono (i27.tr i48)) v1 a1 (p1.mono (i27.tr i48)) a2 x35.left hr104) ?_
   rintro e w106 ⟨H105, v109, rfl, r108, h110⟩
   refine ⟨_, rfl, ?_⟩
   have S107 := S54.call r108
   refine FL.v (E.move (v := Value.tuple #[v109, Value.bool r103.2]) rfl) ?_
   refine FL.v (E.extract (i := 0) rfl rfl) ?_
   refine FL.v (E.extract (i := 1) rfl rfl) ?_
   refine FL.v (E.assign (v := v109) rfl) ?_
   refine FL.v (E.assign (v := Value.bool r103.2) rfl) ?_
   refine FL.nil (FW.seq (FW.seq (FW.region ?_)))
   refine FL.v (E.move (v := Value.bool r103.2) rfl) ?_
   refine FL.v (E.not rfl) ?_
   refine FL.nil ?_
   rcases ifB hp with ⟨c111, hp⟩ | ⟨c111, hp⟩
   ·
    refine FW.condT rfl c111 ?_
    refine FW.seq (FW.region ?_)
    refine FL.v (E.assign (v := Value.bool false) rfl) ?_
    refine FL.nil ?_
    refine FW.ret ?_
    obtain rfl := Option.some.inj hp
    exact ⟨.inr rfl, res1 rfl rfl ⟨rfl, S107.back⟩⟩
   ·
    refine FW.condF rfl c111 ?_
    refine FW.skip (FW.seq (FW.seq (FW.region ?_)))
    refine FL.v (E.fieldAddr tf88_2 rfl) ?_
    refine FL.v (E.load rfl (run_load1 Tryz.isAgg3 ((at49.mono r108.inc).now S107.sl) rfl)) ?_
    refine FL.v (E.eql rfl rfl) ?_
    refine FL.nil ?_
    rcases ifB hp with ⟨c112, hp⟩ | ⟨c112, hp⟩
    ·
     refine FW.condT rfl c112 ?_
     refine FW.seq (FW.region ?_)
     refine FL.v (E.fieldAddr tf88_3 rfl) ?_
     refine FL.v (E.load rfl (run_load1 Tryz.isAgg3 ((at49.mono r108.inc).now S107.sl) rfl)) ?_
     refine FL.v (E.eql rfl rfl) ?_
     refine FL.v (E.move (v := Value.bool (x35.pivot == 0)) rfl) ?_
     obtain ⟨t118, hqt118, hp⟩ := bnd hp
     refine FL.cut 5 (fun f w => ∃ H : GH, St Ha wa H w [] ∧ Inc H105 H ∧ f 70 = Value.bool t118) ?_ ?_
     ·
      clear hp; have hp := hqt118; clear hqt118
      rcases ifB hp with ⟨c124, hp⟩ | ⟨c124, hp⟩
      ·
       refine FL.val (wF_yes rfl rfl rfl c124) rfl rfl (E.move (v := v109) rfl) ?_
       refine FL.val (wF_yes rfl rfl rfl c124) rfl rfl (E.fieldAddr tf88_0 rfl) ?_
       refine FL.val (wF_yes rfl rfl rfl c124) rfl rfl (E.load rfl (run_load1 Tryz.isAgg73 ((at49.mono r108.inc).now S107.sl) rfl)) ?_
       obtain ⟨r125, hr126, hp⟩ := bnd hp
       refine FL.call (wF_yes rfl rfl rfl c124) rfl rfl (E.call Tryz.call232 (A2 rfl rfl)) (w_impl_part S107.sl v109 r103.1 h110 v37 x35.clause (h38.mono ((i27.tr i48).tr r108.inc)) hr126) ?_
       rintro e w127 ⟨rfl, r128⟩
       refine ⟨_, rfl, ?_⟩
       have S129 := S107.call r128
       obtain rfl := Option.some.inj hp
       refine FL.v (E.pickT rfl c124 rfl) ?_
       exact FL.nil ⟨rfl, _, S129, (Inc.rfl _), rfl⟩
      ·
       refine FL.skip (wF_no rfl rfl rfl c124) rfl ?_
       refine FL.skip (wF_no rfl rfl rfl c124) rfl ?_
       refine FL.skip (wF_no rfl rfl rfl c124) rfl ?_
       refine FL.skip (wF_no rfl rfl rfl c124) rfl ?_
       obtain rfl := Option.some.inj hp
       refine FL.v (E.pickF rfl c124 rfl) ?_
       exact FL.nil ⟨rfl, _, S107, (Inc.rfl _), rfl⟩
     rintro f123 w122 ⟨H119, S120, i121, k130⟩
     refine FL.v (E.assign k130) ?_
     refine FL.nil ?_
     refine FW.ret ?_
     obtain rfl := Option.some.inj hp
     exact ⟨.inr rfl, res1 rfl rfl ⟨rfl, S120.back⟩⟩
    ·
     refine FW.condF rfl c112 ?_
     refine FW.skip (FW.seq (FW.region ?_))
     refine FL.v (E.load rfl (run_loadA Tryz.isAgg32 Tryz.sizeOf32 ((at28.mono (i48.tr r108.inc)).now S107.sl) rfl)) ?_
     refine FL.v (E.move (v := v1) rfl) ?_
     refine FL.v (E.move (v := Value.int .i64 a2) rfl) ?_
     refine FL.v (E.fieldAddr tf88_2 rfl) ?_
     refine FL.v (E.load rfl (run_load1 Tryz.isAgg3 ((at49.mono r108.inc).now S107.sl) rfl)) ?_
     obtain ⟨r131, hr132, hp⟩ := bnd hp
     refine FL.call rfl rfl rfl (E.call Tryz.call231 (A4 rfl rfl rfl rfl)) (w_impl_earlier S107.sl a0 v0_1 (p0_1.mono ((i27.tr i48).tr r108.inc)) v1 a1 (p1.mono ((i27.tr i48).tr r108.inc)) a2 x35.right hr132) ?_
     rintro e w134 ⟨H133, v137, rfl, r136, h138⟩
     refine ⟨_, rfl, ?_⟩
     have S135 := S107.call r136
     refine FL.v (E.move (v := Value.tuple #[v137, Value.bool r131.2]) rfl) ?_
     refine FL.v (E.extract (i := 0) rfl rfl) ?_
     refine FL.v (E.extract (i := 1) rfl rfl) ?_
     refine FL.v (E.assign (v := v137) rfl) ?_
     refine FL.v (E.assign (v := Value.bool r131.2) rfl) ?_
     refine FL.nil (FW.seq (FW.seq (FW.region ?_)))
     refine FL.v (E.move (v := Value.bool r131.2) rfl) ?_
     refine FL.v (E.not rfl) ?_
     refine FL.v (E.move (v := Value.bool (!r131.2)) rfl) ?_
     refine FL.cut 7 (fun f w => ∃ H : GH, St Ha wa H w [] ∧ Inc H133 H ∧ f 7 = Value.pointer (some ⟨b39, 0, none⟩) ∧ f 8 = v109 ∧ f 10 = v137 ∧ f 89 = Value.bool (bif (!r131.2) then true else (!(PF.impl_isVar a0.vars x35.pivot)))) ?_ ?_
     ·
      rcases bcase (!r131.2) with c148 | c148
      ·
       refine FL.skip (wF_no rfl rfl rfl c148) rfl ?_
       refine FL.skip (wF_no rfl rfl rfl c148) rfl ?_
       refine FL.skip (wF_no rfl rfl rfl c148) rfl ?_
       refine FL.skip (wF_no rfl rfl rfl c148) rfl ?_
       refine FL.skip (wF_no rfl rfl rfl c148) rfl ?_
       refine FL.skip (wF_no rfl rfl rfl c148) rfl ?_
       refine FL.v (E.pickT rfl c148 rfl) ?_
       exact FL.nil ⟨rfl, _, S135, (Inc.rfl _), rfl, rfl, rfl, (congrArg Value.bool (bifT c148).symm)⟩
      ·
       refine FL.val (wF_yes rfl rfl rfl c148) rfl rfl (E.fieldAddr tf32_0 rfl) ?_
       refine FL.val (wF_yes rfl rfl rfl c148) rfl rfl (E.load rfl (run_load1 Tryz.isAgg3 ((at28.mono ((i48.tr r108.inc).tr r136.inc)).now S135.sl) rfl)) ?_
       refine FL.val (wF_yes rfl rfl rfl c148) rfl rfl (E.fieldAddr tf88_3 rfl) ?_
       refine FL.val (wF_yes rfl rfl rfl c148) rfl rfl (E.load rfl (run_load1 Tryz.isAgg3 ((at49.mono (r108.inc.tr r136.inc)).now S135.sl) rfl)) ?_
       refine FL.call (wF_yes rfl rfl rfl c148) rfl rfl (E.call Tryz.call233 (A2 rfl rfl)) (w_impl_isVar S135.sl a0.vars x35.pivot) ?_
       rintro e w149 ⟨rfl, r150⟩
       refine ⟨_, rfl, ?_⟩
       have S151 := S135.call r150
       refine FL.val (wF_yes rfl rfl rfl c148) rfl rfl (E.not rfl) ?_
       refine FL.v (E.pickF rfl c148 rfl) ?_
       exact FL.nil ⟨rfl, _, S151, (Inc.rfl _), rfl, rfl, rfl, (congrArg Value.bool (bifF c148).symm)⟩
     rintro f147 w146 ⟨H143, S144, i145, k152, k153, k154, k155⟩
     refine FL.nil ?_
     rcases ifB hp with ⟨c156, hp⟩ | ⟨c156, hp⟩
     ·
      refine FW.condT k155 c156 ?_
      refine FW.seq (FW.region ?_)
      refine FL.v (E.assign (v := Value.bool false) rfl) ?_
      refine FL.nil ?_
      refine FW.ret ?_
      obtain rfl := Option.some.inj hp
      exact ⟨.inr rfl, res1 rfl rfl ⟨rfl, S144.back⟩⟩
     ·
      refine FW.condF k155 c156 ?_
      refine FW.skip (FW.seq (FW.region ?_))
      refine FL.v (E.move k153) ?_
      refine FL.v (E.move k154) ?_
      refine FL.v (E.fieldAddr tf88_3 k152) ?_
      refine FL.v (E.load rfl (run_load1 Tryz.isAgg3 ((at49.mono ((r108.inc.tr r136.inc).tr i145)).now S144.sl) rfl)) ?_
      obtain ⟨r157, hr158, hp⟩ := bnd hp
      refine FL.call rfl rfl rfl (E.call Tryz.call234 (A3 rfl rfl rfl)) (w_impl_resolve S144.sl v109 r103.1 (h110.mono (r136.inc.tr i145)) v137 r131.1 (h138.mono i145) x35.pivot hr158) ?_
      rintro e w160 ⟨H159, v163, n164, cs165, rfl, r162, els166⟩
      refine ⟨_, rfl, ?_⟩
      have els166 := els166.mono (up_le S144.size)
      have S161 := S144.join (l' := [.row 3 1 v163 n164 cs165]) r162 rfl
      refine FL.v (E.move (v := Value.tuple #[v163, Value.bool r157.2]) rfl) ?_
      refine FL.v (E.extract (i := 0) rfl rfl) ?_
      refine FL.v (E.extract (i := 1) rfl rfl) ?_
      refine FL.v (E.assign (v := v163) rfl) ?_
      refine FL.v (E.assign (v := Value.bool r157.2) rfl) ?_
      refine FL.nil (FW.seq (FW.region ?_))
      refine FL.v (E.move (v := Value.bool r157.2) rfl) ?_
      refine FL.v (E.move (v := Value.bool r157.2) rfl) ?_
      obtain ⟨t177, hqt177, hp⟩ := bnd hp
      refine FL.cut 5 (fun f w => ∃ H : GH, St Ha wa H w [.row 3 1 v163 n164 cs165] ∧ Inc H159 H ∧ f 104 = Value.bool t177) ?_ ?_
      ·
       clear hp; have hp := hqt177; clear hqt177
       rcases ifB hp with ⟨c183, hp⟩ | ⟨c183, hp⟩
       ·
        refine FL.val (wF_yes rfl rfl rfl c183) rfl rfl (E.move (v := v163) rfl) ?_
        refine FL.val (wF_yes rfl rfl rfl c183) rfl rfl (E.fieldAddr tf88_0 k152) ?_
        refine FL.val (wF_yes rfl rfl rfl c183) rfl rfl (E.load rfl (run_load1 Tryz.isAgg73 ((at49.mono (((r108.inc.tr r136.inc).tr i145).tr r162.run.inc)).now S161.sl) rfl)) ?_
        obtain ⟨H184, S185, i186, h187, nv188⟩ := S161.sealRowU (i := 0) (l' := []) rfl els166 (by decide) rfl
        obtain ⟨r189, hr190, hp⟩ := bnd hp
        refine FL.call (wF_yes rfl rfl rfl c183) rfl rfl (E.call Tryz.call230 (A2 rfl rfl)) (w_slices_Equal_int_int S185.sl v163 r157.1 (h187.mono upI) v37 x35.clause (h38.mono ((((((i27.tr i48).tr r108.inc).tr r136.inc).tr i145).tr r162.run.inc).tr i186)) hr190) ?_
        rintro e w191 ⟨rfl, r192⟩
        refine ⟨_, rfl, ?_⟩
        have r192 := Run.lend i186 S161.sl r192
        have S193 := S161.call r192
        obtain rfl := Option.some.inj hp
        refine FL.v (E.pickT rfl c183 rfl) ?_
        exact FL.nil ⟨rfl, _, S193, (Inc.rfl _), rfl⟩
       ·
        refine FL.skip (wF_no rfl rfl rfl c183) rfl ?_
        refine FL.skip (wF_no rfl rfl rfl c183) rfl ?_
        refine FL.skip (wF_no rfl rfl rfl c183) rfl ?_
        refine FL.skip (wF_no rfl rfl rfl c183) rfl ?_
        obtain rfl := Option.some.inj hp
        refine FL.v (E.pickF rfl c183 rfl) ?_
        exact FL.nil ⟨rfl, _, S161, (Inc.rfl _), rfl⟩
      rintro f182 w181 ⟨H178, S179, i180, k194⟩
      refine FL.v (E.assign k194) ?_
      refine FL.nil ?_
      refine FW.ret ?_
      obtain rfl := Option.some.inj hp
      exact ⟨.inr rfl, res1 rfl rfl ⟨rfl, S179.back⟩⟩

theorem w_impl_firstWrong {Ha : GH} {wa : World} (hs : Sl Ha wa) (a0 : Cnf) (v0_1 : Value) (p0_1 : RSl Ha (eL eI 1) 1 v0_1 a0.clauses) (v1 : Value) (a1 : List ResStep) (p1 : RSl Ha eResStep 4 v1 a1) {r : Int} (hp : (PF.impl_firstWrong a0 a1) = some r) :
  Calls Tryz.prog 121 #[Value.agg #[Value.int .i64 a0.vars, v0_1], v1] wa (Sc Ha wa (Value.int .i64 r)) := by
 unfold PF.impl_firstWrong at hp
 have S0 := St.init hs
 refine calls_go (N := 18) (args := [Value.agg #[Value.int .i64 a0.vars, v0_1], v1]) Tryz.func121 rfl rfl rfl ?_
 refine FW.seq (FW.region ?_)
 obtain ⟨b21, w22, run23, S24⟩ := S0.box (P := Tryz.prog) 32 [Value.int .i64 a0.vars, v0_1] (v := Value.agg #[Value.int .i64 a0.vars, v0_1]) rfl (ones_cons rfl (ones_cons p0_1.one ones_nil))
 refine FL.v (E.box rfl run23) ?_
 obtain ⟨H25, S26, i27, at28⟩ := S24.sealBox (i := 0) (l' := []) rfl rfl
 refine FL.v (E.assign (v := Value.int .i64 0) rfl) ?_
 refine FL.nil (FW.seq (FW.seq (FW.region ?_)))
 refine FL.v (E.move (v := v1) rfl) ?_
 refine FL.v (E.lenP te34 rfl p1) ?_
 refine FL.v (E.move (v := Value.int .i64 0) rfl) ?_
 refine FL.nil ?_
 obtain ⟨q30, hq, hp⟩ := bndR hp
 refine FW.block ?_
 refine FW.mono (FW.forL (S := Unit) (X := Int) (fun (i30 : Nat) (s30 : Unit) f w => ∃ H : GH, St Ha wa H w [] ∧ Inc H25 H ∧ f 8 = Value.int .i64 ((i30 : Nat) : Int) ∧ f 1 = v1 ∧ f 2 = Value.pointer (some ⟨b21, 0, none⟩) ∧ f 7 = Value.int .i64 (len a1)) (fun q e f w => match q with | .go s30 => e = Exit.exit 0 ∧ (∃ H : GH, St Ha wa H w [] ∧ Inc H25 H) | .rt x => ((e = Exit.ret) ∧ (fun e f w => (e = Exit.normal ∨ e = Exit.ret) ∧ ∀ a, Fr (δ := []) 18 a f → ∃ v, (results Tryz.f121 a.tmps).run Tryz.prog w = .ok v w ∧ (Sc Ha wa (Value.int .i64 x)) (.returned v) w) e f w)) hq ⟨_, S26, (Inc.rfl _), rfl, rfl, rfl, rfl⟩ ?_ ?_) ?_
 ·
  clear hp hq
  rintro i30 y29 s30 f50 w49 ⟨H46, S47, i48, k51, k52, k53, k54⟩ hx30 o61 hp
  refine FW.seq (FW.region ?_)
  refine FL.v (E.lssT k51 k54 (lss_len hx30)) ?_
  refine FL.nil (FW.seq ?_)
  refine FW.condT rfl rfl ?_
  refine FW.skip (FW.seq (FW.block (FW.seq (FW.region ?_))))
  refine FL.v (E.move k51) ?_
  refine FL.v (E.assign (v := Value.int .i64 ((i30 : Nat) : Int)) rfl) ?_
  refine FL.nil (FW.seq (FW.region ?_))
  refine FL.v (E.load k53 (run_loadA Tryz.isAgg32 Tryz.sizeOf32 ((at28.mono i48).now S47.sl) rfl)) ?_
  refine FL.v (E.move k52) ?_
  refine FL.v (E.move (v := Value.int .i64 ((i30 : Nat) : Int)) rfl) ?_
  obtain ⟨r55, hr56, hp⟩ := bnd hp
  refine FL.call rfl rfl rfl (E.call Tryz.call182 (A3 rfl rfl rfl)) (w_impl_correct S47.sl a0 v0_1 (p0_1.mono (i27.tr i48)) v1 a1 (p1.mono (i27.tr i48)) ((i30 : Nat) : Int) hr56) ?_
  rintro e w57 ⟨rfl, r58⟩
  refine ⟨_, rfl, ?_⟩
  have S59 := S47.call r58
  refine FL.v (E.not rfl) ?_
  refine FL.nil ?_
  rcases ifB hp with ⟨c60, hp⟩ | ⟨c60, hp⟩
  ·
   refine FW.condT rfl c60 ?_
   refine FW.seq (FW.region ?_)
   refine FL.v (E.move (v := Value.int .i64 ((i30 : Nat) : Int)) rfl) ?_
   refine FL.v (E.assign (v := Value.int .i64 ((i30 : Nat) : Int)) rfl) ?_
   refine FL.nil ?_
   refine FW.ret ?_
   obtain rfl := Option.some.inj hp
   exact ⟨nofun, rfl, ⟨.inr rfl, res1 rfl rfl ⟨rfl, S59.back⟩⟩⟩
  ·
   refine FW.condF rfl c60 ?_
   refine FW.skip (FW.region ?_)
   refine FL.v (E.add k51 rfl) ?_
   refine FL.v (E.move (v := Value.int .i64 (wr (((i30 : Nat) : Int) + 1))) rfl) ?_
   refine FL.nil ?_
   obtain rfl := Option.some.inj hp
   exact ⟨rfl, ⟨_, S59, i48, (nat_succ rfl (lt_of_get hx30) (p1.mono (i27.tr i48)).le), k52, k53, k54⟩⟩
 ·
  clear hp hq
  rintro s30 f71 w70 ⟨H67, S68, i69, k72, k73, k74, k75⟩
  refine FW.seq (FW.region ?_)
  refine FL.v (E.lss k72 k75) ?_
  refine FL.nil (FW.seq ?_)
  refine FW.condF rfl dlt_len ?_
  refine FW.exit ?_
  exact ⟨nofun, rfl, ⟨_, S68, i69⟩⟩
 ·
  clear hq
  intro e f66 w65 hD
  rcases q30 with s30 | x30
  ·
   obtain ⟨rfl, hD⟩ := hD
   obtain ⟨H62, S63, i64⟩ := hD
   replace hp := el_go hp
   refine FW.seq (FW.region ?_)
   refine FL.v (E.assign (v := Value.int .i64 (-1)) rfl) ?_
   refine FL.nil ?_
   refine FW.ret ?_
   obtain rfl := Option.some.inj hp
   exact ⟨.inr rfl, res1 rfl rfl ⟨rfl, S63.back⟩⟩
  ·
   obtain ⟨he, hL⟩ := hD
   replace hp := el_rt hp
   obtain rfl := Option.some.inj hp
   subst he
   exact hL

theorem w_impl_IsDerivation {Ha : GH} {wa : World} (hs : Sl Ha wa) (a0 : Cnf) (v0_1 : Value) (p0_1 : RSl Ha (eL eI 1) 1 v0_1 a0.clauses) (v1 : Value) (a1 : List ResStep) (p1 : RSl Ha eResStep 4 v1 a1) {r : Bool} (hp : (PF.impl_IsDerivation a0 a1) = some r) :
  Calls Tryz.prog 66 #[Value.agg #[Value.int .i64 a0.vars, v0_1], v1] wa (Sc Ha wa (Value.bool r)) := by
 unfold PF.impl_IsDerivation at hp
 have S0 := St.init hs
 refine calls_go (N := 18) (args := [Value.agg #[Value.int .i64 a0.vars, v0_1], v1]) Tryz.func66 rfl rfl rfl ?_
 refine FW.seq (FW.region ?_)
 obtain ⟨b21, w22, run23, S24⟩ := S0.box (P := Tryz.prog) 32 [Value.int .i64 a0.vars, v0_1] (v := Value.agg #[Value.int .i64 a0.vars, v0_1]) rfl (ones_cons rfl (ones_cons p0_1.one ones_nil))
 refine FL.v (E.box rfl run23) ?_
 obtain ⟨H25, S26, i27, at28⟩ := S24.sealBox (i := 0) (l' := []) rfl rfl
 refine FL.v (E.assign (v := Value.bool false) rfl) ?_
 refine FL.nil (FW.seq (FW.region ?_))
 refine FL.v (E.load rfl (run_loadA Tryz.isAgg32 Tryz.sizeOf32 (at28.now S26.sl) rfl)) ?_
 obtain ⟨r29, hr30, hp⟩ := bnd hp
 refine FL.call rfl rfl rfl (E.call Tryz.call120 (A1 rfl)) (w_impl_IsCnf S26.sl a0 v0_1 (p0_1.mono i27) hr30) ?_
 rintro e w31 ⟨rfl, r32⟩
 refine ⟨_, rfl, ?_⟩
 have S33 := S26.call r32
 refine FL.v (E.move (v := Value.bool r29) rfl) ?_
 refine FL.cut 4 (fun f w => ∃ H : GH, St Ha wa H w [] ∧ Inc H25 H ∧ f 1 = v1 ∧ f 2 = Value.pointer (some ⟨b21, 0, none⟩) ∧ f 11 = Value.bool (bif r29 then (decide ((len a1) ≤ 200)) else false)) ?_ ?_
 ·
  rcases bcase r29 with c40 | c40
  ·
   refine FL.val (wF_yes rfl rfl rfl c40) rfl rfl (E.move (v := v1) rfl) ?_
   refine FL.val (wF_yes rfl rfl rfl c40) rfl rfl (E.lenP te34 rfl p1) ?_
   refine FL.val (wF_yes rfl rfl rfl c40) rfl rfl (E.leq rfl rfl) ?_
   refine FL.v (E.pickT rfl c40 rfl) ?_
   exact FL.nil ⟨rfl, _, S33, (Inc.rfl _), rfl, rfl, (congrArg Value.bool (bifT c40).symm)⟩
  ·
   refine FL.skip (wF_no rfl rfl rfl c40) rfl ?_
   refine FL.skip (wF_no rfl rfl rfl c40) rfl ?_
   refine FL.skip (wF_no rfl rfl rfl c40) rfl ?_
   refine FL.v (E.pickF rfl c40 rfl) ?_
   exact FL.nil ⟨rfl, _, S33, (Inc.rfl _), rfl, rfl, (congrArg Value.bool (bifF c40).symm)⟩
 rintro f39 w38 ⟨H35, S36, i37, k41, k42, k43⟩
 refine FL.v (E.move k43) ?_
 obtain ⟨t49, hqt49, hp⟩ := bnd hp
 refine FL.cut 5 (fun f w => ∃ H : GH, St Ha wa H w [] ∧ Inc H35 H ∧ f 17 = Value.bool t49) ?_ ?_
 ·
  clear hp; have hp := hqt49; clear hqt49
  rcases ifB hp with ⟨c55, hp⟩ | ⟨c55, hp⟩
  ·
   refine FL.val (wF_yes rfl rfl rfl c55) rfl rfl (E.load k42 (run_loadA Tryz.isAgg32 Tryz.sizeOf32 ((at28.mono i37).now S36.sl) rfl)) ?_
   refine FL.val (wF_yes rfl rfl rfl c55) rfl rfl (E.move k41) ?_
   obtain ⟨r56, hr57, hp⟩ := bnd hp
   refine FL.call (wF_yes rfl rfl rfl c55) rfl rfl (E.call Tryz.call121 (A2 rfl rfl)) (w_impl_firstWrong S36.sl a0 v0_1 (p0_1.mono (i27.tr i37)) v1 a1 (p1.mono (i27.tr i37)) hr57) ?_
   rintro e w58 ⟨rfl, r59⟩
   refine ⟨_, rfl, ?_⟩
   have S60 := S36.call r59
   refine FL.val (wF_yes rfl rfl rfl c55) rfl rfl (E.lss rfl rfl) ?_
   obtain rfl := Option.some.inj hp
   refine FL.v (E.pickT rfl c55 rfl) ?_
   exact FL.nil ⟨rfl, _, S60, (Inc.rfl _), rfl⟩
  ·
   refine FL.skip (wF_no rfl rfl rfl c55) rfl ?_
   refine FL.skip (wF_no rfl rfl rfl c55) rfl ?_
   refine FL.skip (wF_no rfl rfl rfl c55) rfl ?_
   refine FL.skip (wF_no rfl rfl rfl c55) rfl ?_
   obtain rfl := Option.some.inj hp
   refine FL.v (E.pickF rfl c55 rfl) ?_
   exact FL.nil ⟨rfl, _, S36, (Inc.rfl _), rfl⟩
 rintro f54 w53 ⟨H50, S51, i52, k61⟩
 refine FL.v (E.assign k61) ?_
 refine FL.nil ?_
 refine FW.ret ?_
 obtain rfl := Option.some.inj hp
 exact ⟨.inr rfl, res1 rfl rfl ⟨rfl, S51.back⟩⟩

theorem w_impl_isProof {Ha : GH} {wa : World} (hs : Sl Ha wa) (a0 : Cnf) (v0_1 : Value) (p0_1 : RSl Ha (eL eI 1) 1 v0_1 a0.clauses) (v1 : Value) (a1 : List ResStep) (p1 : RSl Ha eResStep 4 v1 a1) {r : Bool} (hp : (PF.impl_isProof a0 a1) = some r) :
  Calls Tryz.prog 79 #[Value.agg #[Value.int .i64 a0.vars, v0_1], v1] wa (Sc Ha wa (Value.bool r)) := by
 unfold PF.impl_isProof at hp
 have S0 := St.init hs
 refine calls_go (N := 13) (args := [Value.agg #[Value.int .i64 a0.vars, v0_1], v1]) Tryz.func79 rfl rfl rfl ?_
 refine FW.seq (FW.region ?_)
 obtain ⟨b21, w22, run23, S24⟩ := S0.box (P := Tryz.prog) 32 [Value.int .i64 a0.vars, v0_1] (v := Value.agg #[Value.int .i64 a0.vars, v0_1]) rfl (ones_cons rfl (ones_cons p0_1.one ones_nil))
 refine FL.v (E.box rfl run23) ?_
 obtain ⟨H25, S26, i27, at28⟩ := S24.sealBox (i := 0) (l' := []) rfl rfl
 refine FL.v (E.assign (v := Value.bool false) rfl) ?_
 refine FL.nil (FW.seq (FW.region ?_))
 refine FL.v (E.load rfl (run_loadA Tryz.isAgg32 Tryz.sizeOf32 (at28.now S26.sl) rfl)) ?_
 refine FL.v (E.move (v := v1) rfl) ?_
 obtain ⟨r29, hr30, hp⟩ := bnd hp
 refine FL.call rfl rfl rfl (E.call Tryz.call66 (A2 rfl rfl)) (w_impl_IsDerivation S26.sl a0 v0_1 (p0_1.mono i27) v1 a1 (p1.mono i27) hr30) ?_
 rintro e w31 ⟨rfl, r32⟩
 refine ⟨_, rfl, ?_⟩
 have S33 := S26.call r32
 refine FL.v (E.move (v := Value.bool r29) rfl) ?_
 refine FL.cut 4 (fun f w => ∃ H : GH, St Ha wa H w [] ∧ Inc H25 H ∧ f 12 = Value.bool (bif r29 then (decide (0 < (len a1))) else false)) ?_ ?_
 ·
  rcases bcase r29 with c40 | c40
  ·
   refine FL.val (wF_yes rfl rfl rfl c40) rfl rfl (E.move (v := v1) rfl) ?_
   refine FL.val (wF_yes rfl rfl rfl c40) rfl rfl (E.lenP te34 rfl p1) ?_
   refine FL.val (wF_yes rfl rfl rfl c40) rfl rfl (E.gtr rfl rfl) ?_
   refine FL.v (E.pickT rfl c40 rfl) ?_
   exact FL.nil ⟨rfl, _, S33, (Inc.rfl _), (congrArg Value.bool (bifT c40).symm)⟩
  ·
   refine FL.skip (wF_no rfl rfl rfl c40) rfl ?_
   refine FL.skip (wF_no rfl rfl rfl c40) rfl ?_
   refine FL.skip (wF_no rfl rfl rfl c40) rfl ?_
   refine FL.v (E.pickF rfl c40 rfl) ?_
   exact FL.nil ⟨rfl, _, S33, (Inc.rfl _), (congrArg Value.bool (bifF c40).symm)⟩
 rintro f39 w38 ⟨H35, S36, i37, k41⟩
 refine FL.v (E.assign k41) ?_
 refine FL.nil ?_
 refine FW.ret ?_
 obtain rfl := Option.some.inj hp
 exact ⟨.inr rfl, res1 rfl rfl ⟨rfl, S36.back⟩⟩

theorem w_impl_ResStep_isAxiom {Ha : GH} {wa : World} (hs : Sl Ha wa) (a0 : ResStep) (v0_0 : Value) (p0_0 : RSl Ha eI 1 v0_0 a0.clause) :
  Calls Tryz.prog 80 #[Value.agg #[v0_0, Value.int .i64 a0.left, Value.int .i64 a0.right, Value.int .i64 a0.pivot]] wa (Sc Ha wa (Value.bool (PF.impl_ResStep_isAxiom a0))) := by
 obtain ⟨r, hp⟩ : ∃ r, (PF.impl_ResStep_isAxiom a0) = r := ⟨_, rfl⟩
 rw [hp]
 unfold PF.impl_ResStep_isAxiom at hp
 have S0 := St.init hs
 refine calls_go (N := 6) (args := [Value.agg #[v0_0, Value.int .i64 a0.left, Value.int .i64 a0.right, Value.int .i64 a0.pivot]]) Tryz.func80 rfl rfl rfl ?_
 refine FW.seq (FW.region ?_)
 obtain ⟨b21, w22, run23, S24⟩ := S0.box (P := Tryz.prog) 88 [v0_0, Value.int .i64 a0.left, Value.int .i64 a0.right, Value.int .i64 a0.pivot] (v := Value.agg #[v0_0, Value.int .i64 a0.left, Value.int .i64 a0.right, Value.int .i64 a0.pivot]) rfl (ones_cons p0_0.one (ones_cons rfl (ones_cons rfl (ones_cons rfl ones_nil))))
 refine FL.v (E.box rfl run23) ?_
 obtain ⟨H25, S26, i27, at28⟩ := S24.sealBox (i := 0) (l' := []) rfl rfl
 refine FL.v (E.assign (v := Value.bool false) rfl) ?_
 refine FL.nil (FW.seq (FW.region ?_))
 refine FL.v (E.fieldAddr tf88_1 rfl) ?_
 refine FL.v (E.load rfl (run_load1 Tryz.isAgg3 (at28.now S26.sl) rfl)) ?_
 refine FL.v (E.lss rfl rfl) ?_
 refine FL.v (E.assign (v := Value.bool (decide (a0.left < 0))) rfl) ?_
 refine FL.nil ?_
 refine FW.ret ?_
 obtain rfl := hp
 exact ⟨.inr rfl, res1 rfl rfl ⟨rfl, S26.back⟩⟩

@[reducible] def p_impl_planeOf (Ha : GH) (wa : World) (r : Inequality) : Ending → World → Prop :=
  fun e w' => ∃ H' : GH, ∃ v0_0 : Value, e = .returned (Value.agg #[v0_0, Value.int .i64 r.bound]) ∧ Run wa.heap.size Ha wa H' w' ∧ RSl (up wa.heap.size H') eI 1 v0_0 r.coeffs
theorem w_impl_planeOf {Ha : GH} {wa : World} (hs : Sl Ha wa) (a0 : Int) (v1 : Value) (a1 : List Int) (p1 : RSl Ha eI 1 v1 a1) {r : Inequality} (hp : (PF.impl_planeOf a0 a1) = some r) :
    Calls Tryz.prog 141 #[Value.int .i64 a0, v1] wa (p_impl_planeOf Ha wa r) := by
  unfold PF.impl_planeOf at hp
  have S0 := St.init hs
  refine calls_go (N := 36) (args := [Value.int .i64 a0, v1]) Tryz.func141 rfl rfl rfl ?_
  refine FW.seq (FW.region ?_)
  have S25 := S0.nil 3 1
  have els26 : Els (up wa.heap.size Ha) eI 1 [] [] := Els.nil
  obtain ⟨b21, w22, run23, S24⟩ := S25.alloc (P := Tryz.prog) 127 [Value.slice none 0 0, Value.int .i64 0] Tryz.zeroValue127 rfl (ones_cons rfl (ones_cons rfl ones_nil))
  refine FL.v (E.alloc run23) ?_
  refine FL.nil (FW.seq (FW.region ?_))
  refine FL.v (E.move (v := Value.int .i64 a0) rfl) ?_
  obtain ⟨xs27, hm28, hp⟩ := bnd hp
  obtain ⟨v29, w30, n34, cs35, run31, S32, els33, hbl36⟩ := S24.makeEls (P := Tryz.prog) te73 (G := (up wa.heap.size Ha)) (En := eI) (x0 := (0 : Int)) hm28 rfl (ones_cons rfl ones_nil) .i64 .i64
  refine FL.v (E.makeSlice rfl rfl run31) ?_
  refine FL.v (E.build (B2 rfl rfl) (run_build _ 127 #[(0, v29), (1, Value.int .i64 1)] #[v29, Value.int .i64 1] (by obtain ⟨_, _, rfl⟩ := S32.row_ln (i := 0) rfl; rfl))) ?_
  have S41 := S32.nil 3 1
  have els42 : Els (up wa.heap.size Ha) eI 1 [] [] := Els.nil
  obtain ⟨b37, w38, run39, S40⟩ := S41.alloc (P := Tryz.prog) 127 [Value.slice none 0 0, Value.int .i64 0] Tryz.zeroValue127 rfl (ones_cons rfl (ones_cons rfl ones_nil))
  refine FL.v (E.alloc run39) ?_
  obtain ⟨w43, run44, S45⟩ := S40.store0 (P := Tryz.prog) (t := 127) (i := 0) (cs' := [v29, Value.int .i64 1]) (l' := [.box b37 127 [v29, Value.int .i64 1], .row 3 1 (Value.slice none 0 0) 0 [], .row 3 1 v29 n34 cs35, .box b21 127 [(Value.slice none 0 0), Value.int .i64 0], .row 3 1 (Value.slice none 0 0) 0 []]) (v := Value.agg #[v29, Value.int .i64 1]) (c := [v29, Value.int .i64 1]) rfl Tryz.sizeOf127 rfl rfl (ones_cons (Ln.one (S40.row_ln (i := 2) rfl)) (ones_cons rfl ones_nil)) (Nat.le_of_ble_eq_true rfl) rfl rfl
  refine FL.act rfl rfl (E.store rfl rfl run44) ?_
  refine FL.nil (FW.seq (FW.seq (FW.region ?_)))
  refine FL.v (E.move (v := v1) rfl) ?_
  refine FL.v (E.lenP te73 rfl p1) ?_
  refine FL.v (E.move (v := Value.int .i64 0) rfl) ?_
  refine FL.nil ?_
  obtain ⟨q47, hq, hp⟩ := bndR hp
  refine FW.block ?_
  refine FW.mono (FW.forL (S := ((List Int) × Int)) (X := Empty) (fun (i47 : Nat) (s47 : ((List Int) × Int)) f w => ∃ H : GH, ∃ v100 : Value, ∃ n101 : Nat, ∃ cs102 : List Value, St Ha wa H w [.box b37 127 [v100, Value.int .i64 s47.2], .row 3 1 v100 n101 cs102, .box b21 127 [(Value.slice none 0 0), Value.int .i64 0], .row 3 1 (Value.slice none 0 0) 0 []] ∧ Inc Ha H ∧ Els (up wa.heap.size H) eI 1 cs102 s47.1 ∧ f 13 = Value.int .i64 ((i47 : Nat) : Int) ∧ f 4 = Value.pointer (some (⟨b21, 0, none⟩ : Addr)) ∧ f 5 = Value.pointer (some (⟨b37, 0, none⟩ : Addr)) ∧ f 11 = v1 ∧ f 12 = Value.int .i64 (len a1)) (fun (q : Rs ((List Int) × Int) Empty) e f w => match q with | .go s47 => e = Exit.exit 0 ∧ (∃ H : GH, ∃ v100 : Value, ∃ n101 : Nat, ∃ cs102 : List Value, St Ha wa H w [.box b37 127 [v100, Value.int .i64 s47.2], .row 3 1 v100 n101 cs102, .box b21 127 [(Value.slice none 0 0), Value.int .i64 0], .row 3 1 (Value.slice none 0 0) 0 []] ∧ Inc Ha H ∧ Els (up wa.heap.size H) eI 1 cs102 s47.1 ∧ f 4 = Value.pointer (some (⟨b21, 0, none⟩ : Addr)) ∧ f 5 = Value.pointer (some (⟨b37, 0, none⟩ : Addr))) | .rt x => x.elim) hq ⟨_, _, _, _, (S45.sel [0, 2, 3, 4] (by decide) rfl), (Inc.rfl _), els33, rfl, rfl, rfl, rfl, rfl⟩ ?_ ?_) ?_
  ·
    clear hp hq
    rintro i47 y46 s47 f160 w159 ⟨H156, v100, n101, cs102, S157, i158, els103, k161, k162, k163, k164, k165⟩ hx47 o208 hp
    refine FW.seq (FW.region ?_)
    refine FL.v (E.lssT k161 k165 (lss_len hx47)) ?_
    refine FL.nil (FW.seq ?_)
    refine FW.condT rfl rfl ?_
    refine FW.skip (FW.seq (FW.block (FW.seq (FW.region ?_))))
    obtain ⟨p166, cs167, pt168, l169, at170, rel171⟩ := p1.at (ix_nat hx47)
    obtain rfl := eI_open rel171
    refine FL.v (E.indexAddr te73 k164 k161 pt168) ?_
    refine FL.v (E.load rfl (run_load0 Tryz.isAgg3 ((at170.mono i158).now S157.sl) rfl)) ?_
    refine FL.v (E.assign (v := Value.int .i64 y46) rfl) ?_
    refine FL.nil (FW.seq (FW.region ?_))
    refine FL.v (E.move (v := Value.int .i64 y46) rfl) ?_
    refine FL.v (E.gtr rfl rfl) ?_
    refine FL.nil ?_
    rcases ifB hp with ⟨c172, hp⟩ | ⟨c172, hp⟩
    ·
      refine FW.condT rfl c172 ?_
      refine FW.region ?_
      refine FL.v (E.fieldAddr tf127_0 k163) ?_
      refine FL.v (E.load rfl (run_load1 Tryz.isAgg73 (S157.box_now (i := 0) rfl) rfl)) ?_
      refine FL.v (E.move (v := Value.int .i64 y46) rfl) ?_
      refine FL.v (E.sub rfl rfl) ?_
      obtain ⟨x179, hx180, hp⟩ := bnd hp
      obtain ⟨p173, cs174, pt175, l176, at177, rel178⟩ := S157.row_at (i := 1) rfl els103 (by decide) hx180
      obtain rfl := eI_open rel178
      refine FL.v (E.indexAddr te73 rfl rfl pt175) ?_
      obtain ⟨xs184, hput185, hp⟩ := bnd hp
      obtain ⟨w181, cs187, run182, S183, els186, ce188⟩ := S157.putEls (P := Tryz.prog) (t := 3) (i := 1) rfl els103 hput185 pt175 Tryz.sizeOf3 (u := Value.int .i64 1) (c := [Value.int .i64 1]) rfl rfl (ones_cons rfl ones_nil) rfl
      have S183 : St Ha wa H156 w181 [.box b37 127 [v100, Value.int .i64 s47.2], .row 3 1 v100 n101 cs187, .box b21 127 [(Value.slice none 0 0), Value.int .i64 0], .row 3 1 (Value.slice none 0 0) 0 []] := S183
      refine FL.act rfl rfl (E.store rfl rfl run182) ?_
      refine FL.nil (FW.region ?_)
      refine FL.v (E.add k161 rfl) ?_
      refine FL.v (E.move (v := Value.int .i64 (wr (((i47 : Nat) : Int) + 1))) rfl) ?_
      refine FL.nil ?_
      obtain rfl := Option.some.inj hp
      exact ⟨rfl, ⟨_, _, _, _, S183, i158, els186, (nat_succ rfl (lt_of_get hx47) (p1.mono i158).le), k162, k163, k164, k165⟩⟩
    ·
      refine FW.condF rfl c172 ?_
      refine FW.seq (FW.region ?_)
      refine FL.v (E.fieldAddr tf127_0 k163) ?_
      refine FL.v (E.load rfl (run_load1 Tryz.isAgg73 (S157.box_now (i := 0) rfl) rfl)) ?_
      refine FL.v (E.move (v := Value.int .i64 y46) rfl) ?_
      refine FL.v (E.neg rfl) ?_
      refine FL.v (E.sub rfl rfl) ?_
      obtain ⟨x195, hx196, hp⟩ := bnd hp
      obtain ⟨p189, cs190, pt191, l192, at193, rel194⟩ := S157.row_at (i := 1) rfl els103 (by decide) hx196
      obtain rfl := eI_open rel194
      refine FL.v (E.indexAddr te73 rfl rfl pt191) ?_
      obtain ⟨xs200, hput201, hp⟩ := bnd hp
      obtain ⟨w197, cs203, run198, S199, els202, ce204⟩ := S157.putEls (P := Tryz.prog) (t := 3) (i := 1) rfl els103 hput201 pt191 Tryz.sizeOf3 (u := Value.int .i64 (-1)) (c := [Value.int .i64 (-1)]) rfl rfl (ones_cons rfl ones_nil) rfl
      have S199 : St Ha wa H156 w197 [.box b37 127 [v100, Value.int .i64 s47.2], .row 3 1 v100 n101 cs203, .box b21 127 [(Value.slice none 0 0), Value.int .i64 0], .row 3 1 (Value.slice none 0 0) 0 []] := S199
      refine FL.act rfl rfl (E.store rfl rfl run198) ?_
      refine FL.nil (FW.region ?_)
      refine FL.v (E.fieldAddr tf127_1 k163) ?_
      refine FL.v (E.load rfl (run_load1 Tryz.isAgg3 (S199.box_now (i := 0) rfl) rfl)) ?_
      refine FL.v (E.sub rfl rfl) ?_
      refine FL.v (E.fieldAddr tf127_1 k163) ?_
      obtain ⟨w205, run206, S207⟩ := S199.store (P := Tryz.prog) (t := 3) (i := 0) (j := 1) (cs' := [v100, Value.int .i64 (wr (s47.2 - 1))]) (l' := [.box b37 127 [v100, Value.int .i64 (wr (s47.2 - 1))], .row 3 1 v100 n101 cs203, .box b21 127 [(Value.slice none 0 0), Value.int .i64 0], .row 3 1 (Value.slice none 0 0) 0 []]) (v := Value.int .i64 (wr (s47.2 - 1))) (c := [Value.int .i64 (wr (s47.2 - 1))]) rfl Tryz.sizeOf3 rfl rfl (ones_cons rfl ones_nil) (Nat.le_of_ble_eq_true rfl) rfl rfl
      refine FL.act rfl rfl (E.store rfl rfl run206) ?_
      refine FL.nil (FW.region ?_)
      refine FL.v (E.add k161 rfl) ?_
      refine FL.v (E.move (v := Value.int .i64 (wr (((i47 : Nat) : Int) + 1))) rfl) ?_
      refine FL.nil ?_
      obtain rfl := Option.some.inj hp
      exact ⟨rfl, ⟨_, _, _, _, S207, i158, els202, (nat_succ rfl (lt_of_get hx47) (p1.mono i158).le), k162, k163, k164, k165⟩⟩
  ·
    clear hp hq
    rintro s47 f232 w231 ⟨H228, v100, n101, cs102, S229, i230, els103, k233, k234, k235, k236, k237⟩
    refine FW.seq (FW.region ?_)
    refine FL.v (E.lss k233 k237) ?_
    refine FL.nil (FW.seq ?_)
    refine FW.condF rfl dlt_len ?_
    refine FW.exit ?_
    exact ⟨nofun, rfl, ⟨_, _, _, _, S229, i230, els103, k234, k235⟩⟩
  ·
    clear hq
    intro e f213 w212 hD
    rcases q47 with s47 | x47
    ·
      obtain ⟨rfl, hD⟩ := hD
      obtain ⟨H209, v100, n101, cs102, S210, i211, els103, k214, k215⟩ := hD
      replace hp := el_go hp
      refine FW.seq (FW.region ?_)
      refine FL.v (E.load k215 (run_loadA Tryz.isAgg127 Tryz.sizeOf127 (S210.box_now (i := 0) rfl) rfl)) ?_
      obtain ⟨w216, run217, S218⟩ := S210.store0 (P := Tryz.prog) (t := 127) (i := 2) (cs' := [v100, Value.int .i64 s47.2]) (l' := [.box b37 127 [v100, Value.int .i64 s47.2], .row 3 1 v100 n101 cs102, .box b21 127 [v100, Value.int .i64 s47.2], .row 3 1 (Value.slice none 0 0) 0 []]) (v := Value.agg #[v100, Value.int .i64 s47.2]) (c := [v100, Value.int .i64 s47.2]) rfl Tryz.sizeOf127 rfl rfl (ones_cons (Ln.one (S210.row_ln (i := 1) rfl)) (ones_cons rfl ones_nil)) (Nat.le_of_ble_eq_true rfl) rfl rfl
      refine FL.act rfl rfl (E.store k214 rfl run217) ?_
      obtain ⟨H219, S220, i221, h222, nv223⟩ := S218.sealRowU (i := 1) (l' := [.box b37 127 [v100, Value.int .i64 s47.2], .box b21 127 [v100, Value.int .i64 s47.2], .row 3 1 (Value.slice none 0 0) 0 []]) rfl els103 (by decide) rfl
      obtain ⟨H224, S225, i226, at227⟩ := S220.sealBox (i := 1) (l' := [.box b37 127 [v100, Value.int .i64 s47.2], .row 3 1 (Value.slice none 0 0) 0 []]) rfl rfl
      refine FL.nil ?_
      refine FW.ret ?_
      obtain rfl := Option.some.inj hp
      exact ⟨.inr rfl, resC rfl k214 (loadVar_A Tryz.isAgg127 Tryz.sizeOf127 (at227.now S225.sl) rfl) ⟨_, _, rfl, S225.run, (h222.mono (up_mono i226))⟩⟩
    · exact x47.elim

theorem w_impl_ResStep_isWeakening {Ha : GH} {wa : World} (hs : Sl Ha wa) (a0 : ResStep) (v0_0 : Value) (p0_0 : RSl Ha eI 1 v0_0 a0.clause) :
  Calls Tryz.prog 82 #[Value.agg #[v0_0, Value.int .i64 a0.left, Value.int .i64 a0.right, Value.int .i64 a0.pivot]] wa (Sc Ha wa (Value.bool (PF.impl_ResStep_isWeakening a0))) := by
 obtain ⟨r, hp⟩ : ∃ r, (PF.impl_ResStep_isWeakening a0) = r := ⟨_, rfl⟩
 rw [hp]
 unfold PF.impl_ResStep_isWeakening at hp
 have S0 := St.init hs
 refine calls_go (N := 11) (args := [Value.agg #[v0_0, Value.int .i64 a0.left, Value.int .i64 a0.right, Value.int .i64 a0.pivot]]) Tryz.func82 rfl rfl rfl ?_
 refine FW.seq (FW.region ?_)
 obtain ⟨b21, w22, run23, S24⟩ := S0.box (P := Tryz.prog) 88 [v0_0, Value.int .i64 a0.left, Value.int .i64 a0.right, Value.int .i64 a0.pivot] (v := Value.agg #[v0_0, Value.int .i64 a0.left, Value.int .i64 a0.right, Value.int .i64 a0.pivot]) rfl (ones_cons p0_0.one (ones_cons rfl (ones_cons rfl (ones_cons rfl ones_nil))))
 refine FL.v (E.box rfl run23) ?_
 obtain ⟨H25, S26, i27, at28⟩ := S24.sealBox (i := 0) (l' := []) rfl rfl
 refine FL.v (E.assign (v := Value.bool false) rfl) ?_
 refine FL.nil (FW.seq (FW.region ?_))
 refine FL.v (E.fieldAddr tf88_1 rfl) ?_
 refine FL.v (E.load rfl (run_load1 Tryz.isAgg3 (at28.now S26.sl) rfl)) ?_
 refine FL.v (E.geq rfl rfl) ?_
 refine FL.v (E.move (v := Value.bool (decide (0 ≤ a0.left))) rfl) ?_
 refine FL.cut 4 (fun f w => ∃ H : GH, St Ha wa H w [] ∧ Inc H25 H ∧ f 10 = Value.bool (bif (decide (0 ≤ a0.left)) then (decide (a0.right < 0)) else false)) ?_ ?_
 ·
  rcases bcase (decide (0 ≤ a0.left)) with c35 | c35
  ·
   refine FL.val (wF_yes rfl rfl rfl c35) rfl rfl (E.fieldAddr tf88_2 rfl) ?_
   refine FL.val (wF_yes rfl rfl rfl c35) rfl rfl (E.load rfl (run_load1 Tryz.isAgg3 (at28.now S26.sl) rfl)) ?_
   refine FL.val (wF_yes rfl rfl rfl c35) rfl rfl (E.lss rfl rfl) ?_
   refine FL.v (E.pickT rfl c35 rfl) ?_
   exact FL.nil ⟨rfl, _, S26, (Inc.rfl _), (congrArg Value.bool (bifT c35).symm)⟩
  ·
   refine FL.skip (wF_no rfl rfl rfl c35) rfl ?_
   refine FL.skip (wF_no rfl rfl rfl c35) rfl ?_
   refine FL.skip (wF_no rfl rfl rfl c35) rfl ?_
   refine FL.v (E.pickF rfl c35 rfl) ?_
   exact FL.nil ⟨rfl, _, S26, (Inc.rfl _), (congrArg Value.bool (bifF c35).symm)⟩
 rintro f34 w33 ⟨H30, S31, i32, k36⟩
 refine FL.v (E.assign k36) ?_
 refine FL.nil ?_
 refine FW.ret ?_
 obtain rfl := hp
 exact ⟨.inr rfl, res1 rfl rfl ⟨rfl, S31.back⟩⟩

theorem w_impl_further_1 {Ha : GH} {wa : World} (hs : Sl Ha wa) (a0 : Int) (q0 : Addr) (b0 : List Int) (u0_0 : Value) (g0_0 : RSl Ha eI 1 u0_0 b0) (c0 : CAt Ha q0 [u0_0]) {r : Bool} (hp : (PF.impl_further_1 a0 b0) = some r) :
  Calls Tryz.prog 145 #[Value.int .i64 a0, Value.pointer (some q0)] wa (Sc Ha wa (Value.bool r)) := by
 unfold PF.impl_further_1 at hp
 have S0 := St.init hs
 refine calls_go (N := 7) (args := [Value.int .i64 a0, Value.pointer (some q0)]) Tryz.func145 rfl rfl rfl ?_
 refine FW.seq (FW.region ?_)
 refine FL.v (E.assign (v := Value.bool false) rfl) ?_
 refine FL.nil (FW.seq (FW.region ?_))
 refine FL.v (E.load rfl (run_load0 Tryz.isAgg73 (c0.now S0.sl) rfl)) ?_
 refine FL.v (E.move (v := Value.int .i64 a0) rfl) ?_
 obtain ⟨r21, hr22, hp⟩ := bnd hp
 refine FL.call rfl rfl rfl (E.call Tryz.call146 (A2 rfl rfl)) (w_slices_Contains_int_int S0.sl u0_0 b0 g0_0 a0 hr22) ?_
 rintro e w23 ⟨rfl, r24⟩
 refine ⟨_, rfl, ?_⟩
 have S25 := S0.call r24
 refine FL.v (E.assign (v := Value.bool r21) rfl) ?_
 refine FL.nil ?_
 refine FW.ret ?_
 obtain rfl := Option.some.inj hp
 exact ⟨.inr rfl, res1 rfl rfl ⟨rfl, S25.back⟩⟩

@[reducible] def p_impl_further (Ha : GH) (wa : World) (r : (List Int)) : Ending → World → Prop :=
 fun e w' => ∃ H' : GH, ∃ v0 : Value, ∃ n0 : Nat, ∃ c0 : List Value, e = .returned (v0) ∧ St Ha wa H' w' [.row 3 1 v0 n0 c0] ∧ Els (up wa.heap.size H') eI 1 c0 r
theorem w_impl_further {Ha : GH} {wa : World} (hs : Sl Ha wa) (v0 : Value) (a0 : List Int) (p0 : RSl Ha eI 1 v0 a0) (v1 : Value) (a1 : List Int) (p1 : RSl Ha eI 1 v1 a1) {r : (List Int)} (hp : (PF.impl_further a0 a1) = some r) :
  Calls Tryz.prog 84 #[v0, v1] wa (p_impl_further Ha wa r) := by
 unfold PF.impl_further at hp
 have S0 := St.init hs
 refine calls_go (N := 9) (args := [v0, v1]) Tryz.func84 rfl rfl rfl ?_
 refine FW.seq (FW.region ?_)
 obtain ⟨b21, w22, run23, S24⟩ := S0.box (P := Tryz.prog) 73 [v1] (v := v1) p1.cells (ones_cons p1.one ones_nil)
 refine FL.v (E.box rfl run23) ?_
 obtain ⟨H25, S26, i27, at28⟩ := S24.sealBox (i := 0) (l' := []) rfl rfl
 refine FL.v (E.assign (v := Value.slice none 0 0) rfl) ?_
 refine FL.nil (FW.seq (FW.region ?_))
 refine FL.v (E.move (v := v0) rfl) ?_
 obtain ⟨r29, hr30, hp⟩ := bnd hp
 refine FL.call rfl rfl rfl (E.call Tryz.call108 (A1 rfl)) (w_slices_Clone_int_int S26.sl v0 a0 (p0.mono i27) hr30) ?_
 rintro e w32 ⟨H31, v35, n36, cs37, rfl, r34, els38⟩
 refine ⟨_, rfl, ?_⟩
 have els38 := els38.mono (up_le S26.size)
 have S33 := S26.join (l' := [.row 3 1 v35 n36 cs37]) r34 rfl
 refine FL.v (E.makeFunc A0 (A1 rfl)) ?_
 obtain ⟨r39, hr40, hp⟩ := bnd hp
 refine FL.call rfl rfl rfl (E.call Tryz.call144 (A2 rfl rfl)) (w_slices_DeleteFunc_int_int (L := []) S33 r29 els38 (Value.func (.func 145) #[] #[Value.pointer (some ⟨b21, 0, none⟩)]) (fun x0 => PF.impl_further_1 x0 a1) (fun H2 w2 hi2 hs2 x0 r hr => ⟨145, #[Value.pointer (some ⟨b21, 0, none⟩)], rfl, Tryz.call145, w_impl_further_1 hs2 x0 ⟨b21, 0, none⟩ a1 v1 ((p1.mono (i27.tr r34.run.inc)).mono hi2) ((at28.mono r34.run.inc).mono hi2) hr⟩) hr40) ?_
 rintro e w42 ⟨H41, v45, n46, cs47, rfl, ⟨S43, i44⟩, els48⟩
 refine ⟨_, rfl, ?_⟩
 have S43 : St Ha wa H41 w42 [.row 3 1 v45 n46 cs47] := S43
 refine FL.v (E.assign (v := v45) rfl) ?_
 refine FL.nil ?_
 refine FW.ret ?_
 obtain rfl := Option.some.inj hp
 exact ⟨.inr rfl, res1 rfl rfl ⟨_, _, _, _, rfl, S43, els48⟩⟩

@[reducible] def p_impl_varPlane (Ha : GH) (wa : World) (r : Inequality) : Ending → World → Prop :=
 fun e w' => ∃ H' : GH, ∃ v0_0 : Value, e = .returned (Value.agg #[v0_0, Value.int .i64 r.bound]) ∧ Run wa.heap.size Ha wa H' w' ∧ RSl (up wa.heap.size H') eI 1 v0_0 r.coeffs
theorem w_impl_varPlane {Ha : GH} {wa : World} (hs : Sl Ha wa) (a0 : Int) (a1 : Int) (a2 : Int) (a3 : Int) {r : Inequality} (hp : (PF.impl_varPlane a0 a1 a2 a3) = some r) :
  Calls Tryz.prog 192 #[Value.int .i64 a0, Value.int .i64 a1, Value.int .i64 a2, Value.int .i64 a3] wa (p_impl_varPlane Ha wa r) := by
 unfold PF.impl_varPlane at hp
 have S0 := St.init hs
 refine calls_go (N := 21) (args := [Value.int .i64 a0, Value.int .i64 a1, Value.int .i64 a2, Value.int .i64 a3]) Tryz.func192 rfl rfl rfl ?_
 refine FW.seq (FW.region ?_)
 have S25 := S0.nil 3 1
 have els26 : Els (up wa.heap.size Ha) eI 1 [] [] := Els.nil
 obtain ⟨b21, w22, run23, S24⟩ := S25.alloc (P := Tryz.prog) 127 [Value.slice none 0 0, Value.int .i64 0] Tryz.zeroValue127 rfl (ones_cons rfl (ones_cons rfl ones_nil))
 refine FL.v (E.alloc run23) ?_
 refine FL.nil (FW.seq (FW.region ?_))
 refine FL.v (E.move (v := Value.int .i64 a0) rfl) ?_
 obtain ⟨xs27, hm28, hp⟩ := bnd hp
 obtain ⟨v29, w30, n34, cs35, run31, S32, els33, hbl36⟩ := S24.makeEls (P := Tryz.prog) te73 (G := (up wa.heap.size Ha)) (En := eI) (x0 := (0 : Int)) hm28 rfl (ones_cons rfl ones_nil) .i64 .i64
 refine FL.v (E.makeSlice rfl rfl run31) ?_
 refine FL.v (E.move (v := Value.int .i64 a3) rfl) ?_
 refine FL.v (E.build (B2 rfl rfl) (run_build _ 127 #[(0, v29), (1, Value.int .i64 a3)] #[v29, Value.int .i64 a3] (by obtain ⟨_, _, rfl⟩ := S32.row_ln (i := 0) rfl; rfl))) ?_
 have S41 := S32.nil 3 1
 have els42 : Els (up wa.heap.size Ha) eI 1 [] [] := Els.nil
 obtain ⟨b37, w38, run39, S40⟩ := S41.alloc (P := Tryz.prog) 127 [Value.slice none 0 0, Value.int .i64 0] Tryz.zeroValue127 rfl (ones_cons rfl (ones_cons rfl ones_nil))
 refine FL.v (E.alloc run39) ?_
 obtain ⟨w43, run44, S45⟩ := S40.store0 (P := Tryz.prog) (t := 127) (i := 0) (cs' := [v29, Value.int .i64 a3]) (l' := [.box b37 127 [v29, Value.int .i64 a3], .row 3 1 (Value.slice none 0 0) 0 [], .row 3 1 v29 n34 cs35, .box b21 127 [(Value.slice none 0 0), Value.int .i64 0], .row 3 1 (Value.slice none 0 0) 0 []]) (v := Value.agg #[v29, Value.int .i64 a3]) (c := [v29, Value.int .i64 a3]) rfl Tryz.sizeOf127 rfl rfl (ones_cons (Ln.one (S40.row_ln (i := 2) rfl)) (ones_cons rfl ones_nil)) (Nat.le_of_ble_eq_true rfl) rfl rfl
 refine FL.act rfl rfl (E.store rfl rfl run44) ?_
 refine FL.nil (FW.seq (FW.region ?_))
 refine FL.v (E.fieldAddr tf127_0 rfl) ?_
 refine FL.v (E.load rfl (run_load1 Tryz.isAgg73 (S45.box_now (i := 0) rfl) rfl)) ?_
 refine FL.v (E.move (v := Value.int .i64 a1) rfl) ?_
 refine FL.v (E.sub rfl rfl) ?_
 refine FL.v (E.move (v := Value.int .i64 a2) rfl) ?_
 obtain ⟨x52, hx53, hp⟩ := bnd hp
 obtain ⟨p46, cs47, pt48, l49, at50, rel51⟩ := S45.row_at (i := 2) rfl els33 (by decide) hx53
 obtain rfl := eI_open rel51
 refine FL.v (E.indexAddr te73 rfl rfl pt48) ?_
 obtain ⟨xs57, hput58, hp⟩ := bnd hp
 obtain ⟨w54, cs60, run55, S56, els59, ce61⟩ := S45.putEls (P := Tryz.prog) (t := 3) (i := 2) rfl els33 hput58 pt48 Tryz.sizeOf3 (u := Value.int .i64 a2) (c := [Value.int .i64 a2]) rfl rfl (ones_cons rfl ones_nil) rfl
 have S56 : St Ha wa Ha w54 [.box b37 127 [v29, Value.int .i64 a3], .row 3 1 (Value.slice none 0 0) 0 [], .row 3 1 v29 n34 cs60, .box b21 127 [(Value.slice none 0 0), Value.int .i64 0], .row 3 1 (Value.slice none 0 0) 0 []] := S56
 refine FL.act rfl rfl (E.store rfl rfl run55) ?_
 refine FL.nil (FW.seq (FW.region ?_))
 refine FL.v (E.load rfl (run_loadA Tryz.isAgg127 Tryz.sizeOf127 (S56.box_now (i := 0) rfl) rfl)) ?_
 obtain ⟨w62, run63, S64⟩ := S56.store0 (P := Tryz.prog) (t := 127) (i := 3) (cs' := [v29, Value.int .i64 a3]) (l' := [.box b37 127 [v29, Value.int .i64 a3], .row 3 1 (Value.slice none 0 0) 0 [], .row 3 1 v29 n34 cs60, .box b21 127 [v29, Value.int .i64 a3], .row 3 1 (Value.slice none 0 0) 0 []]) (v := Value.agg #[v29, Value.int .i64 a3]) (c := [v29, Value.int .i64 a3]) rfl Tryz.sizeOf127 rfl rfl (ones_cons (Ln.one (S56.row_ln (i := 2) rfl)) (ones_cons rfl ones_nil)) (Nat.le_of_ble_eq_true rfl) rfl rfl
 refine FL.act rfl rfl (E.store rfl rfl run63) ?_
 obtain ⟨H65, S66, i67, h68, nv69⟩ := S64.sealRowU (i := 2) (l' := [.box b37 127 [v29, Value.int .i64 a3], .row 3 1 (Value.slice none 0 0) 0 [], .box b21 127 [v29, Value.int .i64 a3], .row 3 1 (Value.slice none 0 0) 0 []]) rfl els59 (by decide) rfl
 obtain ⟨H70, S71, i72, at73⟩ := S66.sealBox (i := 2) (l' := [.box b37 127 [v29, Value.int .i64 a3], .row 3 1 (Value.slice none 0 0) 0 [], .row 3 1 (Value.slice none 0 0) 0 []]) rfl rfl
 refine FL.nil ?_
 refine FW.ret ?_
 obtain rfl := Option.some.inj hp
 exact ⟨.inr rfl, resC rfl rfl (loadVar_A Tryz.isAgg127 Tryz.sizeOf127 (at73.now S71.sl) rfl) ⟨_, _, rfl, S71.run, (h68.mono (up_mono i72))⟩⟩

end Go.Proofs
