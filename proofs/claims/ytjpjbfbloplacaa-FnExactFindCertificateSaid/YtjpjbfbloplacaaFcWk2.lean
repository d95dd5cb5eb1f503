/- Part of the walks and plain laws behind the claim: it proves helpers, under no condition beyond their own. -/
import Derived.Test.YtjpjbfbloplacaaFcWk1
set_option linter.unusedVariables false
set_option maxRecDepth 100000
namespace Go.Proofs
open Go.Mr Go.Pu Go.PF Go.RowKit

@[reducible] def p_spec_l19Find (Ha : GH) (wa : World) (r : ((List (List Term)) × Bool)) : Ending → World → Prop :=
  fun e w' => ∃ H' : GH, ∃ v0 : Value, ∃ n0 : Nat, ∃ c0 : List Value, e = .returned (Value.tuple #[v0, Value.bool r.2]) ∧ St Ha wa H' w' [.row 62 1 v0 n0 c0] ∧ Els (up wa.heap.size H') (eL eTerm 2) 1 c0 r.1 ∧ (bl c0).Nodup
set_option maxHeartbeats 4000000 in
theorem w_spec_l19Find {Ha : GH} {wa : World} (hs : Sl Ha wa) (a0 : Int) (a1 : Cnf) (v1_1 : Value) (p1_1 : RSl Ha (eL eI 1) 1 v1_1 a1.clauses) (a2 : Int) {r : ((List (List Term)) × Bool)} (hp : (PF.spec_l19Find a0 a1 a2) = some r) :
    Calls Try.prog 16 #[Value.int .i64 a0, Value.agg #[Value.int .i64 a1.vars, v1_1], Value.int .i64 a2] wa (p_spec_l19Find Ha wa r) := by
  unfold PF.spec_l19Find at hp
  have S0 := St.init hs
  refine calls_go (N := 78) (args := [Value.int .i64 a0, Value.agg #[Value.int .i64 a1.vars, v1_1], Value.int .i64 a2]) Try.func16 rfl rfl rfl ?_
  refine FW.seq (FW.region ?_)
  obtain ⟨b21, w22, run23, S24⟩ := S0.box (P := Try.prog) 29 [Value.int .i64 a1.vars, v1_1] (v := Value.agg #[Value.int .i64 a1.vars, v1_1]) rfl (ones_cons rfl (ones_cons p1_1.one ones_nil))
  refine FL.v (E.box rfl run23) ?_
  obtain ⟨H25, S26, i27, at28⟩ := S24.sealBox (i := 0) (l' := []) rfl rfl
  refine FL.v (E.assign (v := Value.slice none 0 0) rfl) ?_
  refine FL.v (E.assign (v := Value.bool false) rfl) ?_
  refine FL.nil (FW.seq (FW.region ?_))
  refine FL.v (E.move (v := Value.int .i64 a0) rfl) ?_
  refine FL.v (E.load rfl (run_loadA Try.isAgg29 Try.sizeOf29 (at28.now S26.sl) rfl)) ?_
  refine FL.v (E.move (v := Value.int .i64 a2) rfl) ?_
  obtain ⟨r29, hr30, hp⟩ := bnd hp
  refine FL.call rfl rfl rfl (E.call Try.call36 (A3 rfl rfl rfl)) (w_spec_l19Span S26.sl a0 a1 v1_1 (p1_1.mono i27) a2 hr30) ?_
  rintro e w32 ⟨H31, v35, v40, v43, v48, rfl, r34, ⟨c38, ns37⟩, h41, ⟨c46, ns45⟩, h49⟩
  refine ⟨_, rfl, ?_⟩
  have h36 := ns37.rsl
  have nv39 : New H25 [v35] := New.of_up S26.sl h36.dom
  have h36 := h36.mono (up_le S26.size)
  have ns37 := ns37.mono (up_le S26.size)
  have nv42 : New H25 [v40] := New.of_up S26.sl h41.dom
  have h41 := h41.mono (up_le S26.size)
  have h44 := ns45.rsl
  have nv47 : New H25 [v43] := New.of_up S26.sl h44.dom
  have h44 := h44.mono (up_le S26.size)
  have ns45 := ns45.mono (up_le S26.size)
  have nv50 : New H25 [v48] := New.of_up S26.sl h49.dom
  have h49 := h49.mono (up_le S26.size)
  have S33 := S26.call r34
  have S55 := S33.nil 47 1
  have els56 : Els (up wa.heap.size H31) (eL eI 1) 1 [] [] := Els.nil
  have S57 := S55.nil 3 1
  have els58 : Els (up wa.heap.size H31) eI 1 [] [] := Els.nil
  have S59 := S57.nil 47 1
  have els60 : Els (up wa.heap.size H31) (eL eI 1) 1 [] [] := Els.nil
  have S61 := S59.nil 80 3
  have els62 : Els (up wa.heap.size H31) el19Product 3 [] [] := Els.nil
  obtain ⟨b51, w52, run53, S54⟩ := S61.alloc (P := Try.prog) 73 [Value.slice none 0 0, Value.slice none 0 0, Value.slice none 0 0, Value.slice none 0 0] Try.zeroValue73 rfl (ones_cons rfl (ones_cons rfl (ones_cons rfl (ones_cons rfl ones_nil))))
  refine FL.v (E.alloc run53) ?_
  obtain ⟨w63, run64, S65⟩ := S54.store0 (P := Try.prog) (t := 73) (i := 0) (cs' := [v35, v40, v43, v48]) (l' := [.box b51 73 [v35, v40, v43, v48], .row 80 3 (Value.slice none 0 0) 0 [], .row 47 1 (Value.slice none 0 0) 0 [], .row 3 1 (Value.slice none 0 0) 0 [], .row 47 1 (Value.slice none 0 0) 0 []]) (v := Value.agg #[v35, v40, v43, v48]) (c := [v35, v40, v43, v48]) rfl Try.sizeOf73 rfl rfl (ones_cons h36.one (ones_cons h41.one (ones_cons h44.one (ones_cons h49.one ones_nil)))) (Nat.le_of_ble_eq_true rfl) rfl rfl
  refine FL.act rfl rfl (E.store rfl rfl run64) ?_
  obtain ⟨H66, S67, i68, at69⟩ := S65.sealBox (i := 0) (l' := [.row 80 3 (Value.slice none 0 0) 0 [], .row 47 1 (Value.slice none 0 0) 0 [], .row 3 1 (Value.slice none 0 0) 0 [], .row 47 1 (Value.slice none 0 0) 0 []]) rfl rfl
  refine FL.nil (FW.seq ?_)
  obtain ⟨r74, hr75, hp⟩ := bnd hp
  obtain ⟨r90, hr91, hp⟩ := bnd hp
  refine FW.drawB (Sl H66) (fun f w => ∃ H : GH, ∃ v106 : Value, ∃ n107 : Nat, ∃ cs108 : List Value, ∃ v110 : Value, ∃ n111 : Nat, ∃ cs112 : List Value, St Ha wa H w [.row 3 1 v106 n107 cs108, .row 3 1 v110 n111 cs112] ∧ Inc H66 H ∧ Els (up wa.heap.size H) eI 1 cs108 r90.1 ∧ Els (up wa.heap.size H) eI 1 cs112 r90.2 ∧ f 0 = Value.int .i64 a0 ∧ f 4 = Value.pointer (some ⟨b21, 0, none⟩) ∧ f 8 = Value.pointer (some ⟨b51, 0, none⟩) ∧ f 9 = v106 ∧ f 10 = v110) (by kernel_rfl) S67.sl ?_ ?_
  ·
    intro w70 r71
    have S72 := S67.call r71
    refine FB.t (i := 0) (bs 11 1) rfl (SP.nil S72.sl) rfl (fun w' hw' => (E.move (v := Value.int .i64 a0) rfl)) ?_
    refine FB.t (i := 1) (bs 11 3) rfl (SP.nil S72.sl) rfl (fun w' hw' => (E.load rfl (run_loadA Try.isAgg73 Try.sizeOf73 (at69.now hw') rfl))) ?_
    refine FB.t (i := 2) (bs 11 7) rfl (SP.nil S72.sl) rfl (fun w' hw' => (E.fieldAddr tf29_0 rfl)) ?_
    refine FB.t (i := 3) (bs 11 15) rfl (SP.nil S72.sl) rfl (fun w' hw' => (E.load rfl (run_load1 Try.isAgg3 ((at28.mono (r34.inc.tr i68)).now hw') rfl))) ?_
    refine FB.all1 (i := 4) (by kernel_rfl) ?_
    ·
      refine FC.call (l' := (bs 11 31)) rfl (by kernel_rfl) rfl rfl rfl (E.call Try.call38 (A1 rfl)) (w_spec_l19Unit S72.sl a1.vars hr75) ?_
      rintro e w77 ⟨H76, v81, n82, cs83, rfl, r79, els84⟩
      refine ⟨_, rfl, ?_⟩
      have els84 := els84.mono (up_le S72.size)
      have S78 := S72.join (l' := [.row 3 1 v81 n82 cs83, .row 80 3 (Value.slice none 0 0) 0 [], .row 47 1 (Value.slice none 0 0) 0 [], .row 3 1 (Value.slice none 0 0) 0 [], .row 47 1 (Value.slice none 0 0) 0 []]) r79 rfl
      refine ⟨(SP.nil (Sl.of_inc r79.run.inc S78.sl)), ?_⟩
      refine FB.all1 (i := 5) (by kernel_rfl) ?_
      ·
        obtain ⟨H85, S86, i87, h88, nv89⟩ := S78.sealRowU (i := 0) (l' := [.row 80 3 (Value.slice none 0 0) 0 [], .row 47 1 (Value.slice none 0 0) 0 [], .row 3 1 (Value.slice none 0 0) 0 [], .row 47 1 (Value.slice none 0 0) 0 []]) rfl els84 (by decide) rfl
        refine FC.call (l' := (bs 11 63)) rfl (by kernel_rfl) rfl rfl rfl (E.call Try.call37 (A3 rfl rfl rfl)) (w_spec_l19Reduce S86.sl a0 r29 v35 (h36.mono (upI.tr ((i68.tr r79.run.inc).tr i87))) v40 (h41.mono (upI.tr ((i68.tr r79.run.inc).tr i87))) v43 (h44.mono (upI.tr ((i68.tr r79.run.inc).tr i87))) v48 (h49.mono (upI.tr ((i68.tr r79.run.inc).tr i87))) v81 r74 (h88.mono upI) hr91) ?_
        rintro e w93 ⟨H92, v98, n99, cs100, v102, n103, cs104, rfl, r95, els101, els105⟩
        refine ⟨_, rfl, ?_⟩
        obtain ⟨H96, r95, hU97⟩ := St.lendX i87 S78.sl r95
        have els101 := els101.mono (hU97.tr (up_le S78.size))
        have els105 := els105.mono (hU97.tr (up_le S78.size))
        have S94 := S78.join (l' := [.row 3 1 v98 n99 cs100, .row 3 1 v102 n103 cs104, .row 3 1 v81 n82 cs83, .row 80 3 (Value.slice none 0 0) 0 [], .row 47 1 (Value.slice none 0 0) 0 [], .row 3 1 (Value.slice none 0 0) 0 [], .row 47 1 (Value.slice none 0 0) 0 []]) r95 rfl
        refine ⟨(SP.nil (Sl.of_inc (r79.run.inc.tr r95.run.inc) S94.sl)), ?_⟩
        refine FB.t (i := 6) (bs 11 127) rfl (SP.nil (Sl.of_inc (r79.run.inc.tr r95.run.inc) S94.sl)) rfl (fun w' hw' => (E.move (v := Value.tuple #[v98, v102]) rfl)) ?_
        refine FB.t (i := 7) (bs 11 255) rfl (SP.nil (Sl.of_inc (r79.run.inc.tr r95.run.inc) S94.sl)) rfl (fun w' hw' => (E.extract (i := 0) rfl rfl)) ?_
        refine FB.t (i := 8) (bs 11 511) rfl (SP.nil (Sl.of_inc (r79.run.inc.tr r95.run.inc) S94.sl)) rfl (fun w' hw' => (E.extract (i := 1) rfl rfl)) ?_
        refine FB.t (i := 9) (bs 11 1023) rfl (SP.nil (Sl.of_inc (r79.run.inc.tr r95.run.inc) S94.sl)) rfl (fun w' hw' => (E.assign (v := v98) rfl)) ?_
        refine FB.t (i := 10) (bs 11 2047) rfl (SP.nil (Sl.of_inc (r79.run.inc.tr r95.run.inc) S94.sl)) rfl (fun w' hw' => (E.assign (v := v102) rfl)) ?_
        exact FB.done (by kernel_rfl) ⟨_, _, _, _, _, _, _, (S94.sel [0, 1] (by decide) rfl), (r79.run.inc.tr r95.run.inc), els101, els105, rfl, rfl, rfl, rfl, rfl⟩
  ·
    rintro f118 w117 ⟨H114, v106, n107, cs108, v110, n111, cs112, S115, i116, els109, els113, k119, k120, k121, k122, k123⟩
    refine FW.seq (FW.seq (FW.region ?_))
    refine FL.v (E.move k122) ?_
    obtain ⟨H124, S125, i126, h127, nv128⟩ := S115.sealRowU (i := 0) (l' := [.row 3 1 v110 n111 cs112]) rfl els109 (by decide) rfl
    obtain ⟨r129, hr130, hp⟩ := bnd hp
    refine FL.call rfl rfl rfl (E.call Try.call39 (A1 rfl)) (w_spec_l19Lead S125.sl v106 r90.1 (h127.mono upI) hr130) ?_
    rintro e w131 ⟨rfl, r132⟩
    refine ⟨_, rfl, ?_⟩
    have r132 := Run.lend i126 S115.sl r132
    have S133 := S115.call r132
    refine FL.v (E.geq rfl rfl) ?_
    refine FL.nil ?_
    rcases ifB hp with ⟨c134, hp⟩ | ⟨c134, hp⟩
    ·
      refine FW.condT rfl c134 ?_
      refine FW.seq (FW.region ?_)
      obtain ⟨v135, w136, run137, S138⟩ := S133.buildSlice (P := Try.prog) te26 [] (parts := #[]) (cells := []) rfl szs_nil fc_nil ones_nil (Nat.le_of_ble_eq_true rfl)
      have els139 : Els (up wa.heap.size H114) (eL eTerm 2) 1 [] [] := Els.nil
      refine FL.v (E.buildSlice (B0) run137) ?_
      refine FL.v (E.assign (v := v135) rfl) ?_
      refine FL.v (E.assign (v := Value.bool false) rfl) ?_
      refine FL.nil ?_
      refine FW.ret ?_
      obtain rfl := Option.some.inj hp
      exact ⟨.inr rfl, res2 rfl rfl rfl ⟨_, _, _, _, rfl, (S138.sel [0] (by decide) rfl), els139, (show (bl []).Nodup from List.nodup_nil)⟩⟩
    ·
      refine FW.condF rfl c134 ?_
      refine FW.skip (FW.seq (FW.region ?_))
      obtain ⟨v140, w141, run142, S143⟩ := S133.buildSlice (P := Try.prog) te26 [] (parts := #[]) (cells := []) rfl szs_nil fc_nil ones_nil (Nat.le_of_ble_eq_true rfl)
      have els144 : Els (up wa.heap.size H114) (eL eTerm 2) 1 [] [] := Els.nil
      refine FL.v (E.buildSlice (B0) run142) ?_
      refine FL.v (E.assign (v := v140) rfl) ?_
      refine FL.nil (FW.seq (FW.seq (FW.region ?_)))
      refine FL.v (E.assign (v := Value.int .i64 0) rfl) ?_
      refine FL.nil ?_
      obtain ⟨q145, hq, hp⟩ := bndR hp
      refine FW.block ?_
      refine FW.mono (FW.iter (S := ((List (List Term)) × Int)) (X := Empty) (fun (s145 : ((List (List Term)) × Int)) f w => ∃ H : GH, ∃ v146 : Value, ∃ n147 : Nat, ∃ cs148 : List Value, St Ha wa H w [.row 62 1 v146 n147 cs148, .row 3 1 v110 n111 cs112] ∧ Inc H114 H ∧ Els (up wa.heap.size H) (eL eTerm 2) 1 cs148 s145.1 ∧ (bl cs148).Nodup ∧ f 0 = Value.int .i64 a0 ∧ f 4 = Value.pointer (some ⟨b21, 0, none⟩) ∧ f 8 = Value.pointer (some ⟨b51, 0, none⟩) ∧ f 10 = v110 ∧ f 11 = v146 ∧ f 12 = Value.int .i64 s145.2) (fun (q : Rs ((List (List Term)) × Int) Empty) e f w => match q with | .go s145 => e = Exit.exit 0 ∧ (∃ H : GH, ∃ v146 : Value, ∃ n147 : Nat, ∃ cs148 : List Value, St Ha wa H w [.row 62 1 v146 n147 cs148, .row 3 1 v110 n111 cs112] ∧ Inc H114 H ∧ Els (up wa.heap.size H) (eL eTerm 2) 1 cs148 s145.1 ∧ (bl cs148).Nodup ∧ f 11 = v146) | .rt x => x.elim) hq ⟨_, _, _, _, (S143.sel [0, 2] (by decide) rfl), (Inc.rfl _), els144, (show (bl []).Nodup from List.nodup_nil), k119, k120, k121, k123, rfl, rfl⟩ ?_) ?_
      ·
        clear hp hq
        rintro s145 f155 w154 ⟨H151, v146, n147, cs148, S152, i153, els149, nd150, k156, k157, k158, k159, k160, k161⟩ o314 hp
        refine FW.seq (FW.seq (FW.region ?_))
        refine FL.v (E.move k161) ?_
        refine FL.v (E.fieldAddr tf29_1 k157) ?_
        refine FL.v (E.load rfl (run_load1 Try.isAgg22 ((at28.mono (((r34.inc.tr i68).tr i116).tr i153)).now S152.sl) rfl)) ?_
        refine FL.v (E.lenP te22 rfl p1_1) ?_
        refine FL.v (E.lss rfl rfl) ?_
        refine FL.nil ?_
        rcases ifB hp with ⟨c162, hp⟩ | ⟨c162, hp⟩
        ·
          refine FW.condT rfl c162 ?_
          refine FW.skip (FW.seq (FW.block (FW.seq (FW.region ?_))))
          refine FL.v (E.fieldAddr tf29_0 k157) ?_
          refine FL.v (E.load rfl (run_load1 Try.isAgg3 ((at28.mono (((r34.inc.tr i68).tr i116).tr i153)).now S152.sl) rfl)) ?_
          obtain ⟨u164, z163, hp⟩ := bnd hp
          refine FL.v (E.shl rfl rfl (nn_ge z163)) ?_
          obtain ⟨xs165, hm166, hp⟩ := bnd hp
          obtain ⟨v167, w168, n172, cs173, run169, S170, els171, hbl174⟩ := S152.makeEls (P := Try.prog) te47 (G := (up wa.heap.size H151)) (En := eI) (x0 := (0 : Int)) hm166 rfl (ones_cons rfl ones_nil) .i64 .i64
          refine FL.v (E.makeSlice rfl rfl run169) ?_
          refine FL.v (E.assign (v := v167) rfl) ?_
          refine FL.nil (FW.seq (FW.seq (FW.region ?_)))
          refine FL.v (E.assign (v := Value.int .i64 0) rfl) ?_
          refine FL.nil ?_
          obtain ⟨q175, hq, hp⟩ := bndR hp
          refine FW.block ?_
          refine FW.mono (FW.iter (S := ((List Int) × Int)) (X := Empty) (fun (s175 : ((List Int) × Int)) f w => ∃ H : GH, ∃ v176 : Value, ∃ n177 : Nat, ∃ cs178 : List Value, St Ha wa H w [.row 3 1 v176 n177 cs178, .row 62 1 v146 n147 cs148, .row 3 1 v110 n111 cs112] ∧ Inc H151 H ∧ Els (up wa.heap.size H) eI 1 cs178 s175.1 ∧ f 0 = Value.int .i64 a0 ∧ f 4 = Value.pointer (some ⟨b21, 0, none⟩) ∧ f 8 = Value.pointer (some ⟨b51, 0, none⟩) ∧ f 10 = v110 ∧ f 11 = v146 ∧ f 12 = Value.int .i64 s145.2 ∧ f 13 = v176 ∧ f 14 = Value.int .i64 s175.2) (fun (q : Rs ((List Int) × Int) Empty) e f w => match q with | .go s175 => e = Exit.exit 2 ∧ (∃ H : GH, ∃ v176 : Value, ∃ n177 : Nat, ∃ cs178 : List Value, St Ha wa H w [.row 3 1 v176 n177 cs178, .row 62 1 v146 n147 cs148, .row 3 1 v110 n111 cs112] ∧ Inc H151 H ∧ Els (up wa.heap.size H) eI 1 cs178 s175.1 ∧ f 0 = Value.int .i64 a0 ∧ f 4 = Value.pointer (some ⟨b21, 0, none⟩) ∧ f 8 = Value.pointer (some ⟨b51, 0, none⟩) ∧ f 10 = v110 ∧ f 11 = v146 ∧ f 12 = Value.int .i64 s145.2 ∧ f 13 = v176) | .rt x => x.elim) hq ⟨_, _, _, _, S170, (Inc.rfl _), els171, k156, k157, k158, k159, k160, k161, rfl, rfl⟩ ?_) ?_
          ·
            clear hp hq
            rintro s175 f184 w183 ⟨H180, v176, n177, cs178, S181, i182, els179, k185, k186, k187, k188, k189, k190, k191, k192⟩ o261 hp
            refine FW.seq (FW.seq (FW.region ?_))
            refine FL.v (E.move k192) ?_
            refine FL.v (E.fieldAddr tf73_3 k187) ?_
            refine FL.v (E.load rfl (run_load1 Try.isAgg71 ((at69.mono ((i116.tr i153).tr i182)).now S181.sl) rfl)) ?_
            refine FL.v (E.lenP te71 rfl h49) ?_
            refine FL.v (E.lss rfl rfl) ?_
            refine FL.nil ?_
            rcases ifB hp with ⟨c193, hp⟩ | ⟨c193, hp⟩
            ·
              refine FW.condT rfl c193 ?_
              refine FW.skip (FW.seq (FW.block (FW.seq (FW.region ?_))))
              refine FL.v (E.fieldAddr tf73_3 k187) ?_
              refine FL.v (E.load rfl (run_load1 Try.isAgg71 ((at69.mono ((i116.tr i153).tr i182)).now S181.sl) rfl)) ?_
              refine FL.v (E.move k192) ?_
              obtain ⟨x200, hx201, hp⟩ := bnd hp
              obtain ⟨p194, cs195, pt196, l197, at198, rel199⟩ := h49.at hx201
              obtain ⟨v202, rfl, h203⟩ := el19Product_open rel199
              refine FL.v (E.indexAddr te71 rfl rfl pt196) ?_
              refine FL.v (E.fieldAddr tf80_0 rfl) ?_
              refine FL.v (E.load rfl (run_load1 Try.isAgg3 ((at198.mono (upI.tr (((i68.tr i116).tr i153).tr i182))).now S181.sl) rfl)) ?_
              refine FL.v (E.move k190) ?_
              refine FL.v (E.eql rfl rfl) ?_
              refine FL.nil ?_
              rcases ifB hp with ⟨c204, hp⟩ | ⟨c204, hp⟩
              ·
                refine FW.condT rfl c204 ?_
                obtain ⟨x214, hx215, hp⟩ := bnd hp
                obtain ⟨x224, hx225, hp⟩ := bnd hp
                obtain ⟨x233, hx234, hp⟩ := bnd hp
                obtain ⟨xs239, hput240, hp⟩ := bnd hp
                refine FW.drawB (SX Ha wa H180 [.row 3 1 v110 n111 cs112]) (fun f w => ∃ H : GH, ∃ v244 : Value, ∃ n245 : Nat, ∃ cs246 : List Value, St Ha wa H w [.row 3 1 v244 n245 cs246, .row 62 1 v146 n147 cs148, .row 3 1 v110 n111 cs112] ∧ Inc H180 H ∧ Els (up wa.heap.size H) eI 1 cs246 xs239 ∧ f 0 = Value.int .i64 a0 ∧ f 4 = Value.pointer (some ⟨b21, 0, none⟩) ∧ f 8 = Value.pointer (some ⟨b51, 0, none⟩) ∧ f 10 = v110 ∧ f 11 = v146 ∧ f 12 = Value.int .i64 s145.2 ∧ f 13 = v244 ∧ f 14 = Value.int .i64 s175.2) (by kernel_rfl) S181.sl ?_ ?_
                ·
                  intro w205 r206
                  have S207 := S181.call r206
                  refine FB.t (i := 0) (bs 13 1) rfl (SP.nil ⟨_, (S207.sel [2] (by decide) rfl), (Inc.rfl _)⟩) rfl (fun w' hw' => (E.move k191)) ?_
                  refine FB.t (i := 1) (bs 13 3) rfl (SP.nil ⟨_, (S207.sel [2] (by decide) rfl), (Inc.rfl _)⟩) rfl (fun w' hw' => (E.fieldAddr tf73_3 k187)) ?_
                  refine FB.t (i := 2) (bs 13 7) rfl (SP.nil ⟨_, (S207.sel [2] (by decide) rfl), (Inc.rfl _)⟩) rfl (fun w' hw' => (E.load rfl (run_load1 Try.isAgg71 ((at69.mono ((i116.tr i153).tr i182)).now hw'.sl) rfl))) ?_
                  refine FB.t (i := 3) (bs 13 15) rfl (SP.nil ⟨_, (S207.sel [2] (by decide) rfl), (Inc.rfl _)⟩) rfl (fun w' hw' => (E.move k192)) ?_
                  obtain ⟨p208, cs209, pt210, l211, at212, rel213⟩ := h49.at hx215
                  obtain ⟨v216, rfl, h217⟩ := el19Product_open rel213
                  refine FB.t (i := 4) (bs 13 31) rfl (SP.nil ⟨_, (S207.sel [2] (by decide) rfl), (Inc.rfl _)⟩) rfl (fun w' hw' => (E.indexAddr te71 rfl rfl pt210)) ?_
                  refine FB.t (i := 5) (bs 13 63) rfl (SP.nil ⟨_, (S207.sel [2] (by decide) rfl), (Inc.rfl _)⟩) rfl (fun w' hw' => (E.fieldAddr tf80_1 rfl)) ?_
                  refine FB.t (i := 6) (bs 13 127) rfl (SP.nil ⟨_, (S207.sel [2] (by decide) rfl), (Inc.rfl _)⟩) rfl (fun w' hw' => (E.load rfl (run_load1 Try.isAgg3 ((at212.mono (upI.tr (((i68.tr i116).tr i153).tr i182))).now hw'.sl) rfl))) ?_
                  refine FB.t (i := 7) (bs 13 255) rfl (SP.nil ⟨_, (S207.sel [2] (by decide) rfl), (Inc.rfl _)⟩) rfl (fun w' hw' => (E.move k188)) ?_
                  refine FB.t (i := 8) (bs 13 511) rfl (SP.nil ⟨_, (S207.sel [2] (by decide) rfl), (Inc.rfl _)⟩) rfl (fun w' hw' => (E.move k192)) ?_
                  obtain ⟨p218, cs219, pt220, l221, at222, rel223, hall226⟩ := S207.row_atA (i := 2) rfl els113 (by decide) hx225
                  obtain rfl := eI_open rel223
                  refine FB.t (i := 9) (bs 13 1023) rfl (SP.nil ⟨_, (S207.sel [2] (by decide) rfl), (Inc.rfl _)⟩) rfl (fun w' hw' => (E.indexAddr te47 rfl rfl pt220)) ?_
                  refine FB.t (i := 10) (bs 13 2047) rfl (SP.nil ⟨_, (S207.sel [2] (by decide) rfl), (Inc.rfl _)⟩) rfl (fun w' hw' => (E.load rfl (run_load0 Try.isAgg3 (hw'.use fun _ st => hall226 _ _ _ 0 st rfl) rfl))) ?_
                  obtain ⟨p227, cs228, pt229, l230, at231, rel232, hall235⟩ := S207.row_atA (i := 0) rfl els179 (by decide) hx234
                  obtain rfl := eI_open rel232
                  refine FB.t (i := 11) (bs 13 4095) rfl (SP.nil ⟨_, (S207.sel [2] (by decide) rfl), (Inc.rfl _)⟩) rfl (fun w' hw' => (E.indexAddr te47 rfl rfl pt229)) ?_
                  refine FB.all1 (i := 12) (by kernel_rfl) ?_
                  ·
                    obtain ⟨w236, cs242, run237, S238, els241, ce243⟩ := S207.putEls (P := Try.prog) (t := 3) (i := 0) rfl els179 hput240 pt229 Try.sizeOf3 (u := Value.int .i64 x224) (c := [Value.int .i64 x224]) rfl rfl (ones_cons rfl ones_nil) rfl
                    have S238 : St Ha wa H180 w236 [.row 3 1 v176 n177 cs242, .row 62 1 v146 n147 cs148, .row 3 1 v110 n111 cs112] := S238
                    refine FC.act (l' := (bs 13 8191)) rfl (by kernel_rfl) rfl rfl (E.store rfl rfl run237) ?_
                    refine ⟨(SP.nil ⟨_, (S238.sel [2] (by decide) rfl), (Inc.rfl _)⟩), ?_⟩
                    exact FB.done (by kernel_rfl) ⟨_, _, _, _, S238, (Inc.rfl _), els241, k185, k186, k187, k188, k189, k190, k191, k192⟩
                ·
                  rintro f252 w251 ⟨H248, v244, n245, cs246, S249, i250, els247, k253, k254, k255, k256, k257, k258, k259, k260⟩
                  refine FW.region ?_
                  refine FL.v (E.move k260) ?_
                  refine FL.v (E.add rfl rfl) ?_
                  refine FL.v (E.assign (v := Value.int .i64 (wr (s175.2 + 1))) rfl) ?_
                  refine FL.nil ?_
                  obtain rfl := Option.some.inj hp
                  exact ⟨rfl, ⟨_, _, _, _, S249, (i182.tr i250), els247, k253, k254, k255, k256, k257, k258, k259, rfl⟩⟩
              ·
                refine FW.condF rfl c204 ?_
                refine FW.skip (FW.region ?_)
                refine FL.v (E.move k192) ?_
                refine FL.v (E.add rfl rfl) ?_
                refine FL.v (E.assign (v := Value.int .i64 (wr (s175.2 + 1))) rfl) ?_
                refine FL.nil ?_
                obtain rfl := Option.some.inj hp
                exact ⟨rfl, ⟨_, _, _, _, S181, i182, els179, k185, k186, k187, k188, k189, k190, k191, rfl⟩⟩
            ·
              refine FW.condF rfl c193 ?_
              refine FW.exit ?_
              obtain rfl := Option.some.inj hp
              exact ⟨nofun, rfl, ⟨_, _, _, _, S181, i182, els179, k185, k186, k187, k188, k189, k190, k191⟩⟩
          ·
            clear hq
            intro e f266 w265 hD
            rcases q175 with s175 | x175
            ·
              obtain ⟨rfl, hD⟩ := hD
              obtain ⟨H262, v176, n177, cs178, S263, i264, els179, k267, k268, k269, k270, k271, k272, k273⟩ := hD
              replace hp := el_go hp
              refine FW.region ?_
              refine FL.v (E.move k271) ?_
              refine FL.v (E.move k267) ?_
              refine FL.v (E.move k273) ?_
              obtain ⟨H274, S275, i276, h277, nv278⟩ := S263.sealRowU (i := 0) (l' := [.row 62 1 v146 n147 cs148, .row 3 1 v110 n111 cs112]) rfl els179 (by decide) rfl
              obtain ⟨r279, hr280, hp⟩ := bnd hp
              refine FL.call rfl rfl rfl (E.call Try.call40 (A2 rfl rfl)) (w_spec_l18Sparse S275.sl a0 v176 s175.1 (h277.mono upI) hr280) ?_
              rintro e w282 ⟨H281, v287, n288, cs289, rfl, r284, els290⟩
              refine ⟨_, rfl, ?_⟩
              obtain ⟨H285, r284, hU286⟩ := St.lendX i276 S263.sl r284
              have els290 := els290.mono (hU286.tr (up_le S263.size))
              have S283 := S263.join (l' := [.row 94 2 v287 n288 cs289, .row 3 1 v176 n177 cs178, .row 62 1 v146 n147 cs148, .row 3 1 v110 n111 cs112]) r284 rfl
              obtain ⟨H291, S292, i293, h294, nv295⟩ := S283.sealRowU (i := 0) (l' := [.row 3 1 v176 n177 cs178, .row 62 1 v146 n147 cs148, .row 3 1 v110 n111 cs112]) rfl els290 (by decide) rfl
              obtain ⟨v296, w297, run298, S299⟩ := S292.buildSlice (P := Try.prog) te26 [v287] (parts := #[(0, v287)]) (cells := [v287]) rfl (szs_cons (cells_size h294.cells) szs_nil) (fc_cons h294.cells fc_nil) (ones_cons h294.one ones_nil) (Nat.le_of_ble_eq_true rfl)
              have els300 : Els (up wa.heap.size H291) (eL eTerm 2) 1 [v287] [r279] := (Els.snoc (H := (up wa.heap.size H291)) (E := (eL eTerm 2)) (k := 1) (c := [v287]) (x := r279) Els.nil rfl ⟨_, rfl, h294⟩)
              have nd301 : (bl [v287]).Nodup := by exact nd_one v287
              refine FL.v (E.buildSlice (B1 rfl) run298) ?_
              obtain ⟨xs302, hz303, hp⟩ := bnd hp
              obtain ⟨v304, w307, n305, cs306, run308, S309, els310, ce311⟩ := S299.appendO (P := Try.prog) te26 (i := 2) (j := 0) rfl (els149.mono (up_mono ((i264.tr r284.run.inc).tr i293))) rfl els300 hz303
              have S309 : St Ha wa H291 w307 [.row 62 1 v296 1 [v287], .row 3 1 v176 n177 cs178, .row 62 1 v304 n305 cs306, .row 3 1 v110 n111 cs112] := S309
              have nd312 : (bl cs306).Nodup := by rw [ce311]; exact nd_app nd150 nd301 (Els.dom (els149.mono (upI.tr (i264.tr r284.run.inc)))) (by exact nv295)
              have S313 : St Ha wa H291 w307 [.row 3 1 v176 n177 cs178, .row 62 1 v304 n305 cs306, .row 3 1 v110 n111 cs112] := S309.drop 0
              refine FL.v (E.append rfl rfl run308) ?_
              refine FL.v (E.assign (v := v304) rfl) ?_
              refine FL.nil (FW.region ?_)
              refine FL.v (E.move k272) ?_
              refine FL.v (E.add rfl rfl) ?_
              refine FL.v (E.assign (v := Value.int .i64 (wr (s145.2 + 1))) rfl) ?_
              refine FL.nil ?_
              obtain rfl := Option.some.inj hp
              exact ⟨rfl, ⟨_, _, _, _, (S313.sel [1, 2] (by decide) rfl), (((i153.tr i264).tr r284.run.inc).tr i293), els310, nd312, k267, k268, k269, k270, rfl, rfl⟩⟩
            · exact x175.elim
        ·
          refine FW.condF rfl c162 ?_
          refine FW.exit ?_
          obtain rfl := Option.some.inj hp
          exact ⟨nofun, rfl, ⟨_, _, _, _, S152, i153, els149, nd150, k160⟩⟩
      ·
        clear hq
        intro e f319 w318 hD
        rcases q145 with s145 | x145
        ·
          obtain ⟨rfl, hD⟩ := hD
          obtain ⟨H315, v146, n147, cs148, S316, i317, els149, nd150, k320⟩ := hD
          replace hp := el_go hp
          refine FW.seq (FW.region ?_)
          refine FL.v (E.move k320) ?_
          refine FL.v (E.assign (v := v146) rfl) ?_
          refine FL.v (E.assign (v := Value.bool true) rfl) ?_
          refine FL.nil ?_
          refine FW.ret ?_
          obtain rfl := Option.some.inj hp
          exact ⟨.inr rfl, res2 rfl rfl rfl ⟨_, _, _, _, rfl, (S316.sel [0] (by decide) rfl), els149, nd150⟩⟩
        · exact x145.elim

@[reducible] def p_spec_FindCertificate (Ha : GH) (wa : World) (r : ((List (List Term)) × Bool)) : Ending → World → Prop :=
 fun e w' => ∃ H' : GH, ∃ v0 : Value, ∃ n0 : Nat, ∃ c0 : List Value, e = .returned (Value.tuple #[v0, Value.bool r.2]) ∧ St Ha wa H' w' [.row 62 1 v0 n0 c0] ∧ Els (up wa.heap.size H') (eL eTerm 2) 1 c0 r.1 ∧ (bl c0).Nodup
theorem w_spec_FindCertificate {Ha : GH} {wa : World} (hs : Sl Ha wa) (a0 : Int) (a1 : Cnf) (v1_1 : Value) (p1_1 : RSl Ha (eL eI 1) 1 v1_1 a1.clauses) (a2 : Int) {r : ((List (List Term)) × Bool)} (hp : (PF.spec_FindCertificate a0 a1 a2) = some r) :
  Calls Try.prog 5 #[Value.int .i64 a0, Value.agg #[Value.int .i64 a1.vars, v1_1], Value.int .i64 a2] wa (p_spec_FindCertificate Ha wa r) := by
 unfold PF.spec_FindCertificate at hp
 have S0 := St.init hs
 refine calls_go (N := 24) (args := [Value.int .i64 a0, Value.agg #[Value.int .i64 a1.vars, v1_1], Value.int .i64 a2]) Try.func5 rfl rfl rfl ?_
 refine FW.seq (FW.region ?_)
 obtain ⟨b21, w22, run23, S24⟩ := S0.box (P := Try.prog) 29 [Value.int .i64 a1.vars, v1_1] (v := Value.agg #[Value.int .i64 a1.vars, v1_1]) rfl (ones_cons rfl (ones_cons p1_1.one ones_nil))
 refine FL.v (E.box rfl run23) ?_
 obtain ⟨H25, S26, i27, at28⟩ := S24.sealBox (i := 0) (l' := []) rfl rfl
 refine FL.v (E.assign (v := Value.slice none 0 0) rfl) ?_
 refine FL.v (E.assign (v := Value.bool false) rfl) ?_
 refine FL.nil (FW.seq (FW.seq (FW.region ?_)))
 refine FL.v (E.move (v := Value.int .i64 a0) rfl) ?_
 refine FL.v (E.load rfl (run_loadA Try.isAgg29 Try.sizeOf29 (at28.now S26.sl) rfl)) ?_
 obtain ⟨r29, hr30, hp⟩ := bnd hp
 refine FL.call rfl rfl rfl (E.call Try.call14 (A2 rfl rfl)) (w_spec_l19Takes S26.sl a0 a1 v1_1 (p1_1.mono i27) hr30) ?_
 rintro e w31 ⟨rfl, r32⟩
 refine ⟨_, rfl, ?_⟩
 have S33 := S26.call r32
 refine FL.v (E.not rfl) ?_
 refine FL.v (E.move (v := Value.bool (!r29)) rfl) ?_
 refine FL.cut 4 (fun f w => ∃ H : GH, St Ha wa H w [] ∧ Inc H25 H ∧ f 0 = Value.int .i64 a0 ∧ f 2 = Value.int .i64 a2 ∧ f 4 = Value.pointer (some ⟨b21, 0, none⟩) ∧ f 16 = Value.bool (bif (!r29) then true else (!(PF.spec_l19Degree a2)))) ?_ ?_
 ·
  rcases bcase (!r29) with c43 | c43
  ·
   refine FL.skip (wF_no rfl rfl rfl c43) rfl ?_
   refine FL.skip (wF_no rfl rfl rfl c43) rfl ?_
   refine FL.skip (wF_no rfl rfl rfl c43) rfl ?_
   refine FL.v (E.pickT rfl c43 rfl) ?_
   exact FL.nil ⟨rfl, _, S33, (Inc.rfl _), rfl, rfl, rfl, (congrArg Value.bool (bifT c43).symm)⟩
  ·
   refine FL.val (wF_yes rfl rfl rfl c43) rfl rfl (E.move (v := Value.int .i64 a2) rfl) ?_
   refine FL.call (wF_yes rfl rfl rfl c43) rfl rfl (E.call Try.call15 (A1 rfl)) (w_spec_l19Degree S33.sl a2) ?_
   rintro e w44 ⟨rfl, r45⟩
   refine ⟨_, rfl, ?_⟩
   have S46 := S33.call r45
   refine FL.val (wF_yes rfl rfl rfl c43) rfl rfl (E.not rfl) ?_
   refine FL.v (E.pickF rfl c43 rfl) ?_
   exact FL.nil ⟨rfl, _, S46, (Inc.rfl _), rfl, rfl, rfl, (congrArg Value.bool (bifF c43).symm)⟩
 rintro f42 w41 ⟨H38, S39, i40, k47, k48, k49, k50⟩
 refine FL.nil ?_
 rcases ifB hp with ⟨c51, hp⟩ | ⟨c51, hp⟩
 ·
  refine FW.condT k50 c51 ?_
  refine FW.seq (FW.region ?_)
  obtain ⟨v52, w53, run54, S55⟩ := S39.buildSlice (P := Try.prog) te26 [] (parts := #[]) (cells := []) rfl szs_nil fc_nil ones_nil (Nat.le_of_ble_eq_true rfl)
  have els56 : Els (up wa.heap.size H38) (eL eTerm 2) 1 [] [] := Els.nil
  refine FL.v (E.buildSlice (B0) run54) ?_
  refine FL.v (E.assign (v := v52) rfl) ?_
  refine FL.v (E.assign (v := Value.bool false) rfl) ?_
  refine FL.nil ?_
  refine FW.ret ?_
  obtain rfl := Option.some.inj hp
  exact ⟨.inr rfl, res2 rfl rfl rfl ⟨_, _, _, _, rfl, S55, els56, (show (bl []).Nodup from List.nodup_nil)⟩⟩
 ·
  refine FW.condF k50 c51 ?_
  refine FW.skip (FW.seq (FW.region ?_))
  refine FL.v (E.move k47) ?_
  refine FL.v (E.load k49 (run_loadA Try.isAgg29 Try.sizeOf29 ((at28.mono i40).now S39.sl) rfl)) ?_
  refine FL.v (E.move k48) ?_
  obtain ⟨r57, hr58, hp⟩ := bnd hp
  refine FL.call rfl rfl rfl (E.call Try.call16 (A3 rfl rfl rfl)) (w_spec_l19Find S39.sl a0 a1 v1_1 (p1_1.mono (i27.tr i40)) a2 hr58) ?_
  rintro e w60 ⟨H59, v63, n64, cs65, rfl, r62, els66, nd67⟩
  refine ⟨_, rfl, ?_⟩
  have nv68 : New H38 cs65 := New.of_up S39.sl els66.dom
  have els66 := els66.mono (up_le S39.size)
  have S61 := S39.join (l' := [.row 62 1 v63 n64 cs65]) r62 rfl
  refine FL.v (E.extract (i := 0) rfl rfl) ?_
  refine FL.v (E.extract (i := 1) rfl rfl) ?_
  refine FL.v (E.assign (v := v63) rfl) ?_
  refine FL.v (E.assign (v := Value.bool r57.2) rfl) ?_
  refine FL.nil ?_
  refine FW.ret ?_
  obtain rfl := Option.some.inj hp
  exact ⟨.inr rfl, res2 rfl rfl rfl ⟨_, _, _, _, rfl, S61, els66, nd67⟩⟩

theorem w_impl_within {Ha : GH} {wa : World} (hs : Sl Ha wa) (a0 : Int) (a1 : Int) (a2 : Int) :
  Calls Try.prog 45 #[Value.int .i64 a0, Value.int .i64 a1, Value.int .i64 a2] wa (Sc Ha wa (Value.bool (PF.impl_within a0 a1 a2))) := by
 obtain ⟨r, hp⟩ : ∃ r, (PF.impl_within a0 a1 a2) = r := ⟨_, rfl⟩
 rw [hp]
 unfold PF.impl_within at hp
 have S0 := St.init hs
 refine calls_go (N := 15) (args := [Value.int .i64 a0, Value.int .i64 a1, Value.int .i64 a2]) Try.func45 rfl rfl rfl ?_
 refine FW.seq (FW.region ?_)
 refine FL.v (E.assign (v := Value.bool false) rfl) ?_
 refine FL.nil (FW.seq (FW.region ?_))
 refine FL.v (E.move (v := Value.int .i64 a0) rfl) ?_
 refine FL.v (E.move (v := Value.int .i64 a1) rfl) ?_
 refine FL.v (E.geq rfl rfl) ?_
 refine FL.v (E.move (v := Value.bool (decide (a1 ≤ a0))) rfl) ?_
 refine FL.cut 4 (fun f w => ∃ H : GH, St Ha wa H w [] ∧ Inc Ha H ∧ f 14 = Value.bool (bif (decide (a1 ≤ a0)) then (decide (a0 ≤ a2)) else false)) ?_ ?_
 ·
  rcases bcase (decide (a1 ≤ a0)) with c27 | c27
  ·
   refine FL.val (wF_yes rfl rfl rfl c27) rfl rfl (E.move (v := Value.int .i64 a0) rfl) ?_
   refine FL.val (wF_yes rfl rfl rfl c27) rfl rfl (E.move (v := Value.int .i64 a2) rfl) ?_
   refine FL.val (wF_yes rfl rfl rfl c27) rfl rfl (E.leq rfl rfl) ?_
   refine FL.v (E.pickT rfl c27 rfl) ?_
   exact FL.nil ⟨rfl, _, S0, (Inc.rfl _), (congrArg Value.bool (bifT c27).symm)⟩
  ·
   refine FL.skip (wF_no rfl rfl rfl c27) rfl ?_
   refine FL.skip (wF_no rfl rfl rfl c27) rfl ?_
   refine FL.skip (wF_no rfl rfl rfl c27) rfl ?_
   refine FL.v (E.pickF rfl c27 rfl) ?_
   exact FL.nil ⟨rfl, _, S0, (Inc.rfl _), (congrArg Value.bool (bifF c27).symm)⟩
 rintro f26 w25 ⟨H22, S23, i24, k28⟩
 refine FL.v (E.assign k28) ?_
 refine FL.nil ?_
 refine FW.ret ?_
 obtain rfl := hp
 exact ⟨.inr rfl, res1 rfl rfl ⟨rfl, S23.back⟩⟩

theorem w_impl_ringOf {Ha : GH} {wa : World} (hs : Sl Ha wa) (a0 : Int) (a1 : Int) :
  Calls Try.prog 42 #[Value.int .i64 a0, Value.int .i64 a1] wa (Sc Ha wa (Value.tuple #[Value.agg #[Value.int .i64 (((PF.impl_ringOf a0 a1).1).p), Value.int .i64 (((PF.impl_ringOf a0 a1).1).vars)], Value.bool ((PF.impl_ringOf a0 a1).2)])) := by
 obtain ⟨r, hp⟩ : ∃ r, (PF.impl_ringOf a0 a1) = r := ⟨_, rfl⟩
 rw [hp]
 unfold PF.impl_ringOf at hp
 have S0 := St.init hs
 refine calls_go (N := 23) (args := [Value.int .i64 a0, Value.int .i64 a1]) Try.func42 rfl rfl rfl ?_
 refine FW.seq (FW.region ?_)
 obtain ⟨b21, w22, run23, S24⟩ := S0.alloc (P := Try.prog) 53 [Value.int .i64 0, Value.int .i64 0] Try.zeroValue53 rfl (ones_cons rfl (ones_cons rfl ones_nil))
 refine FL.v (E.alloc run23) ?_
 refine FL.v (E.assign (v := Value.bool false) rfl) ?_
 refine FL.nil (FW.seq (FW.region ?_))
 refine FL.v (E.move (v := Value.int .i64 a0) rfl) ?_
 refine FL.v (E.move (v := Value.int .i64 a1) rfl) ?_
 refine FL.v (E.build (B2 rfl rfl) (run_build _ 53 #[(0, Value.int .i64 a0), (1, Value.int .i64 a1)] #[Value.int .i64 a0, Value.int .i64 a1] (by rfl))) ?_
 refine FL.v (E.move (v := Value.int .i64 a0) rfl) ?_
 refine FL.v (E.eql rfl rfl) ?_
 refine FL.v (E.move (v := Value.bool (a0 == 2)) rfl) ?_
 refine FL.cut 3 (fun f w => ∃ H : GH, St Ha wa H w [.box b21 53 [Value.int .i64 0, Value.int .i64 0]] ∧ Inc Ha H ∧ f 0 = Value.int .i64 a0 ∧ f 1 = Value.int .i64 a1 ∧ f 4 = Value.pointer (some (⟨b21, 0, none⟩ : Addr)) ∧ f 8 = Value.agg #[Value.int .i64 a0, Value.int .i64 a1] ∧ f 14 = Value.bool (bif (a0 == 2) then true else (a0 == 3))) ?_ ?_
 ·
  rcases bcase (a0 == 2) with c31 | c31
  ·
   refine FL.skip (wF_no rfl rfl rfl c31) rfl ?_
   refine FL.skip (wF_no rfl rfl rfl c31) rfl ?_
   refine FL.v (E.pickT rfl c31 rfl) ?_
   exact FL.nil ⟨rfl, _, S24, (Inc.rfl _), rfl, rfl, rfl, rfl, (congrArg Value.bool (bifT c31).symm)⟩
  ·
   refine FL.val (wF_yes rfl rfl rfl c31) rfl rfl (E.move (v := Value.int .i64 a0) rfl) ?_
   refine FL.val (wF_yes rfl rfl rfl c31) rfl rfl (E.eql rfl rfl) ?_
   refine FL.v (E.pickF rfl c31 rfl) ?_
   exact FL.nil ⟨rfl, _, S24, (Inc.rfl _), rfl, rfl, rfl, rfl, (congrArg Value.bool (bifF c31).symm)⟩
 rintro f30 w29 ⟨H26, S27, i28, k32, k33, k34, k35, k36⟩
 refine FL.v (E.move k36) ?_
 refine FL.cut 3 (fun f w => ∃ H : GH, St Ha wa H w [.box b21 53 [Value.int .i64 0, Value.int .i64 0]] ∧ Inc H26 H ∧ f 1 = Value.int .i64 a1 ∧ f 4 = Value.pointer (some (⟨b21, 0, none⟩ : Addr)) ∧ f 8 = Value.agg #[Value.int .i64 a0, Value.int .i64 a1] ∧ f 18 = Value.bool (bif (bif (a0 == 2) then true else (a0 == 3)) then true else (a0 == 5))) ?_ ?_
 ·
  rcases bcase (bif (a0 == 2) then true else (a0 == 3)) with c43 | c43
  ·
   refine FL.skip (wF_no rfl rfl rfl c43) rfl ?_
   refine FL.skip (wF_no rfl rfl rfl c43) rfl ?_
   refine FL.v (E.pickT rfl c43 rfl) ?_
   exact FL.nil ⟨rfl, _, S27, (Inc.rfl _), k33, k34, k35, (congrArg Value.bool (bifT c43).symm)⟩
  ·
   refine FL.val (wF_yes rfl rfl rfl c43) rfl rfl (E.move k32) ?_
   refine FL.val (wF_yes rfl rfl rfl c43) rfl rfl (E.eql rfl rfl) ?_
   refine FL.v (E.pickF rfl c43 rfl) ?_
   exact FL.nil ⟨rfl, _, S27, (Inc.rfl _), k33, k34, k35, (congrArg Value.bool (bifF c43).symm)⟩
 rintro f42 w41 ⟨H38, S39, i40, k44, k45, k46, k47⟩
 refine FL.v (E.move k47) ?_
 refine FL.cut 3 (fun f w => ∃ H : GH, St Ha wa H w [.box b21 53 [Value.int .i64 0, Value.int .i64 0]] ∧ Inc H38 H ∧ f 4 = Value.pointer (some (⟨b21, 0, none⟩ : Addr)) ∧ f 8 = Value.agg #[Value.int .i64 a0, Value.int .i64 a1] ∧ f 22 = Value.bool (bif (bif (bif (a0 == 2) then true else (a0 == 3)) then true else (a0 == 5)) then (PF.impl_within a1 0 6) else false)) ?_ ?_
 ·
  rcases bcase (bif (bif (a0 == 2) then true else (a0 == 3)) then true else (a0 == 5)) with c57 | c57
  ·
   refine FL.val (wF_yes rfl rfl rfl c57) rfl rfl (E.move k44) ?_
   refine FL.call (wF_yes rfl rfl rfl c57) rfl rfl (E.call Try.call45 (A3 rfl rfl rfl)) (w_impl_within S39.sl a1 0 6) ?_
   rintro e w58 ⟨rfl, r59⟩
   refine ⟨_, rfl, ?_⟩
   have S60 := S39.call r59
   refine FL.v (E.pickT rfl c57 rfl) ?_
   exact FL.nil ⟨rfl, _, S60, (Inc.rfl _), k45, k46, (congrArg Value.bool (bifT c57).symm)⟩
  ·
   refine FL.skip (wF_no rfl rfl rfl c57) rfl ?_
   refine FL.skip (wF_no rfl rfl rfl c57) rfl ?_
   refine FL.v (E.pickF rfl c57 rfl) ?_
   exact FL.nil ⟨rfl, _, S39, (Inc.rfl _), k45, k46, (congrArg Value.bool (bifF c57).symm)⟩
 rintro f56 w55 ⟨H52, S53, i54, k61, k62, k63⟩
 obtain ⟨w64, run65, S66⟩ := S53.store0 (P := Try.prog) (t := 53) (i := 0) (cs' := [Value.int .i64 a0, Value.int .i64 a1]) (l' := [.box b21 53 [Value.int .i64 a0, Value.int .i64 a1]]) (v := Value.agg #[Value.int .i64 a0, Value.int .i64 a1]) (c := [Value.int .i64 a0, Value.int .i64 a1]) rfl Try.sizeOf53 rfl rfl (ones_cons rfl (ones_cons rfl ones_nil)) (Nat.le_of_ble_eq_true rfl) rfl rfl
 refine FL.act rfl rfl (E.store k61 k62 run65) ?_
 obtain ⟨H67, S68, i69, at70⟩ := S66.sealBox (i := 0) (l' := []) rfl rfl
 refine FL.v (E.assign k63) ?_
 refine FL.nil ?_
 refine FW.ret ?_
 obtain rfl := hp
 exact ⟨.inr rfl, resC2 rfl k61 (loadVar_A Try.isAgg53 Try.sizeOf53 (at70.now S68.sl) rfl) rfl ⟨rfl, S68.back⟩⟩

theorem w_impl_isLiteral {Ha : GH} {wa : World} (hs : Sl Ha wa) (a0 : Int) (a1 : Int) :
  Calls Try.prog 72 #[Value.int .i64 a0, Value.int .i64 a1] wa (Sc Ha wa (Value.bool (PF.impl_isLiteral a0 a1))) := by
 obtain ⟨r, hp⟩ : ∃ r, (PF.impl_isLiteral a0 a1) = r := ⟨_, rfl⟩
 rw [hp]
 unfold PF.impl_isLiteral at hp
 have S0 := St.init hs
 refine calls_go (N := 14) (args := [Value.int .i64 a0, Value.int .i64 a1]) Try.func72 rfl rfl rfl ?_
 refine FW.seq (FW.region ?_)
 refine FL.v (E.assign (v := Value.bool false) rfl) ?_
 refine FL.nil (FW.seq (FW.region ?_))
 refine FL.v (E.move (v := Value.int .i64 a1) rfl) ?_
 refine FL.v (E.neq rfl rfl) ?_
 refine FL.v (E.move (v := Value.bool (!(a1 == 0))) rfl) ?_
 refine FL.cut 6 (fun f w => ∃ H : GH, St Ha wa H w [] ∧ Inc Ha H ∧ f 13 = Value.bool (bif (!(a1 == 0)) then (PF.impl_within a1 (wr (-a0)) a0) else false)) ?_ ?_
 ·
  rcases bcase (!(a1 == 0)) with c30 | c30
  ·
   refine FL.val (wF_yes rfl rfl rfl c30) rfl rfl (E.move (v := Value.int .i64 a1) rfl) ?_
   refine FL.val (wF_yes rfl rfl rfl c30) rfl rfl (E.move (v := Value.int .i64 a0) rfl) ?_
   refine FL.val (wF_yes rfl rfl rfl c30) rfl rfl (E.neg rfl) ?_
   refine FL.val (wF_yes rfl rfl rfl c30) rfl rfl (E.move (v := Value.int .i64 a0) rfl) ?_
   refine FL.call (wF_yes rfl rfl rfl c30) rfl rfl (E.call Try.call45 (A3 rfl rfl rfl)) (w_impl_within S0.sl a1 (wr (-a0)) a0) ?_
   rintro e w31 ⟨rfl, r32⟩
   refine ⟨_, rfl, ?_⟩
   have S33 := S0.call r32
   refine FL.v (E.pickT rfl c30 rfl) ?_
   exact FL.nil ⟨rfl, _, S33, (Inc.rfl _), (congrArg Value.bool (bifT c30).symm)⟩
  ·
   refine FL.skip (wF_no rfl rfl rfl c30) rfl ?_
   refine FL.skip (wF_no rfl rfl rfl c30) rfl ?_
   refine FL.skip (wF_no rfl rfl rfl c30) rfl ?_
   refine FL.skip (wF_no rfl rfl rfl c30) rfl ?_
   refine FL.skip (wF_no rfl rfl rfl c30) rfl ?_
   refine FL.v (E.pickF rfl c30 rfl) ?_
   exact FL.nil ⟨rfl, _, S0, (Inc.rfl _), (congrArg Value.bool (bifF c30).symm)⟩
 rintro f29 w28 ⟨H25, S26, i27, k34⟩
 refine FL.v (E.assign k34) ?_
 refine FL.nil ?_
 refine FW.ret ?_
 obtain rfl := hp
 exact ⟨.inr rfl, res1 rfl rfl ⟨rfl, S26.back⟩⟩

theorem w_impl_abs {Ha : GH} {wa : World} (hs : Sl Ha wa) (a0 : Int) :
  Calls Try.prog 73 #[Value.int .i64 a0] wa (Sc Ha wa (Value.int .i64 (PF.impl_abs a0))) := by
 obtain ⟨r, hp⟩ : ∃ r, (PF.impl_abs a0) = r := ⟨_, rfl⟩
 rw [hp]
 unfold PF.impl_abs at hp
 have S0 := St.init hs
 refine calls_go (N := 7) (args := [Value.int .i64 a0]) Try.func73 rfl rfl rfl ?_
 refine FW.seq (FW.region ?_)
 refine FL.v (E.assign (v := Value.int .i64 0) rfl) ?_
 refine FL.nil (FW.seq (FW.region ?_))
 refine FL.v (E.move (v := Value.int .i64 a0) rfl) ?_
 refine FL.v (E.move (v := Value.int .i64 a0) rfl) ?_
 refine FL.v (E.neg rfl) ?_
 refine FL.v (E.max2 rfl rfl) ?_
 refine FL.v (E.assign (v := Value.int .i64 (mx a0 (wr (-a0)))) rfl) ?_
 refine FL.nil ?_
 refine FW.ret ?_
 obtain rfl := hp
 exact ⟨.inr rfl, res1 rfl rfl ⟨rfl, S0.back⟩⟩

theorem w_impl_varsOk {Ha : GH} {wa : World} (hs : Sl Ha wa) (a0 : Int) :
  Calls Try.prog 59 #[Value.int .i64 a0] wa (Sc Ha wa (Value.bool (PF.impl_varsOk a0))) := by
 obtain ⟨r, hp⟩ : ∃ r, (PF.impl_varsOk a0) = r := ⟨_, rfl⟩
 rw [hp]
 unfold PF.impl_varsOk at hp
 have S0 := St.init hs
 refine calls_go (N := 5) (args := [Value.int .i64 a0]) Try.func59 rfl rfl rfl ?_
 refine FW.seq (FW.region ?_)
 refine FL.v (E.assign (v := Value.bool false) rfl) ?_
 refine FL.nil (FW.seq (FW.region ?_))
 refine FL.v (E.move (v := Value.int .i64 a0) rfl) ?_
 refine FL.call rfl rfl rfl (E.call Try.call45 (A3 rfl rfl rfl)) (w_impl_within S0.sl a0 0 12) ?_
 rintro e w21 ⟨rfl, r22⟩
 refine ⟨_, rfl, ?_⟩
 have S23 := S0.call r22
 refine FL.v (E.assign (v := Value.bool (PF.impl_within a0 0 12)) rfl) ?_
 refine FL.nil ?_
 refine FW.ret ?_
 obtain rfl := hp
 exact ⟨.inr rfl, res1 rfl rfl ⟨rfl, S23.back⟩⟩

theorem w_impl_IsClause {Ha : GH} {wa : World} (hs : Sl Ha wa) (a0 : Int) (v1 : Value) (a1 : List Int) (p1 : RSl Ha eI 1 v1 a1) {r : Bool} (hp : (PF.impl_IsClause a0 a1) = some r) :
  Calls Try.prog 58 #[Value.int .i64 a0, v1] wa (Sc Ha wa (Value.bool r)) := by
 unfold PF.impl_IsClause at hp
 have S0 := St.init hs
 refine calls_go (N := 36) (args := [Value.int .i64 a0, v1]) Try.func58 rfl rfl rfl ?_
 refine FW.seq (FW.region ?_)
 refine FL.v (E.assign (v := Value.bool false) rfl) ?_
 refine FL.nil (FW.seq (FW.seq (FW.region ?_)))
 refine FL.v (E.move (v := v1) rfl) ?_
 refine FL.v (E.lenP te47 rfl p1) ?_
 refine FL.v (E.move (v := Value.int .i64 0) rfl) ?_
 refine FL.nil ?_
 obtain ⟨q22, hq, hp⟩ := bndR hp
 refine FW.block ?_
 refine FW.mono (FW.forL (S := Unit) (X := Bool) (fun (i22 : Nat) (s22 : Unit) f w => ∃ H : GH, St Ha wa H w [] ∧ Inc Ha H ∧ f 9 = Value.int .i64 ((i22 : Nat) : Int) ∧ f 0 = Value.int .i64 a0 ∧ f 1 = v1 ∧ f 7 = v1 ∧ f 8 = Value.int .i64 (len a1)) (fun q e f w => match q with | .go s22 => e = Exit.exit 0 ∧ (∃ H : GH, St Ha wa H w [] ∧ Inc Ha H ∧ f 0 = Value.int .i64 a0) | .rt x => ((e = Exit.ret) ∧ (fun e f w => (e = Exit.normal ∨ e = Exit.ret) ∧ ∀ a, Fr (δ := []) 36 a f → ∃ v, (results Try.f58 a.tmps).run Try.prog w = .ok v w ∧ (Sc Ha wa (Value.bool x)) (.returned v) w) e f w)) hq ⟨_, S0, (Inc.rfl _), rfl, rfl, rfl, rfl, rfl⟩ ?_ ?_) ?_
 ·
  clear hp hq
  rintro i22 y21 s22 f121 w120 ⟨H117, S118, i119, k122, k123, k124, k125, k126⟩ hx22 o211 hp
  refine FW.seq (FW.region ?_)
  refine FL.v (E.lssT k122 k126 (lss_len hx22)) ?_
  refine FL.nil (FW.seq ?_)
  refine FW.condT rfl rfl ?_
  refine FW.skip (FW.seq (FW.block (FW.seq (FW.region ?_))))
  refine FL.v (E.move k122) ?_
  obtain ⟨p127, cs128, pt129, l130, at131, rel132⟩ := p1.at (ix_nat hx22)
  obtain rfl := eI_open rel132
  refine FL.v (E.indexAddr te47 k125 k122 pt129) ?_
  refine FL.v (E.load rfl (run_load0 Try.isAgg3 ((at131.mono i119).now S118.sl) rfl)) ?_
  refine FL.v (E.assign (v := Value.int .i64 ((i22 : Nat) : Int)) rfl) ?_
  refine FL.v (E.assign (v := Value.int .i64 y21) rfl) ?_
  refine FL.nil (FW.seq ?_)
  refine FW.draw (fun w' => Run w120.heap.size H117 w120 H117 w') (by kernel_rfl) (by kernel_rfl) (run_drew S118.sl) ?_
  refine FD.val rfl rfl rfl (fun w' hw' => (E.move k123)) ?_
  refine FD.val rfl rfl rfl (fun w' hw' => (E.move (v := Value.int .i64 y21) rfl)) ?_
  refine FD.call rfl rfl rfl (fun w' hw' => (E.call Try.call72 (A2 rfl rfl))) (fun w' hw' => Calls.cls hw' (w_impl_isLiteral (S118.call hw').sl a0 y21)) ?_
  refine FD.val rfl rfl rfl (fun w' hw' => (E.not rfl)) ?_
  refine FD.val rfl rfl rfl (fun w' hw' => (E.move (v := Value.bool (!(PF.impl_isLiteral a0 y21))) rfl)) ?_
  obtain ⟨t164, hqt164, hp⟩ := bnd hp
  refine FD.cut 14 (fun f => f 0 = Value.int .i64 a0 ∧ f 1 = v1 ∧ f 7 = v1 ∧ f 8 = Value.int .i64 (len a1) ∧ f 9 = Value.int .i64 ((i22 : Nat) : Int) ∧ f 32 = Value.bool t164) ?_ ?_
  ·
   clear hp; have hp := hqt164; clear hqt164
   rcases ifB hp with ⟨c170, hp⟩ | ⟨c170, hp⟩
   ·
    refine FD.skip (wF_no rfl rfl rfl c170) rfl ?_
    refine FD.skip (wF_no rfl rfl rfl c170) rfl ?_
    refine FD.skip (wF_no rfl rfl rfl c170) rfl ?_
    refine FD.skip (wF_undef rfl rfl rfl) rfl ?_
    refine FD.skip (wF_undef rfl rfl rfl) rfl ?_
    refine FD.skip (wF_undef rfl rfl rfl) rfl ?_
    refine FD.skip (wF_undef rfl rfl rfl) rfl ?_
    refine FD.skip (wF_undef rfl rfl rfl) rfl ?_
    refine FD.skip (wF_undef rfl rfl rfl) rfl ?_
    refine FD.skip (wF_undef rfl rfl rfl) rfl ?_
    refine FD.skip (wF_undef rfl rfl rfl) rfl ?_
    refine FD.skip (wF_undef rfl rfl rfl) rfl ?_
    refine FD.skip (wF_no rfl rfl rfl c170) rfl ?_
    obtain rfl := Option.some.inj hp
    refine FD.val rfl rfl rfl (fun w' hw' => (E.pickT rfl c170 rfl)) ?_
    exact FD.nil ⟨k123, k124, k125, k126, k122, rfl⟩
   ·
    refine FD.val (wF_yes rfl rfl rfl c170) rfl rfl (fun w' hw' => (E.move (v := Value.int .i64 ((i22 : Nat) : Int)) rfl)) ?_
    refine FD.val (wF_yes rfl rfl rfl c170) rfl rfl (fun w' hw' => (E.gtr rfl rfl)) ?_
    refine FD.val (wF_yes rfl rfl rfl c170) rfl rfl (fun w' hw' => (E.move (v := Value.bool (decide (0 < ((i22 : Nat) : Int)))) rfl)) ?_
    obtain ⟨t179, hqt179, hp⟩ := bnd hp
    refine FD.cut 10 (fun f => f 0 = Value.int .i64 a0 ∧ f 1 = v1 ∧ f 7 = v1 ∧ f 8 = Value.int .i64 (len a1) ∧ f 9 = Value.int .i64 ((i22 : Nat) : Int) ∧ f 18 = Value.bool (!(PF.impl_isLiteral a0 y21)) ∧ f 31 = Value.bool t179) ?_ ?_
    ·
     clear hp; have hp := hqt179; clear hqt179
     rcases ifB hp with ⟨c185, hp⟩ | ⟨c185, hp⟩
     ·
      refine FD.val (wF_yes rfl rfl rfl c185) rfl rfl (fun w' hw' => (E.move (v := Value.int .i64 y21) rfl)) ?_
      refine FD.call (wF_yes rfl rfl rfl c185) rfl rfl (fun w' hw' => (E.call Try.call73 (A1 rfl))) (fun w' hw' => Calls.cls hw' (w_impl_abs (S118.call hw').sl y21)) ?_
      refine FD.val (wF_yes rfl rfl rfl c185) rfl rfl (fun w' hw' => (E.move k124)) ?_
      refine FD.val (wF_yes rfl rfl rfl c185) rfl rfl (fun w' hw' => (E.move (v := Value.int .i64 ((i22 : Nat) : Int)) rfl)) ?_
      refine FD.val (wF_yes rfl rfl rfl c185) rfl rfl (fun w' hw' => (E.sub rfl rfl)) ?_
      obtain ⟨x192, hx193, hp⟩ := bnd hp
      obtain ⟨p186, cs187, pt188, l189, at190, rel191⟩ := p1.at hx193
      obtain rfl := eI_open rel191
      refine FD.val (wF_yes rfl rfl rfl c185) rfl rfl (fun w' hw' => (E.indexAddr te47 rfl rfl pt188)) ?_
      refine FD.val (wF_yes rfl rfl rfl c185) rfl rfl (fun w' hw' => (E.load rfl (run_load0 Try.isAgg3 ((at190.mono i119).now (S118.call hw').sl) rfl))) ?_
      refine FD.call (wF_yes rfl rfl rfl c185) rfl rfl (fun w' hw' => (E.call Try.call73 (A1 rfl))) (fun w' hw' => Calls.cls hw' (w_impl_abs (S118.call hw').sl x192)) ?_
      refine FD.val (wF_yes rfl rfl rfl c185) rfl rfl (fun w' hw' => (E.leq rfl rfl)) ?_
      obtain rfl := Option.some.inj hp
      refine FD.val (wF_yes rfl rfl rfl c170) rfl rfl (fun w' hw' => (E.pickT rfl c185 rfl)) ?_
      exact FD.nil ⟨k123, k124, k125, k126, k122, rfl, rfl⟩
     ·
      refine FD.skip (wF_no rfl rfl rfl c185) rfl ?_
      refine FD.skip (wF_no rfl rfl rfl c185) rfl ?_
      refine FD.skip (wF_no rfl rfl rfl c185) rfl ?_
      refine FD.skip (wF_no rfl rfl rfl c185) rfl ?_
      refine FD.skip (wF_no rfl rfl rfl c185) rfl ?_
      refine FD.skip (wF_no rfl rfl rfl c185) rfl ?_
      refine FD.skip (wF_no rfl rfl rfl c185) rfl ?_
      refine FD.skip (wF_no rfl rfl rfl c185) rfl ?_
      refine FD.skip (wF_no rfl rfl rfl c185) rfl ?_
      obtain rfl := Option.some.inj hp
      refine FD.val (wF_yes rfl rfl rfl c170) rfl rfl (fun w' hw' => (E.pickF rfl c185 rfl)) ?_
      exact FD.nil ⟨k123, k124, k125, k126, k122, rfl, rfl⟩
    rintro f184 ⟨k194, k195, k196, k197, k198, k199, k200⟩
    obtain rfl := Option.some.inj hp
    refine FD.val rfl rfl rfl (fun w' hw' => (E.pickF k199 c170 k200)) ?_
    exact FD.nil ⟨k194, k195, k196, k197, k198, rfl⟩
  rintro f169 ⟨k201, k202, k203, k204, k205, k206⟩
  refine FD.nil ?_
  intro w207 r209
  have S208 := S118.call r209
  rcases ifB hp with ⟨c210, hp⟩ | ⟨c210, hp⟩
  ·
   refine FW.condT k206 c210 ?_
   refine FW.seq (FW.region ?_)
   refine FL.v (E.assign (v := Value.bool false) rfl) ?_
   refine FL.nil ?_
   refine FW.ret ?_
   obtain rfl := Option.some.inj hp
   exact ⟨nofun, rfl, ⟨.inr rfl, res1 rfl rfl ⟨rfl, S208.back⟩⟩⟩
  ·
   refine FW.condF k206 c210 ?_
   refine FW.skip (FW.region ?_)
   refine FL.v (E.add k205 rfl) ?_
   refine FL.v (E.move (v := Value.int .i64 (wr (((i22 : Nat) : Int) + 1))) rfl) ?_
   refine FL.nil ?_
   obtain rfl := Option.some.inj hp
   exact ⟨rfl, ⟨_, S208, i119, (nat_succ rfl (lt_of_get hx22) (p1.mono i119).le), k201, k202, k203, k204⟩⟩
 ·
  clear hp hq
  rintro s22 f225 w224 ⟨H221, S222, i223, k226, k227, k228, k229, k230⟩
  refine FW.seq (FW.region ?_)
  refine FL.v (E.lss k226 k230) ?_
  refine FL.nil (FW.seq ?_)
  refine FW.condF rfl dlt_len ?_
  refine FW.exit ?_
  exact ⟨nofun, rfl, ⟨_, S222, i223, k227⟩⟩
 ·
  clear hq
  intro e f216 w215 hD
  rcases q22 with s22 | x22
  ·
   obtain ⟨rfl, hD⟩ := hD
   obtain ⟨H212, S213, i214, k217⟩ := hD
   replace hp := el_go hp
   refine FW.seq (FW.region ?_)
   refine FL.v (E.move k217) ?_
   refine FL.call rfl rfl rfl (E.call Try.call59 (A1 rfl)) (w_impl_varsOk S213.sl a0) ?_
   rintro e w218 ⟨rfl, r219⟩
   refine ⟨_, rfl, ?_⟩
   have S220 := S213.call r219
   refine FL.v (E.assign (v := Value.bool (PF.impl_varsOk a0)) rfl) ?_
   refine FL.nil ?_
   refine FW.ret ?_
   obtain rfl := Option.some.inj hp
   exact ⟨.inr rfl, res1 rfl rfl ⟨rfl, S220.back⟩⟩
  ·
   obtain ⟨he, hL⟩ := hD
   replace hp := el_rt hp
   obtain rfl := Option.some.inj hp
   subst he
   exact hL

theorem w_impl_IsCnf {Ha : GH} {wa : World} (hs : Sl Ha wa) (a0 : Cnf) (v0_1 : Value) (p0_1 : RSl Ha (eL eI 1) 1 v0_1 a0.clauses) {r : Bool} (hp : (PF.impl_IsCnf a0) = some r) :
  Calls Try.prog 43 #[Value.agg #[Value.int .i64 a0.vars, v0_1]] wa (Sc Ha wa (Value.bool r)) := by
 unfold PF.impl_IsCnf at hp
 have S0 := St.init hs
 refine calls_go (N := 27) (args := [Value.agg #[Value.int .i64 a0.vars, v0_1]]) Try.func43 rfl rfl rfl ?_
 refine FW.seq (FW.region ?_)
 obtain ⟨b21, w22, run23, S24⟩ := S0.box (P := Try.prog) 29 [Value.int .i64 a0.vars, v0_1] (v := Value.agg #[Value.int .i64 a0.vars, v0_1]) rfl (ones_cons rfl (ones_cons p0_1.one ones_nil))
 refine FL.v (E.box rfl run23) ?_
 obtain ⟨H25, S26, i27, at28⟩ := S24.sealBox (i := 0) (l' := []) rfl rfl
 refine FL.v (E.assign (v := Value.bool false) rfl) ?_
 refine FL.nil (FW.seq (FW.seq (FW.region ?_)))
 refine FL.v (E.fieldAddr tf29_1 rfl) ?_
 refine FL.v (E.load rfl (run_load1 Try.isAgg22 (at28.now S26.sl) rfl)) ?_
 refine FL.v (E.lenP te22 rfl p0_1) ?_
 refine FL.v (E.move (v := Value.int .i64 0) rfl) ?_
 refine FL.nil ?_
 obtain ⟨q30, hq, hp⟩ := bndR hp
 refine FW.block ?_
 refine FW.mono (FW.forL (S := Unit) (X := Bool) (fun (i30 : Nat) (s30 : Unit) f w => ∃ H : GH, St Ha wa H w [] ∧ Inc H25 H ∧ f 8 = Value.int .i64 ((i30 : Nat) : Int) ∧ f 1 = Value.pointer (some ⟨b21, 0, none⟩) ∧ f 6 = v0_1 ∧ f 7 = Value.int .i64 (len a0.clauses)) (fun q e f w => match q with | .go s30 => e = Exit.exit 0 ∧ (∃ H : GH, St Ha wa H w [] ∧ Inc H25 H ∧ f 1 = Value.pointer (some ⟨b21, 0, none⟩)) | .rt x => ((e = Exit.ret) ∧ (fun e f w => (e = Exit.normal ∨ e = Exit.ret) ∧ ∀ a, Fr (δ := []) 27 a f → ∃ v, (results Try.f43 a.tmps).run Try.prog w = .ok v w ∧ (Sc Ha wa (Value.bool x)) (.returned v) w) e f w)) hq ⟨_, S26, (Inc.rfl _), rfl, rfl, rfl, rfl⟩ ?_ ?_) ?_
 ·
  clear hp hq
  rintro i30 y29 s30 f58 w57 ⟨H54, S55, i56, k59, k60, k61, k62⟩ hx30 o77 hp
  refine FW.seq (FW.region ?_)
  refine FL.v (E.lssT k59 k62 (lss_len hx30)) ?_
  refine FL.nil (FW.seq ?_)
  refine FW.condT rfl rfl ?_
  refine FW.skip (FW.seq (FW.block (FW.seq (FW.region ?_))))
  obtain ⟨p63, cs64, pt65, l66, at67, rel68⟩ := p0_1.at (ix_nat hx30)
  obtain ⟨v69, rfl, h70⟩ := eL_open rel68
  refine FL.v (E.indexAddr te22 k61 k59 pt65) ?_
  refine FL.v (E.load rfl (run_load0 Try.isAgg47 ((at67.mono (i27.tr i56)).now S55.sl) rfl)) ?_
  refine FL.v (E.assign (v := v69) rfl) ?_
  refine FL.nil (FW.seq (FW.region ?_))
  refine FL.v (E.fieldAddr tf29_0 k60) ?_
  refine FL.v (E.load rfl (run_load1 Try.isAgg3 ((at28.mono i56).now S55.sl) rfl)) ?_
  refine FL.v (E.move (v := v69) rfl) ?_
  obtain ⟨r71, hr72, hp⟩ := bnd hp
  refine FL.call rfl rfl rfl (E.call Try.call58 (A2 rfl rfl)) (w_impl_IsClause S55.sl a0.vars v69 y29 (h70.mono (i27.tr i56)) hr72) ?_
  rintro e w73 ⟨rfl, r74⟩
  refine ⟨_, rfl, ?_⟩
  have S75 := S55.call r74
  refine FL.v (E.not rfl) ?_
  refine FL.nil ?_
  rcases ifB hp with ⟨c76, hp⟩ | ⟨c76, hp⟩
  ·
   refine FW.condT rfl c76 ?_
   refine FW.seq (FW.region ?_)
   refine FL.v (E.assign (v := Value.bool false) rfl) ?_
   refine FL.nil ?_
   refine FW.ret ?_
   obtain rfl := Option.some.inj hp
   exact ⟨nofun, rfl, ⟨.inr rfl, res1 rfl rfl ⟨rfl, S75.back⟩⟩⟩
  ·
   refine FW.condF rfl c76 ?_
   refine FW.skip (FW.region ?_)
   refine FL.v (E.add k59 rfl) ?_
   refine FL.v (E.move (v := Value.int .i64 (wr (((i30 : Nat) : Int) + 1))) rfl) ?_
   refine FL.nil ?_
   obtain rfl := Option.some.inj hp
   exact ⟨rfl, ⟨_, S75, i56, (nat_succ rfl (lt_of_get hx30) (p0_1.mono (i27.tr i56)).le), k60, k61, k62⟩⟩
 ·
  clear hp hq
  rintro s30 f99 w98 ⟨H95, S96, i97, k100, k101, k102, k103⟩
  refine FW.seq (FW.region ?_)
  refine FL.v (E.lss k100 k103) ?_
  refine FL.nil (FW.seq ?_)
  refine FW.condF rfl dlt_len ?_
  refine FW.exit ?_
  exact ⟨nofun, rfl, ⟨_, S96, i97, k101⟩⟩
 ·
  clear hq
  intro e f82 w81 hD
  rcases q30 with s30 | x30
  ·
   obtain ⟨rfl, hD⟩ := hD
   obtain ⟨H78, S79, i80, k83⟩ := hD
   replace hp := el_go hp
   refine FW.seq (FW.region ?_)
   refine FL.v (E.fieldAddr tf29_0 k83) ?_
   refine FL.v (E.load rfl (run_load1 Try.isAgg3 ((at28.mono i80).now S79.sl) rfl)) ?_
   refine FL.call rfl rfl rfl (E.call Try.call59 (A1 rfl)) (w_impl_varsOk S79.sl a0.vars) ?_
   rintro e w84 ⟨rfl, r85⟩
   refine ⟨_, rfl, ?_⟩
   have S86 := S79.call r85
   refine FL.v (E.move (v := Value.bool (PF.impl_varsOk a0.vars)) rfl) ?_
   refine FL.cut 5 (fun f w => ∃ H : GH, St Ha wa H w [] ∧ Inc H78 H ∧ f 26 = Value.bool (bif (PF.impl_varsOk a0.vars) then (decide ((len a0.clauses) ≤ 60)) else false)) ?_ ?_
   ·
    rcases bcase (PF.impl_varsOk a0.vars) with c93 | c93
    ·
     refine FL.val (wF_yes rfl rfl rfl c93) rfl rfl (E.fieldAddr tf29_1 k83) ?_
     refine FL.val (wF_yes rfl rfl rfl c93) rfl rfl (E.load rfl (run_load1 Try.isAgg22 ((at28.mono i80).now S86.sl) rfl)) ?_
     refine FL.val (wF_yes rfl rfl rfl c93) rfl rfl (E.lenP te22 rfl p0_1) ?_
     refine FL.val (wF_yes rfl rfl rfl c93) rfl rfl (E.leq rfl rfl) ?_
     refine FL.v (E.pickT rfl c93 rfl) ?_
     exact FL.nil ⟨rfl, _, S86, (Inc.rfl _), (congrArg Value.bool (bifT c93).symm)⟩
    ·
     refine FL.skip (wF_no rfl rfl rfl c93) rfl ?_
     refine FL.skip (wF_no rfl rfl rfl c93) rfl ?_
     refine FL.skip (wF_no rfl rfl rfl c93) rfl ?_
     refine FL.skip (wF_no rfl rfl rfl c93) rfl ?_
     refine FL.v (E.pickF rfl c93 rfl) ?_
     exact FL.nil ⟨rfl, _, S86, (Inc.rfl _), (congrArg Value.bool (bifF c93).symm)⟩
   rintro f92 w91 ⟨H88, S89, i90, k94⟩
   refine FL.v (E.assign k94) ?_
   refine FL.nil ?_
   refine FW.ret ?_
   obtain rfl := Option.some.inj hp
   exact ⟨.inr rfl, res1 rfl rfl ⟨rfl, S89.back⟩⟩
  ·
   obtain ⟨he, hL⟩ := hD
   replace hp := el_rt hp
   obtain rfl := Option.some.inj hp
   subst he
   exact hL

@[reducible] def p_impl_ring_zero (Ha : GH) (wa : World) (r : (List Int)) : Ending → World → Prop :=
 fun e w' => ∃ H' : GH, ∃ v0 : Value, ∃ n0 : Nat, ∃ c0 : List Value, e = .returned (v0) ∧ St Ha wa H' w' [.row 3 1 v0 n0 c0] ∧ Els (up wa.heap.size H') eI 1 c0 r
theorem w_impl_ring_zero {Ha : GH} {wa : World} (hs : Sl Ha wa) (a0 : ring) {r : (List Int)} (hp : (PF.impl_ring_zero a0) = some r) :
  Calls Try.prog 24 #[Value.agg #[Value.int .i64 a0.p, Value.int .i64 a0.vars]] wa (p_impl_ring_zero Ha wa r) := by
 unfold PF.impl_ring_zero at hp
 have S0 := St.init hs
 refine calls_go (N := 7) (args := [Value.agg #[Value.int .i64 a0.p, Value.int .i64 a0.vars]]) Try.func24 rfl rfl rfl ?_
 refine FW.seq (FW.region ?_)
 obtain ⟨b21, w22, run23, S24⟩ := S0.box (P := Try.prog) 53 [Value.int .i64 a0.p, Value.int .i64 a0.vars] (v := Value.agg #[Value.int .i64 a0.p, Value.int .i64 a0.vars]) rfl (ones_cons rfl (ones_cons rfl ones_nil))
 refine FL.v (E.box rfl run23) ?_
 obtain ⟨H25, S26, i27, at28⟩ := S24.sealBox (i := 0) (l' := []) rfl rfl
 refine FL.v (E.assign (v := Value.slice none 0 0) rfl) ?_
 refine FL.nil (FW.seq (FW.region ?_))
 refine FL.v (E.fieldAddr tf53_1 rfl) ?_
 refine FL.v (E.load rfl (run_load1 Try.isAgg3 (at28.now S26.sl) rfl)) ?_
 obtain ⟨u30, z29, hp⟩ := bnd hp
 refine FL.v (E.shl rfl rfl (nn_ge z29)) ?_
 obtain ⟨xs31, hm32, hp⟩ := bnd hp
 obtain ⟨v33, w34, n38, cs39, run35, S36, els37, hbl40⟩ := S26.makeEls (P := Try.prog) te48 (G := (up wa.heap.size H25)) (En := eI) (x0 := (0 : Int)) hm32 rfl (ones_cons rfl ones_nil) .i64 .i64
 refine FL.v (E.makeSlice rfl rfl run35) ?_
 refine FL.v (E.assign (v := v33) rfl) ?_
 refine FL.nil ?_
 refine FW.ret ?_
 obtain rfl := Option.some.inj hp
 exact ⟨.inr rfl, res1 rfl rfl ⟨_, _, _, _, rfl, S36, els37⟩⟩

@[reducible] def p_impl_ring_mono (Ha : GH) (wa : World) (r : (List Int)) : Ending → World → Prop :=
 fun e w' => ∃ H' : GH, ∃ v0 : Value, ∃ n0 : Nat, ∃ c0 : List Value, e = .returned (v0) ∧ St Ha wa H' w' [.row 3 1 v0 n0 c0] ∧ Els (up wa.heap.size H') eI 1 c0 r
theorem w_impl_ring_mono {Ha : GH} {wa : World} (hs : Sl Ha wa) (a0 : ring) (a1 : Int) {r : (List Int)} (hp : (PF.impl_ring_mono a0 a1) = some r) :
  Calls Try.prog 22 #[Value.agg #[Value.int .i64 a0.p, Value.int .i64 a0.vars], Value.int .i64 a1] wa (p_impl_ring_mono Ha wa r) := by
 unfold PF.impl_ring_mono at hp
 have S0 := St.init hs
 refine calls_go (N := 12) (args := [Value.agg #[Value.int .i64 a0.p, Value.int .i64 a0.vars], Value.int .i64 a1]) Try.func22 rfl rfl rfl ?_
 refine FW.seq (FW.region ?_)
 obtain ⟨b21, w22, run23, S24⟩ := S0.box (P := Try.prog) 53 [Value.int .i64 a0.p, Value.int .i64 a0.vars] (v := Value.agg #[Value.int .i64 a0.p, Value.int .i64 a0.vars]) rfl (ones_cons rfl (ones_cons rfl ones_nil))
 refine FL.v (E.box rfl run23) ?_
 obtain ⟨H25, S26, i27, at28⟩ := S24.sealBox (i := 0) (l' := []) rfl rfl
 refine FL.v (E.assign (v := Value.slice none 0 0) rfl) ?_
 refine FL.nil (FW.seq (FW.region ?_))
 refine FL.v (E.load rfl (run_loadA Try.isAgg53 Try.sizeOf53 (at28.now S26.sl) rfl)) ?_
 obtain ⟨r29, hr30, hp⟩ := bnd hp
 refine FL.call rfl rfl rfl (E.call Try.call24 (A1 rfl)) (w_impl_ring_zero S26.sl a0 hr30) ?_
 rintro e w32 ⟨H31, v35, n36, cs37, rfl, r34, els38⟩
 refine ⟨_, rfl, ?_⟩
 have els38 := els38.mono (up_le S26.size)
 have S33 := S26.join (l' := [.row 3 1 v35 n36 cs37]) r34 rfl
 refine FL.v (E.assign (v := v35) rfl) ?_
 refine FL.nil (FW.seq (FW.region ?_))
 refine FL.v (E.move (v := v35) rfl) ?_
 refine FL.v (E.move (v := Value.int .i64 a1) rfl) ?_
 obtain ⟨x45, hx46, hp⟩ := bnd hp
 obtain ⟨p39, cs40, pt41, l42, at43, rel44⟩ := S33.row_at (i := 0) rfl els38 (by decide) hx46
 obtain rfl := eI_open rel44
 refine FL.v (E.indexAddr te48 rfl rfl pt41) ?_
 obtain ⟨xs50, hput51, hp⟩ := bnd hp
 obtain ⟨w47, cs53, run48, S49, els52, ce54⟩ := S33.putEls (P := Try.prog) (t := 3) (i := 0) rfl els38 hput51 pt41 Try.sizeOf3 (u := Value.int .i64 1) (c := [Value.int .i64 1]) rfl rfl (ones_cons rfl ones_nil) rfl
 have S49 : St Ha wa H31 w47 [.row 3 1 v35 n36 cs53] := S49
 refine FL.act rfl rfl (E.store rfl rfl run48) ?_
 refine FL.nil (FW.seq (FW.region ?_))
 refine FL.v (E.move (v := v35) rfl) ?_
 refine FL.v (E.assign (v := v35) rfl) ?_
 refine FL.nil ?_
 refine FW.ret ?_
 obtain rfl := Option.some.inj hp
 exact ⟨.inr rfl, res1 rfl rfl ⟨_, _, _, _, rfl, S49, els52⟩⟩

@[reducible] def p_slices_Clone_impl_dense_int (Ha : GH) (wa : World) (r : (List Int)) : Ending → World → Prop :=
 fun e w' => ∃ H' : GH, ∃ v0 : Value, ∃ n0 : Nat, ∃ c0 : List Value, e = .returned (v0) ∧ St Ha wa H' w' [.row 3 1 v0 n0 c0] ∧ Els (up wa.heap.size H') eI 1 c0 r
theorem w_slices_Clone_impl_dense_int {Ha : GH} {wa : World} (hs : Sl Ha wa) (v0 : Value) (a0 : List Int) (p0 : RSl Ha eI 1 v0 a0) {r : (List Int)} (hp : (PF.slices_Clone_impl_dense_int a0) = some r) :
  Calls Try.prog 50 #[v0] wa (p_slices_Clone_impl_dense_int Ha wa r) := by
 unfold PF.slices_Clone_impl_dense_int at hp
 have S0 := St.init hs
 refine calls_go (N := 8) (args := [v0]) Try.func50 rfl rfl rfl ?_
 refine FW.seq (FW.region ?_)
 refine FL.v (E.assign (v := Value.slice none 0 0) rfl) ?_
 refine FL.nil (FW.seq (FW.seq (FW.region ?_)))
 refine FL.v (E.move (v := v0) rfl) ?_
 obtain ⟨nb21, run22, hn23⟩ := RSl.nilTest te48 p0
 refine FL.v (run22 _ _ _ _ _ _ _ _ _ _ _ _ rfl rfl) ?_
 refine FL.nil ?_
 rcases bcase nb21 with c24 | c24
 ·
  refine FW.condT (b := nb21) rfl c24 ?_
  rw [hn23 c24, app_nil2] at hp
  refine FW.seq (FW.region ?_)
  refine FL.v (E.assign (v := Value.slice none 0 0) rfl) ?_
  refine FL.nil ?_
  refine FW.ret ?_
  obtain rfl := Option.some.inj hp
  exact ⟨.inr rfl, res1 rfl rfl ⟨_, _, _, _, rfl, (S0.nil 3 1), Els.nil⟩⟩
 ·
  refine FW.condF (b := nb21) rfl c24 ?_
  refine FW.skip (FW.seq (FW.region ?_))
  obtain ⟨v25, w26, run27, S28⟩ := S0.buildSlice (P := Try.prog) te48 [] (parts := #[]) (cells := []) rfl szs_nil fc_nil ones_nil (Nat.le_of_ble_eq_true rfl)
  have els29 : Els (up wa.heap.size Ha) eI 1 [] [] := Els.nil
  refine FL.v (E.buildSlice (B0) run27) ?_
  refine FL.v (E.move (v := v0) rfl) ?_
  obtain ⟨xs30, hz31, hp⟩ := bnd hp
  obtain ⟨v32, w35, n33, cs34, run36, S37, els38⟩ := S28.appendP (P := Try.prog) (Inc.rfl _) te48 (i := 0) rfl (els29.mono upI) p0 hz31
  have S37 : St Ha wa Ha w35 [.row 3 1 v32 n33 cs34] := S37
  have els38 : Els (up wa.heap.size Ha) eI 1 cs34 xs30 := els38.any (fun _ _ _ _ h => h)
  refine FL.v (E.append rfl rfl run36) ?_
  refine FL.v (E.assign (v := v32) rfl) ?_
  refine FL.nil ?_
  refine FW.ret ?_
  obtain rfl := Option.some.inj hp
  exact ⟨.inr rfl, res1 rfl rfl ⟨_, _, _, _, rfl, S37, els38⟩⟩

@[reducible] def p_impl_ring_plus (Ha : GH) (wa : World) (r : (List Int)) : Ending → World → Prop :=
  fun e w' => ∃ H' : GH, ∃ v0 : Value, ∃ n0 : Nat, ∃ c0 : List Value, e = .returned (v0) ∧ St Ha wa H' w' [.row 3 1 v0 n0 c0] ∧ Els (up wa.heap.size H') eI 1 c0 r
theorem w_impl_ring_plus {Ha : GH} {wa : World} (hs : Sl Ha wa) (a0 : ring) (v1 : Value) (a1 : List Int) (p1 : RSl Ha eI 1 v1 a1) (v2 : Value) (a2 : List Int) (p2 : RSl Ha eI 1 v2 a2) (a3 : Int) {r : (List Int)} (hp : (PF.impl_ring_plus a0 a1 a2 a3) = some r) :
    Calls Try.prog 25 #[Value.agg #[Value.int .i64 a0.p, Value.int .i64 a0.vars], v1, v2, Value.int .i64 a3] wa (p_impl_ring_plus Ha wa r) := by
  unfold PF.impl_ring_plus at hp
  have S0 := St.init hs
  refine calls_go (N := 37) (args := [Value.agg #[Value.int .i64 a0.p, Value.int .i64 a0.vars], v1, v2, Value.int .i64 a3]) Try.func25 rfl rfl rfl ?_
  refine FW.seq (FW.region ?_)
  obtain ⟨b21, w22, run23, S24⟩ := S0.box (P := Try.prog) 53 [Value.int .i64 a0.p, Value.int .i64 a0.vars] (v := Value.agg #[Value.int .i64 a0.p, Value.int .i64 a0.vars]) rfl (ones_cons rfl (ones_cons rfl ones_nil))
  refine FL.v (E.box rfl run23) ?_
  obtain ⟨H25, S26, i27, at28⟩ := S24.sealBox (i := 0) (l' := []) rfl rfl
  refine FL.v (E.assign (v := Value.slice none 0 0) rfl) ?_
  refine FL.nil (FW.seq (FW.region ?_))
  refine FL.v (E.move (v := v1) rfl) ?_
  obtain ⟨r29, hr30, hp⟩ := bnd hp
  refine FL.call rfl rfl rfl (E.call Try.call50 (A1 rfl)) (w_slices_Clone_impl_dense_int S26.sl v1 a1 (p1.mono i27) hr30) ?_
  rintro e w32 ⟨H31, v35, n36, cs37, rfl, r34, els38⟩
  refine ⟨_, rfl, ?_⟩
  have els38 := els38.mono (up_le S26.size)
  have S33 := S26.join (l' := [.row 3 1 v35 n36 cs37]) r34 rfl
  refine FL.v (E.assign (v := v35) rfl) ?_
  refine FL.nil (FW.seq (FW.seq (FW.region ?_)))
  refine FL.v (E.move (v := v2) rfl) ?_
  refine FL.v (E.lenP te48 rfl p2) ?_
  refine FL.v (E.move (v := Value.int .i64 0) rfl) ?_
  refine FL.nil ?_
  obtain ⟨q40, hq, hp⟩ := bndR hp
  refine FW.block ?_
  refine FW.mono (FW.forL (S := (List Int)) (X := Empty) (fun (i40 : Nat) (s40 : (List Int)) f w => ∃ H : GH, ∃ v41 : Value, ∃ n42 : Nat, ∃ cs43 : List Value, St Ha wa H w [.row 3 1 v41 n42 cs43] ∧ Inc H31 H ∧ Els (up wa.heap.size H) eI 1 cs43 s40 ∧ f 16 = Value.int .i64 ((i40 : Nat) : Int) ∧ f 3 = Value.int .i64 a3 ∧ f 4 = Value.pointer (some ⟨b21, 0, none⟩) ∧ f 9 = v41 ∧ f 14 = v2 ∧ f 15 = Value.int .i64 (len a2)) (fun (q : Rs (List Int) Empty) e f w => match q with | .go s40 => e = Exit.exit 0 ∧ (∃ H : GH, ∃ v41 : Value, ∃ n42 : Nat, ∃ cs43 : List Value, St Ha wa H w [.row 3 1 v41 n42 cs43] ∧ Inc H31 H ∧ Els (up wa.heap.size H) eI 1 cs43 s40 ∧ f 9 = v41) | .rt x => x.elim) hq ⟨_, _, _, _, S33, (Inc.rfl _), els38, rfl, rfl, rfl, rfl, rfl, rfl⟩ ?_ ?_) ?_
  ·
    clear hp hq
    rintro i40 y39 s40 f50 w49 ⟨H45, v41, n42, cs43, S46, i47, els44, k51, k52, k54, k55, k56, k57⟩ hx40 o110 hp
    refine FW.seq (FW.region ?_)
    refine FL.v (E.lssT k51 k57 (lss_len hx40)) ?_
    refine FL.nil (FW.seq ?_)
    refine FW.condT rfl rfl ?_
    refine FW.skip (FW.seq (FW.block (FW.seq (FW.region ?_))))
    refine FL.v (E.move k51) ?_
    obtain ⟨p58, cs59, pt60, l61, at62, rel63⟩ := p2.at (ix_nat hx40)
    obtain rfl := eI_open rel63
    refine FL.v (E.indexAddr te48 k56 k51 pt60) ?_
    refine FL.v (E.load rfl (run_load0 Try.isAgg3 ((at62.mono ((i27.tr r34.run.inc).tr i47)).now S46.sl) rfl)) ?_
    refine FL.v (E.assign (v := Value.int .i64 ((i40 : Nat) : Int)) rfl) ?_
    refine FL.v (E.assign (v := Value.int .i64 y39) rfl) ?_
    refine FL.nil ?_
    obtain ⟨x73, hx74, hp⟩ := bnd hp
    obtain ⟨u77, z76, hp⟩ := bnd hp
    obtain ⟨x84, hx85, hp⟩ := bnd hp
    obtain ⟨xs90, hput91, hp⟩ := bnd hp
    refine FW.drawB (Sl H45) (fun f w => ∃ H : GH, ∃ v95 : Value, ∃ n96 : Nat, ∃ cs97 : List Value, St Ha wa H w [.row 3 1 v95 n96 cs97] ∧ Inc H45 H ∧ Els (up wa.heap.size H) eI 1 cs97 xs90 ∧ f 3 = Value.int .i64 a3 ∧ f 4 = Value.pointer (some ⟨b21, 0, none⟩) ∧ f 9 = v95 ∧ f 14 = v2 ∧ f 15 = Value.int .i64 (len a2) ∧ f 16 = Value.int .i64 ((i40 : Nat) : Int)) (by kernel_rfl) S46.sl ?_ ?_
    ·
      intro w64 r65
      have S66 := S46.call r65
      refine FB.t (i := 0) (bs 15 1) rfl (SP.nil S66.sl) rfl (fun w' hw' => (E.move k55)) ?_
      refine FB.t (i := 1) (bs 15 3) rfl (SP.nil S66.sl) rfl (fun w' hw' => (E.move (v := Value.int .i64 ((i40 : Nat) : Int)) rfl)) ?_
      refine FB.t (i := 2) (bs 15 7) rfl (SP.nil S66.sl) rfl (fun w' hw' => (E.move k55)) ?_
      refine FB.t (i := 3) (bs 15 15) rfl (SP.nil S66.sl) rfl (fun w' hw' => (E.move (v := Value.int .i64 ((i40 : Nat) : Int)) rfl)) ?_
      obtain ⟨p67, cs68, pt69, l70, at71, rel72, hall75⟩ := S66.row_atA (i := 0) rfl els44 (by decide) hx74
      obtain rfl := eI_open rel72
      refine FB.t (i := 4) (bs 15 31) rfl (SP.nil S66.sl) rfl (fun w' hw' => (E.indexAddr te48 rfl rfl pt69)) ?_
      refine FB.phase [14] (fun w' => WAt w' p67 [Value.int .i64 x73]) ?_
      refine FB.p (i := 5) (bs 15 63) 0 [9, 12, 13, 14] rfl (SP.on (hall75 _ _ _ 0 S66 rfl) (SP.nil S66.sl)) rfl rfl (fun w' hw' => (E.load rfl (run_load0 Try.isAgg3 hw' rfl))) ?_
      refine FB.t (i := 6) (bs 15 127) rfl (SP.on (hall75 _ _ _ 0 S66 rfl) (SP.nil S66.sl)) rfl (fun w' hw' => (E.move k52)) ?_
      refine FB.t (i := 7) (bs 15 255) rfl (SP.on (hall75 _ _ _ 0 S66 rfl) (SP.nil S66.sl)) rfl (fun w' hw' => (E.move (v := Value.int .i64 y39) rfl)) ?_
      refine FB.t (i := 8) (bs 15 511) rfl (SP.on (hall75 _ _ _ 0 S66 rfl) (SP.nil S66.sl)) rfl (fun w' hw' => (E.mul rfl rfl)) ?_
      refine FB.t (i := 9) (bs 15 1023) rfl (SP.on (hall75 _ _ _ 0 S66 rfl) (SP.nil S66.sl)) rfl (fun w' hw' => (E.add rfl rfl)) ?_
      refine FB.t (i := 10) (bs 15 2047) rfl (SP.on (hall75 _ _ _ 0 S66 rfl) (SP.nil S66.sl)) rfl (fun w' hw' => (E.fieldAddr tf53_0 k54)) ?_
      refine FB.t (i := 11) (bs 15 4095) rfl (SP.on (hall75 _ _ _ 0 S66 rfl) (SP.nil S66.sl)) rfl (fun w' hw' => (E.load rfl (run_load1 Try.isAgg3 ((at28.mono (r34.run.inc.tr i47)).now hw') rfl))) ?_
      refine FB.t (i := 12) (bs 15 8191) rfl (SP.on (hall75 _ _ _ 0 S66 rfl) (SP.nil S66.sl)) rfl (fun w' hw' => (E.rem rfl rfl (nz_ne z76))) ?_
      obtain ⟨p78, cs79, pt80, l81, at82, rel83, hall86⟩ := S66.row_atA (i := 0) rfl els44 (by decide) hx85
      obtain rfl := eI_open rel83
      refine FB.t (i := 13) (bs 15 16383) rfl (SP.on (hall75 _ _ _ 0 S66 rfl) (SP.nil S66.sl)) rfl (fun w' hw' => (E.indexAddr te48 rfl rfl pt80)) ?_
      refine FB.all1 (i := 14) (by kernel_rfl) ?_
      ·
        obtain ⟨w87, cs93, run88, S89, els92, ce94⟩ := S66.putEls (P := Try.prog) (t := 3) (i := 0) rfl els44 hput91 pt80 Try.sizeOf3 (u := Value.int .i64 ((wr (x73 + (wr (a3 * y39)))).tmod a0.p)) (c := [Value.int .i64 ((wr (x73 + (wr (a3 * y39)))).tmod a0.p)]) rfl rfl (ones_cons rfl ones_nil) rfl
        have S89 : St Ha wa H45 w87 [.row 3 1 v41 n42 cs93] := S89
        refine FC.act (l' := (bs 15 32767)) rfl (by kernel_rfl) rfl rfl (E.store rfl rfl run88) ?_
        refine ⟨(SP.o (SP.nil S89.sl)), ?_⟩
        exact FB.done (by kernel_rfl) ⟨_, _, _, _, S89, (Inc.rfl _), els92, k52, k54, k55, k56, k57, k51⟩
    ·
      rintro f103 w102 ⟨H99, v95, n96, cs97, S100, i101, els98, k104, k105, k106, k107, k108, k109⟩
      refine FW.region ?_
      refine FL.v (E.add k109 rfl) ?_
      refine FL.v (E.move (v := Value.int .i64 (wr (((i40 : Nat) : Int) + 1))) rfl) ?_
      refine FL.nil ?_
      obtain rfl := Option.some.inj hp
      exact ⟨rfl, ⟨_, _, _, _, S100, (i47.tr i101), els98, (nat_succ rfl (lt_of_get hx40) (p2.mono (((i27.tr r34.run.inc).tr i47).tr i101)).le), k104, k105, k106, k107, k108⟩⟩
  ·
    clear hp hq
    rintro s40 f121 w120 ⟨H117, v41, n42, cs43, S118, i119, els44, k122, k123, k124, k125, k126, k127⟩
    refine FW.seq (FW.region ?_)
    refine FL.v (E.lss k122 k127) ?_
    refine FL.nil (FW.seq ?_)
    refine FW.condF rfl dlt_len ?_
    refine FW.exit ?_
    exact ⟨nofun, rfl, ⟨_, _, _, _, S118, i119, els44, k125⟩⟩
  ·
    clear hq
    intro e f115 w114 hD
    rcases q40 with s40 | x40
    ·
      obtain ⟨rfl, hD⟩ := hD
      obtain ⟨H111, v41, n42, cs43, S112, i113, els44, k116⟩ := hD
      replace hp := el_go hp
      refine FW.seq (FW.region ?_)
      refine FL.v (E.move k116) ?_
      refine FL.v (E.assign (v := v41) rfl) ?_
      refine FL.nil ?_
      refine FW.ret ?_
      obtain rfl := Option.some.inj hp
      exact ⟨.inr rfl, res1 rfl rfl ⟨_, _, _, _, rfl, S112, els44⟩⟩
    · exact x40.elim

@[reducible] def p_impl_ring_literal (Ha : GH) (wa : World) (r : (List Int)) : Ending → World → Prop :=
 fun e w' => ∃ H' : GH, ∃ v0 : Value, ∃ n0 : Nat, ∃ c0 : List Value, e = .returned (v0) ∧ St Ha wa H' w' [.row 3 1 v0 n0 c0] ∧ Els (up wa.heap.size H') eI 1 c0 r
theorem w_impl_ring_literal {Ha : GH} {wa : World} (hs : Sl Ha wa) (a0 : ring) (a1 : Int) {r : (List Int)} (hp : (PF.impl_ring_literal a0 a1) = some r) :
  Calls Try.prog 61 #[Value.agg #[Value.int .i64 a0.p, Value.int .i64 a0.vars], Value.int .i64 a1] wa (p_impl_ring_literal Ha wa r) := by
 unfold PF.impl_ring_literal at hp
 have S0 := St.init hs
 refine calls_go (N := 25) (args := [Value.agg #[Value.int .i64 a0.p, Value.int .i64 a0.vars], Value.int .i64 a1]) Try.func61 rfl rfl rfl ?_
 refine FW.seq (FW.region ?_)
 obtain ⟨b21, w22, run23, S24⟩ := S0.box (P := Try.prog) 53 [Value.int .i64 a0.p, Value.int .i64 a0.vars] (v := Value.agg #[Value.int .i64 a0.p, Value.int .i64 a0.vars]) rfl (ones_cons rfl (ones_cons rfl ones_nil))
 refine FL.v (E.box rfl run23) ?_
 obtain ⟨H25, S26, i27, at28⟩ := S24.sealBox (i := 0) (l' := []) rfl rfl
 refine FL.v (E.assign (v := Value.slice none 0 0) rfl) ?_
 refine FL.nil (FW.seq (FW.seq (FW.region ?_)))
 refine FL.v (E.move (v := Value.int .i64 a1) rfl) ?_
 refine FL.v (E.gtr rfl rfl) ?_
 refine FL.nil ?_
 rcases ifB hp with ⟨c29, hp⟩ | ⟨c29, hp⟩
 ·
  refine FW.condT rfl c29 ?_
  refine FW.seq ?_
  obtain ⟨u34, z33, hp⟩ := bnd hp
  obtain ⟨r35, hr36, hp⟩ := bnd hp
  refine FW.drawB (Sl H25) (fun f w => ∃ H : GH, ∃ v45 : Value, ∃ n46 : Nat, ∃ cs47 : List Value, St Ha wa H w [.row 3 1 v45 n46 cs47] ∧ Inc H25 H ∧ Els (up wa.heap.size H) eI 1 cs47 r35 ∧ f 4 = v45) (by kernel_rfl) S26.sl ?_ ?_
  ·
   intro w30 r31
   have S32 := S26.call r31
   refine FB.t (i := 0) (bs 6 1) rfl (SP.nil S32.sl) rfl (fun w' hw' => (E.load rfl (run_loadA Try.isAgg53 Try.sizeOf53 (at28.now hw') rfl))) ?_
   refine FB.t (i := 1) (bs 6 3) rfl (SP.nil S32.sl) rfl (fun w' hw' => (E.move (v := Value.int .i64 a1) rfl)) ?_
   refine FB.t (i := 2) (bs 6 7) rfl (SP.nil S32.sl) rfl (fun w' hw' => (E.sub rfl rfl)) ?_
   refine FB.t (i := 3) (bs 6 15) rfl (SP.nil S32.sl) rfl (fun w' hw' => (E.shl rfl rfl (nn_ge z33))) ?_
   refine FB.all1 (i := 4) (by kernel_rfl) ?_
   ·
    refine FC.call (l' := (bs 6 31)) rfl (by kernel_rfl) rfl rfl rfl (E.call Try.call22 (A2 rfl rfl)) (w_impl_ring_mono S32.sl a0 (shlK true 64 1 (wr (a1 - 1))) hr36) ?_
    rintro e w38 ⟨H37, v41, n42, cs43, rfl, r40, els44⟩
    refine ⟨_, rfl, ?_⟩
    have els44 := els44.mono (up_le S32.size)
    have S39 := S32.join (l' := [.row 3 1 v41 n42 cs43]) r40 rfl
    refine ⟨(SP.nil (Sl.of_inc r40.run.inc S39.sl)), ?_⟩
    refine FB.t (i := 5) (bs 6 63) rfl (SP.nil (Sl.of_inc r40.run.inc S39.sl)) rfl (fun w' hw' => (E.assign (v := v41) rfl)) ?_
    exact FB.done (by kernel_rfl) ⟨_, _, _, _, S39, r40.run.inc, els44, rfl⟩
  ·
   rintro f54 w52 ⟨H49, v45, n46, cs47, S50, i51, els48, k55⟩
   refine FW.ret ?_
   obtain rfl := Option.some.inj hp
   exact ⟨.inr rfl, res1 rfl k55 ⟨_, _, _, _, rfl, S50, els48⟩⟩
 ·
  refine FW.condF rfl c29 ?_
  refine FW.skip (FW.seq ?_)
  obtain ⟨r59, hr60, hp⟩ := bnd hp
  obtain ⟨u70, z69, hp⟩ := bnd hp
  obtain ⟨r71, hr72, hp⟩ := bnd hp
  obtain ⟨r91, hr92, hp⟩ := bnd hp
  refine FW.drawB (Sl H25) (fun f w => ∃ H : GH, ∃ v103 : Value, ∃ n104 : Nat, ∃ cs105 : List Value, St Ha wa H w [.row 3 1 v103 n104 cs105] ∧ Inc H25 H ∧ Els (up wa.heap.size H) eI 1 cs105 r91 ∧ f 4 = v103) (by kernel_rfl) S26.sl ?_ ?_
  ·
   intro w56 r57
   have S58 := S26.call r57
   refine FB.t (i := 0) (bs 14 1) rfl (SP.nil S58.sl) rfl (fun w' hw' => (E.load rfl (run_loadA Try.isAgg53 Try.sizeOf53 (at28.now hw') rfl))) ?_
   refine FB.t (i := 1) (bs 14 3) rfl (SP.nil S58.sl) rfl (fun w' hw' => (E.load rfl (run_loadA Try.isAgg53 Try.sizeOf53 (at28.now hw') rfl))) ?_
   refine FB.t (i := 3) (bs 14 11) rfl (SP.nil S58.sl) rfl (fun w' hw' => (E.load rfl (run_loadA Try.isAgg53 Try.sizeOf53 (at28.now hw') rfl))) ?_
   refine FB.t (i := 4) (bs 14 27) rfl (SP.nil S58.sl) rfl (fun w' hw' => (E.move (v := Value.int .i64 a1) rfl)) ?_
   refine FB.t (i := 5) (bs 14 59) rfl (SP.nil S58.sl) rfl (fun w' hw' => (E.neg rfl)) ?_
   refine FB.t (i := 6) (bs 14 123) rfl (SP.nil S58.sl) rfl (fun w' hw' => (E.sub rfl rfl)) ?_
   refine FB.t (i := 7) (bs 14 251) rfl (SP.nil S58.sl) rfl (fun w' hw' => (E.shl rfl rfl (nn_ge z69))) ?_
   refine FB.t (i := 9) (bs 14 763) rfl (SP.nil S58.sl) rfl (fun w' hw' => (E.fieldAddr tf53_0 rfl)) ?_
   refine FB.t (i := 10) (bs 14 1787) rfl (SP.nil S58.sl) rfl (fun w' hw' => (E.load rfl (run_load1 Try.isAgg3 (at28.now hw') rfl))) ?_
   refine FB.t (i := 11) (bs 14 3835) rfl (SP.nil S58.sl) rfl (fun w' hw' => (E.sub rfl rfl)) ?_
   refine FB.all1 (i := 2) (by kernel_rfl) ?_
   ·
    refine FC.call (l' := (bs 14 3839)) rfl (by kernel_rfl) rfl rfl rfl (E.call Try.call22 (A2 rfl rfl)) (w_impl_ring_mono S58.sl a0 0 hr60) ?_
    rintro e w62 ⟨H61, v65, n66, cs67, rfl, r64, els68⟩
    refine ⟨_, rfl, ?_⟩
    have els68 := els68.mono (up_le S58.size)
    have S63 := S58.join (l' := [.row 3 1 v65 n66 cs67]) r64 rfl
    refine ⟨(SP.nil (Sl.of_inc r64.run.inc S63.sl)), ?_⟩
    refine FB.all1 (i := 8) (by kernel_rfl) ?_
    ·
     refine FC.call (l' := (bs 14 4095)) rfl (by kernel_rfl) rfl rfl rfl (E.call Try.call22 (A2 rfl rfl)) (w_impl_ring_mono S63.sl a0 (shlK true 64 1 (wr ((wr (-a1)) - 1))) hr72) ?_
     rintro e w74 ⟨H73, v77, n78, cs79, rfl, r76, els80⟩
     refine ⟨_, rfl, ?_⟩
     have els80 := els80.mono (up_le S63.size)
     have S75 := S63.join (l' := [.row 3 1 v77 n78 cs79, .row 3 1 v65 n66 cs67]) r76 rfl
     refine ⟨(SP.nil (Sl.of_inc (r64.run.inc.tr r76.run.inc) S75.sl)), ?_⟩
     refine FB.all1 (i := 12) (by kernel_rfl) ?_
     ·
      obtain ⟨H81, S82, i83, h84, nv85⟩ := S75.sealRowU (i := 1) (l' := [.row 3 1 v77 n78 cs79]) rfl (els68.mono (up_mono r76.run.inc)) (by decide) rfl
      obtain ⟨H86, S87, i88, h89, nv90⟩ := S82.sealRowU (i := 0) (l' := []) rfl (els80.mono (up_mono i83)) (by decide) rfl
      refine FC.call (l' := (bs 14 8191)) rfl (by kernel_rfl) rfl rfl rfl (E.call Try.call25 (A4 rfl rfl rfl rfl)) (w_impl_ring_plus S87.sl a0 v65 r59 (h84.mono (upI.tr i88)) v77 r71 (h89.mono upI) (wr (a0.p - 1)) hr92) ?_
      rintro e w94 ⟨H93, v99, n100, cs101, rfl, r96, els102⟩
      refine ⟨_, rfl, ?_⟩
      obtain ⟨H97, r96, hU98⟩ := St.lendX (i83.tr i88) S75.sl r96
      have els102 := els102.mono (hU98.tr (up_le S75.size))
      have S95 := S75.join (l' := [.row 3 1 v99 n100 cs101, .row 3 1 v77 n78 cs79, .row 3 1 v65 n66 cs67]) r96 rfl
      refine ⟨(SP.nil (Sl.of_inc ((r64.run.inc.tr r76.run.inc).tr r96.run.inc) S95.sl)), ?_⟩
      refine FB.t (i := 13) (bs 14 16383) rfl (SP.nil (Sl.of_inc ((r64.run.inc.tr r76.run.inc).tr r96.run.inc) S95.sl)) rfl (fun w' hw' => (E.assign (v := v99) rfl)) ?_
      exact FB.done (by kernel_rfl) ⟨_, _, _, _, (S95.sel [0] (by decide) rfl), ((r64.run.inc.tr r76.run.inc).tr r96.run.inc), els102, rfl⟩
  ·
   rintro f111 w110 ⟨H107, v103, n104, cs105, S108, i109, els106, k112⟩
   refine FW.ret ?_
   obtain rfl := Option.some.inj hp
   exact ⟨.inr rfl, res1 rfl k112 ⟨_, _, _, _, rfl, S108, els106⟩⟩

@[reducible] def p_impl_ring_times (Ha : GH) (wa : World) (r : (List Int)) : Ending → World → Prop :=
  fun e w' => ∃ H' : GH, ∃ v0 : Value, ∃ n0 : Nat, ∃ c0 : List Value, e = .returned (v0) ∧ St Ha wa H' w' [.row 3 1 v0 n0 c0] ∧ Els (up wa.heap.size H') eI 1 c0 r
theorem w_impl_ring_times {Ha : GH} {wa : World} (hs : Sl Ha wa) (a0 : ring) (v1 : Value) (a1 : List Int) (p1 : RSl Ha eI 1 v1 a1) (v2 : Value) (a2 : List Int) (p2 : RSl Ha eI 1 v2 a2) {r : (List Int)} (hp : (PF.impl_ring_times a0 a1 a2) = some r) :
    Calls Try.prog 60 #[Value.agg #[Value.int .i64 a0.p, Value.int .i64 a0.vars], v1, v2] wa (p_impl_ring_times Ha wa r) := by
  unfold PF.impl_ring_times at hp
  have S0 := St.init hs
  refine calls_go (N := 49) (args := [Value.agg #[Value.int .i64 a0.p, Value.int .i64 a0.vars], v1, v2]) Try.func60 rfl rfl rfl ?_
  refine FW.seq (FW.region ?_)
  obtain ⟨b21, w22, run23, S24⟩ := S0.box (P := Try.prog) 53 [Value.int .i64 a0.p, Value.int .i64 a0.vars] (v := Value.agg #[Value.int .i64 a0.p, Value.int .i64 a0.vars]) rfl (ones_cons rfl (ones_cons rfl ones_nil))
  refine FL.v (E.box rfl run23) ?_
  obtain ⟨H25, S26, i27, at28⟩ := S24.sealBox (i := 0) (l' := []) rfl rfl
  refine FL.v (E.assign (v := Value.slice none 0 0) rfl) ?_
  refine FL.nil (FW.seq (FW.region ?_))
  refine FL.v (E.load rfl (run_loadA Try.isAgg53 Try.sizeOf53 (at28.now S26.sl) rfl)) ?_
  obtain ⟨r29, hr30, hp⟩ := bnd hp
  refine FL.call rfl rfl rfl (E.call Try.call24 (A1 rfl)) (w_impl_ring_zero S26.sl a0 hr30) ?_
  rintro e w32 ⟨H31, v35, n36, cs37, rfl, r34, els38⟩
  refine ⟨_, rfl, ?_⟩
  have els38 := els38.mono (up_le S26.size)
  have S33 := S26.join (l' := [.row 3 1 v35 n36 cs37]) r34 rfl
  refine FL.v (E.assign (v := v35) rfl) ?_
  refine FL.nil (FW.seq (FW.seq (FW.region ?_)))
  refine FL.v (E.move (v := v1) rfl) ?_
  refine FL.v (E.lenP te48 rfl p1) ?_
  refine FL.v (E.move (v := Value.int .i64 0) rfl) ?_
  refine FL.nil ?_
  obtain ⟨q40, hq, hp⟩ := bndR hp
  refine FW.block ?_
  refine FW.mono (FW.forL (S := (List Int)) (X := Empty) (fun (i40 : Nat) (s40 : (List Int)) f w => ∃ H : GH, ∃ v41 : Value, ∃ n42 : Nat, ∃ cs43 : List Value, St Ha wa H w [.row 3 1 v41 n42 cs43] ∧ Inc H31 H ∧ Els (up wa.heap.size H) eI 1 cs43 s40 ∧ f 16 = Value.int .i64 ((i40 : Nat) : Int) ∧ f 2 = v2 ∧ f 3 = Value.pointer (some ⟨b21, 0, none⟩) ∧ f 7 = v41 ∧ f 14 = v1 ∧ f 15 = Value.int .i64 (len a1)) (fun (q : Rs (List Int) Empty) e f w => match q with | .go s40 => e = Exit.exit 0 ∧ (∃ H : GH, ∃ v41 : Value, ∃ n42 : Nat, ∃ cs43 : List Value, St Ha wa H w [.row 3 1 v41 n42 cs43] ∧ Inc H31 H ∧ Els (up wa.heap.size H) eI 1 cs43 s40 ∧ f 7 = v41) | .rt x => x.elim) hq ⟨_, _, _, _, S33, (Inc.rfl _), els38, rfl, rfl, rfl, rfl, rfl, rfl⟩ ?_ ?_) ?_
  ·
    clear hp hq
    rintro i40 y39 s40 f50 w49 ⟨H45, v41, n42, cs43, S46, i47, els44, k51, k52, k54, k55, k56, k57⟩ hx40 o171 hp
    refine FW.seq (FW.region ?_)
    refine FL.v (E.lssT k51 k57 (lss_len hx40)) ?_
    refine FL.nil (FW.seq ?_)
    refine FW.condT rfl rfl ?_
    refine FW.skip (FW.seq (FW.block (FW.seq (FW.region ?_))))
    refine FL.v (E.move k51) ?_
    obtain ⟨p58, cs59, pt60, l61, at62, rel63⟩ := p1.at (ix_nat hx40)
    obtain rfl := eI_open rel63
    refine FL.v (E.indexAddr te48 k56 k51 pt60) ?_
    refine FL.v (E.load rfl (run_load0 Try.isAgg3 ((at62.mono ((i27.tr r34.run.inc).tr i47)).now S46.sl) rfl)) ?_
    refine FL.v (E.assign (v := Value.int .i64 ((i40 : Nat) : Int)) rfl) ?_
    refine FL.v (E.assign (v := Value.int .i64 y39) rfl) ?_
    refine FL.nil (FW.seq (FW.region ?_))
    refine FL.v (E.move k52) ?_
    refine FL.v (E.lenP te48 rfl p2) ?_
    refine FL.v (E.move (v := Value.int .i64 0) rfl) ?_
    refine FL.nil ?_
    obtain ⟨q65, hq, hp⟩ := bndR hp
    refine FW.block ?_
    refine FW.mono (FW.forL (S := (List Int)) (X := Empty) (fun (i65 : Nat) (s65 : (List Int)) f w => ∃ H : GH, ∃ v66 : Value, ∃ n67 : Nat, ∃ cs68 : List Value, St Ha wa H w [.row 3 1 v66 n67 cs68] ∧ Inc H45 H ∧ Els (up wa.heap.size H) eI 1 cs68 s65 ∧ f 23 = Value.int .i64 ((i65 : Nat) : Int) ∧ f 2 = v2 ∧ f 3 = Value.pointer (some ⟨b21, 0, none⟩) ∧ f 7 = v66 ∧ f 8 = Value.int .i64 ((i40 : Nat) : Int) ∧ f 9 = Value.int .i64 y39 ∧ f 14 = v1 ∧ f 15 = Value.int .i64 (len a1) ∧ f 16 = Value.int .i64 ((i40 : Nat) : Int) ∧ f 21 = v2 ∧ f 22 = Value.int .i64 (len a2)) (fun (q : Rs (List Int) Empty) e f w => match q with | .go s65 => e = Exit.exit 2 ∧ (∃ H : GH, ∃ v66 : Value, ∃ n67 : Nat, ∃ cs68 : List Value, St Ha wa H w [.row 3 1 v66 n67 cs68] ∧ Inc H45 H ∧ Els (up wa.heap.size H) eI 1 cs68 s65 ∧ f 2 = v2 ∧ f 3 = Value.pointer (some ⟨b21, 0, none⟩) ∧ f 7 = v66 ∧ f 14 = v1 ∧ f 15 = Value.int .i64 (len a1) ∧ f 16 = Value.int .i64 ((i40 : Nat) : Int)) | .rt x => x.elim) hq ⟨_, _, _, _, S46, (Inc.rfl _), els44, rfl, k52, k54, k55, rfl, rfl, k56, k57, k51, rfl, rfl⟩ ?_ ?_) ?_
    ·
      clear hp hq
      rintro i65 y64 s65 f74 w73 ⟨H70, v66, n67, cs68, S71, i72, els69, k75, k76, k77, k78, k79, k80, k81, k82, k83, k84, k85⟩ hx65 o143 hp
      refine FW.seq (FW.region ?_)
      refine FL.v (E.lssT k75 k85 (lss_len hx65)) ?_
      refine FL.nil (FW.seq ?_)
      refine FW.condT rfl rfl ?_
      refine FW.skip (FW.seq (FW.block (FW.seq (FW.region ?_))))
      refine FL.v (E.move k75) ?_
      obtain ⟨p86, cs87, pt88, l89, at90, rel91⟩ := p2.at (ix_nat hx65)
      obtain rfl := eI_open rel91
      refine FL.v (E.indexAddr te48 k84 k75 pt88) ?_
      refine FL.v (E.load rfl (run_load0 Try.isAgg3 ((at90.mono (((i27.tr r34.run.inc).tr i47).tr i72)).now S71.sl) rfl)) ?_
      refine FL.v (E.assign (v := Value.int .i64 ((i65 : Nat) : Int)) rfl) ?_
      refine FL.v (E.assign (v := Value.int .i64 y64) rfl) ?_
      refine FL.nil ?_
      obtain ⟨x101, hx102, hp⟩ := bnd hp
      obtain ⟨u105, z104, hp⟩ := bnd hp
      obtain ⟨x112, hx113, hp⟩ := bnd hp
      obtain ⟨xs118, hput119, hp⟩ := bnd hp
      refine FW.drawB (Sl H70) (fun f w => ∃ H : GH, ∃ v123 : Value, ∃ n124 : Nat, ∃ cs125 : List Value, St Ha wa H w [.row 3 1 v123 n124 cs125] ∧ Inc H70 H ∧ Els (up wa.heap.size H) eI 1 cs125 xs118 ∧ f 2 = v2 ∧ f 3 = Value.pointer (some ⟨b21, 0, none⟩) ∧ f 7 = v123 ∧ f 8 = Value.int .i64 ((i40 : Nat) : Int) ∧ f 9 = Value.int .i64 y39 ∧ f 14 = v1 ∧ f 15 = Value.int .i64 (len a1) ∧ f 16 = Value.int .i64 ((i40 : Nat) : Int) ∧ f 21 = v2 ∧ f 22 = Value.int .i64 (len a2) ∧ f 23 = Value.int .i64 ((i65 : Nat) : Int)) (by kernel_rfl) S71.sl ?_ ?_
      ·
        intro w92 r93
        have S94 := S71.call r93
        refine FB.t (i := 0) (bs 19 1) rfl (SP.nil S94.sl) rfl (fun w' hw' => (E.move k78)) ?_
        refine FB.t (i := 1) (bs 19 3) rfl (SP.nil S94.sl) rfl (fun w' hw' => (E.move k79)) ?_
        refine FB.t (i := 2) (bs 19 7) rfl (SP.nil S94.sl) rfl (fun w' hw' => (E.move (v := Value.int .i64 ((i65 : Nat) : Int)) rfl)) ?_
        refine FB.t (i := 3) (bs 19 15) rfl (SP.nil S94.sl) rfl (fun w' hw' => (E.or rfl rfl)) ?_
        refine FB.t (i := 4) (bs 19 31) rfl (SP.nil S94.sl) rfl (fun w' hw' => (E.move k78)) ?_
        refine FB.t (i := 5) (bs 19 63) rfl (SP.nil S94.sl) rfl (fun w' hw' => (E.move k79)) ?_
        refine FB.t (i := 6) (bs 19 127) rfl (SP.nil S94.sl) rfl (fun w' hw' => (E.move (v := Value.int .i64 ((i65 : Nat) : Int)) rfl)) ?_
        refine FB.t (i := 7) (bs 19 255) rfl (SP.nil S94.sl) rfl (fun w' hw' => (E.or rfl rfl)) ?_
        obtain ⟨p95, cs96, pt97, l98, at99, rel100, hall103⟩ := S94.row_atA (i := 0) rfl els69 (by decide) hx102
        obtain rfl := eI_open rel100
        refine FB.t (i := 8) (bs 19 511) rfl (SP.nil S94.sl) rfl (fun w' hw' => (E.indexAddr te48 rfl rfl pt97)) ?_
        refine FB.phase [18] (fun w' => WAt w' p95 [Value.int .i64 x101]) ?_
        refine FB.p (i := 9) (bs 19 1023) 0 [13, 16, 17, 18] rfl (SP.on (hall103 _ _ _ 0 S94 rfl) (SP.nil S94.sl)) rfl rfl (fun w' hw' => (E.load rfl (run_load0 Try.isAgg3 hw' rfl))) ?_
        refine FB.t (i := 10) (bs 19 2047) rfl (SP.on (hall103 _ _ _ 0 S94 rfl) (SP.nil S94.sl)) rfl (fun w' hw' => (E.move k80)) ?_
        refine FB.t (i := 11) (bs 19 4095) rfl (SP.on (hall103 _ _ _ 0 S94 rfl) (SP.nil S94.sl)) rfl (fun w' hw' => (E.move (v := Value.int .i64 y64) rfl)) ?_
        refine FB.t (i := 12) (bs 19 8191) rfl (SP.on (hall103 _ _ _ 0 S94 rfl) (SP.nil S94.sl)) rfl (fun w' hw' => (E.mul rfl rfl)) ?_
        refine FB.t (i := 13) (bs 19 16383) rfl (SP.on (hall103 _ _ _ 0 S94 rfl) (SP.nil S94.sl)) rfl (fun w' hw' => (E.add rfl rfl)) ?_
        refine FB.t (i := 14) (bs 19 32767) rfl (SP.on (hall103 _ _ _ 0 S94 rfl) (SP.nil S94.sl)) rfl (fun w' hw' => (E.fieldAddr tf53_0 k77)) ?_
        refine FB.t (i := 15) (bs 19 65535) rfl (SP.on (hall103 _ _ _ 0 S94 rfl) (SP.nil S94.sl)) rfl (fun w' hw' => (E.load rfl (run_load1 Try.isAgg3 ((at28.mono ((r34.run.inc.tr i47).tr i72)).now hw') rfl))) ?_
        refine FB.t (i := 16) (bs 19 131071) rfl (SP.on (hall103 _ _ _ 0 S94 rfl) (SP.nil S94.sl)) rfl (fun w' hw' => (E.rem rfl rfl (nz_ne z104))) ?_
        obtain ⟨p106, cs107, pt108, l109, at110, rel111, hall114⟩ := S94.row_atA (i := 0) rfl els69 (by decide) hx113
        obtain rfl := eI_open rel111
        refine FB.t (i := 17) (bs 19 262143) rfl (SP.on (hall103 _ _ _ 0 S94 rfl) (SP.nil S94.sl)) rfl (fun w' hw' => (E.indexAddr te48 rfl rfl pt108)) ?_
        refine FB.all1 (i := 18) (by kernel_rfl) ?_
        ·
          obtain ⟨w115, cs121, run116, S117, els120, ce122⟩ := S94.putEls (P := Try.prog) (t := 3) (i := 0) rfl els69 hput119 pt108 Try.sizeOf3 (u := Value.int .i64 ((wr (x101 + (wr (y39 * y64)))).tmod a0.p)) (c := [Value.int .i64 ((wr (x101 + (wr (y39 * y64)))).tmod a0.p)]) rfl rfl (ones_cons rfl ones_nil) rfl
          have S117 : St Ha wa H70 w115 [.row 3 1 v66 n67 cs121] := S117
          refine FC.act (l' := (bs 19 524287)) rfl (by kernel_rfl) rfl rfl (E.store rfl rfl run116) ?_
          refine ⟨(SP.o (SP.nil S117.sl)), ?_⟩
          exact FB.done (by kernel_rfl) ⟨_, _, _, _, S117, (Inc.rfl _), els120, k76, k77, k78, k79, k80, k81, k82, k83, k84, k85, k75⟩
      ·
        rintro f131 w130 ⟨H127, v123, n124, cs125, S128, i129, els126, k132, k133, k134, k135, k136, k137, k138, k139, k140, k141, k142⟩
        refine FW.region ?_
        refine FL.v (E.add k142 rfl) ?_
        refine FL.v (E.move (v := Value.int .i64 (wr (((i65 : Nat) : Int) + 1))) rfl) ?_
        refine FL.nil ?_
        obtain rfl := Option.some.inj hp
        exact ⟨rfl, ⟨_, _, _, _, S128, (i72.tr i129), els126, (nat_succ rfl (lt_of_get hx65) (p2.mono ((((i27.tr r34.run.inc).tr i47).tr i72).tr i129)).le), k132, k133, k134, k135, k136, k137, k138, k139, k140, k141⟩⟩
    ·
      clear hp hq
      rintro s65 f159 w158 ⟨H155, v66, n67, cs68, S156, i157, els69, k160, k161, k162, k163, k164, k165, k166, k167, k168, k169, k170⟩
      refine FW.seq (FW.region ?_)
      refine FL.v (E.lss k160 k170) ?_
      refine FL.nil (FW.seq ?_)
      refine FW.condF rfl dlt_len ?_
      refine FW.exit ?_
      exact ⟨nofun, rfl, ⟨_, _, _, _, S156, i157, els69, k161, k162, k163, k166, k167, k168⟩⟩
    ·
      clear hq
      intro e f148 w147 hD
      rcases q65 with s65 | x65
      ·
        obtain ⟨rfl, hD⟩ := hD
        obtain ⟨H144, v66, n67, cs68, S145, i146, els69, k149, k150, k151, k152, k153, k154⟩ := hD
        replace hp := el_go hp
        refine FW.region ?_
        refine FL.v (E.add k154 rfl) ?_
        refine FL.v (E.move (v := Value.int .i64 (wr (((i40 : Nat) : Int) + 1))) rfl) ?_
        refine FL.nil ?_
        obtain rfl := Option.some.inj hp
        exact ⟨rfl, ⟨_, _, _, _, S145, (i47.tr i146), els69, (nat_succ rfl (lt_of_get hx40) (p1.mono (((i27.tr r34.run.inc).tr i47).tr i146)).le), k149, k150, k151, k152, k153⟩⟩
      · exact x65.elim
  ·
    clear hp hq
    rintro s40 f182 w181 ⟨H178, v41, n42, cs43, S179, i180, els44, k183, k184, k185, k186, k187, k188⟩
    refine FW.seq (FW.region ?_)
    refine FL.v (E.lss k183 k188) ?_
    refine FL.nil (FW.seq ?_)
    refine FW.condF rfl dlt_len ?_
    refine FW.exit ?_
    exact ⟨nofun, rfl, ⟨_, _, _, _, S179, i180, els44, k186⟩⟩
  ·
    clear hq
    intro e f176 w175 hD
    rcases q40 with s40 | x40
    ·
      obtain ⟨rfl, hD⟩ := hD
      obtain ⟨H172, v41, n42, cs43, S173, i174, els44, k177⟩ := hD
      replace hp := el_go hp
      refine FW.seq (FW.region ?_)
      refine FL.v (E.move k177) ?_
      refine FL.v (E.assign (v := v41) rfl) ?_
      refine FL.nil ?_
      refine FW.ret ?_
      obtain rfl := Option.some.inj hp
      exact ⟨.inr rfl, res1 rfl rfl ⟨_, _, _, _, rfl, S173, els44⟩⟩
    · exact x40.elim

@[reducible] def p_impl_ring_clause (Ha : GH) (wa : World) (r : (List Int)) : Ending → World → Prop :=
  fun e w' => ∃ H' : GH, ∃ v0 : Value, ∃ n0 : Nat, ∃ c0 : List Value, e = .returned (v0) ∧ St Ha wa H' w' [.row 3 1 v0 n0 c0] ∧ Els (up wa.heap.size H') eI 1 c0 r
theorem w_impl_ring_clause {Ha : GH} {wa : World} (hs : Sl Ha wa) (a0 : ring) (v1 : Value) (a1 : List Int) (p1 : RSl Ha eI 1 v1 a1) {r : (List Int)} (hp : (PF.impl_ring_clause a0 a1) = some r) :
    Calls Try.prog 44 #[Value.agg #[Value.int .i64 a0.p, Value.int .i64 a0.vars], v1] wa (p_impl_ring_clause Ha wa r) := by
  unfold PF.impl_ring_clause at hp
  have S0 := St.init hs
  refine calls_go (N := 25) (args := [Value.agg #[Value.int .i64 a0.p, Value.int .i64 a0.vars], v1]) Try.func44 rfl rfl rfl ?_
  refine FW.seq (FW.region ?_)
  obtain ⟨b21, w22, run23, S24⟩ := S0.box (P := Try.prog) 53 [Value.int .i64 a0.p, Value.int .i64 a0.vars] (v := Value.agg #[Value.int .i64 a0.p, Value.int .i64 a0.vars]) rfl (ones_cons rfl (ones_cons rfl ones_nil))
  refine FL.v (E.box rfl run23) ?_
  obtain ⟨H25, S26, i27, at28⟩ := S24.sealBox (i := 0) (l' := []) rfl rfl
  refine FL.v (E.assign (v := Value.slice none 0 0) rfl) ?_
  refine FL.nil (FW.seq (FW.region ?_))
  refine FL.v (E.load rfl (run_loadA Try.isAgg53 Try.sizeOf53 (at28.now S26.sl) rfl)) ?_
  obtain ⟨r29, hr30, hp⟩ := bnd hp
  refine FL.call rfl rfl rfl (E.call Try.call22 (A2 rfl rfl)) (w_impl_ring_mono S26.sl a0 0 hr30) ?_
  rintro e w32 ⟨H31, v35, n36, cs37, rfl, r34, els38⟩
  refine ⟨_, rfl, ?_⟩
  have els38 := els38.mono (up_le S26.size)
  have S33 := S26.join (l' := [.row 3 1 v35 n36 cs37]) r34 rfl
  refine FL.v (E.assign (v := v35) rfl) ?_
  refine FL.nil (FW.seq (FW.seq (FW.region ?_)))
  refine FL.v (E.move (v := v1) rfl) ?_
  refine FL.v (E.lenP te47 rfl p1) ?_
  refine FL.v (E.move (v := Value.int .i64 0) rfl) ?_
  refine FL.nil ?_
  obtain ⟨q40, hq, hp⟩ := bndR hp
  refine FW.block ?_
  refine FW.mono (FW.forL (S := (List Int)) (X := Empty) (fun (i40 : Nat) (s40 : (List Int)) f w => ∃ H : GH, ∃ v41 : Value, ∃ n42 : Nat, ∃ cs43 : List Value, St Ha wa H w [.row 3 1 v41 n42 cs43] ∧ Inc H31 H ∧ Els (up wa.heap.size H) eI 1 cs43 s40 ∧ f 12 = Value.int .i64 ((i40 : Nat) : Int) ∧ f 2 = Value.pointer (some ⟨b21, 0, none⟩) ∧ f 5 = v41 ∧ f 10 = v1 ∧ f 11 = Value.int .i64 (len a1)) (fun (q : Rs (List Int) Empty) e f w => match q with | .go s40 => e = Exit.exit 0 ∧ (∃ H : GH, ∃ v41 : Value, ∃ n42 : Nat, ∃ cs43 : List Value, St Ha wa H w [.row 3 1 v41 n42 cs43] ∧ Inc H31 H ∧ Els (up wa.heap.size H) eI 1 cs43 s40 ∧ f 5 = v41) | .rt x => x.elim) hq ⟨_, _, _, _, S33, (Inc.rfl _), els38, rfl, rfl, rfl, rfl, rfl⟩ ?_ ?_) ?_
  ·
    clear hp hq
    rintro i40 y39 s40 f50 w49 ⟨H45, v41, n42, cs43, S46, i48, els44, k51, k52, k53, k54, k55⟩ hx40 o111 hp
    refine FW.seq (FW.region ?_)
    refine FL.v (E.lssT k51 k55 (lss_len hx40)) ?_
    refine FL.nil (FW.seq ?_)
    refine FW.condT rfl rfl ?_
    refine FW.skip (FW.seq (FW.block (FW.seq (FW.region ?_))))
    obtain ⟨p56, cs57, pt58, l59, at60, rel61⟩ := p1.at (ix_nat hx40)
    obtain rfl := eI_open rel61
    refine FL.v (E.indexAddr te47 k54 k51 pt58) ?_
    refine FL.v (E.load rfl (run_load0 Try.isAgg3 ((at60.mono ((i27.tr r34.run.inc).tr i48)).now S46.sl) rfl)) ?_
    refine FL.v (E.assign (v := Value.int .i64 y39) rfl) ?_
    refine FL.nil ?_
    obtain ⟨r65, hr66, hp⟩ := bnd hp
    obtain ⟨r85, hr86, hp⟩ := bnd hp
    refine FW.drawB (Sl H45) (fun f w => ∃ H : GH, ∃ v97 : Value, ∃ n98 : Nat, ∃ cs99 : List Value, St Ha wa H w [.row 3 1 v97 n98 cs99] ∧ Inc H45 H ∧ Els (up wa.heap.size H) eI 1 cs99 r85 ∧ f 2 = Value.pointer (some ⟨b21, 0, none⟩) ∧ f 5 = v97 ∧ f 10 = v1 ∧ f 11 = Value.int .i64 (len a1) ∧ f 12 = Value.int .i64 ((i40 : Nat) : Int)) (by kernel_rfl) S46.sl ?_ ?_
    ·
      intro w62 r63
      have S64 := S46.call r63
      refine FB.t (i := 0) (bs 8 1) rfl (SP.nil S64.sl) rfl (fun w' hw' => (E.load k52 (run_loadA Try.isAgg53 Try.sizeOf53 ((at28.mono (r34.run.inc.tr i48)).now hw') rfl))) ?_
      refine FB.t (i := 1) (bs 8 3) rfl (SP.nil S64.sl) rfl (fun w' hw' => (E.move k53)) ?_
      refine FB.t (i := 2) (bs 8 7) rfl (SP.nil S64.sl) rfl (fun w' hw' => (E.load k52 (run_loadA Try.isAgg53 Try.sizeOf53 ((at28.mono (r34.run.inc.tr i48)).now hw') rfl))) ?_
      refine FB.t (i := 3) (bs 8 15) rfl (SP.nil S64.sl) rfl (fun w' hw' => (E.move (v := Value.int .i64 y39) rfl)) ?_
      refine FB.t (i := 4) (bs 8 31) rfl (SP.nil S64.sl) rfl (fun w' hw' => (E.neg rfl)) ?_
      refine FB.all1 (i := 5) (by kernel_rfl) ?_
      ·
        refine FC.call (l' := (bs 8 63)) rfl (by kernel_rfl) rfl rfl rfl (E.call Try.call61 (A2 rfl rfl)) (w_impl_ring_literal S64.sl a0 (wr (-y39)) hr66) ?_
        rintro e w68 ⟨H67, v71, n72, cs73, rfl, r70, els74⟩
        refine ⟨_, rfl, ?_⟩
        have els74 := els74.mono (up_le S64.size)
        have S69 := S64.join (l' := [.row 3 1 v71 n72 cs73, .row 3 1 v41 n42 cs43]) r70 rfl
        refine ⟨(SP.nil (Sl.of_inc r70.run.inc S69.sl)), ?_⟩
        refine FB.all1 (i := 6) (by kernel_rfl) ?_
        ·
          obtain ⟨H75, S76, i77, h78, nv79⟩ := S69.sealRowU (i := 1) (l' := [.row 3 1 v71 n72 cs73]) rfl (els44.mono (up_mono r70.run.inc)) (by decide) rfl
          obtain ⟨H80, S81, i82, h83, nv84⟩ := S76.sealRowU (i := 0) (l' := []) rfl (els74.mono (up_mono i77)) (by decide) rfl
          refine FC.call (l' := (bs 8 127)) rfl (by kernel_rfl) rfl rfl rfl (E.call Try.call60 (A3 rfl rfl rfl)) (w_impl_ring_times S81.sl a0 v41 s40 (h78.mono (upI.tr i82)) v71 r65 (h83.mono upI) hr86) ?_
          rintro e w88 ⟨H87, v93, n94, cs95, rfl, r90, els96⟩
          refine ⟨_, rfl, ?_⟩
          obtain ⟨H91, r90, hU92⟩ := St.lendX (i77.tr i82) S69.sl r90
          have els96 := els96.mono (hU92.tr (up_le S69.size))
          have S89 := S69.join (l' := [.row 3 1 v93 n94 cs95, .row 3 1 v71 n72 cs73, .row 3 1 v41 n42 cs43]) r90 rfl
          refine ⟨(SP.nil (Sl.of_inc (r70.run.inc.tr r90.run.inc) S89.sl)), ?_⟩
          refine FB.t (i := 7) (bs 8 255) rfl (SP.nil (Sl.of_inc (r70.run.inc.tr r90.run.inc) S89.sl)) rfl (fun w' hw' => (E.assign (v := v93) rfl)) ?_
          exact FB.done (by kernel_rfl) ⟨_, _, _, _, (S89.sel [0] (by decide) rfl), (r70.run.inc.tr r90.run.inc), els96, k52, rfl, k54, k55, k51⟩
    ·
      rintro f105 w104 ⟨H101, v97, n98, cs99, S102, i103, els100, k106, k107, k108, k109, k110⟩
      refine FW.region ?_
      refine FL.v (E.add k110 rfl) ?_
      refine FL.v (E.move (v := Value.int .i64 (wr (((i40 : Nat) : Int) + 1))) rfl) ?_
      refine FL.nil ?_
      obtain rfl := Option.some.inj hp
      exact ⟨rfl, ⟨_, _, _, _, S102, (i48.tr i103), els100, (nat_succ rfl (lt_of_get hx40) (p1.mono (((i27.tr r34.run.inc).tr i48).tr i103)).le), k106, k107, k108, k109⟩⟩
  ·
    clear hp hq
    rintro s40 f122 w121 ⟨H118, v41, n42, cs43, S119, i120, els44, k123, k124, k125, k126, k127⟩
    refine FW.seq (FW.region ?_)
    refine FL.v (E.lss k123 k127) ?_
    refine FL.nil (FW.seq ?_)
    refine FW.condF rfl dlt_len ?_
    refine FW.exit ?_
    exact ⟨nofun, rfl, ⟨_, _, _, _, S119, i120, els44, k125⟩⟩
  ·
    clear hq
    intro e f116 w115 hD
    rcases q40 with s40 | x40
    ·
      obtain ⟨rfl, hD⟩ := hD
      obtain ⟨H112, v41, n42, cs43, S113, i114, els44, k117⟩ := hD
      replace hp := el_go hp
      refine FW.seq (FW.region ?_)
      refine FL.v (E.move k117) ?_
      refine FL.v (E.assign (v := v41) rfl) ?_
      refine FL.nil ?_
      refine FW.ret ?_
      obtain rfl := Option.some.inj hp
      exact ⟨.inr rfl, res1 rfl rfl ⟨_, _, _, _, rfl, S113, els44⟩⟩
    · exact x40.elim

@[reducible] def p_impl_algebraOf (Ha : GH) (wa : World) (r : ((Option algebra) × Bool)) : Ending → World → Prop :=
  fun e w' => ∃ H' : GH, ∃ v0 : Value, e = .returned (Value.tuple #[v0, Value.bool r.2]) ∧ Run wa.heap.size Ha wa H' w' ∧ OP (fun (q : Addr) (x : algebra) => ∃ v0R_3 : Value, ∃ v0R_4 : Value, RSl H' (eL eI 1) 1 v0R_3 x.f.clauses ∧ (∃ c, Nest (up wa.heap.size H') (eL eI 1) 1 v0R_4 x.q c) ∧ CAt H' q [Value.int .i64 x.ring.p, Value.int .i64 x.ring.vars, Value.int .i64 x.f.vars, v0R_3, v0R_4]) v0 r.1
theorem w_impl_algebraOf {Ha : GH} {wa : World} (hs : Sl Ha wa) (a0 : Int) (a1 : Cnf) (v1_1 : Value) (p1_1 : RSl Ha (eL eI 1) 1 v1_1 a1.clauses) {r : ((Option algebra) × Bool)} (hp : (PF.impl_algebraOf a0 a1) = some r) :
    Calls Try.prog 18 #[Value.int .i64 a0, Value.agg #[Value.int .i64 a1.vars, v1_1]] wa (p_impl_algebraOf Ha wa r) := by
  unfold PF.impl_algebraOf at hp
  have S0 := St.init hs
  refine calls_go (N := 50) (args := [Value.int .i64 a0, Value.agg #[Value.int .i64 a1.vars, v1_1]]) Try.func18 rfl rfl rfl ?_
  refine FW.seq (FW.region ?_)
  obtain ⟨b21, w22, run23, S24⟩ := S0.box (P := Try.prog) 29 [Value.int .i64 a1.vars, v1_1] (v := Value.agg #[Value.int .i64 a1.vars, v1_1]) rfl (ones_cons rfl (ones_cons p1_1.one ones_nil))
  refine FL.v (E.box rfl run23) ?_
  obtain ⟨H25, S26, i27, at28⟩ := S24.sealBox (i := 0) (l' := []) rfl rfl
  refine FL.v (E.assign (v := Value.pointer none) rfl) ?_
  refine FL.v (E.assign (v := Value.bool false) rfl) ?_
  refine FL.nil (FW.seq (FW.region ?_))
  refine FL.v (E.move (v := Value.int .i64 a0) rfl) ?_
  refine FL.v (E.fieldAddr tf29_0 rfl) ?_
  refine FL.v (E.load rfl (run_load1 Try.isAgg3 (at28.now S26.sl) rfl)) ?_
  refine FL.call rfl rfl rfl (E.call Try.call42 (A2 rfl rfl)) (w_impl_ringOf S26.sl a0 a1.vars) ?_
  rintro e w29 ⟨rfl, r30⟩
  refine ⟨_, rfl, ?_⟩
  have S31 := S26.call r30
  refine FL.v (E.move (v := Value.tuple #[Value.agg #[Value.int .i64 (((PF.impl_ringOf a0 a1.vars).1).p), Value.int .i64 (((PF.impl_ringOf a0 a1.vars).1).vars)], Value.bool ((PF.impl_ringOf a0 a1.vars).2)]) rfl) ?_
  refine FL.v (E.extract (i := 0) rfl rfl) ?_
  refine FL.v (E.extract (i := 1) rfl rfl) ?_
  obtain ⟨b32, w33, run34, S35⟩ := S31.alloc (P := Try.prog) 53 [Value.int .i64 0, Value.int .i64 0] Try.zeroValue53 rfl (ones_cons rfl (ones_cons rfl ones_nil))
  refine FL.v (E.alloc run34) ?_
  obtain ⟨w36, run37, S38⟩ := S35.store0 (P := Try.prog) (t := 53) (i := 0) (cs' := [Value.int .i64 (((PF.impl_ringOf a0 a1.vars).1).p), Value.int .i64 (((PF.impl_ringOf a0 a1.vars).1).vars)]) (l' := [.box b32 53 [Value.int .i64 (((PF.impl_ringOf a0 a1.vars).1).p), Value.int .i64 (((PF.impl_ringOf a0 a1.vars).1).vars)]]) (v := Value.agg #[Value.int .i64 (((PF.impl_ringOf a0 a1.vars).1).p), Value.int .i64 (((PF.impl_ringOf a0 a1.vars).1).vars)]) (c := [Value.int .i64 (((PF.impl_ringOf a0 a1.vars).1).p), Value.int .i64 (((PF.impl_ringOf a0 a1.vars).1).vars)]) rfl Try.sizeOf53 rfl rfl (ones_cons rfl (ones_cons rfl ones_nil)) (Nat.le_of_ble_eq_true rfl) rfl rfl
  refine FL.act rfl rfl (E.store rfl rfl run37) ?_
  obtain ⟨H39, S40, i41, at42⟩ := S38.sealBox (i := 0) (l' := []) rfl rfl
  refine FL.v (E.assign (v := Value.bool ((PF.impl_ringOf a0 a1.vars).2)) rfl) ?_
  refine FL.nil (FW.seq (FW.seq (FW.region ?_)))
  refine FL.v (E.move (v := Value.bool ((PF.impl_ringOf a0 a1.vars).2)) rfl) ?_
  refine FL.v (E.not rfl) ?_
  refine FL.v (E.move (v := Value.bool (!((PF.impl_ringOf a0 a1.vars).2))) rfl) ?_
  obtain ⟨t48, hqt48, hp⟩ := bnd hp
  refine FL.cut 4 (fun f w => ∃ H : GH, St Ha wa H w [] ∧ Inc H39 H ∧ f 3 = Value.pointer (some ⟨b21, 0, none⟩) ∧ f 6 = Value.pointer (some ⟨b32, 0, none⟩) ∧ f 24 = Value.bool t48) ?_ ?_
  ·
    clear hp; have hp := hqt48; clear hqt48
    rcases ifB hp with ⟨c54, hp⟩ | ⟨c54, hp⟩
    ·
      refine FL.skip (wF_no rfl rfl rfl c54) rfl ?_
      refine FL.skip (wF_no rfl rfl rfl c54) rfl ?_
      refine FL.skip (wF_no rfl rfl rfl c54) rfl ?_
      obtain rfl := Option.some.inj hp
      refine FL.v (E.pickT rfl c54 rfl) ?_
      exact FL.nil ⟨rfl, _, S40, (Inc.rfl _), rfl, rfl, rfl⟩
    ·
      refine FL.val (wF_yes rfl rfl rfl c54) rfl rfl (E.load rfl (run_loadA Try.isAgg29 Try.sizeOf29 ((at28.mono i41).now S40.sl) rfl)) ?_
      obtain ⟨r55, hr56, hp⟩ := bnd hp
      refine FL.call (wF_yes rfl rfl rfl c54) rfl rfl (E.call Try.call43 (A1 rfl)) (w_impl_IsCnf S40.sl a1 v1_1 (p1_1.mono (i27.tr i41)) hr56) ?_
      rintro e w57 ⟨rfl, r58⟩
      refine ⟨_, rfl, ?_⟩
      have S59 := S40.call r58
      refine FL.val (wF_yes rfl rfl rfl c54) rfl rfl (E.not rfl) ?_
      obtain rfl := Option.some.inj hp
      refine FL.v (E.pickF rfl c54 rfl) ?_
      exact FL.nil ⟨rfl, _, S59, (Inc.rfl _), rfl, rfl, rfl⟩
  rintro f53 w52 ⟨H49, S50, i51, k60, k61, k62⟩
  refine FL.nil ?_
  rcases ifB hp with ⟨c63, hp⟩ | ⟨c63, hp⟩
  ·
    refine FW.condT k62 c63 ?_
    refine FW.seq (FW.region ?_)
    refine FL.v (E.assign (v := Value.pointer none) rfl) ?_
    refine FL.v (E.assign (v := Value.bool false) rfl) ?_
    refine FL.nil ?_
    refine FW.ret ?_
    obtain rfl := Option.some.inj hp
    exact ⟨.inr rfl, res2 rfl rfl rfl ⟨_, _, rfl, S50.run, rfl⟩⟩
  ·
    refine FW.condF k62 c63 ?_
    refine FW.skip (FW.seq (FW.region ?_))
    refine FL.v (E.load k61 (run_loadA Try.isAgg53 Try.sizeOf53 ((at42.mono i51).now S50.sl) rfl)) ?_
    refine FL.v (E.load k60 (run_loadA Try.isAgg29 Try.sizeOf29 ((at28.mono (i41.tr i51)).now S50.sl) rfl)) ?_
    refine FL.v (E.build (B2 rfl rfl) (run_build _ 56 #[(0, Value.agg #[Value.int .i64 (((PF.impl_ringOf a0 a1.vars).1).p), Value.int .i64 (((PF.impl_ringOf a0 a1.vars).1).vars)]), (1, Value.agg #[Value.int .i64 a1.vars, v1_1])] #[Value.int .i64 (((PF.impl_ringOf a0 a1.vars).1).p), Value.int .i64 (((PF.impl_ringOf a0 a1.vars).1).vars), Value.int .i64 a1.vars, v1_1, Value.slice none 0 0] (by obtain ⟨_, _, rfl⟩ := RSl.ln (p1_1.mono ((i27.tr i41).tr i51)); rfl))) ?_
    have S68 := S50.nil 48 1
    have els69 : Els (up wa.heap.size H49) (eL eI 1) 1 [] [] := Els.nil
    obtain ⟨b64, w65, run66, S67⟩ := S68.box (P := Try.prog) 56 [Value.int .i64 (((PF.impl_ringOf a0 a1.vars).1).p), Value.int .i64 (((PF.impl_ringOf a0 a1.vars).1).vars), Value.int .i64 a1.vars, v1_1, (Value.slice none 0 0)] (v := Value.agg #[Value.int .i64 (((PF.impl_ringOf a0 a1.vars).1).p), Value.int .i64 (((PF.impl_ringOf a0 a1.vars).1).vars), Value.int .i64 a1.vars, v1_1, Value.slice none 0 0]) rfl (ones_cons rfl (ones_cons rfl (ones_cons rfl (ones_cons p1_1.one (ones_cons (Ln.one (S68.row_ln (i := 0) rfl)) ones_nil)))))
    refine FL.v (E.box rfl run66) ?_
    refine FL.v (E.assign (v := Value.pointer (some (⟨b64, 0, none⟩ : Addr))) rfl) ?_
    refine FL.nil (FW.seq (FW.seq (FW.region ?_)))
    refine FL.v (E.fieldAddr tf29_1 k60) ?_
    refine FL.v (E.load rfl (run_load1 Try.isAgg22 ((at28.mono (i41.tr i51)).now S67.sl) rfl)) ?_
    refine FL.v (E.lenP te22 rfl p1_1) ?_
    refine FL.v (E.move (v := Value.int .i64 0) rfl) ?_
    refine FL.nil ?_
    obtain ⟨q71, hq, hp⟩ := bndR hp
    refine FW.block ?_
    refine FW.mono (FW.forL (S := ((List (List Int)) × Int × Int × Int × (List (List Int)))) (X := Empty) (fun (i71 : Nat) (s71 : ((List (List Int)) × Int × Int × Int × (List (List Int)))) f w => ∃ H : GH, ∃ v43 : Value, ∃ n44 : Nat, ∃ cs45 : List Value, ∃ v72 : Value, St Ha wa H w [.box b64 56 [Value.int .i64 s71.2.1, Value.int .i64 s71.2.2.1, Value.int .i64 s71.2.2.2.1, v72, v43], .row 48 1 v43 n44 cs45] ∧ Inc H49 H ∧ Els (up wa.heap.size H) (eL eI 1) 1 cs45 s71.1 ∧ RSl H (eL eI 1) 1 v72 s71.2.2.2.2 ∧ (bl cs45).Nodup ∧ f 32 = Value.int .i64 ((i71 : Nat) : Int) ∧ f 6 = Value.pointer (some ⟨b32, 0, none⟩) ∧ f 8 = Value.pointer (some (⟨b64, 0, none⟩ : Addr)) ∧ f 30 = v1_1 ∧ f 31 = Value.int .i64 (len a1.clauses)) (fun (q : Rs ((List (List Int)) × Int × Int × Int × (List (List Int))) Empty) e f w => match q with | .go s71 => e = Exit.exit 0 ∧ (∃ H : GH, ∃ v43 : Value, ∃ n44 : Nat, ∃ cs45 : List Value, ∃ v72 : Value, St Ha wa H w [.box b64 56 [Value.int .i64 s71.2.1, Value.int .i64 s71.2.2.1, Value.int .i64 s71.2.2.2.1, v72, v43], .row 48 1 v43 n44 cs45] ∧ Inc H49 H ∧ Els (up wa.heap.size H) (eL eI 1) 1 cs45 s71.1 ∧ RSl H (eL eI 1) 1 v72 s71.2.2.2.2 ∧ (bl cs45).Nodup ∧ f 8 = Value.pointer (some (⟨b64, 0, none⟩ : Addr))) | .rt x => x.elim) hq ⟨_, _, _, _, _, S67, (Inc.rfl _), els69, (p1_1.mono ((i27.tr i41).tr i51)), (show (bl []).Nodup from List.nodup_nil), rfl, k61, rfl, rfl, rfl⟩ ?_ ?_) ?_
    ·
      clear hp hq
      rintro i71 y70 s71 f78 w77 ⟨H74, v43, n44, cs45, v72, S75, i76, els46, h73, nd47, k79, k80, k81, k82, k83⟩ hx71 o148 hp
      refine FW.seq (FW.region ?_)
      refine FL.v (E.lssT k79 k83 (lss_len hx71)) ?_
      refine FL.nil (FW.seq ?_)
      refine FW.condT rfl rfl ?_
      refine FW.skip (FW.seq (FW.block (FW.seq (FW.region ?_))))
      obtain ⟨p84, cs85, pt86, l87, at88, rel89⟩ := p1_1.at (ix_nat hx71)
      obtain ⟨v90, rfl, h91⟩ := eL_open rel89
      refine FL.v (E.indexAddr te22 k82 k79 pt86) ?_
      refine FL.v (E.load rfl (run_load0 Try.isAgg47 ((at88.mono (((i27.tr i41).tr i51).tr i76)).now S75.sl) rfl)) ?_
      refine FL.v (E.assign (v := v90) rfl) ?_
      refine FL.nil ?_
      obtain ⟨r95, hr96, hp⟩ := bnd hp
      obtain ⟨xs116, hz117, hp⟩ := bnd hp
      refine FW.drawB (Sl H74) (fun f w => ∃ H : GH, ∃ v131 : Value, ∃ n132 : Nat, ∃ cs133 : List Value, ∃ v136 : Value, St Ha wa H w [.box b64 56 [Value.int .i64 s71.2.1, Value.int .i64 s71.2.2.1, Value.int .i64 s71.2.2.2.1, v136, v131], .row 48 1 v131 n132 cs133] ∧ Inc H74 H ∧ Els (up wa.heap.size H) (eL eI 1) 1 cs133 xs116 ∧ RSl H (eL eI 1) 1 v136 s71.2.2.2.2 ∧ (bl cs133).Nodup ∧ f 6 = Value.pointer (some ⟨b32, 0, none⟩) ∧ f 8 = Value.pointer (some (⟨b64, 0, none⟩ : Addr)) ∧ f 30 = v1_1 ∧ f 31 = Value.int .i64 (len a1.clauses) ∧ f 32 = Value.int .i64 ((i71 : Nat) : Int)) (by kernel_rfl) S75.sl ?_ ?_
      ·
        intro w92 r93
        have S94 := S75.call r93
        refine FB.phase [12] (fun w => WAt w (Addr.add ⟨b64, 0, none⟩ 4) [v43]) ?_
        refine FB.t (i := 0) (bs 13 1) rfl (SP.on ((S94.box_now (i := 0) rfl).sub (j := 4) (n := 1) (c := [v43]) rfl) (SP.nil S94.sl)) rfl (fun w' hw' => (E.move k81)) ?_
        refine FB.t (i := 1) (bs 13 3) rfl (SP.on ((S94.box_now (i := 0) rfl).sub (j := 4) (n := 1) (c := [v43]) rfl) (SP.nil S94.sl)) rfl (fun w' hw' => (E.move k81)) ?_
        refine FB.t (i := 2) (bs 13 7) rfl (SP.on ((S94.box_now (i := 0) rfl).sub (j := 4) (n := 1) (c := [v43]) rfl) (SP.nil S94.sl)) rfl (fun w' hw' => (E.nilCheck rfl)) ?_
        refine FB.t (i := 3) (bs 13 15) rfl (SP.on ((S94.box_now (i := 0) rfl).sub (j := 4) (n := 1) (c := [v43]) rfl) (SP.nil S94.sl)) rfl (fun w' hw' => (E.fieldAddr tf56_2 rfl)) ?_
        refine FB.p (i := 4) (bs 13 31) 0 [9, 10, 11, 12] rfl (SP.on ((S94.box_now (i := 0) rfl).sub (j := 4) (n := 1) (c := [v43]) rfl) (SP.nil S94.sl)) rfl rfl (fun w' hw' => (E.load rfl (run_load0 Try.isAgg54 hw' rfl))) ?_
        refine FB.t (i := 5) (bs 13 63) rfl (SP.on ((S94.box_now (i := 0) rfl).sub (j := 4) (n := 1) (c := [v43]) rfl) (SP.nil S94.sl)) rfl (fun w' hw' => (E.load k80 (run_loadA Try.isAgg53 Try.sizeOf53 ((at42.mono (i51.tr i76)).now hw') rfl))) ?_
        refine FB.t (i := 6) (bs 13 127) rfl (SP.on ((S94.box_now (i := 0) rfl).sub (j := 4) (n := 1) (c := [v43]) rfl) (SP.nil S94.sl)) rfl (fun w' hw' => (E.move (v := v90) rfl)) ?_
        refine FB.all1 (i := 7) (by kernel_rfl) ?_
        ·
          refine FC.call (l' := (bs 13 255)) rfl (by kernel_rfl) rfl rfl rfl (E.call Try.call44 (A2 rfl rfl)) (w_impl_ring_clause S94.sl ((PF.impl_ringOf a0 a1.vars).1) v90 y70 (h91.mono (((i27.tr i41).tr i51).tr i76)) hr96) ?_
          rintro e w98 ⟨H97, v101, n102, cs103, rfl, r100, els104⟩
          refine ⟨_, rfl, ?_⟩
          have els104 := els104.mono (up_le S94.size)
          have S99 := S94.join (l' := [.row 3 1 v101 n102 cs103, .box b64 56 [Value.int .i64 s71.2.1, Value.int .i64 s71.2.2.1, Value.int .i64 s71.2.2.2.1, v72, v43], .row 48 1 v43 n44 cs45]) r100 rfl
          refine ⟨(SP.on ((S99.box_now (i := 1) rfl).sub (j := 4) (n := 1) (c := [v43]) rfl) (SP.nil (Sl.of_inc r100.run.inc S99.sl))), ?_⟩
          refine FB.all1 (i := 8) (by kernel_rfl) ?_
          ·
            obtain ⟨H105, S106, i107, h108, nv109⟩ := S99.sealRowU (i := 0) (l' := [.box b64 56 [Value.int .i64 s71.2.1, Value.int .i64 s71.2.2.1, Value.int .i64 s71.2.2.2.1, v72, v43], .row 48 1 v43 n44 cs45]) rfl els104 (by decide) rfl
            obtain ⟨v110, w111, run112, S113⟩ := S106.buildSlice (P := Try.prog) te54 [v101] (parts := #[(0, v101)]) (cells := [v101]) rfl (szs_cons (cells_size h108.cells) szs_nil) (fc_cons h108.cells fc_nil) (ones_cons h108.one ones_nil) (Nat.le_of_ble_eq_true rfl)
            have els114 : Els (up wa.heap.size H105) (eL eI 1) 1 [v101] [r95] := (Els.snoc (H := (up wa.heap.size H105)) (E := (eL eI 1)) (k := 1) (c := [v101]) (x := r95) Els.nil rfl ⟨_, rfl, h108⟩)
            have nd115 : (bl [v101]).Nodup := by exact nd_one v101
            refine FC.val (l' := (bs 13 511)) rfl (by kernel_rfl) rfl rfl rfl (E.buildSlice (B1 rfl) run112) ?_
            refine ⟨(SP.on ((S113.box_now (i := 1) rfl).sub (j := 4) (n := 1) (c := [v43]) rfl) (SP.nil (Sl.of_inc (r100.run.inc.tr i107) S113.sl))), ?_⟩
            refine FB.all1 (i := 9) (by kernel_rfl) ?_
            ·
              obtain ⟨v118, w121, n119, cs120, run122, S123, els124, ce125⟩ := S113.appendO (P := Try.prog) te54 (i := 2) (j := 0) rfl (els46.mono (up_mono (r100.run.inc.tr i107))) rfl els114 hz117
              have S123 : St Ha wa H105 w121 [.row 48 1 v110 1 [v101], .box b64 56 [Value.int .i64 s71.2.1, Value.int .i64 s71.2.2.1, Value.int .i64 s71.2.2.2.1, v72, v43], .row 48 1 v118 n119 cs120] := S123
              have nd126 : (bl cs120).Nodup := by rw [ce125]; exact nd_app nd47 nd115 (Els.dom (els46.mono (upI.tr r100.run.inc))) (by exact nv109)
              have S127 : St Ha wa H105 w121 [.box b64 56 [Value.int .i64 s71.2.1, Value.int .i64 s71.2.2.1, Value.int .i64 s71.2.2.2.1, v72, v43], .row 48 1 v118 n119 cs120] := S123.drop 0
              refine FC.val (l' := (bs 13 1023)) rfl (by kernel_rfl) rfl rfl rfl (E.append rfl rfl run122) ?_
              refine ⟨(SP.on ((S127.box_now (i := 0) rfl).sub (j := 4) (n := 1) (c := [v43]) rfl) (SP.nil (Sl.of_inc (r100.run.inc.tr i107) S127.sl))), ?_⟩
              refine FB.t (i := 10) (bs 13 2047) rfl (SP.on ((S127.box_now (i := 0) rfl).sub (j := 4) (n := 1) (c := [v43]) rfl) (SP.nil (Sl.of_inc (r100.run.inc.tr i107) S127.sl))) rfl (fun w' hw' => (E.nilCheck rfl)) ?_
              refine FB.t (i := 11) (bs 13 4095) rfl (SP.on ((S127.box_now (i := 0) rfl).sub (j := 4) (n := 1) (c := [v43]) rfl) (SP.nil (Sl.of_inc (r100.run.inc.tr i107) S127.sl))) rfl (fun w' hw' => (E.fieldAddr tf56_2 rfl)) ?_
              refine FB.all1 (i := 12) (by kernel_rfl) ?_
              ·
                obtain ⟨w128, run129, S130⟩ := S127.store (P := Try.prog) (t := 54) (i := 0) (j := 4) (cs' := [Value.int .i64 s71.2.1, Value.int .i64 s71.2.2.1, Value.int .i64 s71.2.2.2.1, v72, v118]) (l' := [.box b64 56 [Value.int .i64 s71.2.1, Value.int .i64 s71.2.2.1, Value.int .i64 s71.2.2.2.1, v72, v118], .row 48 1 v118 n119 cs120]) (v := v118) (c := [v118]) rfl Try.sizeOf54 (Ln.cells (S127.row_ln (i := 1) rfl)) rfl (ones_cons (Ln.one (S127.row_ln (i := 1) rfl)) ones_nil) (Nat.le_of_ble_eq_true rfl) rfl rfl
                refine FC.act (l' := (bs 13 8191)) rfl (by kernel_rfl) rfl rfl (E.store rfl rfl run129) ?_
                refine ⟨(SP.o (SP.nil (Sl.of_inc (r100.run.inc.tr i107) S130.sl))), ?_⟩
                exact FB.done (by kernel_rfl) ⟨_, _, _, _, _, S130, (r100.run.inc.tr i107), els124, (h73.mono (r100.run.inc.tr i107)), nd126, k80, k81, k82, k83, k79⟩
      ·
        rintro f142 w141 ⟨H138, v131, n132, cs133, v136, S139, i140, els134, h137, nd135, k143, k144, k145, k146, k147⟩
        refine FW.region ?_
        refine FL.v (E.add k147 rfl) ?_
        refine FL.v (E.move (v := Value.int .i64 (wr (((i71 : Nat) : Int) + 1))) rfl) ?_
        refine FL.nil ?_
        obtain rfl := Option.some.inj hp
        exact ⟨rfl, ⟨_, _, _, _, _, S139, (i76.tr i140), els134, h137, nd135, (nat_succ rfl (lt_of_get hx71) (p1_1.mono ((((i27.tr i41).tr i51).tr i76).tr i140)).le), k143, k144, k145, k146⟩⟩
    ·
      clear hp hq
      rintro s71 f169 w168 ⟨H165, v43, n44, cs45, v72, S166, i167, els46, h73, nd47, k170, k171, k172, k173, k174⟩
      refine FW.seq (FW.region ?_)
      refine FL.v (E.lss k170 k174) ?_
      refine FL.nil (FW.seq ?_)
      refine FW.condF rfl dlt_len ?_
      refine FW.exit ?_
      exact ⟨nofun, rfl, ⟨_, _, _, _, _, S166, i167, els46, h73, nd47, k172⟩⟩
    ·
      clear hq
      intro e f153 w152 hD
      rcases q71 with s71 | x71
      ·
        obtain ⟨rfl, hD⟩ := hD
        obtain ⟨H149, v43, n44, cs45, v72, S150, i151, els46, h73, nd47, k154⟩ := hD
        replace hp := el_go hp
        refine FW.seq (FW.region ?_)
        refine FL.v (E.move k154) ?_
        refine FL.v (E.assign (v := Value.pointer (some (⟨b64, 0, none⟩ : Addr))) rfl) ?_
        refine FL.v (E.assign (v := Value.bool true) rfl) ?_
        refine FL.nil ?_
        refine FW.ret ?_
        obtain ⟨H155, S156, i157, ns160, nv159⟩ := S150.sealRowN (i := 1) (l' := [.box b64 56 [Value.int .i64 s71.2.1, Value.int .i64 s71.2.2.1, Value.int .i64 s71.2.2.2.1, v72, v43]]) rfl els46 nd47 (by decide) rfl
        have h158 := ns160.rsl
        obtain ⟨H161, S162, i163, at164⟩ := S156.sealBox (i := 0) (l' := []) rfl rfl
        obtain rfl := Option.some.inj hp
        exact ⟨.inr rfl, res2 rfl rfl rfl ⟨_, _, rfl, S162.run, ⟨_, rfl, _, _, (h73.mono (i157.tr i163)), ⟨_, (ns160.mono (up_mono i163))⟩, at164⟩⟩⟩
      · exact x71.elim

theorem w_impl_degreeOk {Ha : GH} {wa : World} (hs : Sl Ha wa) (a0 : Int) :
  Calls Try.prog 19 #[Value.int .i64 a0] wa (Sc Ha wa (Value.bool (PF.impl_degreeOk a0))) := by
 obtain ⟨r, hp⟩ : ∃ r, (PF.impl_degreeOk a0) = r := ⟨_, rfl⟩
 rw [hp]
 unfold PF.impl_degreeOk at hp
 have S0 := St.init hs
 refine calls_go (N := 5) (args := [Value.int .i64 a0]) Try.func19 rfl rfl rfl ?_
 refine FW.seq (FW.region ?_)
 refine FL.v (E.assign (v := Value.bool false) rfl) ?_
 refine FL.nil (FW.seq (FW.region ?_))
 refine FL.v (E.move (v := Value.int .i64 a0) rfl) ?_
 refine FL.call rfl rfl rfl (E.call Try.call45 (A3 rfl rfl rfl)) (w_impl_within S0.sl a0 0 6) ?_
 rintro e w21 ⟨rfl, r22⟩
 refine ⟨_, rfl, ?_⟩
 have S23 := S0.call r22
 refine FL.v (E.assign (v := Value.bool (PF.impl_within a0 0 6)) rfl) ?_
 refine FL.nil ?_
 refine FW.ret ?_
 obtain rfl := hp
 exact ⟨.inr rfl, res1 rfl rfl ⟨rfl, S23.back⟩⟩

theorem w_math_bits_OnesCount64 {Ha : GH} {wa : World} (hs : Sl Ha wa) (a0 : Int) :
  Calls Try.prog 83 #[Value.int .u64 a0] wa (Sc Ha wa (Value.int .i64 (PF.math_bits_OnesCount64 a0))) := by
 obtain ⟨r, hp⟩ : ∃ r, (PF.math_bits_OnesCount64 a0) = r := ⟨_, rfl⟩
 rw [hp]
 unfold PF.math_bits_OnesCount64 at hp
 have S0 := St.init hs
 refine calls_go (N := 35) (args := [Value.int .u64 a0]) Try.func83 rfl rfl rfl ?_
 refine FW.seq (FW.region ?_)
 refine FL.v (E.assign (v := Value.int .i64 0) rfl) ?_
 refine FL.nil (FW.seq (FW.region ?_))
 refine FL.v (E.move (v := Value.int .u64 a0) rfl) ?_
 refine FL.v (E.shr rfl rfl (by decide)) ?_
 refine FL.v (E.and rfl rfl) ?_
 refine FL.v (E.move (v := Value.int .u64 a0) rfl) ?_
 refine FL.v (E.and rfl rfl) ?_
 refine FL.v (E.addK rfl rfl) ?_
 refine FL.v (E.assign (v := Value.int .u64 (wrk false 64 ((andK false 64 (shrK 64 a0 1) 6148914691236517205) + (andK false 64 a0 6148914691236517205)))) rfl) ?_
 refine FL.nil (FW.seq (FW.region ?_))
 refine FL.v (E.move (v := Value.int .u64 (wrk false 64 ((andK false 64 (shrK 64 a0 1) 6148914691236517205) + (andK false 64 a0 6148914691236517205)))) rfl) ?_
 refine FL.v (E.shr rfl rfl (by decide)) ?_
 refine FL.v (E.and rfl rfl) ?_
 refine FL.v (E.move (v := Value.int .u64 (wrk false 64 ((andK false 64 (shrK 64 a0 1) 6148914691236517205) + (andK false 64 a0 6148914691236517205)))) rfl) ?_
 refine FL.v (E.and rfl rfl) ?_
 refine FL.v (E.addK rfl rfl) ?_
 refine FL.v (E.assign (v := Value.int .u64 (wrk false 64 ((andK false 64 (shrK 64 (wrk false 64 ((andK false 64 (shrK 64 a0 1) 6148914691236517205) + (andK false 64 a0 6148914691236517205))) 2) 3689348814741910323) + (andK false 64 (wrk false 64 ((andK false 64 (shrK 64 a0 1) 6148914691236517205) + (andK false 64 a0 6148914691236517205))) 3689348814741910323)))) rfl) ?_
 refine FL.nil (FW.seq (FW.region ?_))
 refine FL.v (E.move (v := Value.int .u64 (wrk false 64 ((andK false 64 (shrK 64 (wrk false 64 ((andK false 64 (shrK 64 a0 1) 6148914691236517205) + (andK false 64 a0 6148914691236517205))) 2) 3689348814741910323) + (andK false 64 (wrk false 64 ((andK false 64 (shrK 64 a0 1) 6148914691236517205) + (andK false 64 a0 6148914691236517205))) 3689348814741910323)))) rfl) ?_
 refine FL.v (E.shr rfl rfl (by decide)) ?_
 refine FL.v (E.move (v := Value.int .u64 (wrk false 64 ((andK false 64 (shrK 64 (wrk false 64 ((andK false 64 (shrK 64 a0 1) 6148914691236517205) + (andK false 64 a0 6148914691236517205))) 2) 3689348814741910323) + (andK false 64 (wrk false 64 ((andK false 64 (shrK 64 a0 1) 6148914691236517205) + (andK false 64 a0 6148914691236517205))) 3689348814741910323)))) rfl) ?_
 refine FL.v (E.addK rfl rfl) ?_
 refine FL.v (E.and rfl rfl) ?_
 refine FL.v (E.assign (v := Value.int .u64 (andK false 64 (wrk false 64 ((shrK 64 (wrk false 64 ((andK false 64 (shrK 64 (wrk false 64 ((andK false 64 (shrK 64 a0 1) 6148914691236517205) + (andK false 64 a0 6148914691236517205))) 2) 3689348814741910323) + (andK false 64 (wrk false 64 ((andK false 64 (shrK 64 a0 1) 6148914691236517205) + (andK false 64 a0 6148914691236517205))) 3689348814741910323))) 4) + (wrk false 64 ((andK false 64 (shrK 64 (wrk false 64 ((andK false 64 (shrK 64 a0 1) 6148914691236517205) + (andK false 64 a0 6148914691236517205))) 2) 3689348814741910323) + (andK false 64 (wrk false 64 ((andK false 64 (shrK 64 a0 1) 6148914691236517205) + (andK false 64 a0 6148914691236517205))) 3689348814741910323))))) 1085102592571150095)) rfl) ?_
 refine FL.nil (FW.seq (FW.region ?_))
 refine FL.v (E.move (v := Value.int .u64 (andK false 64 (wrk false 64 ((shrK 64 (wrk false 64 ((andK false 64 (shrK 64 (wrk false 64 ((andK false 64 (shrK 64 a0 1) 6148914691236517205) + (andK false 64 a0 6148914691236517205))) 2) 3689348814741910323) + (andK false 64 (wrk false 64 ((andK false 64 (shrK 64 a0 1) 6148914691236517205) + (andK false 64 a0 6148914691236517205))) 3689348814741910323))) 4) + (wrk false 64 ((andK false 64 (shrK 64 (wrk false 64 ((andK false 64 (shrK 64 a0 1) 6148914691236517205) + (andK false 64 a0 6148914691236517205))) 2) 3689348814741910323) + (andK false 64 (wrk false 64 ((andK false 64 (shrK 64 a0 1) 6148914691236517205) + (andK false 64 a0 6148914691236517205))) 3689348814741910323))))) 1085102592571150095)) rfl) ?_
 refine FL.v (E.move (v := Value.int .u64 (andK false 64 (wrk false 64 ((shrK 64 (wrk false 64 ((andK false 64 (shrK 64 (wrk false 64 ((andK false 64 (shrK 64 a0 1) 6148914691236517205) + (andK false 64 a0 6148914691236517205))) 2) 3689348814741910323) + (andK false 64 (wrk false 64 ((andK false 64 (shrK 64 a0 1) 6148914691236517205) + (andK false 64 a0 6148914691236517205))) 3689348814741910323))) 4) + (wrk false 64 ((andK false 64 (shrK 64 (wrk false 64 ((andK false 64 (shrK 64 a0 1) 6148914691236517205) + (andK false 64 a0 6148914691236517205))) 2) 3689348814741910323) + (andK false 64 (wrk false 64 ((andK false 64 (shrK 64 a0 1) 6148914691236517205) + (andK false 64 a0 6148914691236517205))) 3689348814741910323))))) 1085102592571150095)) rfl) ?_
 refine FL.v (E.shr rfl rfl (by decide)) ?_
 refine FL.v (E.addK rfl rfl) ?_
 refine FL.v (E.assign (v := Value.int .u64 (wrk false 64 ((andK false 64 (wrk false 64 ((shrK 64 (wrk false 64 ((andK false 64 (shrK 64 (wrk false 64 ((andK false 64 (shrK 64 a0 1) 6148914691236517205) + (andK false 64 a0 6148914691236517205))) 2) 3689348814741910323) + (andK false 64 (wrk false 64 ((andK false 64 (shrK 64 a0 1) 6148914691236517205) + (andK false 64 a0 6148914691236517205))) 3689348814741910323))) 4) + (wrk false 64 ((andK false 64 (shrK 64 (wrk false 64 ((andK false 64 (shrK 64 a0 1) 6148914691236517205) + (andK false 64 a0 6148914691236517205))) 2) 3689348814741910323) + (andK false 64 (wrk false 64 ((andK false 64 (shrK 64 a0 1) 6148914691236517205) + (andK false 64 a0 6148914691236517205))) 3689348814741910323))))) 1085102592571150095) + (shrK 64 (andK false 64 (wrk false 64 ((shrK 64 (wrk false 64 ((andK false 64 (shrK 64 (wrk false 64 ((andK false 64 (shrK 64 a0 1) 6148914691236517205) + (andK false 64 a0 6148914691236517205))) 2) 3689348814741910323) + (andK false 64 (wrk false 64 ((andK false 64 (shrK 64 a0 1) 6148914691236517205) + (andK false 64 a0 6148914691236517205))) 3689348814741910323))) 4) + (wrk false 64 ((andK false 64 (shrK 64 (wrk false 64 ((andK false 64 (shrK 64 a0 1) 6148914691236517205) + (andK false 64 a0 6148914691236517205))) 2) 3689348814741910323) + (andK false 64 (wrk false 64 ((andK false 64 (shrK 64 a0 1) 6148914691236517205) + (andK false 64 a0 6148914691236517205))) 3689348814741910323))))) 1085102592571150095) 8)))) rfl) ?_
 refine FL.nil (FW.seq (FW.region ?_))
 refine FL.v (E.move (v := Value.int .u64 (wrk false 64 ((andK false 64 (wrk false 64 ((shrK 64 (wrk false 64 ((andK false 64 (shrK 64 (wrk false 64 ((andK false 64 (shrK 64 a0 1) 6148914691236517205) + (andK false 64 a0 6148914691236517205))) 2) 3689348814741910323) + (andK false 64 (wrk false 64 ((andK false 64 (shrK 64 a0 1) 6148914691236517205) + (andK false 64 a0 6148914691236517205))) 3689348814741910323))) 4) + (wrk false 64 ((andK false 64 (shrK 64 (wrk false 64 ((andK false 64 (shrK 64 a0 1) 6148914691236517205) + (andK false 64 a0 6148914691236517205))) 2) 3689348814741910323) + (andK false 64 (wrk false 64 ((andK false 64 (shrK 64 a0 1) 6148914691236517205) + (andK false 64 a0 6148914691236517205))) 3689348814741910323))))) 1085102592571150095) + (shrK 64 (andK false 64 (wrk false 64 ((shrK 64 (wrk false 64 ((andK false 64 (shrK 64 (wrk false 64 ((andK false 64 (shrK 64 a0 1) 6148914691236517205) + (andK false 64 a0 6148914691236517205))) 2) 3689348814741910323) + (andK false 64 (wrk false 64 ((andK false 64 (shrK 64 a0 1) 6148914691236517205) + (andK false 64 a0 6148914691236517205))) 3689348814741910323))) 4) + (wrk false 64 ((andK false 64 (shrK 64 (wrk false 64 ((andK false 64 (shrK 64 a0 1) 6148914691236517205) + (andK false 64 a0 6148914691236517205))) 2) 3689348814741910323) + (andK false 64 (wrk false 64 ((andK false 64 (shrK 64 a0 1) 6148914691236517205) + (andK false 64 a0 6148914691236517205))) 3689348814741910323))))) 1085102592571150095) 8)))) rfl) ?_
 refine FL.v (E.move (v := Value.int .u64 (wrk false 64 ((andK false 64 (wrk false 64 ((shrK 64 (wrk false 64 ((andK false 64 (shrK 64 (wrk false 64 ((andK false 64 (shrK 64 a0 1) 6148914691236517205) + (andK false 64 a0 6148914691236517205))) 2) 3689348814741910323) + (andK false 64 (wrk false 64 ((andK false 64 (shrK 64 a0 1) 6148914691236517205) + (andK false 64 a0 6148914691236517205))) 3689348814741910323))) 4) + (wrk false 64 ((andK false 64 (shrK 64 (wrk false 64 ((andK false 64 (shrK 64 a0 1) 6148914691236517205) + (andK false 64 a0 6148914691236517205))) 2) 3689348814741910323) + (andK false 64 (wrk false 64 ((andK false 64 (shrK 64 a0 1) 6148914691236517205) + (andK false 64 a0 6148914691236517205))) 3689348814741910323))))) 1085102592571150095) + (shrK 64 (andK false 64 (wrk false 64 ((shrK 64 (wrk false 64 ((andK false 64 (shrK 64 (wrk false 64 ((andK false 64 (shrK 64 a0 1) 6148914691236517205) + (andK false 64 a0 6148914691236517205))) 2) 3689348814741910323) + (andK false 64 (wrk false 64 ((andK false 64 (shrK 64 a0 1) 6148914691236517205) + (andK false 64 a0 6148914691236517205))) 3689348814741910323))) 4) + (wrk false 64 ((andK false 64 (shrK 64 (wrk false 64 ((andK false 64 (shrK 64 a0 1) 6148914691236517205) + (andK false 64 a0 6148914691236517205))) 2) 3689348814741910323) + (andK false 64 (wrk false 64 ((andK false 64 (shrK 64 a0 1) 6148914691236517205) + (andK false 64 a0 6148914691236517205))) 3689348814741910323))))) 1085102592571150095) 8)))) rfl) ?_
 refine FL.v (E.shr rfl rfl (by decide)) ?_
 refine FL.v (E.addK rfl rfl) ?_
 refine FL.v (E.assign (v := Value.int .u64 (wrk false 64 ((wrk false 64 ((andK false 64 (wrk false 64 ((shrK 64 (wrk false 64 ((andK false 64 (shrK 64 (wrk false 64 ((andK false 64 (shrK 64 a0 1) 6148914691236517205) + (andK false 64 a0 6148914691236517205))) 2) 3689348814741910323) + (andK false 64 (wrk false 64 ((andK false 64 (shrK 64 a0 1) 6148914691236517205) + (andK false 64 a0 6148914691236517205))) 3689348814741910323))) 4) + (wrk false 64 ((andK false 64 (shrK 64 (wrk false 64 ((andK false 64 (shrK 64 a0 1) 6148914691236517205) + (andK false 64 a0 6148914691236517205))) 2) 3689348814741910323) + (andK false 64 (wrk false 64 ((andK false 64 (shrK 64 a0 1) 6148914691236517205) + (andK false 64 a0 6148914691236517205))) 3689348814741910323))))) 1085102592571150095) + (shrK 64 (andK false 64 (wrk false 64 ((shrK 64 (wrk false 64 ((andK false 64 (shrK 64 (wrk false 64 ((andK false 64 (shrK 64 a0 1) 6148914691236517205) + (andK false 64 a0 6148914691236517205))) 2) 3689348814741910323) + (andK false 64 (wrk false 64 ((andK false 64 (shrK 64 a0 1) 6148914691236517205) + (andK false 64 a0 6148914691236517205))) 3689348814741910323))) 4) + (wrk false 64 ((andK false 64 (shrK 64 (wrk false 64 ((andK false 64 (shrK 64 a0 1) 6148914691236517205) + (andK false 64 a0 6148914691236517205))) 2) 3689348814741910323) + (andK false 64 (wrk false 64 ((andK false 64 (shrK 64 a0 1) 6148914691236517205) + (andK false 64 a0 6148914691236517205))) 3689348814741910323))))) 1085102592571150095) 8))) + (shrK 64 (wrk false 64 ((andK false 64 (wrk false 64 ((shrK 64 (wrk false 64 ((andK false 64 (shrK 64 (wrk false 64 ((andK false 64 (shrK 64 a0 1) 6148914691236517205) + (andK false 64 a0 6148914691236517205))) 2) 3689348814741910323) + (andK false 64 (wrk false 64 ((andK false 64 (shrK 64 a0 1) 6148914691236517205) + (andK false 64 a0 6148914691236517205))) 3689348814741910323))) 4) + (wrk false 64 ((andK false 64 (shrK 64 (wrk false 64 ((andK false 64 (shrK 64 a0 1) 6148914691236517205) + (andK false 64 a0 6148914691236517205))) 2) 3689348814741910323) + (andK false 64 (wrk false 64 ((andK false 64 (shrK 64 a0 1) 6148914691236517205) + (andK false 64 a0 6148914691236517205))) 3689348814741910323))))) 1085102592571150095) + (shrK 64 (andK false 64 (wrk false 64 ((shrK 64 (wrk false 64 ((andK false 64 (shrK 64 (wrk false 64 ((andK false 64 (shrK 64 a0 1) 6148914691236517205) + (andK false 64 a0 6148914691236517205))) 2) 3689348814741910323) + (andK false 64 (wrk false 64 ((andK false 64 (shrK 64 a0 1) 6148914691236517205) + (andK false 64 a0 6148914691236517205))) 3689348814741910323))) 4) + (wrk false 64 ((andK false 64 (shrK 64 (wrk false 64 ((andK false 64 (shrK 64 a0 1) 6148914691236517205) + (andK false 64 a0 6148914691236517205))) 2) 3689348814741910323) + (andK false 64 (wrk false 64 ((andK false 64 (shrK 64 a0 1) 6148914691236517205) + (andK false 64 a0 6148914691236517205))) 3689348814741910323))))) 1085102592571150095) 8))) 16)))) rfl) ?_
 refine FL.nil (FW.seq (FW.region ?_))
 refine FL.v (E.move (v := Value.int .u64 (wrk false 64 ((wrk false 64 ((andK false 64 (wrk false 64 ((shrK 64 (wrk false 64 ((andK false 64 (shrK 64 (wrk false 64 ((andK false 64 (shrK 64 a0 1) 6148914691236517205) + (andK false 64 a0 6148914691236517205))) 2) 3689348814741910323) + (andK false 64 (wrk false 64 ((andK false 64 (shrK 64 a0 1) 6148914691236517205) + (andK false 64 a0 6148914691236517205))) 3689348814741910323))) 4) + (wrk false 64 ((andK false 64 (shrK 64 (wrk false 64 ((andK false 64 (shrK 64 a0 1) 6148914691236517205) + (andK false 64 a0 6148914691236517205))) 2) 3689348814741910323) + (andK false 64 (wrk false 64 ((andK false 64 (shrK 64 a0 1) 6148914691236517205) + (andK false 64 a0 6148914691236517205))) 3689348814741910323))))) 1085102592571150095) + (shrK 64 (andK false 64 (wrk false 64 ((shrK 64 (wrk false 64 ((andK false 64 (shrK 64 (wrk false 64 ((andK false 64 (shrK 64 a0 1) 6148914691236517205) + (andK false 64 a0 6148914691236517205))) 2) 3689348814741910323) + (andK false 64 (wrk false 64 ((andK false 64 (shrK 64 a0 1) 6148914691236517205) + (andK false 64 a0 6148914691236517205))) 3689348814741910323))) 4) + (wrk false 64 ((andK false 64 (shrK 64 (wrk false 64 ((andK false 64 (shrK 64 a0 1) 6148914691236517205) + (andK false 64 a0 6148914691236517205))) 2) 3689348814741910323) + (andK false 64 (wrk false 64 ((andK false 64 (shrK 64 a0 1) 6148914691236517205) + (andK false 64 a0 6148914691236517205))) 3689348814741910323))))) 1085102592571150095) 8))) + (shrK 64 (wrk false 64 ((andK false 64 (wrk false 64 ((shrK 64 (wrk false 64 ((andK false 64 (shrK 64 (wrk false 64 ((andK false 64 (shrK 64 a0 1) 6148914691236517205) + (andK false 64 a0 6148914691236517205))) 2) 3689348814741910323) + (andK false 64 (wrk false 64 ((andK false 64 (shrK 64 a0 1) 6148914691236517205) + (andK false 64 a0 6148914691236517205))) 3689348814741910323))) 4) + (wrk false 64 ((andK false 64 (shrK 64 (wrk false 64 ((andK false 64 (shrK 64 a0 1) 6148914691236517205) + (andK false 64 a0 6148914691236517205))) 2) 3689348814741910323) + (andK false 64 (wrk false 64 ((andK false 64 (shrK 64 a0 1) 6148914691236517205) + (andK false 64 a0 6148914691236517205))) 3689348814741910323))))) 1085102592571150095) + (shrK 64 (andK false 64 (wrk false 64 ((shrK 64 (wrk false 64 ((andK false 64 (shrK 64 (wrk false 64 ((andK false 64 (shrK 64 a0 1) 6148914691236517205) + (andK false 64 a0 6148914691236517205))) 2) 3689348814741910323) + (andK false 64 (wrk false 64 ((andK false 64 (shrK 64 a0 1) 6148914691236517205) + (andK false 64 a0 6148914691236517205))) 3689348814741910323))) 4) + (wrk false 64 ((andK false 64 (shrK 64 (wrk false 64 ((andK false 64 (shrK 64 a0 1) 6148914691236517205) + (andK false 64 a0 6148914691236517205))) 2) 3689348814741910323) + (andK false 64 (wrk false 64 ((andK false 64 (shrK 64 a0 1) 6148914691236517205) + (andK false 64 a0 6148914691236517205))) 3689348814741910323))))) 1085102592571150095) 8))) 16)))) rfl) ?_
 refine FL.v (E.move (v := Value.int .u64 (wrk false 64 ((wrk false 64 ((andK false 64 (wrk false 64 ((shrK 64 (wrk false 64 ((andK false 64 (shrK 64 (wrk false 64 ((andK false 64 (shrK 64 a0 1) 6148914691236517205) + (andK false 64 a0 6148914691236517205))) 2) 3689348814741910323) + (andK false 64 (wrk false 64 ((andK false 64 (shrK 64 a0 1) 6148914691236517205) + (andK false 64 a0 6148914691236517205))) 3689348814741910323))) 4) + (wrk false 64 ((andK false 64 (shrK 64 (wrk false 64 ((andK false 64 (shrK 64 a0 1) 6148914691236517205) + (andK false 64 a0 6148914691236517205))) 2) 3689348814741910323) + (andK false 64 (wrk false 64 ((andK false 64 (shrK 64 a0 1) 6148914691236517205) + (andK false 64 a0 6148914691236517205))) 3689348814741910323))))) 1085102592571150095) + (shrK 64 (andK false 64 (wrk false 64 ((shrK 64 (wrk false 64 ((andK false 64 (shrK 64 (wrk false 64 ((andK false 64 (shrK 64 a0 1) 6148914691236517205) + (andK false 64 a0 6148914691236517205))) 2) 3689348814741910323) + (andK false 64 (wrk false 64 ((andK false 64 (shrK 64 a0 1) 6148914691236517205) + (andK false 64 a0 6148914691236517205))) 3689348814741910323))) 4) + (wrk false 64 ((andK false 64 (shrK 64 (wrk false 64 ((andK false 64 (shrK 64 a0 1) 6148914691236517205) + (andK false 64 a0 6148914691236517205))) 2) 3689348814741910323) + (andK false 64 (wrk false 64 ((andK false 64 (shrK 64 a0 1) 6148914691236517205) + (andK false 64 a0 6148914691236517205))) 3689348814741910323))))) 1085102592571150095) 8))) + (shrK 64 (wrk false 64 ((andK false 64 (wrk false 64 ((shrK 64 (wrk false 64 ((andK false 64 (shrK 64 (wrk false 64 ((andK false 64 (shrK 64 a0 1) 6148914691236517205) + (andK false 64 a0 6148914691236517205))) 2) 3689348814741910323) + (andK false 64 (wrk false 64 ((andK false 64 (shrK 64 a0 1) 6148914691236517205) + (andK false 64 a0 6148914691236517205))) 3689348814741910323))) 4) + (wrk false 64 ((andK false 64 (shrK 64 (wrk false 64 ((andK false 64 (shrK 64 a0 1) 6148914691236517205) + (andK false 64 a0 6148914691236517205))) 2) 3689348814741910323) + (andK false 64 (wrk false 64 ((andK false 64 (shrK 64 a0 1) 6148914691236517205) + (andK false 64 a0 6148914691236517205))) 3689348814741910323))))) 1085102592571150095) + (shrK 64 (andK false 64 (wrk false 64 ((shrK 64 (wrk false 64 ((andK false 64 (shrK 64 (wrk false 64 ((andK false 64 (shrK 64 a0 1) 6148914691236517205) + (andK false 64 a0 6148914691236517205))) 2) 3689348814741910323) + (andK false 64 (wrk false 64 ((andK false 64 (shrK 64 a0 1) 6148914691236517205) + (andK false 64 a0 6148914691236517205))) 3689348814741910323))) 4) + (wrk false 64 ((andK false 64 (shrK 64 (wrk false 64 ((andK false 64 (shrK 64 a0 1) 6148914691236517205) + (andK false 64 a0 6148914691236517205))) 2) 3689348814741910323) + (andK false 64 (wrk false 64 ((andK false 64 (shrK 64 a0 1) 6148914691236517205) + (andK false 64 a0 6148914691236517205))) 3689348814741910323))))) 1085102592571150095) 8))) 16)))) rfl) ?_
 refine FL.v (E.shr rfl rfl (by decide)) ?_
 refine FL.v (E.addK rfl rfl) ?_
 refine FL.v (E.assign (v := Value.int .u64 (wrk false 64 ((wrk false 64 ((wrk false 64 ((andK false 64 (wrk false 64 ((shrK 64 (wrk false 64 ((andK false 64 (shrK 64 (wrk false 64 ((andK false 64 (shrK 64 a0 1) 6148914691236517205) + (andK false 64 a0 6148914691236517205))) 2) 3689348814741910323) + (andK false 64 (wrk false 64 ((andK false 64 (shrK 64 a0 1) 6148914691236517205) + (andK false 64 a0 6148914691236517205))) 3689348814741910323))) 4) + (wrk false 64 ((andK false 64 (shrK 64 (wrk false 64 ((andK false 64 (shrK 64 a0 1) 6148914691236517205) + (andK false 64 a0 6148914691236517205))) 2) 3689348814741910323) + (andK false 64 (wrk false 64 ((andK false 64 (shrK 64 a0 1) 6148914691236517205) + (andK false 64 a0 6148914691236517205))) 3689348814741910323))))) 1085102592571150095) + (shrK 64 (andK false 64 (wrk false 64 ((shrK 64 (wrk false 64 ((andK false 64 (shrK 64 (wrk false 64 ((andK false 64 (shrK 64 a0 1) 6148914691236517205) + (andK false 64 a0 6148914691236517205))) 2) 3689348814741910323) + (andK false 64 (wrk false 64 ((andK false 64 (shrK 64 a0 1) 6148914691236517205) + (andK false 64 a0 6148914691236517205))) 3689348814741910323))) 4) + (wrk false 64 ((andK false 64 (shrK 64 (wrk false 64 ((andK false 64 (shrK 64 a0 1) 6148914691236517205) + (andK false 64 a0 6148914691236517205))) 2) 3689348814741910323) + (andK false 64 (wrk false 64 ((andK false 64 (shrK 64 a0 1) 6148914691236517205) + (andK false 64 a0 6148914691236517205))) 3689348814741910323))))) 1085102592571150095) 8))) + (shrK 64 (wrk false 64 ((andK false 64 (wrk false 64 ((shrK 64 (wrk false 64 ((andK false 64 (shrK 64 (wrk false 64 ((andK false 64 (shrK 64 a0 1) 6148914691236517205) + (andK false 64 a0 6148914691236517205))) 2) 3689348814741910323) + (andK false 64 (wrk false 64 ((andK false 64 (shrK 64 a0 1) 6148914691236517205) + (andK false 64 a0 6148914691236517205))) 3689348814741910323))) 4) + (wrk false 64 ((andK false 64 (shrK 64 (wrk false 64 ((andK false 64 (shrK 64 a0 1) 6148914691236517205) + (andK false 64 a0 6148914691236517205))) 2) 3689348814741910323) + (andK false 64 (wrk false 64 ((andK false 64 (shrK 64 a0 1) 6148914691236517205) + (andK false 64 a0 6148914691236517205))) 3689348814741910323))))) 1085102592571150095) + (shrK 64 (andK false 64 (wrk false 64 ((shrK 64 (wrk false 64 ((andK false 64 (shrK 64 (wrk false 64 ((andK false 64 (shrK 64 a0 1) 6148914691236517205) + (andK false 64 a0 6148914691236517205))) 2) 3689348814741910323) + (andK false 64 (wrk false 64 ((andK false 64 (shrK 64 a0 1) 6148914691236517205) + (andK false 64 a0 6148914691236517205))) 3689348814741910323))) 4) + (wrk false 64 ((andK false 64 (shrK 64 (wrk false 64 ((andK false 64 (shrK 64 a0 1) 6148914691236517205) + (andK false 64 a0 6148914691236517205))) 2) 3689348814741910323) + (andK false 64 (wrk false 64 ((andK false 64 (shrK 64 a0 1) 6148914691236517205) + (andK false 64 a0 6148914691236517205))) 3689348814741910323))))) 1085102592571150095) 8))) 16))) + (shrK 64 (wrk false 64 ((wrk false 64 ((andK false 64 (wrk false 64 ((shrK 64 (wrk false 64 ((andK false 64 (shrK 64 (wrk false 64 ((andK false 64 (shrK 64 a0 1) 6148914691236517205) + (andK false 64 a0 6148914691236517205))) 2) 3689348814741910323) + (andK false 64 (wrk false 64 ((andK false 64 (shrK 64 a0 1) 6148914691236517205) + (andK false 64 a0 6148914691236517205))) 3689348814741910323))) 4) + (wrk false 64 ((andK false 64 (shrK 64 (wrk false 64 ((andK false 64 (shrK 64 a0 1) 6148914691236517205) + (andK false 64 a0 6148914691236517205))) 2) 3689348814741910323) + (andK false 64 (wrk false 64 ((andK false 64 (shrK 64 a0 1) 6148914691236517205) + (andK false 64 a0 6148914691236517205))) 3689348814741910323))))) 1085102592571150095) + (shrK 64 (andK false 64 (wrk false 64 ((shrK 64 (wrk false 64 ((andK false 64 (shrK 64 (wrk false 64 ((andK false 64 (shrK 64 a0 1) 6148914691236517205) + (andK false 64 a0 6148914691236517205))) 2) 3689348814741910323) + (andK false 64 (wrk false 64 ((andK false 64 (shrK 64 a0 1) 6148914691236517205) + (andK false 64 a0 6148914691236517205))) 3689348814741910323))) 4) + (wrk false 64 ((andK false 64 (shrK 64 (wrk false 64 ((andK false 64 (shrK 64 a0 1) 6148914691236517205) + (andK false 64 a0 6148914691236517205))) 2) 3689348814741910323) + (andK false 64 (wrk false 64 ((andK false 64 (shrK 64 a0 1) 6148914691236517205) + (andK false 64 a0 6148914691236517205))) 3689348814741910323))))) 1085102592571150095) 8))) + (shrK 64 (wrk false 64 ((andK false 64 (wrk false 64 ((shrK 64 (wrk false 64 ((andK false 64 (shrK 64 (wrk false 64 ((andK false 64 (shrK 64 a0 1) 6148914691236517205) + (andK false 64 a0 6148914691236517205))) 2) 3689348814741910323) + (andK false 64 (wrk false 64 ((andK false 64 (shrK 64 a0 1) 6148914691236517205) + (andK false 64 a0 6148914691236517205))) 3689348814741910323))) 4) + (wrk false 64 ((andK false 64 (shrK 64 (wrk false 64 ((andK false 64 (shrK 64 a0 1) 6148914691236517205) + (andK false 64 a0 6148914691236517205))) 2) 3689348814741910323) + (andK false 64 (wrk false 64 ((andK false 64 (shrK 64 a0 1) 6148914691236517205) + (andK false 64 a0 6148914691236517205))) 3689348814741910323))))) 1085102592571150095) + (shrK 64 (andK false 64 (wrk false 64 ((shrK 64 (wrk false 64 ((andK false 64 (shrK 64 (wrk false 64 ((andK false 64 (shrK 64 a0 1) 6148914691236517205) + (andK false 64 a0 6148914691236517205))) 2) 3689348814741910323) + (andK false 64 (wrk false 64 ((andK false 64 (shrK 64 a0 1) 6148914691236517205) + (andK false 64 a0 6148914691236517205))) 3689348814741910323))) 4) + (wrk false 64 ((andK false 64 (shrK 64 (wrk false 64 ((andK false 64 (shrK 64 a0 1) 6148914691236517205) + (andK false 64 a0 6148914691236517205))) 2) 3689348814741910323) + (andK false 64 (wrk false 64 ((andK false 64 (shrK 64 a0 1) 6148914691236517205) + (andK false 64 a0 6148914691236517205))) 3689348814741910323))))) 1085102592571150095) 8))) 16))) 32)))) rfl) ?_
 refine FL.nil (FW.seq (FW.region ?_))
 refine FL.v (E.move (v := Value.int .u64 (wrk false 64 ((wrk false 64 ((wrk false 64 ((andK false 64 (wrk false 64 ((shrK 64 (wrk false 64 ((andK false 64 (shrK 64 (wrk false 64 ((andK false 64 (shrK 64 a0 1) 6148914691236517205) + (andK false 64 a0 6148914691236517205))) 2) 3689348814741910323) + (andK false 64 (wrk false 64 ((andK false 64 (shrK 64 a0 1) 6148914691236517205) + (andK false 64 a0 6148914691236517205))) 3689348814741910323))) 4) + (wrk false 64 ((andK false 64 (shrK 64 (wrk false 64 ((andK false 64 (shrK 64 a0 1) 6148914691236517205) + (andK false 64 a0 6148914691236517205))) 2) 3689348814741910323) + (andK false 64 (wrk false 64 ((andK false 64 (shrK 64 a0 1) 6148914691236517205) + (andK false 64 a0 6148914691236517205))) 3689348814741910323))))) 1085102592571150095) + (shrK 64 (andK false 64 (wrk false 64 ((shrK 64 (wrk false 64 ((andK false 64 (shrK 64 (wrk false 64 ((andK false 64 (shrK 64 a0 1) 6148914691236517205) + (andK false 64 a0 6148914691236517205))) 2) 3689348814741910323) + (andK false 64 (wrk false 64 ((andK false 64 (shrK 64 a0 1) 6148914691236517205) + (andK false 64 a0 6148914691236517205))) 3689348814741910323))) 4) + (wrk false 64 ((andK false 64 (shrK 64 (wrk false 64 ((andK false 64 (shrK 64 a0 1) 6148914691236517205) + (andK false 64 a0 6148914691236517205))) 2) 3689348814741910323) + (andK false 64 (wrk false 64 ((andK false 64 (shrK 64 a0 1) 6148914691236517205) + (andK false 64 a0 6148914691236517205))) 3689348814741910323))))) 1085102592571150095) 8))) + (shrK 64 (wrk false 64 ((andK false 64 (wrk false 64 ((shrK 64 (wrk false 64 ((andK false 64 (shrK 64 (wrk false 64 ((andK false 64 (shrK 64 a0 1) 6148914691236517205) + (andK false 64 a0 6148914691236517205))) 2) 3689348814741910323) + (andK false 64 (wrk false 64 ((andK false 64 (shrK 64 a0 1) 6148914691236517205) + (andK false 64 a0 6148914691236517205))) 3689348814741910323))) 4) + (wrk false 64 ((andK false 64 (shrK 64 (wrk false 64 ((andK false 64 (shrK 64 a0 1) 6148914691236517205) + (andK false 64 a0 6148914691236517205))) 2) 3689348814741910323) + (andK false 64 (wrk false 64 ((andK false 64 (shrK 64 a0 1) 6148914691236517205) + (andK false 64 a0 6148914691236517205))) 3689348814741910323))))) 1085102592571150095) + (shrK 64 (andK false 64 (wrk false 64 ((shrK 64 (wrk false 64 ((andK false 64 (shrK 64 (wrk false 64 ((andK false 64 (shrK 64 a0 1) 6148914691236517205) + (andK false 64 a0 6148914691236517205))) 2) 3689348814741910323) + (andK false 64 (wrk false 64 ((andK false 64 (shrK 64 a0 1) 6148914691236517205) + (andK false 64 a0 6148914691236517205))) 3689348814741910323))) 4) + (wrk false 64 ((andK false 64 (shrK 64 (wrk false 64 ((andK false 64 (shrK 64 a0 1) 6148914691236517205) + (andK false 64 a0 6148914691236517205))) 2) 3689348814741910323) + (andK false 64 (wrk false 64 ((andK false 64 (shrK 64 a0 1) 6148914691236517205) + (andK false 64 a0 6148914691236517205))) 3689348814741910323))))) 1085102592571150095) 8))) 16))) + (shrK 64 (wrk false 64 ((wrk false 64 ((andK false 64 (wrk false 64 ((shrK 64 (wrk false 64 ((andK false 64 (shrK 64 (wrk false 64 ((andK false 64 (shrK 64 a0 1) 6148914691236517205) + (andK false 64 a0 6148914691236517205))) 2) 3689348814741910323) + (andK false 64 (wrk false 64 ((andK false 64 (shrK 64 a0 1) 6148914691236517205) + (andK false 64 a0 6148914691236517205))) 3689348814741910323))) 4) + (wrk false 64 ((andK false 64 (shrK 64 (wrk false 64 ((andK false 64 (shrK 64 a0 1) 6148914691236517205) + (andK false 64 a0 6148914691236517205))) 2) 3689348814741910323) + (andK false 64 (wrk false 64 ((andK false 64 (shrK 64 a0 1) 6148914691236517205) + (andK false 64 a0 6148914691236517205))) 3689348814741910323))))) 1085102592571150095) + (shrK 64 (andK false 64 (wrk false 64 ((shrK 64 (wrk false 64 ((andK false 64 (shrK 64 (wrk false 64 ((andK false 64 (shrK 64 a0 1) 6148914691236517205) + (andK false 64 a0 6148914691236517205))) 2) 3689348814741910323) + (andK false 64 (wrk false 64 ((andK false 64 (shrK 64 a0 1) 6148914691236517205) + (andK false 64 a0 6148914691236517205))) 3689348814741910323))) 4) + (wrk false 64 ((andK false 64 (shrK 64 (wrk false 64 ((andK false 64 (shrK 64 a0 1) 6148914691236517205) + (andK false 64 a0 6148914691236517205))) 2) 3689348814741910323) + (andK false 64 (wrk false 64 ((andK false 64 (shrK 64 a0 1) 6148914691236517205) + (andK false 64 a0 6148914691236517205))) 3689348814741910323))))) 1085102592571150095) 8))) + (shrK 64 (wrk false 64 ((andK false 64 (wrk false 64 ((shrK 64 (wrk false 64 ((andK false 64 (shrK 64 (wrk false 64 ((andK false 64 (shrK 64 a0 1) 6148914691236517205) + (andK false 64 a0 6148914691236517205))) 2) 3689348814741910323) + (andK false 64 (wrk false 64 ((andK false 64 (shrK 64 a0 1) 6148914691236517205) + (andK false 64 a0 6148914691236517205))) 3689348814741910323))) 4) + (wrk false 64 ((andK false 64 (shrK 64 (wrk false 64 ((andK false 64 (shrK 64 a0 1) 6148914691236517205) + (andK false 64 a0 6148914691236517205))) 2) 3689348814741910323) + (andK false 64 (wrk false 64 ((andK false 64 (shrK 64 a0 1) 6148914691236517205) + (andK false 64 a0 6148914691236517205))) 3689348814741910323))))) 1085102592571150095) + (shrK 64 (andK false 64 (wrk false 64 ((shrK 64 (wrk false 64 ((andK false 64 (shrK 64 (wrk false 64 ((andK false 64 (shrK 64 a0 1) 6148914691236517205) + (andK false 64 a0 6148914691236517205))) 2) 3689348814741910323) + (andK false 64 (wrk false 64 ((andK false 64 (shrK 64 a0 1) 6148914691236517205) + (andK false 64 a0 6148914691236517205))) 3689348814741910323))) 4) + (wrk false 64 ((andK false 64 (shrK 64 (wrk false 64 ((andK false 64 (shrK 64 a0 1) 6148914691236517205) + (andK false 64 a0 6148914691236517205))) 2) 3689348814741910323) + (andK false 64 (wrk false 64 ((andK false 64 (shrK 64 a0 1) 6148914691236517205) + (andK false 64 a0 6148914691236517205))) 3689348814741910323))))) 1085102592571150095) 8))) 16))) 32)))) rfl) ?_
 refine FL.v (E.conv Try.runUnderlying114 Try.runUnderlying3 rfl) ?_
 refine FL.v (E.and rfl rfl) ?_
 refine FL.v (E.assign (v := Value.int .i64 (andK true 64 (wrk true 64 (wrk false 64 ((wrk false 64 ((wrk false 64 ((andK false 64 (wrk false 64 ((shrK 64 (wrk false 64 ((andK false 64 (shrK 64 (wrk false 64 ((andK false 64 (shrK 64 a0 1) 6148914691236517205) + (andK false 64 a0 6148914691236517205))) 2) 3689348814741910323) + (andK false 64 (wrk false 64 ((andK false 64 (shrK 64 a0 1) 6148914691236517205) + (andK false 64 a0 6148914691236517205))) 3689348814741910323))) 4) + (wrk false 64 ((andK false 64 (shrK 64 (wrk false 64 ((andK false 64 (shrK 64 a0 1) 6148914691236517205) + (andK false 64 a0 6148914691236517205))) 2) 3689348814741910323) + (andK false 64 (wrk false 64 ((andK false 64 (shrK 64 a0 1) 6148914691236517205) + (andK false 64 a0 6148914691236517205))) 3689348814741910323))))) 1085102592571150095) + (shrK 64 (andK false 64 (wrk false 64 ((shrK 64 (wrk false 64 ((andK false 64 (shrK 64 (wrk false 64 ((andK false 64 (shrK 64 a0 1) 6148914691236517205) + (andK false 64 a0 6148914691236517205))) 2) 3689348814741910323) + (andK false 64 (wrk false 64 ((andK false 64 (shrK 64 a0 1) 6148914691236517205) + (andK false 64 a0 6148914691236517205))) 3689348814741910323))) 4) + (wrk false 64 ((andK false 64 (shrK 64 (wrk false 64 ((andK false 64 (shrK 64 a0 1) 6148914691236517205) + (andK false 64 a0 6148914691236517205))) 2) 3689348814741910323) + (andK false 64 (wrk false 64 ((andK false 64 (shrK 64 a0 1) 6148914691236517205) + (andK false 64 a0 6148914691236517205))) 3689348814741910323))))) 1085102592571150095) 8))) + (shrK 64 (wrk false 64 ((andK false 64 (wrk false 64 ((shrK 64 (wrk false 64 ((andK false 64 (shrK 64 (wrk false 64 ((andK false 64 (shrK 64 a0 1) 6148914691236517205) + (andK false 64 a0 6148914691236517205))) 2) 3689348814741910323) + (andK false 64 (wrk false 64 ((andK false 64 (shrK 64 a0 1) 6148914691236517205) + (andK false 64 a0 6148914691236517205))) 3689348814741910323))) 4) + (wrk false 64 ((andK false 64 (shrK 64 (wrk false 64 ((andK false 64 (shrK 64 a0 1) 6148914691236517205) + (andK false 64 a0 6148914691236517205))) 2) 3689348814741910323) + (andK false 64 (wrk false 64 ((andK false 64 (shrK 64 a0 1) 6148914691236517205) + (andK false 64 a0 6148914691236517205))) 3689348814741910323))))) 1085102592571150095) + (shrK 64 (andK false 64 (wrk false 64 ((shrK 64 (wrk false 64 ((andK false 64 (shrK 64 (wrk false 64 ((andK false 64 (shrK 64 a0 1) 6148914691236517205) + (andK false 64 a0 6148914691236517205))) 2) 3689348814741910323) + (andK false 64 (wrk false 64 ((andK false 64 (shrK 64 a0 1) 6148914691236517205) + (andK false 64 a0 6148914691236517205))) 3689348814741910323))) 4) + (wrk false 64 ((andK false 64 (shrK 64 (wrk false 64 ((andK false 64 (shrK 64 a0 1) 6148914691236517205) + (andK false 64 a0 6148914691236517205))) 2) 3689348814741910323) + (andK false 64 (wrk false 64 ((andK false 64 (shrK 64 a0 1) 6148914691236517205) + (andK false 64 a0 6148914691236517205))) 3689348814741910323))))) 1085102592571150095) 8))) 16))) + (shrK 64 (wrk false 64 ((wrk false 64 ((andK false 64 (wrk false 64 ((shrK 64 (wrk false 64 ((andK false 64 (shrK 64 (wrk false 64 ((andK false 64 (shrK 64 a0 1) 6148914691236517205) + (andK false 64 a0 6148914691236517205))) 2) 3689348814741910323) + (andK false 64 (wrk false 64 ((andK false 64 (shrK 64 a0 1) 6148914691236517205) + (andK false 64 a0 6148914691236517205))) 3689348814741910323))) 4) + (wrk false 64 ((andK false 64 (shrK 64 (wrk false 64 ((andK false 64 (shrK 64 a0 1) 6148914691236517205) + (andK false 64 a0 6148914691236517205))) 2) 3689348814741910323) + (andK false 64 (wrk false 64 ((andK false 64 (shrK 64 a0 1) 6148914691236517205) + (andK false 64 a0 6148914691236517205))) 3689348814741910323))))) 1085102592571150095) + (shrK 64 (andK false 64 (wrk false 64 ((shrK 64 (wrk false 64 ((andK false 64 (shrK 64 (wrk false 64 ((andK false 64 (shrK 64 a0 1) 6148914691236517205) + (andK false 64 a0 6148914691236517205))) 2) 3689348814741910323) + (andK false 64 (wrk false 64 ((andK false 64 (shrK 64 a0 1) 6148914691236517205) + (andK false 64 a0 6148914691236517205))) 3689348814741910323))) 4) + (wrk false 64 ((andK false 64 (shrK 64 (wrk false 64 ((andK false 64 (shrK 64 a0 1) 6148914691236517205) + (andK false 64 a0 6148914691236517205))) 2) 3689348814741910323) + (andK false 64 (wrk false 64 ((andK false 64 (shrK 64 a0 1) 6148914691236517205) + (andK false 64 a0 6148914691236517205))) 3689348814741910323))))) 1085102592571150095) 8))) + (shrK 64 (wrk false 64 ((andK false 64 (wrk false 64 ((shrK 64 (wrk false 64 ((andK false 64 (shrK 64 (wrk false 64 ((andK false 64 (shrK 64 a0 1) 6148914691236517205) + (andK false 64 a0 6148914691236517205))) 2) 3689348814741910323) + (andK false 64 (wrk false 64 ((andK false 64 (shrK 64 a0 1) 6148914691236517205) + (andK false 64 a0 6148914691236517205))) 3689348814741910323))) 4) + (wrk false 64 ((andK false 64 (shrK 64 (wrk false 64 ((andK false 64 (shrK 64 a0 1) 6148914691236517205) + (andK false 64 a0 6148914691236517205))) 2) 3689348814741910323) + (andK false 64 (wrk false 64 ((andK false 64 (shrK 64 a0 1) 6148914691236517205) + (andK false 64 a0 6148914691236517205))) 3689348814741910323))))) 1085102592571150095) + (shrK 64 (andK false 64 (wrk false 64 ((shrK 64 (wrk false 64 ((andK false 64 (shrK 64 (wrk false 64 ((andK false 64 (shrK 64 a0 1) 6148914691236517205) + (andK false 64 a0 6148914691236517205))) 2) 3689348814741910323) + (andK false 64 (wrk false 64 ((andK false 64 (shrK 64 a0 1) 6148914691236517205) + (andK false 64 a0 6148914691236517205))) 3689348814741910323))) 4) + (wrk false 64 ((andK false 64 (shrK 64 (wrk false 64 ((andK false 64 (shrK 64 a0 1) 6148914691236517205) + (andK false 64 a0 6148914691236517205))) 2) 3689348814741910323) + (andK false 64 (wrk false 64 ((andK false 64 (shrK 64 a0 1) 6148914691236517205) + (andK false 64 a0 6148914691236517205))) 3689348814741910323))))) 1085102592571150095) 8))) 16))) 32)))) 127)) rfl) ?_
 refine FL.nil ?_
 refine FW.ret ?_
 obtain rfl := hp
 exact ⟨.inr rfl, res1 rfl rfl ⟨rfl, S0.back⟩⟩

theorem w_math_bits_OnesCount {Ha : GH} {wa : World} (hs : Sl Ha wa) (a0 : Int) :
  Calls Try.prog 77 #[Value.int .u64 a0] wa (Sc Ha wa (Value.int .i64 (PF.math_bits_OnesCount a0))) := by
 obtain ⟨r, hp⟩ : ∃ r, (PF.math_bits_OnesCount a0) = r := ⟨_, rfl⟩
 rw [hp]
 unfold PF.math_bits_OnesCount at hp
 have S0 := St.init hs
 refine calls_go (N := 8) (args := [Value.int .u64 a0]) Try.func77 rfl rfl rfl ?_
 refine FW.seq (FW.region ?_)
 refine FL.v (E.assign (v := Value.int .i64 0) rfl) ?_
 refine FL.nil (FW.seq ?_)
 refine FW.condF rfl rfl ?_
 refine FW.skip (FW.seq (FW.region ?_))
 refine FL.v (E.move (v := Value.int .u64 a0) rfl) ?_
 refine FL.call rfl rfl rfl (E.call Try.call83 (A1 rfl)) (w_math_bits_OnesCount64 S0.sl a0) ?_
 rintro e w21 ⟨rfl, r22⟩
 refine ⟨_, rfl, ?_⟩
 have S23 := S0.call r22
 refine FL.v (E.assign (v := Value.int .i64 (PF.math_bits_OnesCount64 a0)) rfl) ?_
 refine FL.nil ?_
 refine FW.ret ?_
 obtain rfl := hp
 exact ⟨.inr rfl, res1 rfl rfl ⟨rfl, S23.back⟩⟩

theorem w_impl_degreeOf {Ha : GH} {wa : World} (hs : Sl Ha wa) (a0 : Int) :
  Calls Try.prog 65 #[Value.int .i64 a0] wa (Sc Ha wa (Value.int .i64 (PF.impl_degreeOf a0))) := by
 obtain ⟨r, hp⟩ : ∃ r, (PF.impl_degreeOf a0) = r := ⟨_, rfl⟩
 rw [hp]
 unfold PF.impl_degreeOf at hp
 have S0 := St.init hs
 refine calls_go (N := 6) (args := [Value.int .i64 a0]) Try.func65 rfl rfl rfl ?_
 refine FW.seq (FW.region ?_)
 refine FL.v (E.assign (v := Value.int .i64 0) rfl) ?_
 refine FL.nil (FW.seq (FW.region ?_))
 refine FL.v (E.move (v := Value.int .i64 a0) rfl) ?_
 refine FL.v (E.conv Try.runUnderlying3 Try.runUnderlying109 rfl) ?_
 refine FL.call rfl rfl rfl (E.call Try.call77 (A1 rfl)) (w_math_bits_OnesCount S0.sl (wrk false 64 a0)) ?_
 rintro e w21 ⟨rfl, r22⟩
 refine ⟨_, rfl, ?_⟩
 have S23 := S0.call r22
 refine FL.v (E.assign (v := Value.int .i64 (PF.math_bits_OnesCount (wrk false 64 a0))) rfl) ?_
 refine FL.nil ?_
 refine FW.ret ?_
 obtain rfl := hp
 exact ⟨.inr rfl, res1 rfl rfl ⟨rfl, S23.back⟩⟩

@[reducible] def p_slices_SortFunc_int_int (H0 : GH) (w0 : World) (Ha : GH) (L : List MO) (v0 : Value) (n0 : Nat) (r : (List Int)) : Ending → World → Prop :=
 fun e w' => ∃ H' : GH, ∃ c0k : List Value, e = .returned (Value.tuple #[]) ∧ (St H0 w0 H' w' (.row 3 1 v0 n0 c0k :: L) ∧ Inc Ha H') ∧ Els (up w0.heap.size H') eI 1 c0k r
theorem w_slices_SortFunc_int_int {H0 Ha : GH} {w0 wa : World} {L : List MO} {v0 : Value} {n0 : Nat} {k0 : List Value} (S0 : St H0 w0 Ha wa (.row 3 1 v0 n0 k0 :: L)) (a0 : List Int) (p0 : Els (up w0.heap.size Ha) eI 1 k0 a0) (v1 : Value) (a1 : Int → Int → Option Int) (p1 : Fn_I_I_to_I Try.prog Ha v1 a1) {r : (List Int)} (hp : (PF.slices_SortFunc_int_int a0 a1) = some r) :
  Calls Try.prog 74 #[v0, v1] wa (p_slices_SortFunc_int_int H0 w0 Ha L v0 n0 r) := by
 refine (St.sortF (l := .row 3 1 v0 n0 k0 :: L) (i := 0) upI S0 rfl p0 (fun H2 w2 hi hs2 c x hc d y hd r hr => by cases eI_open hc; cases eI_open hd; exact p1 H2 w2 hi hs2 x y r hr) (fun p cap fv w => AnyF.slices_SortFunc_none (P := Try.prog) (ρ := Try.sort74_ren) { Try.sort74 with } p cap fv w) (fun α _ enc h1 cf hO g cb blk off cap d w eg hc hH hb hs => Any.slices_SortFunc Try.sort74 enc h1 cf hO g cb blk off cap d w eg hc hH hb hs) hp).mono ?_
 rintro e w' ⟨rfl, c', h1, h2⟩
 exact ⟨_, _, rfl, ⟨h1, Inc.rfl _⟩, h2⟩

theorem w_cmp_isNaN_int {Ha : GH} {wa : World} (hs : Sl Ha wa) (a0 : Int) :
  Calls Try.prog 81 #[Value.int .i64 a0] wa (Sc Ha wa (Value.bool (PF.cmp_isNaN_int a0))) := by
 obtain ⟨r, hp⟩ : ∃ r, (PF.cmp_isNaN_int a0) = r := ⟨_, rfl⟩
 rw [hp]
 unfold PF.cmp_isNaN_int at hp
 have S0 := St.init hs
 refine calls_go (N := 6) (args := [Value.int .i64 a0]) Try.func81 rfl rfl rfl ?_
 refine FW.seq (FW.region ?_)
 refine FL.v (E.assign (v := Value.bool false) rfl) ?_
 refine FL.nil (FW.seq (FW.region ?_))
 refine FL.v (E.move (v := Value.int .i64 a0) rfl) ?_
 refine FL.v (E.move (v := Value.int .i64 a0) rfl) ?_
 refine FL.v (E.neq rfl rfl) ?_
 refine FL.v (E.assign (v := Value.bool (!(a0 == a0))) rfl) ?_
 refine FL.nil ?_
 refine FW.ret ?_
 obtain rfl := hp
 exact ⟨.inr rfl, res1 rfl rfl ⟨rfl, S0.back⟩⟩

theorem w_cmp_Compare_int {Ha : GH} {wa : World} (hs : Sl Ha wa) (a0 : Int) (a1 : Int) :
  Calls Try.prog 76 #[Value.int .i64 a0, Value.int .i64 a1] wa (Sc Ha wa (Value.int .i64 (PF.cmp_Compare_int a0 a1))) := by
 obtain ⟨r, hp⟩ : ∃ r, (PF.cmp_Compare_int a0 a1) = r := ⟨_, rfl⟩
 rw [hp]
 unfold PF.cmp_Compare_int at hp
 have S0 := St.init hs
 refine calls_go (N := 20) (args := [Value.int .i64 a0, Value.int .i64 a1]) Try.func76 rfl rfl rfl ?_
 refine FW.seq (FW.region ?_)
 refine FL.v (E.assign (v := Value.int .i64 0) rfl) ?_
 refine FL.nil (FW.seq (FW.region ?_))
 refine FL.v (E.move (v := Value.int .i64 a0) rfl) ?_
 refine FL.call rfl rfl rfl (E.call Try.call81 (A1 rfl)) (w_cmp_isNaN_int S0.sl a0) ?_
 rintro e w21 ⟨rfl, r22⟩
 refine ⟨_, rfl, ?_⟩
 have S23 := S0.call r22
 refine FL.v (E.assign (v := Value.bool (PF.cmp_isNaN_int a0)) rfl) ?_
 refine FL.nil (FW.seq (FW.region ?_))
 refine FL.v (E.move (v := Value.int .i64 a1) rfl) ?_
 refine FL.call rfl rfl rfl (E.call Try.call81 (A1 rfl)) (w_cmp_isNaN_int S23.sl a1) ?_
 rintro e w24 ⟨rfl, r25⟩
 refine ⟨_, rfl, ?_⟩
 have S26 := S23.call r25
 refine FL.v (E.assign (v := Value.bool (PF.cmp_isNaN_int a1)) rfl) ?_
 refine FL.nil (FW.seq (FW.seq (FW.region ?_)))
 refine FL.v (E.move (v := Value.bool (PF.cmp_isNaN_int a0)) rfl) ?_
 refine FL.nil ?_
 rcases ifT hp with ⟨c27, hp⟩ | ⟨c27, hp⟩
 ·
  refine FW.condT rfl c27 ?_
  refine FW.seq (FW.seq (FW.region ?_))
  refine FL.v (E.move (v := Value.bool (PF.cmp_isNaN_int a1)) rfl) ?_
  refine FL.nil ?_
  rcases ifT hp with ⟨c28, hp⟩ | ⟨c28, hp⟩
  ·
   refine FW.condT rfl c28 ?_
   refine FW.seq (FW.region ?_)
   refine FL.v (E.assign (v := Value.int .i64 0) rfl) ?_
   refine FL.nil ?_
   refine FW.ret ?_
   obtain rfl := hp
   exact ⟨.inr rfl, res1 rfl rfl ⟨rfl, S26.back⟩⟩
  ·
   refine FW.condF rfl c28 ?_
   refine FW.skip (FW.seq (FW.region ?_))
   refine FL.v (E.assign (v := Value.int .i64 (-1)) rfl) ?_
   refine FL.nil ?_
   refine FW.ret ?_
   obtain rfl := hp
   exact ⟨.inr rfl, res1 rfl rfl ⟨rfl, S26.back⟩⟩
 ·
  refine FW.condF rfl c27 ?_
  refine FW.skip (FW.seq (FW.seq (FW.region ?_)))
  refine FL.v (E.move (v := Value.bool (PF.cmp_isNaN_int a1)) rfl) ?_
  refine FL.nil ?_
  rcases ifT hp with ⟨c29, hp⟩ | ⟨c29, hp⟩
  ·
   refine FW.condT rfl c29 ?_
   refine FW.seq (FW.region ?_)
   refine FL.v (E.assign (v := Value.int .i64 1) rfl) ?_
   refine FL.nil ?_
   refine FW.ret ?_
   obtain rfl := hp
   exact ⟨.inr rfl, res1 rfl rfl ⟨rfl, S26.back⟩⟩
  ·
   refine FW.condF rfl c29 ?_
   refine FW.skip (FW.seq (FW.seq (FW.region ?_)))
   refine FL.v (E.move (v := Value.int .i64 a0) rfl) ?_
   refine FL.v (E.move (v := Value.int .i64 a1) rfl) ?_
   refine FL.v (E.lss rfl rfl) ?_
   refine FL.nil ?_
   rcases ifT hp with ⟨c30, hp⟩ | ⟨c30, hp⟩
   ·
    refine FW.condT rfl c30 ?_
    refine FW.seq (FW.region ?_)
    refine FL.v (E.assign (v := Value.int .i64 (-1)) rfl) ?_
    refine FL.nil ?_
    refine FW.ret ?_
    obtain rfl := hp
    exact ⟨.inr rfl, res1 rfl rfl ⟨rfl, S26.back⟩⟩
   ·
    refine FW.condF rfl c30 ?_
    refine FW.skip (FW.seq (FW.seq (FW.region ?_)))
    refine FL.v (E.move (v := Value.int .i64 a0) rfl) ?_
    refine FL.v (E.move (v := Value.int .i64 a1) rfl) ?_
    refine FL.v (E.gtr rfl rfl) ?_
    refine FL.nil ?_
    rcases ifT hp with ⟨c31, hp⟩ | ⟨c31, hp⟩
    ·
     refine FW.condT rfl c31 ?_
     refine FW.seq (FW.region ?_)
     refine FL.v (E.assign (v := Value.int .i64 1) rfl) ?_
     refine FL.nil ?_
     refine FW.ret ?_
     obtain rfl := hp
     exact ⟨.inr rfl, res1 rfl rfl ⟨rfl, S26.back⟩⟩
    ·
     refine FW.condF rfl c31 ?_
     refine FW.skip (FW.seq (FW.region ?_))
     refine FL.v (E.assign (v := Value.int .i64 0) rfl) ?_
     refine FL.nil ?_
     refine FW.ret ?_
     obtain rfl := hp
     exact ⟨.inr rfl, res1 rfl rfl ⟨rfl, S26.back⟩⟩

theorem w_cmp_Or_int {Ha : GH} {wa : World} (hs : Sl Ha wa) (v0 : Value) (a0 : List Int) (p0 : RSl Ha eI 1 v0 a0) {r : Int} (hp : (PF.cmp_Or_int a0) = some r) :
  Calls Try.prog 75 #[v0] wa (Sc Ha wa (Value.int .i64 r)) := by
 unfold PF.cmp_Or_int at hp
 have S0 := St.init hs
 refine calls_go (N := 18) (args := [v0]) Try.func75 rfl rfl rfl ?_
 refine FW.seq (FW.region ?_)
 refine FL.v (E.assign (v := Value.int .i64 0) rfl) ?_
 refine FL.nil (FW.seq (FW.region ?_))
 refine FL.v (E.assign (v := Value.int .i64 0) rfl) ?_
 refine FL.nil (FW.seq (FW.seq (FW.region ?_)))
 refine FL.v (E.move (v := v0) rfl) ?_
 refine FL.v (E.lenP te47 rfl p0) ?_
 refine FL.v (E.move (v := Value.int .i64 0) rfl) ?_
 refine FL.nil ?_
 obtain ⟨q22, hq, hp⟩ := bndR hp
 refine FW.block ?_
 refine FW.mono (FW.forL (S := Unit) (X := Int) (fun (i22 : Nat) (s22 : Unit) f w => ∃ H : GH, St Ha wa H w [] ∧ Inc Ha H ∧ f 8 = Value.int .i64 ((i22 : Nat) : Int) ∧ f 3 = Value.int .i64 0 ∧ f 6 = v0 ∧ f 7 = Value.int .i64 (len a0)) (fun q e f w => match q with | .go s22 => e = Exit.exit 0 ∧ (∃ H : GH, St Ha wa H w [] ∧ Inc Ha H ∧ f 3 = Value.int .i64 0) | .rt x => ((e = Exit.ret) ∧ (fun e f w => (e = Exit.normal ∨ e = Exit.ret) ∧ ∀ a, Fr (δ := []) 18 a f → ∃ v, (results Try.f75 a.tmps).run Try.prog w = .ok v w ∧ (Sc Ha wa (Value.int .i64 x)) (.returned v) w) e f w)) hq ⟨_, S0, (Inc.rfl _), rfl, rfl, rfl, rfl⟩ ?_ ?_) ?_
 ·
  clear hp hq
  rintro i22 y21 s22 f43 w42 ⟨H39, S40, i41, k44, k45, k46, k47⟩ hx22 o55 hp
  refine FW.seq (FW.region ?_)
  refine FL.v (E.lssT k44 k47 (lss_len hx22)) ?_
  refine FL.nil (FW.seq ?_)
  refine FW.condT rfl rfl ?_
  refine FW.skip (FW.seq (FW.block (FW.seq (FW.region ?_))))
  obtain ⟨p48, cs49, pt50, l51, at52, rel53⟩ := p0.at (ix_nat hx22)
  obtain rfl := eI_open rel53
  refine FL.v (E.indexAddr te47 k46 k44 pt50) ?_
  refine FL.v (E.load rfl (run_load0 Try.isAgg3 ((at52.mono i41).now S40.sl) rfl)) ?_
  refine FL.v (E.assign (v := Value.int .i64 y21) rfl) ?_
  refine FL.nil (FW.seq (FW.region ?_))
  refine FL.v (E.move (v := Value.int .i64 y21) rfl) ?_
  refine FL.v (E.move k45) ?_
  refine FL.v (E.neq rfl rfl) ?_
  refine FL.nil ?_
  rcases ifB hp with ⟨c54, hp⟩ | ⟨c54, hp⟩
  ·
   refine FW.condT rfl c54 ?_
   refine FW.seq (FW.region ?_)
   refine FL.v (E.move (v := Value.int .i64 y21) rfl) ?_
   refine FL.v (E.assign (v := Value.int .i64 y21) rfl) ?_
   refine FL.nil ?_
   refine FW.ret ?_
   obtain rfl := Option.some.inj hp
   exact ⟨nofun, rfl, ⟨.inr rfl, res1 rfl rfl ⟨rfl, S40.back⟩⟩⟩
  ·
   refine FW.condF rfl c54 ?_
   refine FW.skip (FW.region ?_)
   refine FL.v (E.add k44 rfl) ?_
   refine FL.v (E.move (v := Value.int .i64 (wr (((i22 : Nat) : Int) + 1))) rfl) ?_
   refine FL.nil ?_
   obtain rfl := Option.some.inj hp
   exact ⟨rfl, ⟨_, S40, i41, (nat_succ rfl (lt_of_get hx22) (p0.mono i41).le), k45, k46, k47⟩⟩
 ·
  clear hp hq
  rintro s22 f66 w65 ⟨H62, S63, i64, k67, k68, k69, k70⟩
  refine FW.seq (FW.region ?_)
  refine FL.v (E.lss k67 k70) ?_
  refine FL.nil (FW.seq ?_)
  refine FW.condF rfl dlt_len ?_
  refine FW.exit ?_
  exact ⟨nofun, rfl, ⟨_, S63, i64, k68⟩⟩
 ·
  clear hq
  intro e f60 w59 hD
  rcases q22 with s22 | x22
  ·
   obtain ⟨rfl, hD⟩ := hD
   obtain ⟨H56, S57, i58, k61⟩ := hD
   replace hp := el_go hp
   refine FW.seq (FW.region ?_)
   refine FL.v (E.move k61) ?_
   refine FL.v (E.assign (v := Value.int .i64 0) rfl) ?_
   refine FL.nil ?_
   refine FW.ret ?_
   obtain rfl := Option.some.inj hp
   exact ⟨.inr rfl, res1 rfl rfl ⟨rfl, S57.back⟩⟩
  ·
   obtain ⟨he, hL⟩ := hD
   replace hp := el_rt hp
   obtain rfl := Option.some.inj hp
   subst he
   exact hL

theorem w_impl_compareMonos {Ha : GH} {wa : World} (hs : Sl Ha wa) (a0 : Int) (a1 : Int) {r : Int} (hp : (PF.impl_compareMonos a0 a1) = some r) :
  Calls Try.prog 64 #[Value.int .i64 a0, Value.int .i64 a1] wa (Sc Ha wa (Value.int .i64 r)) := by
 unfold PF.impl_compareMonos at hp
 have S0 := St.init hs
 refine calls_go (N := 15) (args := [Value.int .i64 a0, Value.int .i64 a1]) Try.func64 rfl rfl rfl ?_
 refine FW.seq (FW.region ?_)
 refine FL.v (E.assign (v := Value.int .i64 0) rfl) ?_
 refine FL.nil (FW.seq (FW.region ?_))
 refine FL.v (E.move (v := Value.int .i64 a0) rfl) ?_
 refine FL.call rfl rfl rfl (E.call Try.call65 (A1 rfl)) (w_impl_degreeOf S0.sl a0) ?_
 rintro e w21 ⟨rfl, r22⟩
 refine ⟨_, rfl, ?_⟩
 have S23 := S0.call r22
 refine FL.v (E.move (v := Value.int .i64 a1) rfl) ?_
 refine FL.call rfl rfl rfl (E.call Try.call65 (A1 rfl)) (w_impl_degreeOf S23.sl a1) ?_
 rintro e w24 ⟨rfl, r25⟩
 refine ⟨_, rfl, ?_⟩
 have S26 := S23.call r25
 refine FL.call rfl rfl rfl (E.call Try.call76 (A2 rfl rfl)) (w_cmp_Compare_int S26.sl (PF.impl_degreeOf a0) (PF.impl_degreeOf a1)) ?_
 rintro e w27 ⟨rfl, r28⟩
 refine ⟨_, rfl, ?_⟩
 have S29 := S26.call r28
 refine FL.v (E.move (v := Value.int .i64 a0) rfl) ?_
 refine FL.v (E.move (v := Value.int .i64 a1) rfl) ?_
 refine FL.call rfl rfl rfl (E.call Try.call76 (A2 rfl rfl)) (w_cmp_Compare_int S29.sl a0 a1) ?_
 rintro e w30 ⟨rfl, r31⟩
 refine ⟨_, rfl, ?_⟩
 have S32 := S29.call r31
 obtain ⟨v33, w34, run35, S36⟩ := S32.buildSlice (P := Try.prog) te47 [Value.int .i64 (PF.cmp_Compare_int (PF.impl_degreeOf a0) (PF.impl_degreeOf a1)), Value.int .i64 (PF.cmp_Compare_int a0 a1)] (parts := #[(0, Value.int .i64 (PF.cmp_Compare_int (PF.impl_degreeOf a0) (PF.impl_degreeOf a1))), (1, Value.int .i64 (PF.cmp_Compare_int a0 a1))]) (cells := [Value.int .i64 (PF.cmp_Compare_int (PF.impl_degreeOf a0) (PF.impl_degreeOf a1)), Value.int .i64 (PF.cmp_Compare_int a0 a1)]) rfl (szs_cons rfl (szs_cons rfl szs_nil)) (fc_cons rfl (fc_cons rfl fc_nil)) (ones_cons rfl (ones_cons rfl ones_nil)) (Nat.le_of_ble_eq_true rfl)
 have els37 : Els (up wa.heap.size Ha) eI 1 [Value.int .i64 (PF.cmp_Compare_int (PF.impl_degreeOf a0) (PF.impl_degreeOf a1)), Value.int .i64 (PF.cmp_Compare_int a0 a1)] [(PF.cmp_Compare_int (PF.impl_degreeOf a0) (PF.impl_degreeOf a1)), (PF.cmp_Compare_int a0 a1)] := (Els.snoc (H := (up wa.heap.size Ha)) (E := eI) (k := 1) (c := [Value.int .i64 (PF.cmp_Compare_int a0 a1)]) (x := (PF.cmp_Compare_int a0 a1)) (Els.snoc (H := (up wa.heap.size Ha)) (E := eI) (k := 1) (c := [Value.int .i64 (PF.cmp_Compare_int (PF.impl_degreeOf a0) (PF.impl_degreeOf a1))]) (x := (PF.cmp_Compare_int (PF.impl_degreeOf a0) (PF.impl_degreeOf a1))) Els.nil rfl rfl) rfl rfl)
 refine FL.v (E.buildSlice (B2 rfl rfl) run35) ?_
 obtain ⟨H38, S39, i40, h41, nv42⟩ := S36.sealRowU (i := 0) (l' := []) rfl els37 (by decide) rfl
 obtain ⟨r43, hr44, hp⟩ := bnd hp
 refine FL.call rfl rfl rfl (E.call Try.call75 (A1 rfl)) (w_cmp_Or_int S39.sl v33 [(PF.cmp_Compare_int (PF.impl_degreeOf a0) (PF.impl_degreeOf a1)), (PF.cmp_Compare_int a0 a1)] (h41.mono upI) hr44) ?_
 rintro e w45 ⟨rfl, r46⟩
 refine ⟨_, rfl, ?_⟩
 have r46 := Run.lend i40 S36.sl r46
 have S47 := S36.call r46
 refine FL.v (E.assign (v := Value.int .i64 r43) rfl) ?_
 refine FL.nil ?_
 refine FW.ret ?_
 obtain rfl := Option.some.inj hp
 exact ⟨.inr rfl, res1 rfl rfl ⟨rfl, S47.back⟩⟩

@[reducible] def p_impl_graded (Ha : GH) (wa : World) (r : (List Int)) : Ending → World → Prop :=
  fun e w' => ∃ H' : GH, ∃ v0 : Value, ∃ n0 : Nat, ∃ c0 : List Value, e = .returned (v0) ∧ St Ha wa H' w' [.row 3 1 v0 n0 c0] ∧ Els (up wa.heap.size H') eI 1 c0 r
theorem w_impl_graded {Ha : GH} {wa : World} (hs : Sl Ha wa) (a0 : Int) (a1 : Int) {r : (List Int)} (hp : (PF.impl_graded a0 a1) = some r) :
    Calls Try.prog 62 #[Value.int .i64 a0, Value.int .i64 a1] wa (p_impl_graded Ha wa r) := by
  unfold PF.impl_graded at hp
  have S0 := St.init hs
  refine calls_go (N := 24) (args := [Value.int .i64 a0, Value.int .i64 a1]) Try.func62 rfl rfl rfl ?_
  refine FW.seq (FW.region ?_)
  refine FL.v (E.assign (v := Value.slice none 0 0) rfl) ?_
  refine FL.nil (FW.seq (FW.region ?_))
  refine FL.v (E.assign (v := Value.slice none 0 0) rfl) ?_
  refine FL.nil (FW.seq (FW.seq (FW.region ?_)))
  refine FL.v (E.move (v := Value.int .i64 a0) rfl) ?_
  obtain ⟨u22, z21, hp⟩ := bnd hp
  refine FL.v (E.shl rfl rfl (nn_ge z21)) ?_
  refine FL.v (E.move (v := Value.int .i64 0) rfl) ?_
  refine FL.nil ?_
  obtain ⟨m23, hchk24, hp⟩ := bnd hp
  obtain ⟨q24, hq, hp⟩ := bndR hp
  refine FW.block ?_
  refine FW.mono (FW.forR (S := (List Int)) (X := Empty) (fun (i24 : Nat) (s24 : (List Int)) f w => ∃ H : GH, ∃ v25 : Value, ∃ n26 : Nat, ∃ cs27 : List Value, St Ha wa H w [.row 3 1 v25 n26 cs27] ∧ Inc Ha H ∧ Els (up wa.heap.size H) eI 1 cs27 s24 ∧ f 9 = Value.int .i64 ((i24 : Nat) : Int) ∧ f 1 = Value.int .i64 a1 ∧ f 5 = v25 ∧ f 8 = Value.int .i64 (shlK true 64 1 a0)) (fun (q : Rs (List Int) Empty) e f w => match q with | .go s24 => e = Exit.exit 0 ∧ (∃ H : GH, ∃ v25 : Value, ∃ n26 : Nat, ∃ cs27 : List Value, St Ha wa H w [.row 3 1 v25 n26 cs27] ∧ Inc Ha H ∧ Els (up wa.heap.size H) eI 1 cs27 s24 ∧ f 5 = v25) | .rt x => x.elim) hq ⟨_, _, _, _, (S0.nil 3 1), (Inc.rfl _), Els.nil, rfl, rfl, rfl, rfl⟩ ?_ ?_) ?_
  ·
    clear hp hq
    rintro i24 s24 f62 w61 ⟨H58, v25, n26, cs27, S59, i60, els28, k63, k64, k65, k66⟩ hi24 hj24 o87 hp
    refine FW.seq (FW.region ?_)
    refine FL.v (E.lssT k63 k66 (lss_chk hj24 hchk24)) ?_
    refine FL.nil (FW.seq ?_)
    refine FW.condT rfl rfl ?_
    refine FW.skip (FW.seq (FW.block (FW.seq (FW.region ?_))))
    refine FL.v (E.move k63) ?_
    refine FL.v (E.assign (v := Value.int .i64 ((i24 : Nat) : Int)) rfl) ?_
    refine FL.nil (FW.seq (FW.region ?_))
    refine FL.v (E.move (v := Value.int .i64 ((i24 : Nat) : Int)) rfl) ?_
    refine FL.call rfl rfl rfl (E.call Try.call65 (A1 rfl)) (w_impl_degreeOf S59.sl ((i24 : Nat) : Int)) ?_
    rintro e w67 ⟨rfl, r68⟩
    refine ⟨_, rfl, ?_⟩
    have S69 := S59.call r68
    refine FL.v (E.move k64) ?_
    refine FL.v (E.leq rfl rfl) ?_
    refine FL.nil ?_
    rcases ifB hp with ⟨c70, hp⟩ | ⟨c70, hp⟩
    ·
      refine FW.condT rfl c70 ?_
      refine FW.region ?_
      refine FL.v (E.move k65) ?_
      refine FL.v (E.move (v := Value.int .i64 ((i24 : Nat) : Int)) rfl) ?_
      obtain ⟨v71, w72, run73, S74⟩ := S69.buildSlice (P := Try.prog) te47 [Value.int .i64 ((i24 : Nat) : Int)] (parts := #[(0, Value.int .i64 ((i24 : Nat) : Int))]) (cells := [Value.int .i64 ((i24 : Nat) : Int)]) rfl (szs_cons rfl szs_nil) (fc_cons rfl fc_nil) (ones_cons rfl ones_nil) (Nat.le_of_ble_eq_true rfl)
      have els75 : Els (up wa.heap.size H58) eI 1 [Value.int .i64 ((i24 : Nat) : Int)] [((i24 : Nat) : Int)] := (Els.snoc (H := (up wa.heap.size H58)) (E := eI) (k := 1) (c := [Value.int .i64 ((i24 : Nat) : Int)]) (x := ((i24 : Nat) : Int)) Els.nil rfl rfl)
      refine FL.v (E.buildSlice (B1 rfl) run73) ?_
      obtain ⟨xs76, hz77, hp⟩ := bnd hp
      obtain ⟨v78, w81, n79, cs80, run82, S83, els84, ce85⟩ := S74.appendO (P := Try.prog) te47 (i := 1) (j := 0) rfl els28 rfl els75 hz77
      have S83 : St Ha wa H58 w81 [.row 3 1 v71 1 [Value.int .i64 ((i24 : Nat) : Int)], .row 3 1 v78 n79 cs80] := S83
      have S86 : St Ha wa H58 w81 [.row 3 1 v78 n79 cs80] := S83.drop 0
      refine FL.v (E.append rfl rfl run82) ?_
      refine FL.v (E.assign (v := v78) rfl) ?_
      refine FL.nil (FW.region ?_)
      refine FL.v (E.add k63 rfl) ?_
      refine FL.v (E.move (v := Value.int .i64 (wr (((i24 : Nat) : Int) + 1))) rfl) ?_
      refine FL.nil ?_
      obtain rfl := Option.some.inj hp
      exact ⟨rfl, ⟨_, _, _, _, S86, i60, els84, (nat_succ rfl hj24 (chk_le hchk24)), k64, rfl, k66⟩⟩
    ·
      refine FW.condF rfl c70 ?_
      refine FW.skip (FW.region ?_)
      refine FL.v (E.add k63 rfl) ?_
      refine FL.v (E.move (v := Value.int .i64 (wr (((i24 : Nat) : Int) + 1))) rfl) ?_
      refine FL.nil ?_
      obtain rfl := Option.some.inj hp
      exact ⟨rfl, ⟨_, _, _, _, S69, i60, els28, (nat_succ rfl hj24 (chk_le hchk24)), k64, k65, k66⟩⟩
  ·
    clear hp hq
    rintro s24 f106 w105 ⟨H102, v25, n26, cs27, S103, i104, els28, k107, k108, k109, k110⟩
    refine FW.seq (FW.region ?_)
    refine FL.v (E.lss k107 k110) ?_
    refine FL.nil (FW.seq ?_)
    refine FW.condF rfl (dlt_maxchk hchk24) ?_
    refine FW.exit ?_
    exact ⟨nofun, rfl, ⟨_, _, _, _, S103, i104, els28, k109⟩⟩
  ·
    clear hq
    intro e f92 w91 hD
    rcases q24 with s24 | x24
    ·
      obtain ⟨rfl, hD⟩ := hD
      obtain ⟨H88, v25, n26, cs27, S89, i90, els28, k93⟩ := hD
      replace hp := el_go hp
      refine FW.seq (FW.region ?_)
      refine FL.v (E.move k93) ?_
      obtain ⟨r94, hr95, hp⟩ := bnd hp
      refine FL.call rfl rfl rfl (E.call Try.call74 (A2 rfl rfl)) (w_slices_SortFunc_int_int (L := []) S89 s24 els28 (Value.func (.func 64) #[] #[]) (fun x0 x1 => PF.impl_compareMonos x0 x1) (fun H2 w2 hi2 hs2 x0 x1 r hr => ⟨64, #[], rfl, Try.call64, w_impl_compareMonos hs2 x0 x1  hr⟩) hr95) ?_
      rintro e w97 ⟨H96, cs100, rfl, ⟨S98, i99⟩, els101⟩
      refine ⟨_, rfl, ?_⟩
      have S98 : St Ha wa H96 w97 [.row 3 1 v25 n26 cs100] := S98
      refine FL.nil (FW.seq (FW.region ?_))
      refine FL.v (E.move k93) ?_
      refine FL.v (E.assign (v := v25) rfl) ?_
      refine FL.nil ?_
      refine FW.ret ?_
      obtain rfl := Option.some.inj hp
      exact ⟨.inr rfl, res1 rfl rfl ⟨_, _, _, _, rfl, S98, els101⟩⟩
    · exact x24.elim

@[reducible] def p_impl_algebra_products (Ha : GH) (wa : World) (r : (List product)) : Ending → World → Prop :=
  fun e w' => ∃ H' : GH, ∃ v0 : Value, ∃ n0 : Nat, ∃ c0 : List Value, e = .returned (v0) ∧ St Ha wa H' w' [.row 60 3 v0 n0 c0] ∧ Els (up wa.heap.size H') eproduct 3 c0 r ∧ (bl c0).Nodup
theorem w_impl_algebra_products {Ha : GH} {wa : World} (hs : Sl Ha wa) (q0P : Addr) (a0 : algebra) (v0P_3 : Value) (v0P_4 : Value) (p0P_3 : RSl Ha (eL eI 1) 1 v0P_3 a0.f.clauses) (p0P_4 : RSl Ha (eL eI 1) 1 v0P_4 a0.q) (c0P : CAt Ha q0P [Value.int .i64 a0.ring.p, Value.int .i64 a0.ring.vars, Value.int .i64 a0.f.vars, v0P_3, v0P_4]) (a1 : Int) {r : (List product)} (hp : (PF.impl_algebra_products a0 a1) = some r) :
    Calls Try.prog 46 #[Value.pointer (some q0P), Value.int .i64 a1] wa (p_impl_algebra_products Ha wa r) := by
  unfold PF.impl_algebra_products at hp
  have S0 := St.init hs
  refine calls_go (N := 67) (args := [Value.pointer (some q0P), Value.int .i64 a1]) Try.func46 rfl rfl rfl ?_
  refine FW.seq (FW.region ?_)
  refine FL.v (E.assign (v := Value.slice none 0 0) rfl) ?_
  refine FL.nil (FW.seq (FW.region ?_))
  refine FL.v (E.assign (v := Value.slice none 0 0) rfl) ?_
  refine FL.nil (FW.seq (FW.seq (FW.region ?_)))
  refine FL.v (E.move (v := Value.pointer (some q0P)) rfl) ?_
  refine FL.v (E.nilCheck rfl) ?_
  refine FL.v (E.fieldAddr tf56_1 rfl) ?_
  refine FL.v (E.fieldAddrN tf29_1 rfl rfl) ?_
  refine FL.v (E.load rfl (run_load1 Try.isAgg22 (c0P.now S0.sl) rfl)) ?_
  refine FL.v (E.lenP te22 rfl p0P_3) ?_
  refine FL.v (E.move (v := Value.int .i64 0) rfl) ?_
  refine FL.nil ?_
  obtain ⟨q22, hq, hp⟩ := bndR hp
  refine FW.block ?_
  refine FW.mono (FW.forL (S := (List product)) (X := Empty) (fun (i22 : Nat) (s22 : (List product)) f w => ∃ H : GH, ∃ v23 : Value, ∃ n24 : Nat, ∃ cs25 : List Value, St Ha wa H w [.row 60 3 v23 n24 cs25] ∧ Inc Ha H ∧ Els (up wa.heap.size H) eproduct 3 cs25 s22 ∧ (bl cs25).Nodup ∧ f 16 = Value.int .i64 ((i22 : Nat) : Int) ∧ f 0 = Value.pointer (some q0P) ∧ f 1 = Value.int .i64 a1 ∧ f 5 = v23 ∧ f 14 = v0P_3 ∧ f 15 = Value.int .i64 (len a0.f.clauses)) (fun (q : Rs (List product) Empty) e f w => match q with | .go s22 => e = Exit.exit 0 ∧ (∃ H : GH, ∃ v23 : Value, ∃ n24 : Nat, ∃ cs25 : List Value, St Ha wa H w [.row 60 3 v23 n24 cs25] ∧ Inc Ha H ∧ Els (up wa.heap.size H) eproduct 3 cs25 s22 ∧ (bl cs25).Nodup ∧ f 5 = v23) | .rt x => x.elim) hq ⟨_, _, _, _, (S0.nil 60 3), (Inc.rfl _), Els.nil, List.nodup_nil, rfl, rfl, rfl, rfl, rfl, rfl⟩ ?_ ?_) ?_
  ·
    clear hp hq
    rintro i22 y21 s22 f33 w32 ⟨H28, v23, n24, cs25, S30, i31, els26, nd27, k34, k35, k36, k37, k38, k39⟩ hx22 o204 hp
    refine FW.seq (FW.region ?_)
    refine FL.v (E.lssT k34 k39 (lss_len hx22)) ?_
    refine FL.nil (FW.seq ?_)
    refine FW.condT rfl rfl ?_
    refine FW.skip (FW.seq (FW.block (FW.seq (FW.region ?_))))
    refine FL.v (E.move k34) ?_
    obtain ⟨p40, cs41, pt42, l44, at45, rel46⟩ := p0P_3.at (ix_nat hx22)
    obtain ⟨v48, rfl, h49⟩ := eL_open rel46
    refine FL.v (E.indexAddr te22 k38 k34 pt42) ?_
    refine FL.v (E.load rfl (run_load0 Try.isAgg47 ((at45.mono i31).now S30.sl) rfl)) ?_
    refine FL.v (E.assign (v := Value.int .i64 ((i22 : Nat) : Int)) rfl) ?_
    refine FL.v (E.assign (v := v48) rfl) ?_
    refine FL.nil (FW.seq (FW.seq (FW.region ?_)))
    refine FL.v (E.move (v := v48) rfl) ?_
    refine FL.v (E.lenP te47 rfl h49) ?_
    refine FL.v (E.move k36) ?_
    refine FL.v (E.gtr rfl rfl) ?_
    refine FL.nil ?_
    rcases ifB hp with ⟨c50, hp⟩ | ⟨c50, hp⟩
    ·
      refine FW.condT rfl c50 ?_
      refine FW.exit ?_
      refine FW.region ?_
      refine FL.v (E.add k34 rfl) ?_
      refine FL.v (E.move (v := Value.int .i64 (wr (((i22 : Nat) : Int) + 1))) rfl) ?_
      refine FL.nil ?_
      obtain rfl := Option.some.inj hp
      exact ⟨rfl, ⟨_, _, _, _, S30, i31, els26, nd27, (nat_succ rfl (lt_of_get hx22) (p0P_3.mono i31).le), k35, k36, k37, k38, k39⟩⟩
    ·
      refine FW.condF rfl c50 ?_
      refine FW.skip (FW.seq (FW.region ?_))
      refine FL.v (E.move k35) ?_
      refine FL.v (E.nilCheck rfl) ?_
      refine FL.v (E.fieldAddr tf56_0 rfl) ?_
      refine FL.v (E.fieldAddrN tf53_1 rfl rfl) ?_
      refine FL.v (E.load rfl (run_load1 Try.isAgg3 ((c0P.mono i31).now S30.sl) rfl)) ?_
      refine FL.v (E.move k36) ?_
      refine FL.v (E.move (v := v48) rfl) ?_
      refine FL.v (E.lenP te47 rfl h49) ?_
      refine FL.v (E.sub rfl rfl) ?_
      obtain ⟨r51, hr52, hp⟩ := bnd hp
      refine FL.call rfl rfl rfl (E.call Try.call62 (A2 rfl rfl)) (w_impl_graded S30.sl a0.ring.vars (wr (a1 - (len y21))) hr52) ?_
      rintro e w57 ⟨H55, v60, n61, cs62, rfl, r59, els63⟩
      refine ⟨_, rfl, ?_⟩
      have els63 := els63.mono (up_le S30.size)
      have S58 := S30.join (l' := [.row 3 1 v60 n61 cs62, .row 60 3 v23 n24 cs25]) r59 rfl
      refine FL.v (E.lenO te47 rfl S58 (i := 0) rfl els63 (by decide)) ?_
      refine FL.v (E.move (v := Value.int .i64 0) rfl) ?_
      refine FL.nil ?_
      obtain ⟨m64, hchk65, hp⟩ := bnd hp
      obtain ⟨q65, hq, hp⟩ := bndR hp
      refine FW.block ?_
      refine FW.mono (FW.forR (S := (List product)) (X := Empty) (fun (i65 : Nat) (s65 : (List product)) f w => ∃ H : GH, ∃ v66 : Value, ∃ n67 : Nat, ∃ cs68 : List Value, St Ha wa H w [.row 3 1 v60 n61 cs62, .row 60 3 v66 n67 cs68] ∧ Inc H55 H ∧ Els (up wa.heap.size H) eproduct 3 cs68 s65 ∧ (bl cs68).Nodup ∧ f 36 = Value.int .i64 ((i65 : Nat) : Int) ∧ f 0 = Value.pointer (some q0P) ∧ f 1 = Value.int .i64 a1 ∧ f 5 = v66 ∧ f 6 = Value.int .i64 ((i22 : Nat) : Int) ∧ f 14 = v0P_3 ∧ f 15 = Value.int .i64 (len a0.f.clauses) ∧ f 16 = Value.int .i64 ((i22 : Nat) : Int) ∧ f 34 = v60 ∧ f 35 = Value.int .i64 (len r51)) (fun (q : Rs (List product) Empty) e f w => match q with | .go s65 => e = Exit.exit 2 ∧ (∃ H : GH, ∃ v66 : Value, ∃ n67 : Nat, ∃ cs68 : List Value, St Ha wa H w [.row 3 1 v60 n61 cs62, .row 60 3 v66 n67 cs68] ∧ Inc H55 H ∧ Els (up wa.heap.size H) eproduct 3 cs68 s65 ∧ (bl cs68).Nodup ∧ f 0 = Value.pointer (some q0P) ∧ f 1 = Value.int .i64 a1 ∧ f 5 = v66 ∧ f 14 = v0P_3 ∧ f 15 = Value.int .i64 (len a0.f.clauses) ∧ f 16 = Value.int .i64 ((i22 : Nat) : Int)) | .rt x => x.elim) hq ⟨_, _, _, _, S58, (Inc.rfl _), (els26.mono (up_mono r59.run.inc)), nd27, rfl, k35, k36, k37, rfl, k38, k39, k34, rfl, rfl⟩ ?_ ?_) ?_
      ·
        clear hp hq
        rintro i65 s65 f75 w74 ⟨H71, v66, n67, cs68, S72, i73, els69, nd70, k76, k77, k78, k79, k80, k81, k82, k83, k84, k85⟩ hi65 hj65 o177 hp
        refine FW.seq (FW.region ?_)
        refine FL.v (E.lssT k76 k85 (lss_chk hj65 hchk65)) ?_
        refine FL.nil (FW.seq ?_)
        refine FW.condT rfl rfl ?_
        refine FW.skip (FW.seq (FW.block (FW.seq (FW.region ?_))))
        obtain ⟨x92, hx93, hp⟩ := bnd hp
        obtain ⟨p86, cs87, pt88, l89, at90, rel91⟩ := S72.row_at (i := 0) rfl els63 (by decide) hx93
        obtain rfl := eI_open rel91
        refine FL.v (E.indexAddr te47 k84 k76 pt88) ?_
        refine FL.v (E.load rfl (run_load0 Try.isAgg3 at90 rfl)) ?_
        refine FL.v (E.assign (v := Value.int .i64 x92) rfl) ?_
        refine FL.nil ?_
        obtain ⟨x103, hx104, hp⟩ := bnd hp
        obtain ⟨r107, hr108, hp⟩ := bnd hp
        obtain ⟨r122, hr123, hp⟩ := bnd hp
        obtain ⟨xs145, hz146, hp⟩ := bnd hp
        refine FW.drawB (Sl H71) (fun f w => ∃ H : GH, ∃ v157 : Value, ∃ n158 : Nat, ∃ cs159 : List Value, St Ha wa H w [.row 3 1 v60 n61 cs62, .row 60 3 v157 n158 cs159] ∧ Inc H71 H ∧ Els (up wa.heap.size H) eproduct 3 cs159 xs145 ∧ (bl cs159).Nodup ∧ f 0 = Value.pointer (some q0P) ∧ f 1 = Value.int .i64 a1 ∧ f 5 = v157 ∧ f 6 = Value.int .i64 ((i22 : Nat) : Int) ∧ f 14 = v0P_3 ∧ f 15 = Value.int .i64 (len a0.f.clauses) ∧ f 16 = Value.int .i64 ((i22 : Nat) : Int) ∧ f 34 = v60 ∧ f 35 = Value.int .i64 (len r51) ∧ f 36 = Value.int .i64 ((i65 : Nat) : Int)) (by kernel_rfl) S72.sl ?_ ?_
        ·
          intro w94 r95
          have S96 := S72.call r95
          refine FB.t (i := 0) (bs 25 1) rfl (SP.nil S96.sl) rfl (fun w' hw' => (E.move k79)) ?_
          refine FB.t (i := 1) (bs 25 3) rfl (SP.nil S96.sl) rfl (fun w' hw' => (E.move k80)) ?_
          refine FB.t (i := 2) (bs 25 7) rfl (SP.nil S96.sl) rfl (fun w' hw' => (E.move (v := Value.int .i64 x92) rfl)) ?_
          refine FB.t (i := 3) (bs 25 15) rfl (SP.nil S96.sl) rfl (fun w' hw' => (E.move k77)) ?_
          refine FB.t (i := 4) (bs 25 31) rfl (SP.nil S96.sl) rfl (fun w' hw' => (E.nilCheck rfl)) ?_
          refine FB.t (i := 5) (bs 25 63) rfl (SP.nil S96.sl) rfl (fun w' hw' => (E.fieldAddr tf56_0 rfl)) ?_
          refine FB.t (i := 6) (bs 25 127) rfl (SP.nil S96.sl) rfl (fun w' hw' => (E.load rfl (run_loadA Try.isAgg53 Try.sizeOf53 (((c0P.mono ((i31.tr r59.run.inc).tr i73)).now hw').sub (j := 0) (n := 2) (c := [Value.int .i64 a0.ring.p, Value.int .i64 a0.ring.vars]) rfl) rfl))) ?_
          refine FB.t (i := 7) (bs 25 255) rfl (SP.nil S96.sl) rfl (fun w' hw' => (E.move k77)) ?_
          refine FB.t (i := 8) (bs 25 511) rfl (SP.nil S96.sl) rfl (fun w' hw' => (E.nilCheck rfl)) ?_
          refine FB.t (i := 9) (bs 25 1023) rfl (SP.nil S96.sl) rfl (fun w' hw' => (E.fieldAddr tf56_2 rfl)) ?_
          refine FB.t (i := 10) (bs 25 2047) rfl (SP.nil S96.sl) rfl (fun w' hw' => (E.load rfl (run_load1 Try.isAgg54 ((c0P.mono ((i31.tr r59.run.inc).tr i73)).now hw') rfl))) ?_
          refine FB.t (i := 11) (bs 25 4095) rfl (SP.nil S96.sl) rfl (fun w' hw' => (E.move k80)) ?_
          obtain ⟨p97, cs98, pt99, l100, at101, rel102⟩ := p0P_4.at hx104
          obtain ⟨v105, rfl, h106⟩ := eL_open rel102
          refine FB.t (i := 12) (bs 25 8191) rfl (SP.nil S96.sl) rfl (fun w' hw' => (E.indexAddr te54 rfl rfl pt99)) ?_
          refine FB.t (i := 13) (bs 25 16383) rfl (SP.nil S96.sl) rfl (fun w' hw' => (E.load rfl (run_load0 Try.isAgg48 ((at101.mono ((i31.tr r59.run.inc).tr i73)).now hw') rfl))) ?_
          refine FB.t (i := 14) (bs 25 32767) rfl (SP.nil S96.sl) rfl (fun w' hw' => (E.move k77)) ?_
          refine FB.t (i := 15) (bs 25 65535) rfl (SP.nil S96.sl) rfl (fun w' hw' => (E.nilCheck rfl)) ?_
          refine FB.t (i := 16) (bs 25 131071) rfl (SP.nil S96.sl) rfl (fun w' hw' => (E.fieldAddr tf56_0 rfl)) ?_
          refine FB.t (i := 17) (bs 25 262143) rfl (SP.nil S96.sl) rfl (fun w' hw' => (E.load rfl (run_loadA Try.isAgg53 Try.sizeOf53 (((c0P.mono ((i31.tr r59.run.inc).tr i73)).now hw').sub (j := 0) (n := 2) (c := [Value.int .i64 a0.ring.p, Value.int .i64 a0.ring.vars]) rfl) rfl))) ?_
          refine FB.t (i := 18) (bs 25 524287) rfl (SP.nil S96.sl) rfl (fun w' hw' => (E.move (v := Value.int .i64 x92) rfl)) ?_
          refine FB.all1 (i := 19) (by kernel_rfl) ?_
          ·
            refine FC.call (l' := (bs 25 1048575)) rfl (by kernel_rfl) rfl rfl rfl (E.call Try.call22 (A2 rfl rfl)) (w_impl_ring_mono S96.sl a0.ring x92 hr108) ?_
            rintro e w110 ⟨H109, v113, n114, cs115, rfl, r112, els116⟩
            refine ⟨_, rfl, ?_⟩
            have els116 := els116.mono (up_le S96.size)
            have S111 := S96.join (l' := [.row 3 1 v113 n114 cs115, .row 3 1 v60 n61 cs62, .row 60 3 v66 n67 cs68]) r112 rfl
            refine ⟨(SP.nil (Sl.of_inc r112.run.inc S111.sl)), ?_⟩
            refine FB.all1 (i := 20) (by kernel_rfl) ?_
            ·
              obtain ⟨H117, S118, i119, h120, nv121⟩ := S111.sealRowU (i := 0) (l' := [.row 3 1 v60 n61 cs62, .row 60 3 v66 n67 cs68]) rfl els116 (by decide) rfl
              refine FC.call (l' := (bs 25 2097151)) rfl (by kernel_rfl) rfl rfl rfl (E.call Try.call60 (A3 rfl rfl rfl)) (w_impl_ring_times S118.sl a0.ring v105 x103 (h106.mono ((((i31.tr r59.run.inc).tr i73).tr r112.run.inc).tr i119)) v113 r107 (h120.mono upI) hr123) ?_
              rintro e w125 ⟨H124, v130, n131, cs132, rfl, r127, els133⟩
              refine ⟨_, rfl, ?_⟩
              obtain ⟨H128, r127, hU129⟩ := St.lendX i119 S111.sl r127
              have els133 := els133.mono (hU129.tr (up_le S111.size))
              have S126 := S111.join (l' := [.row 3 1 v130 n131 cs132, .row 3 1 v113 n114 cs115, .row 3 1 v60 n61 cs62, .row 60 3 v66 n67 cs68]) r127 rfl
              refine ⟨(SP.nil (Sl.of_inc (r112.run.inc.tr r127.run.inc) S126.sl)), ?_⟩
              obtain ⟨H134, S135, i136, h137, nv138⟩ := S126.sealRowU (i := 0) (l' := [.row 3 1 v113 n114 cs115, .row 3 1 v60 n61 cs62, .row 60 3 v66 n67 cs68]) rfl els133 (by decide) rfl
              refine FB.t (i := 21) (bs 25 4194303) rfl (SP.nil (Sl.of_inc (r112.run.inc.tr r127.run.inc) S126.sl)) rfl (fun w' hw' => (E.build (B3 rfl rfl rfl) (run_build _ 60 #[(0, Value.int .i64 ((i22 : Nat) : Int)), (1, Value.int .i64 x92), (2, v130)] #[Value.int .i64 ((i22 : Nat) : Int), Value.int .i64 x92, v130] (by obtain ⟨_, _, rfl⟩ := RSl.ln (h137.mono upI); rfl)))) ?_
              refine FB.all1 (i := 22) (by kernel_rfl) ?_
              ·
                obtain ⟨v139, w140, run141, S142⟩ := S135.buildSlice (P := Try.prog) te43 [Value.agg #[Value.int .i64 ((i22 : Nat) : Int), Value.int .i64 x92, v130]] (parts := #[(0, Value.agg #[Value.int .i64 ((i22 : Nat) : Int), Value.int .i64 x92, v130])]) (cells := [Value.int .i64 ((i22 : Nat) : Int), Value.int .i64 x92, v130]) rfl (szs_cons rfl szs_nil) (fc_cons rfl fc_nil) (ones_cons rfl (ones_cons rfl (ones_cons h137.one ones_nil))) (Nat.le_of_ble_eq_true rfl)
                have els143 : Els (up wa.heap.size H134) eproduct 3 [Value.int .i64 ((i22 : Nat) : Int), Value.int .i64 x92, v130] [(product.mk ((i22 : Nat) : Int) x92 r122)] := (Els.snoc (H := (up wa.heap.size H134)) (E := eproduct) (k := 3) (c := [Value.int .i64 ((i22 : Nat) : Int), Value.int .i64 x92, v130]) (x := (product.mk ((i22 : Nat) : Int) x92 r122)) Els.nil rfl ⟨_, rfl, h137⟩)
                have nd144 : (bl [Value.int .i64 ((i22 : Nat) : Int), Value.int .i64 x92, v130]).Nodup := by exact nd_one v130
                refine FC.val (l' := (bs 25 8388607)) rfl (by kernel_rfl) rfl rfl rfl (E.buildSlice (B1 rfl) run141) ?_
                refine ⟨(SP.nil (Sl.of_inc ((r112.run.inc.tr r127.run.inc).tr i136) S142.sl)), ?_⟩
                refine FB.all1 (i := 23) (by kernel_rfl) ?_
                ·
                  obtain ⟨v147, w150, n148, cs149, run151, S152, els153, ce154⟩ := S142.appendO (P := Try.prog) te43 (i := 3) (j := 0) rfl (els69.mono (up_mono ((r112.run.inc.tr r127.run.inc).tr i136))) rfl els143 hz146
                  have S152 : St Ha wa H134 w150 [.row 60 3 v139 1 [Value.int .i64 ((i22 : Nat) : Int), Value.int .i64 x92, v130], .row 3 1 v113 n114 cs115, .row 3 1 v60 n61 cs62, .row 60 3 v147 n148 cs149] := S152
                  have nd155 : (bl cs149).Nodup := by rw [ce154]; exact nd_app nd70 nd144 (Els.dom (els69.mono (upI.tr (r112.run.inc.tr r127.run.inc)))) (by exact nv138)
                  have S156 : St Ha wa H134 w150 [.row 3 1 v113 n114 cs115, .row 3 1 v60 n61 cs62, .row 60 3 v147 n148 cs149] := S152.drop 0
                  refine FC.val (l' := (bs 25 16777215)) rfl (by kernel_rfl) rfl rfl rfl (E.append rfl rfl run151) ?_
                  refine ⟨(SP.nil (Sl.of_inc ((r112.run.inc.tr r127.run.inc).tr i136) S156.sl)), ?_⟩
                  refine FB.t (i := 24) (bs 25 33554431) rfl (SP.nil (Sl.of_inc ((r112.run.inc.tr r127.run.inc).tr i136) S156.sl)) rfl (fun w' hw' => (E.assign (v := v147) rfl)) ?_
                  exact FB.done (by kernel_rfl) ⟨_, _, _, _, (S156.sel [1, 2] (by decide) rfl), ((r112.run.inc.tr r127.run.inc).tr i136), els153, nd155, k77, k78, rfl, k80, k81, k82, k83, k84, k85, k76⟩
        ·
          rintro f166 w165 ⟨H162, v157, n158, cs159, S163, i164, els160, nd161, k167, k168, k169, k170, k171, k172, k173, k174, k175, k176⟩
          refine FW.region ?_
          refine FL.v (E.add k176 rfl) ?_
          refine FL.v (E.move (v := Value.int .i64 (wr (((i65 : Nat) : Int) + 1))) rfl) ?_
          refine FL.nil ?_
          obtain rfl := Option.some.inj hp
          exact ⟨rfl, ⟨_, _, _, _, S163, (i73.tr i164), els160, nd161, (nat_succ rfl hj65 (chk_le hchk65)), k167, k168, k169, k170, k171, k172, k173, k174, k175⟩⟩
      ·
        clear hp hq
        rintro s65 f193 w192 ⟨H189, v66, n67, cs68, S190, i191, els69, nd70, k194, k195, k196, k197, k198, k199, k200, k201, k202, k203⟩
        refine FW.seq (FW.region ?_)
        refine FL.v (E.lss k194 k203) ?_
        refine FL.nil (FW.seq ?_)
        refine FW.condF rfl (dlt_maxchk hchk65) ?_
        refine FW.exit ?_
        exact ⟨nofun, rfl, ⟨_, _, _, _, S190, i191, els69, nd70, k195, k196, k197, k199, k200, k201⟩⟩
      ·
        clear hq
        intro e f182 w181 hD
        rcases q65 with s65 | x65
        ·
          obtain ⟨rfl, hD⟩ := hD
          obtain ⟨H178, v66, n67, cs68, S179, i180, els69, nd70, k183, k184, k185, k186, k187, k188⟩ := hD
          replace hp := el_go hp
          refine FW.region ?_
          refine FL.v (E.add k188 rfl) ?_
          refine FL.v (E.move (v := Value.int .i64 (wr (((i22 : Nat) : Int) + 1))) rfl) ?_
          refine FL.nil ?_
          obtain rfl := Option.some.inj hp
          exact ⟨rfl, ⟨_, _, _, _, (S179.sel [1] (by decide) rfl), ((i31.tr r59.run.inc).tr i180), els69, nd70, (nat_succ rfl (lt_of_get hx22) (p0P_3.mono ((i31.tr r59.run.inc).tr i180)).le), k183, k184, k185, k186, k187⟩⟩
        · exact x65.elim
  ·
    clear hp hq
    rintro s22 f215 w214 ⟨H211, v23, n24, cs25, S212, i213, els26, nd27, k216, k217, k218, k219, k220, k221⟩
    refine FW.seq (FW.region ?_)
    refine FL.v (E.lss k216 k221) ?_
    refine FL.nil (FW.seq ?_)
    refine FW.condF rfl dlt_len ?_
    refine FW.exit ?_
    exact ⟨nofun, rfl, ⟨_, _, _, _, S212, i213, els26, nd27, k219⟩⟩
  ·
    clear hq
    intro e f209 w208 hD
    rcases q22 with s22 | x22
    ·
      obtain ⟨rfl, hD⟩ := hD
      obtain ⟨H205, v23, n24, cs25, S206, i207, els26, nd27, k210⟩ := hD
      replace hp := el_go hp
      refine FW.seq (FW.region ?_)
      refine FL.v (E.move k210) ?_
      refine FL.v (E.assign (v := v23) rfl) ?_
      refine FL.nil ?_
      refine FW.ret ?_
      obtain rfl := Option.some.inj hp
      exact ⟨.inr rfl, res1 rfl rfl ⟨_, _, _, _, rfl, S206, els26, nd27⟩⟩
    · exact x22.elim

theorem w_impl_leading {Ha : GH} {wa : World} (hs : Sl Ha wa) (v0 : Value) (a0 : List Int) (p0 : RSl Ha eI 1 v0 a0) {r : Int} (hp : (PF.impl_leading a0) = some r) :
    Calls Try.prog 48 #[v0] wa (Sc Ha wa (Value.int .i64 r)) := by
  unfold PF.impl_leading at hp
  have S0 := St.init hs
  refine calls_go (N := 28) (args := [v0]) Try.func48 rfl rfl rfl ?_
  refine FW.seq (FW.region ?_)
  refine FL.v (E.assign (v := Value.int .i64 0) rfl) ?_
  refine FL.nil (FW.seq (FW.region ?_))
  refine FL.v (E.assign (v := Value.int .i64 (-1)) rfl) ?_
  refine FL.nil (FW.seq (FW.seq (FW.region ?_)))
  refine FL.v (E.move (v := v0) rfl) ?_
  refine FL.v (E.lenP te48 rfl p0) ?_
  refine FL.v (E.move (v := Value.int .i64 0) rfl) ?_
  refine FL.nil ?_
  obtain ⟨q22, hq, hp⟩ := bndR hp
  refine FW.block ?_
  refine FW.mono (FW.forL (S := Int) (X := Empty) (fun (i22 : Nat) (s22 : Int) f w => ∃ H : GH, St Ha wa H w [] ∧ Inc Ha H ∧ f 8 = Value.int .i64 ((i22 : Nat) : Int) ∧ f 3 = Value.int .i64 s22 ∧ f 6 = v0 ∧ f 7 = Value.int .i64 (len a0)) (fun (q : Rs Int Empty) e f w => match q with | .go s22 => e = Exit.exit 0 ∧ (∃ H : GH, St Ha wa H w [] ∧ Inc Ha H ∧ f 3 = Value.int .i64 s22) | .rt x => x.elim) hq ⟨_, S0, (Inc.rfl _), rfl, rfl, rfl, rfl⟩ ?_ ?_) ?_
  ·
    clear hp hq
    rintro i22 y21 s22 f104 w103 ⟨H100, S101, i102, k105, k106, k107, k108⟩ hx22 o177 hp
    refine FW.seq (FW.region ?_)
    refine FL.v (E.lssT k105 k108 (lss_len hx22)) ?_
    refine FL.nil (FW.seq ?_)
    refine FW.condT rfl rfl ?_
    refine FW.skip (FW.seq (FW.block (FW.seq (FW.region ?_))))
    refine FL.v (E.move k105) ?_
    obtain ⟨p109, cs110, pt111, l112, at113, rel114⟩ := p0.at (ix_nat hx22)
    obtain rfl := eI_open rel114
    refine FL.v (E.indexAddr te48 k107 k105 pt111) ?_
    refine FL.v (E.load rfl (run_load0 Try.isAgg3 ((at113.mono i102).now S101.sl) rfl)) ?_
    refine FL.v (E.assign (v := Value.int .i64 ((i22 : Nat) : Int)) rfl) ?_
    refine FL.v (E.assign (v := Value.int .i64 y21) rfl) ?_
    refine FL.nil (FW.seq (FW.region ?_))
    refine FL.v (E.move (v := Value.int .i64 y21) rfl) ?_
    refine FL.v (E.neq rfl rfl) ?_
    refine FL.v (E.move (v := Value.bool (!(y21 == 0))) rfl) ?_
    obtain ⟨t139, hqt139, hp⟩ := bnd hp
    refine FL.cut 9 (fun f w => ∃ H : GH, St Ha wa H w [] ∧ Inc H100 H ∧ f 3 = Value.int .i64 s22 ∧ f 4 = Value.int .i64 ((i22 : Nat) : Int) ∧ f 6 = v0 ∧ f 7 = Value.int .i64 (len a0) ∧ f 8 = Value.int .i64 ((i22 : Nat) : Int) ∧ f 24 = Value.bool t139) ?_ ?_
    ·
      clear hp; have hp := hqt139; clear hqt139
      rcases ifB hp with ⟨c145, hp⟩ | ⟨c145, hp⟩
      ·
        refine FL.val (wF_yes rfl rfl rfl c145) rfl rfl (E.move k106) ?_
        refine FL.val (wF_yes rfl rfl rfl c145) rfl rfl (E.lss rfl rfl) ?_
        refine FL.val (wF_yes rfl rfl rfl c145) rfl rfl (E.move (v := Value.bool (decide (s22 < 0))) rfl) ?_
        obtain ⟨t151, hqt151, hp⟩ := bnd hp
        refine FL.cut 5 (fun f w => ∃ H : GH, St Ha wa H w [] ∧ Inc H100 H ∧ f 3 = Value.int .i64 s22 ∧ f 4 = Value.int .i64 ((i22 : Nat) : Int) ∧ f 6 = v0 ∧ f 7 = Value.int .i64 (len a0) ∧ f 8 = Value.int .i64 ((i22 : Nat) : Int) ∧ f 15 = Value.bool (!(y21 == 0)) ∧ f 23 = Value.bool t151) ?_ ?_
        ·
          clear hp; have hp := hqt151; clear hqt151
          rcases ifB hp with ⟨c157, hp⟩ | ⟨c157, hp⟩
          ·
            refine FL.skip (wF_no rfl rfl rfl c157) rfl ?_
            refine FL.skip (wF_no rfl rfl rfl c157) rfl ?_
            refine FL.skip (wF_no rfl rfl rfl c157) rfl ?_
            refine FL.skip (wF_no rfl rfl rfl c157) rfl ?_
            obtain rfl := Option.some.inj hp
            refine FL.val (wF_yes rfl rfl rfl c145) rfl rfl (E.pickT rfl c157 rfl) ?_
            exact FL.nil ⟨rfl, _, S101, (Inc.rfl _), k106, rfl, k107, k108, k105, rfl, rfl⟩
          ·
            refine FL.val (wF_yes rfl rfl rfl c157) rfl rfl (E.move (v := Value.int .i64 ((i22 : Nat) : Int)) rfl) ?_
            refine FL.val (wF_yes rfl rfl rfl c157) rfl rfl (E.move k106) ?_
            obtain ⟨r158, hr159, hp⟩ := bnd hp
            refine FL.call (wF_yes rfl rfl rfl c157) rfl rfl (E.call Try.call64 (A2 rfl rfl)) (w_impl_compareMonos S101.sl ((i22 : Nat) : Int) s22 hr159) ?_
            rintro e w160 ⟨rfl, r161⟩
            refine ⟨_, rfl, ?_⟩
            have S162 := S101.call r161
            refine FL.val (wF_yes rfl rfl rfl c157) rfl rfl (E.gtr rfl rfl) ?_
            obtain rfl := Option.some.inj hp
            refine FL.val (wF_yes rfl rfl rfl c145) rfl rfl (E.pickF rfl c157 rfl) ?_
            exact FL.nil ⟨rfl, _, S162, (Inc.rfl _), k106, rfl, k107, k108, k105, rfl, rfl⟩
        rintro f156 w155 ⟨H152, S153, i154, k163, k164, k165, k166, k167, k168, k169⟩
        obtain rfl := Option.some.inj hp
        refine FL.v (E.pickT k168 c145 k169) ?_
        exact FL.nil ⟨rfl, _, S153, i154, k163, k164, k165, k166, k167, rfl⟩
      ·
        refine FL.skip (wF_no rfl rfl rfl c145) rfl ?_
        refine FL.skip (wF_no rfl rfl rfl c145) rfl ?_
        refine FL.skip (wF_no rfl rfl rfl c145) rfl ?_
        refine FL.skip (wF_undef rfl rfl rfl) rfl ?_
        refine FL.skip (wF_undef rfl rfl rfl) rfl ?_
        refine FL.skip (wF_undef rfl rfl rfl) rfl ?_
        refine FL.skip (wF_undef rfl rfl rfl) rfl ?_
        refine FL.skip (wF_no rfl rfl rfl c145) rfl ?_
        obtain rfl := Option.some.inj hp
        refine FL.v (E.pickF rfl c145 rfl) ?_
        exact FL.nil ⟨rfl, _, S101, (Inc.rfl _), k106, rfl, k107, k108, k105, rfl⟩
    rintro f144 w143 ⟨H140, S141, i142, k170, k171, k172, k173, k174, k175⟩
    refine FL.nil ?_
    rcases ifB hp with ⟨c176, hp⟩ | ⟨c176, hp⟩
    ·
      refine FW.condT k175 c176 ?_
      refine FW.region ?_
      refine FL.v (E.move k171) ?_
      refine FL.v (E.assign (v := Value.int .i64 ((i22 : Nat) : Int)) rfl) ?_
      refine FL.nil (FW.region ?_)
      refine FL.v (E.add k174 rfl) ?_
      refine FL.v (E.move (v := Value.int .i64 (wr (((i22 : Nat) : Int) + 1))) rfl) ?_
      refine FL.nil ?_
      obtain rfl := Option.some.inj hp
      exact ⟨rfl, ⟨_, S141, (i102.tr i142), (nat_succ rfl (lt_of_get hx22) (p0.mono (i102.tr i142)).le), rfl, k172, k173⟩⟩
    ·
      refine FW.condF k175 c176 ?_
      refine FW.skip (FW.region ?_)
      refine FL.v (E.add k174 rfl) ?_
      refine FL.v (E.move (v := Value.int .i64 (wr (((i22 : Nat) : Int) + 1))) rfl) ?_
      refine FL.nil ?_
      obtain rfl := Option.some.inj hp
      exact ⟨rfl, ⟨_, S141, (i102.tr i142), (nat_succ rfl (lt_of_get hx22) (p0.mono (i102.tr i142)).le), k170, k172, k173⟩⟩
  ·
    clear hp hq
    rintro s22 f188 w187 ⟨H184, S185, i186, k189, k190, k191, k192⟩
    refine FW.seq (FW.region ?_)
    refine FL.v (E.lss k189 k192) ?_
    refine FL.nil (FW.seq ?_)
    refine FW.condF rfl dlt_len ?_
    refine FW.exit ?_
    exact ⟨nofun, rfl, ⟨_, S185, i186, k190⟩⟩
  ·
    clear hq
    intro e f182 w181 hD
    rcases q22 with s22 | x22
    ·
      obtain ⟨rfl, hD⟩ := hD
      obtain ⟨H178, S179, i180, k183⟩ := hD
      replace hp := el_go hp
      refine FW.seq (FW.region ?_)
      refine FL.v (E.move k183) ?_
      refine FL.v (E.assign (v := Value.int .i64 s22) rfl) ?_
      refine FL.nil ?_
      refine FW.ret ?_
      obtain rfl := Option.some.inj hp
      exact ⟨.inr rfl, res1 rfl rfl ⟨rfl, S179.back⟩⟩
    · exact x22.elim

@[reducible] def p_impl_echelon_reduce (H0 : GH) (w0 : World) (Ha : GH) (L : List MO) (b0 : Nat) (v0_2 : Value) (n0_2 : Nat) (k0_2 : List Value) (v0_3 : Value) (n0_3 : Nat) (k0_3 : List Value) (r : ((List Int) × (List Int) × echelon)) : Ending → World → Prop :=
  fun e w' => ∃ H' : GH, ∃ v0 : Value, ∃ v1 : Value, ∃ n1 : Nat, ∃ c1 : List Value, e = .returned (Value.tuple #[v0, v1]) ∧ (St H0 w0 H' w' (.row 3 1 v1 n1 c1 :: .box b0 87 [Value.int .i64 r.2.2.ring.p, Value.int .i64 r.2.2.ring.vars, v0_2, v0_3, Value.int .i64 r.2.2.many] :: .row 48 1 v0_2 n0_2 k0_2 :: .row 48 1 v0_3 n0_3 k0_3 :: L) ∧ Inc Ha H') ∧ RSl H' eI 1 v0 r.1 ∧ Els (up w0.heap.size H') eI 1 c1 r.2.1
set_option maxHeartbeats 4000000 in
theorem w_impl_echelon_reduce {H0 Ha : GH} {w0 wa : World} {L : List MO} {a0 : echelon} {b0 : Nat} {v0_2 : Value} {n0_2 : Nat} {k0_2 : List Value} {v0_3 : Value} {n0_3 : Nat} {k0_3 : List Value} (S0 : St H0 w0 Ha wa (.box b0 87 [Value.int .i64 a0.ring.p, Value.int .i64 a0.ring.vars, v0_2, v0_3, Value.int .i64 a0.many] :: .row 48 1 v0_2 n0_2 k0_2 :: .row 48 1 v0_3 n0_3 k0_3 :: L)) (p0_2 : Els (up w0.heap.size Ha) (eL eI 1) 1 k0_2 a0.rows) (d0_2 : (bl k0_2).Nodup) (p0_3 : Els (up w0.heap.size Ha) (eL eI 1) 1 k0_3 a0.made) (v1 : Value) (a1 : List Int) (p1 : RSl Ha eI 1 v1 a1) {r : ((List Int) × (List Int) × echelon)} (hp : (PF.impl_echelon_reduce a0 a1) = some r) :
    Calls Try.prog 21 #[Value.pointer (some (⟨b0, 0, none⟩ : Addr)), v1] wa (p_impl_echelon_reduce H0 w0 Ha L b0 v0_2 n0_2 k0_2 v0_3 n0_3 k0_3 r) := by
  unfold PF.impl_echelon_reduce at hp
  refine calls_go (N := 82) (args := [Value.pointer (some (⟨b0, 0, none⟩ : Addr)), v1]) Try.func21 rfl rfl rfl ?_
  refine FW.seq (FW.region ?_)
  refine FL.v (E.assign (v := Value.slice none 0 0) rfl) ?_
  refine FL.v (E.assign (v := Value.slice none 0 0) rfl) ?_
  refine FL.nil (FW.seq (FW.region ?_))
  refine FL.v (E.move (v := Value.pointer (some (⟨b0, 0, none⟩ : Addr))) rfl) ?_
  refine FL.v (E.nilCheck rfl) ?_
  refine FL.v (E.fieldAddr tf87_3 rfl) ?_
  refine FL.v (E.load rfl (run_load1 Try.isAgg3 (S0.box_now (i := 0) rfl) rfl)) ?_
  obtain ⟨xs21, hm22, hp⟩ := bnd hp
  obtain ⟨v23, w24, n28, cs29, run25, S26, els27, hbl30⟩ := S0.makeEls (P := Try.prog) te48 (G := (up w0.heap.size Ha)) (En := eI) (x0 := (0 : Int)) hm22 rfl (ones_cons rfl ones_nil) .i64 .i64
  refine FL.v (E.makeSlice rfl rfl run25) ?_
  refine FL.v (E.assign (v := v23) rfl) ?_
  refine FL.nil (FW.seq (FW.seq (FW.region ?_)))
  refine FL.v (E.move (v := Value.pointer (some (⟨b0, 0, none⟩ : Addr))) rfl) ?_
  refine FL.v (E.nilCheck rfl) ?_
  refine FL.v (E.fieldAddr tf87_1 rfl) ?_
  refine FL.v (E.load rfl (run_load1 Try.isAgg54 (S26.box_now (i := 1) rfl) rfl)) ?_
  refine FL.v (E.lenO te54 rfl S26 (i := 2) rfl p0_2 (by decide)) ?_
  refine FL.v (E.move (v := Value.int .i64 0) rfl) ?_
  refine FL.nil ?_
  obtain ⟨m31, hchk32, hp⟩ := bnd hp
  obtain ⟨q32, hq, hp⟩ := bndR hp
  refine FW.block ?_
  refine FW.mono (FW.forR (S := ((List Int) × (List Int))) (X := Empty) (fun (i32 : Nat) (s32 : ((List Int) × (List Int))) f w => ∃ H : GH, ∃ v33 : Value, ∃ n34 : Nat, ∃ cs35 : List Value, ∃ v37 : Value, St H0 w0 H w (.row 3 1 v33 n34 cs35 :: .box b0 87 [Value.int .i64 a0.ring.p, Value.int .i64 a0.ring.vars, v0_2, v0_3, Value.int .i64 a0.many] :: .row 48 1 v0_2 n0_2 k0_2 :: .row 48 1 v0_3 n0_3 k0_3 :: L) ∧ Inc Ha H ∧ Els (up w0.heap.size H) eI 1 cs35 s32.1 ∧ RSl H eI 1 v37 s32.2 ∧ f 22 = Value.int .i64 ((i32 : Nat) : Int) ∧ f 0 = Value.pointer (some (⟨b0, 0, none⟩ : Addr)) ∧ f 1 = v37 ∧ f 6 = v33 ∧ f 20 = v0_2 ∧ f 21 = Value.int .i64 (len a0.rows)) (fun (q : Rs ((List Int) × (List Int)) Empty) e f w => match q with | .go s32 => e = Exit.exit 0 ∧ (∃ H : GH, ∃ v33 : Value, ∃ n34 : Nat, ∃ cs35 : List Value, ∃ v37 : Value, St H0 w0 H w (.row 3 1 v33 n34 cs35 :: .box b0 87 [Value.int .i64 a0.ring.p, Value.int .i64 a0.ring.vars, v0_2, v0_3, Value.int .i64 a0.many] :: .row 48 1 v0_2 n0_2 k0_2 :: .row 48 1 v0_3 n0_3 k0_3 :: L) ∧ Inc Ha H ∧ Els (up w0.heap.size H) eI 1 cs35 s32.1 ∧ RSl H eI 1 v37 s32.2 ∧ f 1 = v37 ∧ f 6 = v33) | .rt x => x.elim) hq ⟨_, _, _, _, _, S26, (Inc.rfl _), els27, p1, rfl, rfl, rfl, rfl, rfl, rfl⟩ ?_ ?_) ?_
  ·
    clear hp hq
    rintro i32 s32 f43 w42 ⟨H39, v33, n34, cs35, v37, S40, i41, els36, h38, k44, k45, k46, k47, k49, k50⟩ hi32 hj32 o227 hp
    refine FW.seq (FW.region ?_)
    refine FL.v (E.lssT k44 k50 (lss_chk hj32 hchk32)) ?_
    refine FL.nil (FW.seq ?_)
    refine FW.condT rfl rfl ?_
    refine FW.skip (FW.seq (FW.block (FW.seq (FW.region ?_))))
    refine FL.v (E.move k44) ?_
    obtain ⟨x59, hx60, hp⟩ := bnd hp
    obtain ⟨p51, cs52, pt55, l56, at57, rel58⟩ := S40.row_at (i := 2) rfl p0_2 (by decide) hx60
    obtain ⟨v61, rfl, h62⟩ := eL_open rel58
    refine FL.v (E.indexAddr te54 k49 k44 pt55) ?_
    refine FL.v (E.load rfl (run_load0 Try.isAgg48 at57 rfl)) ?_
    refine FL.v (E.assign (v := Value.int .i64 ((i32 : Nat) : Int)) rfl) ?_
    refine FL.v (E.assign (v := v61) rfl) ?_
    refine FL.nil (FW.seq (FW.region ?_))
    refine FL.v (E.move k46) ?_
    refine FL.v (E.move (v := v61) rfl) ?_
    obtain ⟨r63, hr64, hp⟩ := bnd hp
    refine FL.call rfl rfl rfl (E.call Try.call48 (A1 rfl)) (w_impl_leading S40.sl v61 x59 (h62.mono (upI.tr i41)) hr64) ?_
    rintro e w65 ⟨rfl, r66⟩
    refine ⟨_, rfl, ?_⟩
    have S67 := S40.call r66
    obtain ⟨x74, hx75, hp⟩ := bnd hp
    obtain ⟨p68, cs69, pt70, l71, at72, rel73⟩ := h38.at hx75
    obtain rfl := eI_open rel73
    refine FL.v (E.indexAddr te48 rfl rfl pt70) ?_
    refine FL.v (E.load rfl (run_load0 Try.isAgg3 (at72.now S67.sl) rfl)) ?_
    refine FL.v (E.assign (v := Value.int .i64 x74) rfl) ?_
    refine FL.nil (FW.seq (FW.region ?_))
    refine FL.v (E.move (v := Value.int .i64 x74) rfl) ?_
    refine FL.v (E.neq rfl rfl) ?_
    refine FL.nil ?_
    rcases ifB hp with ⟨c76, hp⟩ | ⟨c76, hp⟩
    ·
      refine FW.condT rfl c76 ?_
      refine FW.seq ?_
      obtain ⟨r80, hr81, hp⟩ := bnd hp
      refine FW.drawB (SX H0 w0 H39 (.box b0 87 [Value.int .i64 a0.ring.p, Value.int .i64 a0.ring.vars, v0_2, v0_3, Value.int .i64 a0.many] :: L)) (fun f w => ∃ H : GH, ∃ v91 : Value, ∃ n92 : Nat, ∃ cs93 : List Value, St H0 w0 H w (.row 3 1 v33 n34 cs35 :: .box b0 87 [Value.int .i64 a0.ring.p, Value.int .i64 a0.ring.vars, v0_2, v0_3, Value.int .i64 a0.many] :: .row 48 1 v0_2 n0_2 k0_2 :: .row 48 1 v0_3 n0_3 k0_3 :: .row 3 1 v91 n92 cs93 :: L) ∧ Inc H39 H ∧ Els (up w0.heap.size H) eI 1 cs93 r80 ∧ f 0 = Value.pointer (some (⟨b0, 0, none⟩ : Addr)) ∧ f 1 = v91 ∧ f 6 = v33 ∧ f 7 = Value.int .i64 ((i32 : Nat) : Int) ∧ f 9 = Value.int .i64 x74 ∧ f 20 = v0_2 ∧ f 21 = Value.int .i64 (len a0.rows) ∧ f 22 = Value.int .i64 ((i32 : Nat) : Int)) (by kernel_rfl) S67.sl ?_ ?_
      ·
        intro w77 r78
        have S79 := S67.call r78
        refine FB.t (i := 0) (bs 15 1) rfl (SP.nil ⟨_, (S79.selT (a := [.row 3 1 v33 n34 cs35, .box b0 87 [Value.int .i64 a0.ring.p, Value.int .i64 a0.ring.vars, v0_2, v0_3, Value.int .i64 a0.many], .row 48 1 v0_2 n0_2 k0_2, .row 48 1 v0_3 n0_3 k0_3]) (l' := [.box b0 87 [Value.int .i64 a0.ring.p, Value.int .i64 a0.ring.vars, v0_2, v0_3, Value.int .i64 a0.many]]) [1] (by decide) rfl), (Inc.rfl _)⟩) rfl (fun w' hw' => (E.move k45)) ?_
        refine FB.t (i := 1) (bs 15 3) rfl (SP.nil ⟨_, (S79.selT (a := [.row 3 1 v33 n34 cs35, .box b0 87 [Value.int .i64 a0.ring.p, Value.int .i64 a0.ring.vars, v0_2, v0_3, Value.int .i64 a0.many], .row 48 1 v0_2 n0_2 k0_2, .row 48 1 v0_3 n0_3 k0_3]) (l' := [.box b0 87 [Value.int .i64 a0.ring.p, Value.int .i64 a0.ring.vars, v0_2, v0_3, Value.int .i64 a0.many]]) [1] (by decide) rfl), (Inc.rfl _)⟩) rfl (fun w' hw' => (E.nilCheck rfl)) ?_
        refine FB.t (i := 2) (bs 15 7) rfl (SP.nil ⟨_, (S79.selT (a := [.row 3 1 v33 n34 cs35, .box b0 87 [Value.int .i64 a0.ring.p, Value.int .i64 a0.ring.vars, v0_2, v0_3, Value.int .i64 a0.many], .row 48 1 v0_2 n0_2 k0_2, .row 48 1 v0_3 n0_3 k0_3]) (l' := [.box b0 87 [Value.int .i64 a0.ring.p, Value.int .i64 a0.ring.vars, v0_2, v0_3, Value.int .i64 a0.many]]) [1] (by decide) rfl), (Inc.rfl _)⟩) rfl (fun w' hw' => (E.fieldAddr tf87_0 rfl)) ?_
        refine FB.t (i := 3) (bs 15 15) rfl (SP.nil ⟨_, (S79.selT (a := [.row 3 1 v33 n34 cs35, .box b0 87 [Value.int .i64 a0.ring.p, Value.int .i64 a0.ring.vars, v0_2, v0_3, Value.int .i64 a0.many], .row 48 1 v0_2 n0_2 k0_2, .row 48 1 v0_3 n0_3 k0_3]) (l' := [.box b0 87 [Value.int .i64 a0.ring.p, Value.int .i64 a0.ring.vars, v0_2, v0_3, Value.int .i64 a0.many]]) [1] (by decide) rfl), (Inc.rfl _)⟩) rfl (fun w' hw' => (E.load rfl (run_loadA Try.isAgg53 Try.sizeOf53 ((SX.box_now hw' (i := 0) rfl).sub (j := 0) (n := 2) (c := [Value.int .i64 a0.ring.p, Value.int .i64 a0.ring.vars]) rfl) rfl))) ?_
        refine FB.t (i := 4) (bs 15 31) rfl (SP.nil ⟨_, (S79.selT (a := [.row 3 1 v33 n34 cs35, .box b0 87 [Value.int .i64 a0.ring.p, Value.int .i64 a0.ring.vars, v0_2, v0_3, Value.int .i64 a0.many], .row 48 1 v0_2 n0_2 k0_2, .row 48 1 v0_3 n0_3 k0_3]) (l' := [.box b0 87 [Value.int .i64 a0.ring.p, Value.int .i64 a0.ring.vars, v0_2, v0_3, Value.int .i64 a0.many]]) [1] (by decide) rfl), (Inc.rfl _)⟩) rfl (fun w' hw' => (E.move k46)) ?_
        refine FB.t (i := 5) (bs 15 63) rfl (SP.nil ⟨_, (S79.selT (a := [.row 3 1 v33 n34 cs35, .box b0 87 [Value.int .i64 a0.ring.p, Value.int .i64 a0.ring.vars, v0_2, v0_3, Value.int .i64 a0.many], .row 48 1 v0_2 n0_2 k0_2, .row 48 1 v0_3 n0_3 k0_3]) (l' := [.box b0 87 [Value.int .i64 a0.ring.p, Value.int .i64 a0.ring.vars, v0_2, v0_3, Value.int .i64 a0.many]]) [1] (by decide) rfl), (Inc.rfl _)⟩) rfl (fun w' hw' => (E.move (v := v61) rfl)) ?_
        refine FB.t (i := 6) (bs 15 127) rfl (SP.nil ⟨_, (S79.selT (a := [.row 3 1 v33 n34 cs35, .box b0 87 [Value.int .i64 a0.ring.p, Value.int .i64 a0.ring.vars, v0_2, v0_3, Value.int .i64 a0.many], .row 48 1 v0_2 n0_2 k0_2, .row 48 1 v0_3 n0_3 k0_3]) (l' := [.box b0 87 [Value.int .i64 a0.ring.p, Value.int .i64 a0.ring.vars, v0_2, v0_3, Value.int .i64 a0.many]]) [1] (by decide) rfl), (Inc.rfl _)⟩) rfl (fun w' hw' => (E.move k45)) ?_
        refine FB.t (i := 7) (bs 15 255) rfl (SP.nil ⟨_, (S79.selT (a := [.row 3 1 v33 n34 cs35, .box b0 87 [Value.int .i64 a0.ring.p, Value.int .i64 a0.ring.vars, v0_2, v0_3, Value.int .i64 a0.many], .row 48 1 v0_2 n0_2 k0_2, .row 48 1 v0_3 n0_3 k0_3]) (l' := [.box b0 87 [Value.int .i64 a0.ring.p, Value.int .i64 a0.ring.vars, v0_2, v0_3, Value.int .i64 a0.many]]) [1] (by decide) rfl), (Inc.rfl _)⟩) rfl (fun w' hw' => (E.nilCheck rfl)) ?_
        refine FB.t (i := 8) (bs 15 511) rfl (SP.nil ⟨_, (S79.selT (a := [.row 3 1 v33 n34 cs35, .box b0 87 [Value.int .i64 a0.ring.p, Value.int .i64 a0.ring.vars, v0_2, v0_3, Value.int .i64 a0.many], .row 48 1 v0_2 n0_2 k0_2, .row 48 1 v0_3 n0_3 k0_3]) (l' := [.box b0 87 [Value.int .i64 a0.ring.p, Value.int .i64 a0.ring.vars, v0_2, v0_3, Value.int .i64 a0.many]]) [1] (by decide) rfl), (Inc.rfl _)⟩) rfl (fun w' hw' => (E.fieldAddr tf87_0 rfl)) ?_
        refine FB.t (i := 9) (bs 15 1023) rfl (SP.nil ⟨_, (S79.selT (a := [.row 3 1 v33 n34 cs35, .box b0 87 [Value.int .i64 a0.ring.p, Value.int .i64 a0.ring.vars, v0_2, v0_3, Value.int .i64 a0.many], .row 48 1 v0_2 n0_2 k0_2, .row 48 1 v0_3 n0_3 k0_3]) (l' := [.box b0 87 [Value.int .i64 a0.ring.p, Value.int .i64 a0.ring.vars, v0_2, v0_3, Value.int .i64 a0.many]]) [1] (by decide) rfl), (Inc.rfl _)⟩) rfl (fun w' hw' => (E.fieldAddrN tf53_0 rfl rfl)) ?_
        refine FB.t (i := 10) (bs 15 2047) rfl (SP.nil ⟨_, (S79.selT (a := [.row 3 1 v33 n34 cs35, .box b0 87 [Value.int .i64 a0.ring.p, Value.int .i64 a0.ring.vars, v0_2, v0_3, Value.int .i64 a0.many], .row 48 1 v0_2 n0_2 k0_2, .row 48 1 v0_3 n0_3 k0_3]) (l' := [.box b0 87 [Value.int .i64 a0.ring.p, Value.int .i64 a0.ring.vars, v0_2, v0_3, Value.int .i64 a0.many]]) [1] (by decide) rfl), (Inc.rfl _)⟩) rfl (fun w' hw' => (E.load rfl (run_load1 Try.isAgg3 (SX.box_now hw' (i := 0) rfl) rfl))) ?_
        refine FB.t (i := 11) (bs 15 4095) rfl (SP.nil ⟨_, (S79.selT (a := [.row 3 1 v33 n34 cs35, .box b0 87 [Value.int .i64 a0.ring.p, Value.int .i64 a0.ring.vars, v0_2, v0_3, Value.int .i64 a0.many], .row 48 1 v0_2 n0_2 k0_2, .row 48 1 v0_3 n0_3 k0_3]) (l' := [.box b0 87 [Value.int .i64 a0.ring.p, Value.int .i64 a0.ring.vars, v0_2, v0_3, Value.int .i64 a0.many]]) [1] (by decide) rfl), (Inc.rfl _)⟩) rfl (fun w' hw' => (E.move (v := Value.int .i64 x74) rfl)) ?_
        refine FB.t (i := 12) (bs 15 8191) rfl (SP.nil ⟨_, (S79.selT (a := [.row 3 1 v33 n34 cs35, .box b0 87 [Value.int .i64 a0.ring.p, Value.int .i64 a0.ring.vars, v0_2, v0_3, Value.int .i64 a0.many], .row 48 1 v0_2 n0_2 k0_2, .row 48 1 v0_3 n0_3 k0_3]) (l' := [.box b0 87 [Value.int .i64 a0.ring.p, Value.int .i64 a0.ring.vars, v0_2, v0_3, Value.int .i64 a0.many]]) [1] (by decide) rfl), (Inc.rfl _)⟩) rfl (fun w' hw' => (E.sub rfl rfl)) ?_
        refine FB.all1 (i := 13) (by kernel_rfl) ?_
        ·
          refine FC.call (l' := (bs 15 16383)) rfl (by kernel_rfl) rfl rfl rfl (E.call Try.call25 (A4 rfl rfl rfl rfl)) (w_impl_ring_plus S79.sl a0.ring v37 s32.2 h38 v61 x59 (h62.mono (upI.tr i41)) (wr (a0.ring.p - x74)) hr81) ?_
          rintro e w83 ⟨H82, v86, n88, cs89, rfl, r85, els90⟩
          refine ⟨_, rfl, ?_⟩
          have els90 := els90.mono (up_le S79.size)
          have S84 := S79.join (l' := (.row 3 1 v86 n88 cs89 :: .row 3 1 v33 n34 cs35 :: .box b0 87 [Value.int .i64 a0.ring.p, Value.int .i64 a0.ring.vars, v0_2, v0_3, Value.int .i64 a0.many] :: .row 48 1 v0_2 n0_2 k0_2 :: .row 48 1 v0_3 n0_3 k0_3 :: L)) r85 rfl
          refine ⟨(SP.nil ⟨_, (S84.selT (a := [.row 3 1 v86 n88 cs89, .row 3 1 v33 n34 cs35, .box b0 87 [Value.int .i64 a0.ring.p, Value.int .i64 a0.ring.vars, v0_2, v0_3, Value.int .i64 a0.many], .row 48 1 v0_2 n0_2 k0_2, .row 48 1 v0_3 n0_3 k0_3]) (l' := [.box b0 87 [Value.int .i64 a0.ring.p, Value.int .i64 a0.ring.vars, v0_2, v0_3, Value.int .i64 a0.many]]) [2] (by decide) rfl), r85.run.inc⟩), ?_⟩
          refine FB.t (i := 14) (bs 15 32767) rfl (SP.nil ⟨_, (S84.selT (a := [.row 3 1 v86 n88 cs89, .row 3 1 v33 n34 cs35, .box b0 87 [Value.int .i64 a0.ring.p, Value.int .i64 a0.ring.vars, v0_2, v0_3, Value.int .i64 a0.many], .row 48 1 v0_2 n0_2 k0_2, .row 48 1 v0_3 n0_3 k0_3]) (l' := [.box b0 87 [Value.int .i64 a0.ring.p, Value.int .i64 a0.ring.vars, v0_2, v0_3, Value.int .i64 a0.many]]) [2] (by decide) rfl), r85.run.inc⟩) rfl (fun w' hw' => (E.assign (v := v86) rfl)) ?_
          exact FB.done (by kernel_rfl) ⟨_, _, _, _, (S84.selT (a := [.row 3 1 v86 n88 cs89, .row 3 1 v33 n34 cs35, .box b0 87 [Value.int .i64 a0.ring.p, Value.int .i64 a0.ring.vars, v0_2, v0_3, Value.int .i64 a0.many], .row 48 1 v0_2 n0_2 k0_2, .row 48 1 v0_3 n0_3 k0_3]) (l' := [.row 3 1 v33 n34 cs35, .box b0 87 [Value.int .i64 a0.ring.p, Value.int .i64 a0.ring.vars, v0_2, v0_3, Value.int .i64 a0.many], .row 48 1 v0_2 n0_2 k0_2, .row 48 1 v0_3 n0_3 k0_3, .row 3 1 v86 n88 cs89]) [1, 2, 3, 4, 0] (by decide) rfl), r85.run.inc, els90, k45, rfl, k47, rfl, rfl, k49, k50, k44⟩
      ·
        rintro f99 w98 ⟨H95, v91, n92, cs93, S96, i97, els94, k100, k101, k102, k103, k104, k105, k106, k107⟩
        refine FW.seq (FW.region ?_)
        refine FL.v (E.move k100) ?_
        refine FL.v (E.nilCheck rfl) ?_
        refine FL.v (E.fieldAddr tf87_2 rfl) ?_
        refine FL.v (E.load rfl (run_load1 Try.isAgg54 (S96.box_now (i := 1) rfl) rfl)) ?_
        refine FL.v (E.move k103) ?_
        obtain ⟨x114, hx115, hp⟩ := bnd hp
        obtain ⟨p108, cs109, pt110, l111, at112, rel113⟩ := S96.row_at (i := 3) rfl p0_3 (by decide) hx115
        obtain ⟨v116, rfl, h117⟩ := eL_open rel113
        refine FL.v (E.indexAddr te54 rfl rfl pt110) ?_
        refine FL.v (E.load rfl (run_load0 Try.isAgg48 at112 rfl)) ?_
        refine FL.v (E.lenP te48 rfl h117) ?_
        refine FL.v (E.move (v := Value.int .i64 0) rfl) ?_
        refine FL.nil ?_
        obtain ⟨q119, hq, hp⟩ := bndR hp
        refine FW.block ?_
        refine FW.mono (FW.forL (S := (List Int)) (X := Empty) (fun (i119 : Nat) (s119 : (List Int)) f w => ∃ H : GH, ∃ v120 : Value, ∃ n121 : Nat, ∃ cs122 : List Value, St H0 w0 H w (.row 3 1 v120 n121 cs122 :: .box b0 87 [Value.int .i64 a0.ring.p, Value.int .i64 a0.ring.vars, v0_2, v0_3, Value.int .i64 a0.many] :: .row 48 1 v0_2 n0_2 k0_2 :: .row 48 1 v0_3 n0_3 k0_3 :: .row 3 1 v91 n92 cs93 :: L) ∧ Inc H95 H ∧ Els (up w0.heap.size H) eI 1 cs122 s119 ∧ f 56 = Value.int .i64 ((i119 : Nat) : Int) ∧ f 0 = Value.pointer (some (⟨b0, 0, none⟩ : Addr)) ∧ f 1 = v91 ∧ f 6 = v120 ∧ f 9 = Value.int .i64 x74 ∧ f 20 = v0_2 ∧ f 21 = Value.int .i64 (len a0.rows) ∧ f 22 = Value.int .i64 ((i32 : Nat) : Int) ∧ f 54 = v116 ∧ f 55 = Value.int .i64 (len x114)) (fun (q : Rs (List Int) Empty) e f w => match q with | .go s119 => e = Exit.exit 2 ∧ (∃ H : GH, ∃ v120 : Value, ∃ n121 : Nat, ∃ cs122 : List Value, St H0 w0 H w (.row 3 1 v120 n121 cs122 :: .box b0 87 [Value.int .i64 a0.ring.p, Value.int .i64 a0.ring.vars, v0_2, v0_3, Value.int .i64 a0.many] :: .row 48 1 v0_2 n0_2 k0_2 :: .row 48 1 v0_3 n0_3 k0_3 :: .row 3 1 v91 n92 cs93 :: L) ∧ Inc H95 H ∧ Els (up w0.heap.size H) eI 1 cs122 s119 ∧ f 0 = Value.pointer (some (⟨b0, 0, none⟩ : Addr)) ∧ f 1 = v91 ∧ f 6 = v120 ∧ f 20 = v0_2 ∧ f 21 = Value.int .i64 (len a0.rows) ∧ f 22 = Value.int .i64 ((i32 : Nat) : Int)) | .rt x => x.elim) hq ⟨_, _, _, _, S96, (Inc.rfl _), (els36.mono (up_mono i97)), rfl, k100, k101, k102, k104, k105, k106, k107, rfl, rfl⟩ ?_ ?_) ?_
        ·
          clear hp hq
          rintro i119 y118 s119 f128 w127 ⟨H124, v120, n121, cs122, S125, i126, els123, k129, k130, k131, k132, k133, k134, k135, k136, k137, k138⟩ hx119 o195 hp
          refine FW.seq (FW.region ?_)
          refine FL.v (E.lssT k129 k138 (lss_len hx119)) ?_
          refine FL.nil (FW.seq ?_)
          refine FW.condT rfl rfl ?_
          refine FW.skip (FW.seq (FW.block (FW.seq (FW.region ?_))))
          refine FL.v (E.move k129) ?_
          obtain ⟨p139, cs140, pt141, l142, at143, rel144⟩ := h117.at (ix_nat hx119)
          obtain rfl := eI_open rel144
          refine FL.v (E.indexAddr te48 k137 k129 pt141) ?_
          refine FL.v (E.load rfl (run_load0 Try.isAgg3 ((at143.mono (upI.tr ((i41.tr i97).tr i126))).now S125.sl) rfl)) ?_
          refine FL.v (E.assign (v := Value.int .i64 ((i119 : Nat) : Int)) rfl) ?_
          refine FL.v (E.assign (v := Value.int .i64 y118) rfl) ?_
          refine FL.nil ?_
          obtain ⟨x154, hx155, hp⟩ := bnd hp
          obtain ⟨u158, z157, hp⟩ := bnd hp
          obtain ⟨x165, hx166, hp⟩ := bnd hp
          obtain ⟨xs171, hput172, hp⟩ := bnd hp
          refine FW.drawB (SX H0 w0 H124 (.box b0 87 [Value.int .i64 a0.ring.p, Value.int .i64 a0.ring.vars, v0_2, v0_3, Value.int .i64 a0.many] :: L)) (fun f w => ∃ H : GH, ∃ v176 : Value, ∃ n177 : Nat, ∃ cs178 : List Value, St H0 w0 H w (.row 3 1 v176 n177 cs178 :: .box b0 87 [Value.int .i64 a0.ring.p, Value.int .i64 a0.ring.vars, v0_2, v0_3, Value.int .i64 a0.many] :: .row 48 1 v0_2 n0_2 k0_2 :: .row 48 1 v0_3 n0_3 k0_3 :: .row 3 1 v91 n92 cs93 :: L) ∧ Inc H124 H ∧ Els (up w0.heap.size H) eI 1 cs178 xs171 ∧ f 0 = Value.pointer (some (⟨b0, 0, none⟩ : Addr)) ∧ f 1 = v91 ∧ f 6 = v176 ∧ f 9 = Value.int .i64 x74 ∧ f 20 = v0_2 ∧ f 21 = Value.int .i64 (len a0.rows) ∧ f 22 = Value.int .i64 ((i32 : Nat) : Int) ∧ f 54 = v116 ∧ f 55 = Value.int .i64 (len x114) ∧ f 56 = Value.int .i64 ((i119 : Nat) : Int)) (by kernel_rfl) S125.sl ?_ ?_
          ·
            intro w145 r146
            have S147 := S125.call r146
            refine FB.t (i := 0) (bs 18 1) rfl (SP.nil ⟨_, (S147.selT (a := [.row 3 1 v120 n121 cs122, .box b0 87 [Value.int .i64 a0.ring.p, Value.int .i64 a0.ring.vars, v0_2, v0_3, Value.int .i64 a0.many], .row 48 1 v0_2 n0_2 k0_2, .row 48 1 v0_3 n0_3 k0_3, .row 3 1 v91 n92 cs93]) (l' := [.box b0 87 [Value.int .i64 a0.ring.p, Value.int .i64 a0.ring.vars, v0_2, v0_3, Value.int .i64 a0.many]]) [1] (by decide) rfl), (Inc.rfl _)⟩) rfl (fun w' hw' => (E.move k132)) ?_
            refine FB.t (i := 1) (bs 18 3) rfl (SP.nil ⟨_, (S147.selT (a := [.row 3 1 v120 n121 cs122, .box b0 87 [Value.int .i64 a0.ring.p, Value.int .i64 a0.ring.vars, v0_2, v0_3, Value.int .i64 a0.many], .row 48 1 v0_2 n0_2 k0_2, .row 48 1 v0_3 n0_3 k0_3, .row 3 1 v91 n92 cs93]) (l' := [.box b0 87 [Value.int .i64 a0.ring.p, Value.int .i64 a0.ring.vars, v0_2, v0_3, Value.int .i64 a0.many]]) [1] (by decide) rfl), (Inc.rfl _)⟩) rfl (fun w' hw' => (E.move (v := Value.int .i64 ((i119 : Nat) : Int)) rfl)) ?_
            refine FB.t (i := 2) (bs 18 7) rfl (SP.nil ⟨_, (S147.selT (a := [.row 3 1 v120 n121 cs122, .box b0 87 [Value.int .i64 a0.ring.p, Value.int .i64 a0.ring.vars, v0_2, v0_3, Value.int .i64 a0.many], .row 48 1 v0_2 n0_2 k0_2, .row 48 1 v0_3 n0_3 k0_3, .row 3 1 v91 n92 cs93]) (l' := [.box b0 87 [Value.int .i64 a0.ring.p, Value.int .i64 a0.ring.vars, v0_2, v0_3, Value.int .i64 a0.many]]) [1] (by decide) rfl), (Inc.rfl _)⟩) rfl (fun w' hw' => (E.move k132)) ?_
            refine FB.t (i := 3) (bs 18 15) rfl (SP.nil ⟨_, (S147.selT (a := [.row 3 1 v120 n121 cs122, .box b0 87 [Value.int .i64 a0.ring.p, Value.int .i64 a0.ring.vars, v0_2, v0_3, Value.int .i64 a0.many], .row 48 1 v0_2 n0_2 k0_2, .row 48 1 v0_3 n0_3 k0_3, .row 3 1 v91 n92 cs93]) (l' := [.box b0 87 [Value.int .i64 a0.ring.p, Value.int .i64 a0.ring.vars, v0_2, v0_3, Value.int .i64 a0.many]]) [1] (by decide) rfl), (Inc.rfl _)⟩) rfl (fun w' hw' => (E.move (v := Value.int .i64 ((i119 : Nat) : Int)) rfl)) ?_
            obtain ⟨p148, cs149, pt150, l151, at152, rel153, hall156⟩ := S147.row_atA (i := 0) rfl els123 (by decide) hx155
            obtain rfl := eI_open rel153
            refine FB.t (i := 4) (bs 18 31) rfl (SP.nil ⟨_, (S147.selT (a := [.row 3 1 v120 n121 cs122, .box b0 87 [Value.int .i64 a0.ring.p, Value.int .i64 a0.ring.vars, v0_2, v0_3, Value.int .i64 a0.many], .row 48 1 v0_2 n0_2 k0_2, .row 48 1 v0_3 n0_3 k0_3, .row 3 1 v91 n92 cs93]) (l' := [.box b0 87 [Value.int .i64 a0.ring.p, Value.int .i64 a0.ring.vars, v0_2, v0_3, Value.int .i64 a0.many]]) [1] (by decide) rfl), (Inc.rfl _)⟩) rfl (fun w' hw' => (E.indexAddr te48 rfl rfl pt150)) ?_
            refine FB.phase [17] (fun w' => WAt w' p148 [Value.int .i64 x154]) ?_
            refine FB.p (i := 5) (bs 18 63) 0 [9, 15, 16, 17] rfl (SP.on (hall156 _ _ _ 0 S147 rfl) (SP.nil ⟨_, (S147.selT (a := [.row 3 1 v120 n121 cs122, .box b0 87 [Value.int .i64 a0.ring.p, Value.int .i64 a0.ring.vars, v0_2, v0_3, Value.int .i64 a0.many], .row 48 1 v0_2 n0_2 k0_2, .row 48 1 v0_3 n0_3 k0_3, .row 3 1 v91 n92 cs93]) (l' := [.box b0 87 [Value.int .i64 a0.ring.p, Value.int .i64 a0.ring.vars, v0_2, v0_3, Value.int .i64 a0.many]]) [1] (by decide) rfl), (Inc.rfl _)⟩)) rfl rfl (fun w' hw' => (E.load rfl (run_load0 Try.isAgg3 hw' rfl))) ?_
            refine FB.t (i := 6) (bs 18 127) rfl (SP.on (hall156 _ _ _ 0 S147 rfl) (SP.nil ⟨_, (S147.selT (a := [.row 3 1 v120 n121 cs122, .box b0 87 [Value.int .i64 a0.ring.p, Value.int .i64 a0.ring.vars, v0_2, v0_3, Value.int .i64 a0.many], .row 48 1 v0_2 n0_2 k0_2, .row 48 1 v0_3 n0_3 k0_3, .row 3 1 v91 n92 cs93]) (l' := [.box b0 87 [Value.int .i64 a0.ring.p, Value.int .i64 a0.ring.vars, v0_2, v0_3, Value.int .i64 a0.many]]) [1] (by decide) rfl), (Inc.rfl _)⟩)) rfl (fun w' hw' => (E.move k133)) ?_
            refine FB.t (i := 7) (bs 18 255) rfl (SP.on (hall156 _ _ _ 0 S147 rfl) (SP.nil ⟨_, (S147.selT (a := [.row 3 1 v120 n121 cs122, .box b0 87 [Value.int .i64 a0.ring.p, Value.int .i64 a0.ring.vars, v0_2, v0_3, Value.int .i64 a0.many], .row 48 1 v0_2 n0_2 k0_2, .row 48 1 v0_3 n0_3 k0_3, .row 3 1 v91 n92 cs93]) (l' := [.box b0 87 [Value.int .i64 a0.ring.p, Value.int .i64 a0.ring.vars, v0_2, v0_3, Value.int .i64 a0.many]]) [1] (by decide) rfl), (Inc.rfl _)⟩)) rfl (fun w' hw' => (E.move (v := Value.int .i64 y118) rfl)) ?_
            refine FB.t (i := 8) (bs 18 511) rfl (SP.on (hall156 _ _ _ 0 S147 rfl) (SP.nil ⟨_, (S147.selT (a := [.row 3 1 v120 n121 cs122, .box b0 87 [Value.int .i64 a0.ring.p, Value.int .i64 a0.ring.vars, v0_2, v0_3, Value.int .i64 a0.many], .row 48 1 v0_2 n0_2 k0_2, .row 48 1 v0_3 n0_3 k0_3, .row 3 1 v91 n92 cs93]) (l' := [.box b0 87 [Value.int .i64 a0.ring.p, Value.int .i64 a0.ring.vars, v0_2, v0_3, Value.int .i64 a0.many]]) [1] (by decide) rfl), (Inc.rfl _)⟩)) rfl (fun w' hw' => (E.mul rfl rfl)) ?_
            refine FB.t (i := 9) (bs 18 1023) rfl (SP.on (hall156 _ _ _ 0 S147 rfl) (SP.nil ⟨_, (S147.selT (a := [.row 3 1 v120 n121 cs122, .box b0 87 [Value.int .i64 a0.ring.p, Value.int .i64 a0.ring.vars, v0_2, v0_3, Value.int .i64 a0.many], .row 48 1 v0_2 n0_2 k0_2, .row 48 1 v0_3 n0_3 k0_3, .row 3 1 v91 n92 cs93]) (l' := [.box b0 87 [Value.int .i64 a0.ring.p, Value.int .i64 a0.ring.vars, v0_2, v0_3, Value.int .i64 a0.many]]) [1] (by decide) rfl), (Inc.rfl _)⟩)) rfl (fun w' hw' => (E.add rfl rfl)) ?_
            refine FB.t (i := 10) (bs 18 2047) rfl (SP.on (hall156 _ _ _ 0 S147 rfl) (SP.nil ⟨_, (S147.selT (a := [.row 3 1 v120 n121 cs122, .box b0 87 [Value.int .i64 a0.ring.p, Value.int .i64 a0.ring.vars, v0_2, v0_3, Value.int .i64 a0.many], .row 48 1 v0_2 n0_2 k0_2, .row 48 1 v0_3 n0_3 k0_3, .row 3 1 v91 n92 cs93]) (l' := [.box b0 87 [Value.int .i64 a0.ring.p, Value.int .i64 a0.ring.vars, v0_2, v0_3, Value.int .i64 a0.many]]) [1] (by decide) rfl), (Inc.rfl _)⟩)) rfl (fun w' hw' => (E.move k130)) ?_
            refine FB.t (i := 11) (bs 18 4095) rfl (SP.on (hall156 _ _ _ 0 S147 rfl) (SP.nil ⟨_, (S147.selT (a := [.row 3 1 v120 n121 cs122, .box b0 87 [Value.int .i64 a0.ring.p, Value.int .i64 a0.ring.vars, v0_2, v0_3, Value.int .i64 a0.many], .row 48 1 v0_2 n0_2 k0_2, .row 48 1 v0_3 n0_3 k0_3, .row 3 1 v91 n92 cs93]) (l' := [.box b0 87 [Value.int .i64 a0.ring.p, Value.int .i64 a0.ring.vars, v0_2, v0_3, Value.int .i64 a0.many]]) [1] (by decide) rfl), (Inc.rfl _)⟩)) rfl (fun w' hw' => (E.nilCheck rfl)) ?_
            refine FB.t (i := 12) (bs 18 8191) rfl (SP.on (hall156 _ _ _ 0 S147 rfl) (SP.nil ⟨_, (S147.selT (a := [.row 3 1 v120 n121 cs122, .box b0 87 [Value.int .i64 a0.ring.p, Value.int .i64 a0.ring.vars, v0_2, v0_3, Value.int .i64 a0.many], .row 48 1 v0_2 n0_2 k0_2, .row 48 1 v0_3 n0_3 k0_3, .row 3 1 v91 n92 cs93]) (l' := [.box b0 87 [Value.int .i64 a0.ring.p, Value.int .i64 a0.ring.vars, v0_2, v0_3, Value.int .i64 a0.many]]) [1] (by decide) rfl), (Inc.rfl _)⟩)) rfl (fun w' hw' => (E.fieldAddr tf87_0 rfl)) ?_
            refine FB.t (i := 13) (bs 18 16383) rfl (SP.on (hall156 _ _ _ 0 S147 rfl) (SP.nil ⟨_, (S147.selT (a := [.row 3 1 v120 n121 cs122, .box b0 87 [Value.int .i64 a0.ring.p, Value.int .i64 a0.ring.vars, v0_2, v0_3, Value.int .i64 a0.many], .row 48 1 v0_2 n0_2 k0_2, .row 48 1 v0_3 n0_3 k0_3, .row 3 1 v91 n92 cs93]) (l' := [.box b0 87 [Value.int .i64 a0.ring.p, Value.int .i64 a0.ring.vars, v0_2, v0_3, Value.int .i64 a0.many]]) [1] (by decide) rfl), (Inc.rfl _)⟩)) rfl (fun w' hw' => (E.fieldAddrN tf53_0 rfl rfl)) ?_
            refine FB.t (i := 14) (bs 18 32767) rfl (SP.on (hall156 _ _ _ 0 S147 rfl) (SP.nil ⟨_, (S147.selT (a := [.row 3 1 v120 n121 cs122, .box b0 87 [Value.int .i64 a0.ring.p, Value.int .i64 a0.ring.vars, v0_2, v0_3, Value.int .i64 a0.many], .row 48 1 v0_2 n0_2 k0_2, .row 48 1 v0_3 n0_3 k0_3, .row 3 1 v91 n92 cs93]) (l' := [.box b0 87 [Value.int .i64 a0.ring.p, Value.int .i64 a0.ring.vars, v0_2, v0_3, Value.int .i64 a0.many]]) [1] (by decide) rfl), (Inc.rfl _)⟩)) rfl (fun w' hw' => (E.load rfl (run_load1 Try.isAgg3 (SX.box_now hw' (i := 0) rfl) rfl))) ?_
            refine FB.t (i := 15) (bs 18 65535) rfl (SP.on (hall156 _ _ _ 0 S147 rfl) (SP.nil ⟨_, (S147.selT (a := [.row 3 1 v120 n121 cs122, .box b0 87 [Value.int .i64 a0.ring.p, Value.int .i64 a0.ring.vars, v0_2, v0_3, Value.int .i64 a0.many], .row 48 1 v0_2 n0_2 k0_2, .row 48 1 v0_3 n0_3 k0_3, .row 3 1 v91 n92 cs93]) (l' := [.box b0 87 [Value.int .i64 a0.ring.p, Value.int .i64 a0.ring.vars, v0_2, v0_3, Value.int .i64 a0.many]]) [1] (by decide) rfl), (Inc.rfl _)⟩)) rfl (fun w' hw' => (E.rem rfl rfl (nz_ne z157))) ?_
            obtain ⟨p159, cs160, pt161, l162, at163, rel164, hall167⟩ := S147.row_atA (i := 0) rfl els123 (by decide) hx166
            obtain rfl := eI_open rel164
            refine FB.t (i := 16) (bs 18 131071) rfl (SP.on (hall156 _ _ _ 0 S147 rfl) (SP.nil ⟨_, (S147.selT (a := [.row 3 1 v120 n121 cs122, .box b0 87 [Value.int .i64 a0.ring.p, Value.int .i64 a0.ring.vars, v0_2, v0_3, Value.int .i64 a0.many], .row 48 1 v0_2 n0_2 k0_2, .row 48 1 v0_3 n0_3 k0_3, .row 3 1 v91 n92 cs93]) (l' := [.box b0 87 [Value.int .i64 a0.ring.p, Value.int .i64 a0.ring.vars, v0_2, v0_3, Value.int .i64 a0.many]]) [1] (by decide) rfl), (Inc.rfl _)⟩)) rfl (fun w' hw' => (E.indexAddr te48 rfl rfl pt161)) ?_
            refine FB.all1 (i := 17) (by kernel_rfl) ?_
            ·
              obtain ⟨w168, cs174, run169, S170, els173, ce175⟩ := S147.putEls (P := Try.prog) (t := 3) (i := 0) rfl els123 hput172 pt161 Try.sizeOf3 (u := Value.int .i64 ((wr (x154 + (wr (x74 * y118)))).tmod a0.ring.p)) (c := [Value.int .i64 ((wr (x154 + (wr (x74 * y118)))).tmod a0.ring.p)]) rfl rfl (ones_cons rfl ones_nil) rfl
              have S170 : St H0 w0 H124 w168 (.row 3 1 v120 n121 cs174 :: .box b0 87 [Value.int .i64 a0.ring.p, Value.int .i64 a0.ring.vars, v0_2, v0_3, Value.int .i64 a0.many] :: .row 48 1 v0_2 n0_2 k0_2 :: .row 48 1 v0_3 n0_3 k0_3 :: .row 3 1 v91 n92 cs93 :: L) := S170
              refine FC.act (l' := (bs 18 262143)) rfl (by kernel_rfl) rfl rfl (E.store rfl rfl run169) ?_
              refine ⟨(SP.o (SP.nil ⟨_, (S170.selT (a := [.row 3 1 v120 n121 cs174, .box b0 87 [Value.int .i64 a0.ring.p, Value.int .i64 a0.ring.vars, v0_2, v0_3, Value.int .i64 a0.many], .row 48 1 v0_2 n0_2 k0_2, .row 48 1 v0_3 n0_3 k0_3, .row 3 1 v91 n92 cs93]) (l' := [.box b0 87 [Value.int .i64 a0.ring.p, Value.int .i64 a0.ring.vars, v0_2, v0_3, Value.int .i64 a0.many]]) [1] (by decide) rfl), (Inc.rfl _)⟩)), ?_⟩
              exact FB.done (by kernel_rfl) ⟨_, _, _, _, S170, (Inc.rfl _), els173, k130, k131, k132, k133, k134, k135, k136, k137, k138, k129⟩
          ·
            rintro f184 w183 ⟨H180, v176, n177, cs178, S181, i182, els179, k185, k186, k187, k188, k189, k190, k191, k192, k193, k194⟩
            refine FW.region ?_
            refine FL.v (E.add k194 rfl) ?_
            refine FL.v (E.move (v := Value.int .i64 (wr (((i119 : Nat) : Int) + 1))) rfl) ?_
            refine FL.nil ?_
            obtain rfl := Option.some.inj hp
            exact ⟨rfl, ⟨_, _, _, _, S181, (i126.tr i182), els179, (nat_succ rfl (lt_of_get hx119) (h117.mono (upI.tr (((i41.tr i97).tr i126).tr i182))).le), k185, k186, k187, k188, k189, k190, k191, k192, k193⟩⟩
        ·
          clear hp hq
          rintro s119 f216 w215 ⟨H212, v120, n121, cs122, S213, i214, els123, k217, k218, k219, k220, k221, k222, k223, k224, k225, k226⟩
          refine FW.seq (FW.region ?_)
          refine FL.v (E.lss k217 k226) ?_
          refine FL.nil (FW.seq ?_)
          refine FW.condF rfl dlt_len ?_
          refine FW.exit ?_
          exact ⟨nofun, rfl, ⟨_, _, _, _, S213, i214, els123, k218, k219, k220, k222, k223, k224⟩⟩
        ·
          clear hq
          intro e f200 w199 hD
          rcases q119 with s119 | x119
          ·
            obtain ⟨rfl, hD⟩ := hD
            obtain ⟨H196, v120, n121, cs122, S197, i198, els123, k201, k202, k203, k204, k205, k206⟩ := hD
            replace hp := el_go hp
            refine FW.region ?_
            refine FL.v (E.add k206 rfl) ?_
            refine FL.v (E.move (v := Value.int .i64 (wr (((i32 : Nat) : Int) + 1))) rfl) ?_
            refine FL.nil ?_
            obtain ⟨H207, S208, i209, h210, nv211⟩ := S197.sealRowU (i := 4) (l' := (.row 3 1 v120 n121 cs122 :: .box b0 87 [Value.int .i64 a0.ring.p, Value.int .i64 a0.ring.vars, v0_2, v0_3, Value.int .i64 a0.many] :: .row 48 1 v0_2 n0_2 k0_2 :: .row 48 1 v0_3 n0_3 k0_3 :: L)) rfl (els94.mono (up_mono i198)) (by decide) rfl
            obtain rfl := Option.some.inj hp
            exact ⟨rfl, ⟨_, _, _, _, _, S208, (((i41.tr i97).tr i198).tr i209), (els123.mono (up_mono i209)), (h210.mono upI), (nat_succ rfl hj32 (chk_le hchk32)), k201, k202, k203, k204, k205⟩⟩
          · exact x119.elim
    ·
      refine FW.condF rfl c76 ?_
      refine FW.skip (FW.region ?_)
      refine FL.v (E.add k44 rfl) ?_
      refine FL.v (E.move (v := Value.int .i64 (wr (((i32 : Nat) : Int) + 1))) rfl) ?_
      refine FL.nil ?_
      obtain rfl := Option.some.inj hp
      exact ⟨rfl, ⟨_, _, _, _, _, S67, i41, els36, h38, (nat_succ rfl hj32 (chk_le hchk32)), k45, k46, k47, k49, k50⟩⟩
  ·
    clear hp hq
    rintro s32 f239 w238 ⟨H235, v33, n34, cs35, v37, S236, i237, els36, h38, k240, k241, k242, k243, k244, k245⟩
    refine FW.seq (FW.region ?_)
    refine FL.v (E.lss k240 k245) ?_
    refine FL.nil (FW.seq ?_)
    refine FW.condF rfl (dlt_maxchk hchk32) ?_
    refine FW.exit ?_
    exact ⟨nofun, rfl, ⟨_, _, _, _, _, S236, i237, els36, h38, k242, k243⟩⟩
  ·
    clear hq
    intro e f232 w231 hD
    rcases q32 with s32 | x32
    ·
      obtain ⟨rfl, hD⟩ := hD
      obtain ⟨H228, v33, n34, cs35, v37, S229, i230, els36, h38, k233, k234⟩ := hD
      replace hp := el_go hp
      refine FW.seq (FW.region ?_)
      refine FL.v (E.move k233) ?_
      refine FL.v (E.move k234) ?_
      refine FL.v (E.assign (v := v37) rfl) ?_
      refine FL.v (E.assign (v := v33) rfl) ?_
      refine FL.nil ?_
      refine FW.ret ?_
      obtain rfl := Option.some.inj hp
      exact ⟨.inr rfl, res2 rfl rfl rfl ⟨_, _, _, _, _, rfl, ⟨S229, i230⟩, h38, els36⟩⟩
    · exact x32.elim

theorem w_impl_ring_inverse {Ha : GH} {wa : World} (hs : Sl Ha wa) (a0 : ring) (a1 : Int) {r : Int} (hp : (PF.impl_ring_inverse a0 a1) = some r) :
  Calls Try.prog 63 #[Value.agg #[Value.int .i64 a0.p, Value.int .i64 a0.vars], Value.int .i64 a1] wa (Sc Ha wa (Value.int .i64 r)) := by
 unfold PF.impl_ring_inverse at hp
 have S0 := St.init hs
 refine calls_go (N := 16) (args := [Value.agg #[Value.int .i64 a0.p, Value.int .i64 a0.vars], Value.int .i64 a1]) Try.func63 rfl rfl rfl ?_
 refine FW.seq (FW.region ?_)
 obtain ⟨b21, w22, run23, S24⟩ := S0.box (P := Try.prog) 53 [Value.int .i64 a0.p, Value.int .i64 a0.vars] (v := Value.agg #[Value.int .i64 a0.p, Value.int .i64 a0.vars]) rfl (ones_cons rfl (ones_cons rfl ones_nil))
 refine FL.v (E.box rfl run23) ?_
 obtain ⟨H25, S26, i27, at28⟩ := S24.sealBox (i := 0) (l' := []) rfl rfl
 refine FL.v (E.assign (v := Value.int .i64 0) rfl) ?_
 refine FL.nil (FW.seq (FW.region ?_))
 refine FL.v (E.assign (v := Value.int .i64 1) rfl) ?_
 refine FL.nil ?_
 obtain ⟨q29, hq, hp⟩ := bndR hp
 refine FW.block ?_
 refine FW.mono (FW.iter (S := Int) (X := Int) (fun (s29 : Int) f w => ∃ H : GH, St Ha wa H w [] ∧ Inc H25 H ∧ f 1 = Value.int .i64 a1 ∧ f 2 = Value.pointer (some ⟨b21, 0, none⟩) ∧ f 5 = Value.int .i64 s29) (fun q e f w => match q with | .go s29 => e = Exit.exit 0 ∧ (∃ H : GH, St Ha wa H w [] ∧ Inc H25 H ∧ f 4 = Value.int .i64 0) | .rt x => ((e = Exit.ret) ∧ (fun e f w => (e = Exit.normal ∨ e = Exit.ret) ∧ ∀ a, Fr (δ := []) 16 a f → ∃ v, (results Try.f63 a.tmps).run Try.prog w = .ok v w ∧ (Sc Ha wa (Value.int .i64 x)) (.returned v) w) e f w)) hq ⟨_, S26, (Inc.rfl _), rfl, rfl, rfl⟩ ?_) ?_
 ·
  clear hp hq
  rintro s29 f45 w44 ⟨H41, S42, i43, k46, k47, k48⟩ o52 hp
  refine FW.seq (FW.block (FW.seq (FW.region ?_)))
  refine FL.v (E.move k46) ?_
  refine FL.v (E.move k48) ?_
  refine FL.v (E.mul rfl rfl) ?_
  refine FL.v (E.fieldAddr tf53_0 k47) ?_
  refine FL.v (E.load rfl (run_load1 Try.isAgg3 ((at28.mono i43).now S42.sl) rfl)) ?_
  obtain ⟨u50, z49, hp⟩ := bnd hp
  refine FL.v (E.rem rfl rfl (nz_ne z49)) ?_
  refine FL.v (E.eql rfl rfl) ?_
  refine FL.nil ?_
  rcases ifB hp with ⟨c51, hp⟩ | ⟨c51, hp⟩
  ·
   refine FW.condT rfl c51 ?_
   refine FW.seq (FW.region ?_)
   refine FL.v (E.move k48) ?_
   refine FL.v (E.assign (v := Value.int .i64 s29) rfl) ?_
   refine FL.nil ?_
   refine FW.ret ?_
   obtain rfl := Option.some.inj hp
   exact ⟨nofun, rfl, ⟨.inr rfl, res1 rfl rfl ⟨rfl, S42.back⟩⟩⟩
  ·
   refine FW.condF rfl c51 ?_
   refine FW.skip (FW.region ?_)
   refine FL.v (E.move k48) ?_
   refine FL.v (E.add rfl rfl) ?_
   refine FL.v (E.assign (v := Value.int .i64 (wr (s29 + 1))) rfl) ?_
   refine FL.nil ?_
   obtain rfl := Option.some.inj hp
   exact ⟨rfl, ⟨_, S42, i43, k46, k47, rfl⟩⟩
 ·
  clear hq
  intro e f57 w56 hD
  rcases q29 with s29 | x29
  ·
   obtain ⟨rfl, hD⟩ := hD
   obtain ⟨H53, S54, i55, k58⟩ := hD
   replace hp := el_go hp
   obtain rfl := Option.some.inj hp
   exact ⟨.inl rfl, res1 rfl k58 ⟨rfl, S54.back⟩⟩
  ·
   obtain ⟨he, hL⟩ := hD
   replace hp := el_rt hp
   obtain rfl := Option.some.inj hp
   subst he
   exact hL

end Go.Proofs
