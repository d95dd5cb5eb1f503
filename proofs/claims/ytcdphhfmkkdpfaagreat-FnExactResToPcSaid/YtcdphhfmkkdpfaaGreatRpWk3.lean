/- Part of the walks and plain laws behind the claim: it proves helpers, under no condition beyond their own. -/
import Derived.Test.YtcdphhfmkkdpfaaGreatRpWk2
set_option linter.unusedVariables false
set_option maxRecDepth 100000
namespace Go.Proofs
open Go.Mr Go.Pu Go.PF Go.RowKit

@[reducible] def p_impl_algebraOf (Ha : GH) (wa : World) (r : ((Option algebra) × Bool)) : Ending → World → Prop :=
  fun e w' => ∃ H' : GH, ∃ v0 : Value, e = .returned (Value.tuple #[v0, Value.bool r.2]) ∧ Run wa.heap.size Ha wa H' w' ∧ OP (fun (q : Addr) (x : algebra) => ∃ v0R_3 : Value, ∃ v0R_4 : Value, RSl H' (eL eI 1) 1 v0R_3 x.f.clauses ∧ (∃ c, Nest (up wa.heap.size H') (eL eI 1) 1 v0R_4 x.q c) ∧ CAt H' q [Value.int .i64 x.ring.p, Value.int .i64 x.ring.vars, Value.int .i64 x.f.vars, v0R_3, v0R_4]) v0 r.1
theorem w_impl_algebraOf {Ha : GH} {wa : World} (hs : Sl Ha wa) (a0 : Int) (a1 : Cnf) (v1_1 : Value) (p1_1 : RSl Ha (eL eI 1) 1 v1_1 a1.clauses) {r : ((Option algebra) × Bool)} (hp : (PF.impl_algebraOf a0 a1) = some r) :
    Calls Tryz.prog 107 #[Value.int .i64 a0, Value.agg #[Value.int .i64 a1.vars, v1_1]] wa (p_impl_algebraOf Ha wa r) := by
  unfold PF.impl_algebraOf at hp
  have S0 := St.init hs
  refine calls_go (N := 50) (args := [Value.int .i64 a0, Value.agg #[Value.int .i64 a1.vars, v1_1]]) Tryz.func107 rfl rfl rfl ?_
  refine FW.seq (FW.region ?_)
  obtain ⟨b21, w22, run23, S24⟩ := S0.box (P := Tryz.prog) 31 [Value.int .i64 a1.vars, v1_1] (v := Value.agg #[Value.int .i64 a1.vars, v1_1]) rfl (ones_cons rfl (ones_cons p1_1.one ones_nil))
  refine FL.v (E.box rfl run23) ?_
  obtain ⟨H25, S26, i27, at28⟩ := S24.sealBox (i := 0) (l' := []) rfl rfl
  refine FL.v (E.assign (v := Value.pointer none) rfl) ?_
  refine FL.v (E.assign (v := Value.bool false) rfl) ?_
  refine FL.nil (FW.seq (FW.region ?_))
  refine FL.v (E.move (v := Value.int .i64 a0) rfl) ?_
  refine FL.v (E.fieldAddr tf31_0 rfl) ?_
  refine FL.v (E.load rfl (run_load1 Tryz.isAgg3 (at28.now S26.sl) rfl)) ?_
  refine FL.call rfl rfl rfl (E.call Tryz.call173 (A2 rfl rfl)) (w_impl_ringOf S26.sl a0 a1.vars) ?_
  rintro e w29 ⟨rfl, r30⟩
  refine ⟨_, rfl, ?_⟩
  have S31 := S26.call r30
  refine FL.v (E.move (v := Value.tuple #[Value.agg #[Value.int .i64 (((PF.impl_ringOf a0 a1.vars).1).p), Value.int .i64 (((PF.impl_ringOf a0 a1.vars).1).vars)], Value.bool ((PF.impl_ringOf a0 a1.vars).2)]) rfl) ?_
  refine FL.v (E.extract (i := 0) rfl rfl) ?_
  refine FL.v (E.extract (i := 1) rfl rfl) ?_
  obtain ⟨b32, w33, run34, S35⟩ := S31.alloc (P := Tryz.prog) 142 [Value.int .i64 0, Value.int .i64 0] Tryz.zeroValue142 rfl (ones_cons rfl (ones_cons rfl ones_nil))
  refine FL.v (E.alloc run34) ?_
  obtain ⟨w36, run37, S38⟩ := S35.store0 (P := Tryz.prog) (t := 142) (i := 0) (cs' := [Value.int .i64 (((PF.impl_ringOf a0 a1.vars).1).p), Value.int .i64 (((PF.impl_ringOf a0 a1.vars).1).vars)]) (l' := [.box b32 142 [Value.int .i64 (((PF.impl_ringOf a0 a1.vars).1).p), Value.int .i64 (((PF.impl_ringOf a0 a1.vars).1).vars)]]) (v := Value.agg #[Value.int .i64 (((PF.impl_ringOf a0 a1.vars).1).p), Value.int .i64 (((PF.impl_ringOf a0 a1.vars).1).vars)]) (c := [Value.int .i64 (((PF.impl_ringOf a0 a1.vars).1).p), Value.int .i64 (((PF.impl_ringOf a0 a1.vars).1).vars)]) rfl Tryz.sizeOf142 rfl rfl (ones_cons rfl (ones_cons rfl ones_nil)) (Nat.le_of_ble_eq_true rfl) rfl rfl
  refine FL.act rfl rfl (E.store rfl rfl run37) ?_
  obtain ⟨H39, S40, i41, at42⟩ := S38.sealBox (i := 0) (l' := []) rfl rfl
  refine FL.v (E.assign (v := Value.bool ((PF.impl_ringOf a0 a1.vars).2)) rfl) ?_
  refine FL.nil (FW.seq (FW.seq (FW.region ?_)))
  refine FL.v (E.move (v := Value.bool ((PF.impl_ringOf a0 a1.vars).2)) rfl) ?_
  refine FL.v (E.not rfl) ?_
  refine FL.v (E.move (v := Value.bool (!((PF.impl_ringOf a0 a1.vars).2))) rfl) ?_
  obtain ⟨t48, hqt48, hp⟩ := bnd hp
  refine FL.cut 4 (fun f w => ∃ H : GH, St Ha wa H w [] ∧ Inc H39 H ∧ f 3 = Value.pointer (some ⟨b21, 0, none⟩) ∧ f 6 = Value.pointer (some ⟨b32, 0, none⟩) ∧ f 24 = Value.bool t48) ?_ ?_
  ·
    clear hp; have hp := hqt48; clear hqt48
    rcases ifB hp with ⟨c54, hp⟩ | ⟨c54, hp⟩
    ·
      refine FL.skip (wF_no rfl rfl rfl c54) rfl ?_
      refine FL.skip (wF_no rfl rfl rfl c54) rfl ?_
      refine FL.skip (wF_no rfl rfl rfl c54) rfl ?_
      obtain rfl := Option.some.inj hp
      refine FL.v (E.pickT rfl c54 rfl) ?_
      exact FL.nil ⟨rfl, _, S40, (Inc.rfl _), rfl, rfl, rfl⟩
    ·
      refine FL.val (wF_yes rfl rfl rfl c54) rfl rfl (E.load rfl (run_loadA Tryz.isAgg31 Tryz.sizeOf31 ((at28.mono i41).now S40.sl) rfl)) ?_
      obtain ⟨r55, hr56, hp⟩ := bnd hp
      refine FL.call (wF_yes rfl rfl rfl c54) rfl rfl (E.call Tryz.call134 (A1 rfl)) (w_impl_IsCnf S40.sl a1 v1_1 (p1_1.mono (i27.tr i41)) hr56) ?_
      rintro e w57 ⟨rfl, r58⟩
      refine ⟨_, rfl, ?_⟩
      have S59 := S40.call r58
      refine FL.val (wF_yes rfl rfl rfl c54) rfl rfl (E.not rfl) ?_
      obtain rfl := Option.some.inj hp
      refine FL.v (E.pickF rfl c54 rfl) ?_
      exact FL.nil ⟨rfl, _, S59, (Inc.rfl _), rfl, rfl, rfl⟩
  rintro f53 w52 ⟨H49, S50, i51, k60, k61, k62⟩
  refine FL.nil ?_
  rcases ifB hp with ⟨c63, hp⟩ | ⟨c63, hp⟩
  ·
    refine FW.condT k62 c63 ?_
    refine FW.seq (FW.region ?_)
    refine FL.v (E.assign (v := Value.pointer none) rfl) ?_
    refine FL.v (E.assign (v := Value.bool false) rfl) ?_
    refine FL.nil ?_
    refine FW.ret ?_
    obtain rfl := Option.some.inj hp
    exact ⟨.inr rfl, res2 rfl rfl rfl ⟨_, _, rfl, S50.run, rfl⟩⟩
  ·
    refine FW.condF k62 c63 ?_
    refine FW.skip (FW.seq (FW.region ?_))
    refine FL.v (E.load k61 (run_loadA Tryz.isAgg142 Tryz.sizeOf142 ((at42.mono i51).now S50.sl) rfl)) ?_
    refine FL.v (E.load k60 (run_loadA Tryz.isAgg31 Tryz.sizeOf31 ((at28.mono (i41.tr i51)).now S50.sl) rfl)) ?_
    refine FL.v (E.build (B2 rfl rfl) (run_build _ 144 #[(0, Value.agg #[Value.int .i64 (((PF.impl_ringOf a0 a1.vars).1).p), Value.int .i64 (((PF.impl_ringOf a0 a1.vars).1).vars)]), (1, Value.agg #[Value.int .i64 a1.vars, v1_1])] #[Value.int .i64 (((PF.impl_ringOf a0 a1.vars).1).p), Value.int .i64 (((PF.impl_ringOf a0 a1.vars).1).vars), Value.int .i64 a1.vars, v1_1, Value.slice none 0 0] (by obtain ⟨_, _, rfl⟩ := RSl.ln (p1_1.mono ((i27.tr i41).tr i51)); rfl))) ?_
    have S68 := S50.nil 139 1
    have els69 : Els (up wa.heap.size H49) (eL eI 1) 1 [] [] := Els.nil
    obtain ⟨b64, w65, run66, S67⟩ := S68.box (P := Tryz.prog) 144 [Value.int .i64 (((PF.impl_ringOf a0 a1.vars).1).p), Value.int .i64 (((PF.impl_ringOf a0 a1.vars).1).vars), Value.int .i64 a1.vars, v1_1, (Value.slice none 0 0)] (v := Value.agg #[Value.int .i64 (((PF.impl_ringOf a0 a1.vars).1).p), Value.int .i64 (((PF.impl_ringOf a0 a1.vars).1).vars), Value.int .i64 a1.vars, v1_1, Value.slice none 0 0]) rfl (ones_cons rfl (ones_cons rfl (ones_cons rfl (ones_cons p1_1.one (ones_cons (Ln.one (S68.row_ln (i := 0) rfl)) ones_nil)))))
    refine FL.v (E.box rfl run66) ?_
    refine FL.v (E.assign (v := Value.pointer (some (⟨b64, 0, none⟩ : Addr))) rfl) ?_
    refine FL.nil (FW.seq (FW.seq (FW.region ?_)))
    refine FL.v (E.fieldAddr tf31_1 k60) ?_
    refine FL.v (E.load rfl (run_load1 Tryz.isAgg22 ((at28.mono (i41.tr i51)).now S67.sl) rfl)) ?_
    refine FL.v (E.lenP te22 rfl p1_1) ?_
    refine FL.v (E.move (v := Value.int .i64 0) rfl) ?_
    refine FL.nil ?_
    obtain ⟨q71, hq, hp⟩ := bndR hp
    refine FW.block ?_
    refine FW.mono (FW.forL (S := ((List (List Int)) × Int × Int × Int × (List (List Int)))) (X := Empty) (fun (i71 : Nat) (s71 : ((List (List Int)) × Int × Int × Int × (List (List Int)))) f w => ∃ H : GH, ∃ v43 : Value, ∃ n44 : Nat, ∃ cs45 : List Value, ∃ v72 : Value, St Ha wa H w [.box b64 144 [Value.int .i64 s71.2.1, Value.int .i64 s71.2.2.1, Value.int .i64 s71.2.2.2.1, v72, v43], .row 139 1 v43 n44 cs45] ∧ Inc H49 H ∧ Els (up wa.heap.size H) (eL eI 1) 1 cs45 s71.1 ∧ RSl H (eL eI 1) 1 v72 s71.2.2.2.2 ∧ (bl cs45).Nodup ∧ f 32 = Value.int .i64 ((i71 : Nat) : Int) ∧ f 6 = Value.pointer (some ⟨b32, 0, none⟩) ∧ f 8 = Value.pointer (some (⟨b64, 0, none⟩ : Addr)) ∧ f 30 = v1_1 ∧ f 31 = Value.int .i64 (len a1.clauses)) (fun (q : Rs ((List (List Int)) × Int × Int × Int × (List (List Int))) Empty) e f w => match q with | .go s71 => e = Exit.exit 0 ∧ (∃ H : GH, ∃ v43 : Value, ∃ n44 : Nat, ∃ cs45 : List Value, ∃ v72 : Value, St Ha wa H w [.box b64 144 [Value.int .i64 s71.2.1, Value.int .i64 s71.2.2.1, Value.int .i64 s71.2.2.2.1, v72, v43], .row 139 1 v43 n44 cs45] ∧ Inc H49 H ∧ Els (up wa.heap.size H) (eL eI 1) 1 cs45 s71.1 ∧ RSl H (eL eI 1) 1 v72 s71.2.2.2.2 ∧ (bl cs45).Nodup ∧ f 8 = Value.pointer (some (⟨b64, 0, none⟩ : Addr))) | .rt x => x.elim) hq ⟨_, _, _, _, _, S67, (Inc.rfl _), els69, (p1_1.mono ((i27.tr i41).tr i51)), (show (bl []).Nodup from List.nodup_nil), rfl, k61, rfl, rfl, rfl⟩ ?_ ?_) ?_
    ·
      clear hp hq
      rintro i71 y70 s71 f78 w77 ⟨H74, v43, n44, cs45, v72, S75, i76, els46, h73, nd47, k79, k80, k81, k82, k83⟩ hx71 o150 hp
      refine FW.seq (FW.region ?_)
      refine FL.v (E.lssT k79 k83 (lss_len hx71)) ?_
      refine FL.nil (FW.seq ?_)
      refine FW.condT rfl rfl ?_
      refine FW.skip (FW.seq (FW.block (FW.seq (FW.region ?_))))
      obtain ⟨p84, cs85, pt86, l87, at88, rel89⟩ := p1_1.at (ix_nat hx71)
      obtain ⟨v90, rfl, h91⟩ := eL_open rel89
      refine FL.v (E.indexAddr te22 k82 k79 pt86) ?_
      refine FL.v (E.load rfl (run_load0 Tryz.isAgg39 ((at88.mono (((i27.tr i41).tr i51).tr i76)).now S75.sl) rfl)) ?_
      refine FL.v (E.assign (v := v90) rfl) ?_
      refine FL.nil ?_
      obtain ⟨r95, hr96, hp⟩ := bnd hp
      obtain ⟨xs116, hz117, hp⟩ := bnd hp
      refine FW.drawB (Sl H74) (fun f w => ∃ H : GH, ∃ v132 : Value, ∃ n133 : Nat, ∃ cs134 : List Value, ∃ v137 : Value, St Ha wa H w [.box b64 144 [Value.int .i64 s71.2.1, Value.int .i64 s71.2.2.1, Value.int .i64 s71.2.2.2.1, v137, v132], .row 139 1 v132 n133 cs134] ∧ Inc H74 H ∧ Els (up wa.heap.size H) (eL eI 1) 1 cs134 xs116 ∧ RSl H (eL eI 1) 1 v137 s71.2.2.2.2 ∧ (bl cs134).Nodup ∧ f 6 = Value.pointer (some ⟨b32, 0, none⟩) ∧ f 8 = Value.pointer (some (⟨b64, 0, none⟩ : Addr)) ∧ f 30 = v1_1 ∧ f 31 = Value.int .i64 (len a1.clauses) ∧ f 32 = Value.int .i64 ((i71 : Nat) : Int)) (by kernel_rfl) S75.sl ?_ ?_
      ·
        intro w92 r93
        have S94 := S75.call r93
        refine FB.phase [12] (fun w => WAt w (Addr.add ⟨b64, 0, none⟩ 4) [v43]) ?_
        refine FB.t (i := 0) (bs 13 1) rfl (SP.on ((S94.box_now (i := 0) rfl).sub (j := 4) (n := 1) (c := [v43]) rfl) (SP.nil S94.sl)) rfl (fun w' hw' => (E.move k81)) ?_
        refine FB.t (i := 1) (bs 13 3) rfl (SP.on ((S94.box_now (i := 0) rfl).sub (j := 4) (n := 1) (c := [v43]) rfl) (SP.nil S94.sl)) rfl (fun w' hw' => (E.move k81)) ?_
        refine FB.t (i := 2) (bs 13 7) rfl (SP.on ((S94.box_now (i := 0) rfl).sub (j := 4) (n := 1) (c := [v43]) rfl) (SP.nil S94.sl)) rfl (fun w' hw' => (E.nilCheck rfl)) ?_
        refine FB.t (i := 3) (bs 13 15) rfl (SP.on ((S94.box_now (i := 0) rfl).sub (j := 4) (n := 1) (c := [v43]) rfl) (SP.nil S94.sl)) rfl (fun w' hw' => (E.fieldAddr tf144_2 rfl)) ?_
        refine FB.p (i := 4) (bs 13 31) 0 [9, 10, 11, 12] rfl (SP.on ((S94.box_now (i := 0) rfl).sub (j := 4) (n := 1) (c := [v43]) rfl) (SP.nil S94.sl)) rfl rfl (fun w' hw' => (E.load rfl (run_load0 Tryz.isAgg124 hw' rfl))) ?_
        refine FB.t (i := 5) (bs 13 63) rfl (SP.on ((S94.box_now (i := 0) rfl).sub (j := 4) (n := 1) (c := [v43]) rfl) (SP.nil S94.sl)) rfl (fun w' hw' => (E.load k80 (run_loadA Tryz.isAgg142 Tryz.sizeOf142 ((at42.mono (i51.tr i76)).now hw') rfl))) ?_
        refine FB.t (i := 6) (bs 13 127) rfl (SP.on ((S94.box_now (i := 0) rfl).sub (j := 4) (n := 1) (c := [v43]) rfl) (SP.nil S94.sl)) rfl (fun w' hw' => (E.move (v := v90) rfl)) ?_
        refine FB.all1 (i := 7) (by kernel_rfl) ?_
        ·
          refine FC.call (l' := (bs 13 255)) rfl (by kernel_rfl) rfl rfl rfl (E.call Tryz.call109 (A2 rfl rfl)) (w_impl_ring_clause S94.sl ((PF.impl_ringOf a0 a1.vars).1) v90 y70 (h91.mono (((i27.tr i41).tr i51).tr i76)) hr96) ?_
          rintro e w98 ⟨H97, v101, n102, cs103, rfl, r100, els104⟩
          refine ⟨_, rfl, ?_⟩
          have els104 := els104.mono (up_le S94.size)
          have S99 := S94.join (l' := [.row 3 1 v101 n102 cs103, .box b64 144 [Value.int .i64 s71.2.1, Value.int .i64 s71.2.2.1, Value.int .i64 s71.2.2.2.1, v72, v43], .row 139 1 v43 n44 cs45]) r100 rfl
          refine ⟨(SP.on ((S99.box_now (i := 1) rfl).sub (j := 4) (n := 1) (c := [v43]) rfl) (SP.nil (Sl.of_inc r100.run.inc S99.sl))), ?_⟩
          refine FB.all1 (i := 8) (by kernel_rfl) ?_
          ·
            obtain ⟨H105, S106, i107, h108, nv109⟩ := S99.sealRowU (i := 0) (l' := [.box b64 144 [Value.int .i64 s71.2.1, Value.int .i64 s71.2.2.1, Value.int .i64 s71.2.2.2.1, v72, v43], .row 139 1 v43 n44 cs45]) rfl els104 (by decide) rfl
            obtain ⟨v110, w111, run112, S113⟩ := S106.buildSlice (P := Tryz.prog) te124 [v101] (parts := #[(0, v101)]) (cells := [v101]) rfl (szs_cons (cells_size h108.cells) szs_nil) (fc_cons h108.cells fc_nil) (ones_cons h108.one ones_nil) (Nat.le_of_ble_eq_true rfl)
            have els114 : Els (up wa.heap.size H105) (eL eI 1) 1 [v101] [r95] := (Els.snoc (H := (up wa.heap.size H105)) (E := (eL eI 1)) (k := 1) (c := [v101]) (x := r95) Els.nil rfl ⟨_, rfl, h108⟩)
            have nd115 : (bl [v101]).Nodup := by exact nd_one v101
            refine FC.val (l' := (bs 13 511)) rfl (by kernel_rfl) rfl rfl rfl (E.buildSlice (B1 rfl) run112) ?_
            refine ⟨(SP.on ((S113.box_now (i := 1) rfl).sub (j := 4) (n := 1) (c := [v43]) rfl) (SP.nil (Sl.of_inc (r100.run.inc.tr i107) S113.sl))), ?_⟩
            refine FB.all1 (i := 9) (by kernel_rfl) ?_
            ·
              obtain ⟨v118, w121, n119, cs120, run122, S123, els125, ce126⟩ := S113.appendO (P := Tryz.prog) te124 (i := 2) (j := 0) rfl (els46.mono (up_mono (r100.run.inc.tr i107))) rfl els114 hz117
              have S123 : St Ha wa H105 w121 [.row 139 1 v110 1 [v101], .box b64 144 [Value.int .i64 s71.2.1, Value.int .i64 s71.2.2.1, Value.int .i64 s71.2.2.2.1, v72, v43], .row 139 1 v118 n119 cs120] := S123
              have nd127 : (bl cs120).Nodup := by rw [ce126]; exact nd_app nd47 nd115 (Els.dom (els46.mono (upI.tr r100.run.inc))) (by exact nv109)
              have S128 : St Ha wa H105 w121 [.box b64 144 [Value.int .i64 s71.2.1, Value.int .i64 s71.2.2.1, Value.int .i64 s71.2.2.2.1, v72, v43], .row 139 1 v118 n119 cs120] := S123.drop 0
              refine FC.val (l' := (bs 13 1023)) rfl (by kernel_rfl) rfl rfl rfl (E.append rfl rfl run122) ?_
              refine ⟨(SP.on ((S128.box_now (i := 0) rfl).sub (j := 4) (n := 1) (c := [v43]) rfl) (SP.nil (Sl.of_inc (r100.run.inc.tr i107) S128.sl))), ?_⟩
              refine FB.t (i := 10) (bs 13 2047) rfl (SP.on ((S128.box_now (i := 0) rfl).sub (j := 4) (n := 1) (c := [v43]) rfl) (SP.nil (Sl.of_inc (r100.run.inc.tr i107) S128.sl))) rfl (fun w' hw' => (E.nilCheck rfl)) ?_
              refine FB.t (i := 11) (bs 13 4095) rfl (SP.on ((S128.box_now (i := 0) rfl).sub (j := 4) (n := 1) (c := [v43]) rfl) (SP.nil (Sl.of_inc (r100.run.inc.tr i107) S128.sl))) rfl (fun w' hw' => (E.fieldAddr tf144_2 rfl)) ?_
              refine FB.all1 (i := 12) (by kernel_rfl) ?_
              ·
                obtain ⟨w129, run130, S131⟩ := S128.store (P := Tryz.prog) (t := 124) (i := 0) (j := 4) (cs' := [Value.int .i64 s71.2.1, Value.int .i64 s71.2.2.1, Value.int .i64 s71.2.2.2.1, v72, v118]) (l' := [.box b64 144 [Value.int .i64 s71.2.1, Value.int .i64 s71.2.2.1, Value.int .i64 s71.2.2.2.1, v72, v118], .row 139 1 v118 n119 cs120]) (v := v118) (c := [v118]) rfl Tryz.sizeOf124 (Ln.cells (S128.row_ln (i := 1) rfl)) rfl (ones_cons (Ln.one (S128.row_ln (i := 1) rfl)) ones_nil) (Nat.le_of_ble_eq_true rfl) rfl rfl
                refine FC.act (l' := (bs 13 8191)) rfl (by kernel_rfl) rfl rfl (E.store rfl rfl run130) ?_
                refine ⟨(SP.o (SP.nil (Sl.of_inc (r100.run.inc.tr i107) S131.sl))), ?_⟩
                exact FB.done (by kernel_rfl) ⟨_, _, _, _, _, S131, (r100.run.inc.tr i107), els125, (h73.mono (r100.run.inc.tr i107)), nd127, k80, k81, k82, k83, k79⟩
      ·
        rintro f143 w142 ⟨H139, v132, n133, cs134, v137, S140, i141, els135, h138, nd136, k145, k146, k147, k148, k149⟩
        refine FW.region ?_
        refine FL.v (E.add k149 rfl) ?_
        refine FL.v (E.move (v := Value.int .i64 (wr (((i71 : Nat) : Int) + 1))) rfl) ?_
        refine FL.nil ?_
        obtain rfl := Option.some.inj hp
        exact ⟨rfl, ⟨_, _, _, _, _, S140, (i76.tr i141), els135, h138, nd136, (nat_succ rfl (lt_of_get hx71) (p1_1.mono ((((i27.tr i41).tr i51).tr i76).tr i141)).le), k145, k146, k147, k148⟩⟩
    ·
      clear hp hq
      rintro s71 f171 w170 ⟨H167, v43, n44, cs45, v72, S168, i169, els46, h73, nd47, k172, k173, k174, k175, k176⟩
      refine FW.seq (FW.region ?_)
      refine FL.v (E.lss k172 k176) ?_
      refine FL.nil (FW.seq ?_)
      refine FW.condF rfl dlt_len ?_
      refine FW.exit ?_
      exact ⟨nofun, rfl, ⟨_, _, _, _, _, S168, i169, els46, h73, nd47, k174⟩⟩
    ·
      clear hq
      intro e f155 w154 hD
      rcases q71 with s71 | x71
      ·
        obtain ⟨rfl, hD⟩ := hD
        obtain ⟨H151, v43, n44, cs45, v72, S152, i153, els46, h73, nd47, k156⟩ := hD
        replace hp := el_go hp
        refine FW.seq (FW.region ?_)
        refine FL.v (E.move k156) ?_
        refine FL.v (E.assign (v := Value.pointer (some (⟨b64, 0, none⟩ : Addr))) rfl) ?_
        refine FL.v (E.assign (v := Value.bool true) rfl) ?_
        refine FL.nil ?_
        refine FW.ret ?_
        obtain ⟨H157, S158, i159, ns162, nv161⟩ := S152.sealRowN (i := 1) (l' := [.box b64 144 [Value.int .i64 s71.2.1, Value.int .i64 s71.2.2.1, Value.int .i64 s71.2.2.2.1, v72, v43]]) rfl els46 nd47 (by decide) rfl
        have h160 := ns162.rsl
        obtain ⟨H163, S164, i165, at166⟩ := S158.sealBox (i := 0) (l' := []) rfl rfl
        obtain rfl := Option.some.inj hp
        exact ⟨.inr rfl, res2 rfl rfl rfl ⟨_, _, rfl, S164.run, ⟨_, rfl, _, _, (h73.mono (i159.tr i165)), ⟨_, (ns162.mono (up_mono i165))⟩, at166⟩⟩⟩
      · exact x71.elim

theorem w_slices_Equal_int_int {Ha : GH} {wa : World} (hs : Sl Ha wa) (v0 : Value) (a0 : List Int) (p0 : RSl Ha eI 1 v0 a0) (v1 : Value) (a1 : List Int) (p1 : RSl Ha eI 1 v1 a1) {r : Bool} (hp : (PF.slices_Equal_int_int a0 a1) = some r) :
  Calls Tryz.prog 245 #[v0, v1] wa (Sc Ha wa (Value.bool r)) := by
 unfold PF.slices_Equal_int_int at hp
 have S0 := St.init hs
 refine calls_go (N := 26) (args := [v0, v1]) Tryz.func245 rfl rfl rfl ?_
 refine FW.seq (FW.region ?_)
 refine FL.v (E.assign (v := Value.bool false) rfl) ?_
 refine FL.nil (FW.seq (FW.seq (FW.region ?_)))
 refine FL.v (E.move (v := v0) rfl) ?_
 refine FL.v (E.lenP te39 rfl p0) ?_
 refine FL.v (E.move (v := v1) rfl) ?_
 refine FL.v (E.lenP te39 rfl p1) ?_
 refine FL.v (E.neq rfl rfl) ?_
 refine FL.nil ?_
 rcases ifB hp with ⟨c21, hp⟩ | ⟨c21, hp⟩
 ·
  refine FW.condT rfl c21 ?_
  refine FW.seq (FW.region ?_)
  refine FL.v (E.assign (v := Value.bool false) rfl) ?_
  refine FL.nil ?_
  refine FW.ret ?_
  obtain rfl := Option.some.inj hp
  exact ⟨.inr rfl, res1 rfl rfl ⟨rfl, S0.back⟩⟩
 ·
  refine FW.condF rfl c21 ?_
  refine FW.skip (FW.seq (FW.seq (FW.region ?_)))
  refine FL.v (E.move (v := v0) rfl) ?_
  refine FL.v (E.lenP te39 rfl p0) ?_
  refine FL.v (E.move (v := Value.int .i64 0) rfl) ?_
  refine FL.nil ?_
  obtain ⟨q23, hq, hp⟩ := bndR hp
  refine FW.block ?_
  refine FW.mono (FW.forL (S := Unit) (X := Bool) (fun (i23 : Nat) (s23 : Unit) f w => ∃ H : GH, St Ha wa H w [] ∧ Inc Ha H ∧ f 13 = Value.int .i64 ((i23 : Nat) : Int) ∧ f 0 = v0 ∧ f 1 = v1 ∧ f 12 = Value.int .i64 (len a0)) (fun q e f w => match q with | .go s23 => e = Exit.exit 0 ∧ (∃ H : GH, St Ha wa H w [] ∧ Inc Ha H) | .rt x => ((e = Exit.ret) ∧ (fun e f w => (e = Exit.normal ∨ e = Exit.ret) ∧ ∀ a, Fr (δ := []) 26 a f → ∃ v, (results Tryz.f245 a.tmps).run Tryz.prog w = .ok v w ∧ (Sc Ha wa (Value.bool x)) (.returned v) w) e f w)) hq ⟨_, S0, (Inc.rfl _), rfl, rfl, rfl, rfl⟩ ?_ ?_) ?_
  ·
   clear hp hq
   rintro i23 y22 s23 f56 w55 ⟨H52, S53, i54, k57, k58, k59, k60⟩ hx23 o80 hp
   refine FW.seq (FW.region ?_)
   refine FL.v (E.lssT k57 k60 (lss_len hx23)) ?_
   refine FL.nil (FW.seq ?_)
   refine FW.condT rfl rfl ?_
   refine FW.skip (FW.seq (FW.block (FW.seq (FW.region ?_))))
   refine FL.v (E.move k57) ?_
   refine FL.v (E.assign (v := Value.int .i64 ((i23 : Nat) : Int)) rfl) ?_
   refine FL.nil (FW.seq ?_)
   refine FW.draw (fun w' => Run w55.heap.size H52 w55 H52 w') (by kernel_rfl) (by kernel_rfl) (run_drew S53.sl) ?_
   refine FD.val rfl rfl rfl (fun w' hw' => (E.move k58)) ?_
   refine FD.val rfl rfl rfl (fun w' hw' => (E.move (v := Value.int .i64 ((i23 : Nat) : Int)) rfl)) ?_
   obtain ⟨p62, cs63, pt64, l65, at66, rel67⟩ := p0.at (ix_nat hx23)
   obtain rfl := eI_open rel67
   refine FD.val rfl rfl rfl (fun w' hw' => (E.indexAddr te39 rfl rfl pt64)) ?_
   refine FD.val rfl rfl rfl (fun w' hw' => (E.load rfl (run_load0 Tryz.isAgg3 ((at66.mono i54).now (S53.call hw').sl) rfl))) ?_
   refine FD.val rfl rfl rfl (fun w' hw' => (E.move k59)) ?_
   refine FD.val rfl rfl rfl (fun w' hw' => (E.move (v := Value.int .i64 ((i23 : Nat) : Int)) rfl)) ?_
   obtain ⟨x74, hx75, hp⟩ := bnd hp
   obtain ⟨p68, cs69, pt70, l71, at72, rel73⟩ := p1.at hx75
   obtain rfl := eI_open rel73
   refine FD.val rfl rfl rfl (fun w' hw' => (E.indexAddr te39 rfl rfl pt70)) ?_
   refine FD.val rfl rfl rfl (fun w' hw' => (E.load rfl (run_load0 Tryz.isAgg3 ((at72.mono i54).now (S53.call hw').sl) rfl))) ?_
   refine FD.val rfl rfl rfl (fun w' hw' => (E.neq rfl rfl)) ?_
   refine FD.nil ?_
   intro w76 r78
   have S77 := S53.call r78
   rcases ifB hp with ⟨c79, hp⟩ | ⟨c79, hp⟩
   ·
    refine FW.condT rfl c79 ?_
    refine FW.seq (FW.region ?_)
    refine FL.v (E.assign (v := Value.bool false) rfl) ?_
    refine FL.nil ?_
    refine FW.ret ?_
    obtain rfl := Option.some.inj hp
    exact ⟨nofun, rfl, ⟨.inr rfl, res1 rfl rfl ⟨rfl, S77.back⟩⟩⟩
   ·
    refine FW.condF rfl c79 ?_
    refine FW.skip (FW.region ?_)
    refine FL.v (E.add k57 rfl) ?_
    refine FL.v (E.move (v := Value.int .i64 (wr (((i23 : Nat) : Int) + 1))) rfl) ?_
    refine FL.nil ?_
    obtain rfl := Option.some.inj hp
    exact ⟨rfl, ⟨_, S77, i54, (nat_succ rfl (lt_of_get hx23) (p0.mono i54).le), k58, k59, k60⟩⟩
  ·
   clear hp hq
   rintro s23 f90 w89 ⟨H86, S87, i88, k91, k92, k93, k94⟩
   refine FW.seq (FW.region ?_)
   refine FL.v (E.lss k91 k94) ?_
   refine FL.nil (FW.seq ?_)
   refine FW.condF rfl dlt_len ?_
   refine FW.exit ?_
   exact ⟨nofun, rfl, ⟨_, S87, i88⟩⟩
  ·
   clear hq
   intro e f85 w84 hD
   rcases q23 with s23 | x23
   ·
    obtain ⟨rfl, hD⟩ := hD
    obtain ⟨H81, S82, i83⟩ := hD
    replace hp := el_go hp
    refine FW.seq (FW.region ?_)
    refine FL.v (E.assign (v := Value.bool true) rfl) ?_
    refine FL.nil ?_
    refine FW.ret ?_
    obtain rfl := Option.some.inj hp
    exact ⟨.inr rfl, res1 rfl rfl ⟨rfl, S82.back⟩⟩
   ·
    obtain ⟨he, hL⟩ := hD
    replace hp := el_rt hp
    obtain rfl := Option.some.inj hp
    subst he
    exact hL

@[reducible] def p_impl_earlier (Ha : GH) (wa : World) (r : ((List Int) × Bool)) : Ending → World → Prop :=
 fun e w' => ∃ H' : GH, ∃ v0 : Value, e = .returned (Value.tuple #[v0, Value.bool r.2]) ∧ Run wa.heap.size Ha wa H' w' ∧ RSl H' eI 1 v0 r.1
theorem w_impl_earlier {Ha : GH} {wa : World} (hs : Sl Ha wa) (a0 : Cnf) (v0_1 : Value) (p0_1 : RSl Ha (eL eI 1) 1 v0_1 a0.clauses) (v1 : Value) (a1 : List ResStep) (p1 : RSl Ha eResStep 4 v1 a1) (a2 : Int) (a3 : Int) {r : ((List Int) × Bool)} (hp : (PF.impl_earlier a0 a1 a2 a3) = some r) :
  Calls Tryz.prog 246 #[Value.agg #[Value.int .i64 a0.vars, v0_1], v1, Value.int .i64 a2, Value.int .i64 a3] wa (p_impl_earlier Ha wa r) := by
 unfold PF.impl_earlier at hp
 have S0 := St.init hs
 refine calls_go (N := 31) (args := [Value.agg #[Value.int .i64 a0.vars, v0_1], v1, Value.int .i64 a2, Value.int .i64 a3]) Tryz.func246 rfl rfl rfl ?_
 refine FW.seq (FW.region ?_)
 obtain ⟨b21, w22, run23, S24⟩ := S0.box (P := Tryz.prog) 31 [Value.int .i64 a0.vars, v0_1] (v := Value.agg #[Value.int .i64 a0.vars, v0_1]) rfl (ones_cons rfl (ones_cons p0_1.one ones_nil))
 refine FL.v (E.box rfl run23) ?_
 obtain ⟨H25, S26, i27, at28⟩ := S24.sealBox (i := 0) (l' := []) rfl rfl
 refine FL.v (E.assign (v := Value.slice none 0 0) rfl) ?_
 refine FL.v (E.assign (v := Value.bool false) rfl) ?_
 refine FL.nil (FW.seq (FW.seq ?_))
 refine FW.draw (fun w' => Run w22.heap.size H25 w22 H25 w') (by kernel_rfl) (by kernel_rfl) (run_drew S26.sl) ?_
 refine FD.val rfl rfl rfl (fun w' hw' => (E.move (v := Value.int .i64 a3) rfl)) ?_
 refine FD.val rfl rfl rfl (fun w' hw' => (E.move (v := Value.int .i64 a2) rfl)) ?_
 refine FD.val rfl rfl rfl (fun w' hw' => (E.sub rfl rfl)) ?_
 refine FD.call rfl rfl rfl (fun w' hw' => (E.call Tryz.call192 (A3 rfl rfl rfl))) (fun w' hw' => Calls.cls hw' (w_impl_within (S26.call hw').sl a3 0 (wr (a2 - 1)))) ?_
 refine FD.val rfl rfl rfl (fun w' hw' => (E.not rfl)) ?_
 refine FD.val rfl rfl rfl (fun w' hw' => (E.move (v := Value.bool (!(PF.impl_within a3 0 (wr (a2 - 1))))) rfl)) ?_
 obtain ⟨t42, hqt42, hp⟩ := bnd hp
 refine FD.cut 10 (fun f => f 1 = v1 ∧ f 3 = Value.int .i64 a3 ∧ f 25 = Value.bool t42) ?_ ?_
 ·
  clear hp; have hp := hqt42; clear hqt42
  rcases ifB hp with ⟨c48, hp⟩ | ⟨c48, hp⟩
  ·
   refine FD.skip (wF_no rfl rfl rfl c48) rfl ?_
   refine FD.skip (wF_no rfl rfl rfl c48) rfl ?_
   refine FD.skip (wF_no rfl rfl rfl c48) rfl ?_
   refine FD.skip (wF_no rfl rfl rfl c48) rfl ?_
   refine FD.skip (wF_no rfl rfl rfl c48) rfl ?_
   refine FD.skip (wF_no rfl rfl rfl c48) rfl ?_
   refine FD.skip (wF_no rfl rfl rfl c48) rfl ?_
   refine FD.skip (wF_no rfl rfl rfl c48) rfl ?_
   refine FD.skip (wF_no rfl rfl rfl c48) rfl ?_
   obtain rfl := Option.some.inj hp
   refine FD.val rfl rfl rfl (fun w' hw' => (E.pickT rfl c48 rfl)) ?_
   exact FD.nil ⟨rfl, rfl, rfl⟩
  ·
   refine FD.val (wF_yes rfl rfl rfl c48) rfl rfl (fun w' hw' => (E.fieldAddr tf31_0 rfl)) ?_
   refine FD.val (wF_yes rfl rfl rfl c48) rfl rfl (fun w' hw' => (E.load rfl (run_load1 Tryz.isAgg3 (at28.now (S26.call hw').sl) rfl))) ?_
   refine FD.val (wF_yes rfl rfl rfl c48) rfl rfl (fun w' hw' => (E.move (v := v1) rfl)) ?_
   refine FD.val (wF_yes rfl rfl rfl c48) rfl rfl (fun w' hw' => (E.move (v := Value.int .i64 a3) rfl)) ?_
   obtain ⟨x55, hx56, hp⟩ := bnd hp
   obtain ⟨p49, cs50, pt51, l52, at53, rel54⟩ := p1.at hx56
   obtain ⟨v57, rfl, h58⟩ := eResStep_open rel54
   refine FD.val (wF_yes rfl rfl rfl c48) rfl rfl (fun w' hw' => (E.indexAddr te28 rfl rfl pt51)) ?_
   refine FD.val (wF_yes rfl rfl rfl c48) rfl rfl (fun w' hw' => (E.fieldAddr tf89_0 rfl)) ?_
   refine FD.val (wF_yes rfl rfl rfl c48) rfl rfl (fun w' hw' => (E.load rfl (run_load1 Tryz.isAgg39 ((at53.mono i27).now (S26.call hw').sl) rfl))) ?_
   obtain ⟨r59, hr60, hp⟩ := bnd hp
   refine FD.call (wF_yes rfl rfl rfl c48) rfl rfl (fun w' hw' => (E.call Tryz.call142 (A2 rfl rfl))) (fun w' hw' => Calls.cls hw' (w_impl_IsClause (S26.call hw').sl a0.vars v57 x55.clause (h58.mono i27) hr60)) ?_
   refine FD.val (wF_yes rfl rfl rfl c48) rfl rfl (fun w' hw' => (E.not rfl)) ?_
   obtain rfl := Option.some.inj hp
   refine FD.val rfl rfl rfl (fun w' hw' => (E.pickF rfl c48 rfl)) ?_
   exact FD.nil ⟨rfl, rfl, rfl⟩
 rintro f47 ⟨k61, k62, k63⟩
 refine FD.nil ?_
 intro w64 r66
 have S65 := S26.call r66
 rcases ifB hp with ⟨c67, hp⟩ | ⟨c67, hp⟩
 ·
  refine FW.condT k63 c67 ?_
  refine FW.seq (FW.region ?_)
  refine FL.v (E.assign (v := Value.slice none 0 0) rfl) ?_
  refine FL.v (E.assign (v := Value.bool false) rfl) ?_
  refine FL.nil ?_
  refine FW.ret ?_
  obtain rfl := Option.some.inj hp
  exact ⟨.inr rfl, res2 rfl rfl rfl ⟨_, _, rfl, S65.run, (RSl.nil _ _ _)⟩⟩
 ·
  refine FW.condF k63 c67 ?_
  refine FW.skip (FW.seq (FW.region ?_))
  refine FL.v (E.move k61) ?_
  refine FL.v (E.move k62) ?_
  obtain ⟨x74, hx75, hp⟩ := bnd hp
  obtain ⟨p68, cs69, pt70, l71, at72, rel73⟩ := p1.at hx75
  obtain ⟨v76, rfl, h77⟩ := eResStep_open rel73
  refine FL.v (E.indexAddr te28 rfl rfl pt70) ?_
  refine FL.v (E.fieldAddr tf89_0 rfl) ?_
  refine FL.v (E.load rfl (run_load1 Tryz.isAgg39 ((at72.mono i27).now S65.sl) rfl)) ?_
  refine FL.v (E.assign (v := v76) rfl) ?_
  refine FL.v (E.assign (v := Value.bool true) rfl) ?_
  refine FL.nil ?_
  refine FW.ret ?_
  obtain rfl := Option.some.inj hp
  exact ⟨.inr rfl, res2 rfl rfl rfl ⟨_, _, rfl, S65.run, (h77.mono i27)⟩⟩

theorem w_slices_IndexFunc_int_int {Ha : GH} {wa : World} (hs : Sl Ha wa) (v0 : Value) (a0 : List Int) (p0 : RSl Ha eI 1 v0 a0) (v1 : Value) (a1 : Int → Option Bool) (p1 : Fn_I_to_B Tryz.prog Ha v1 a1) {r : Int} (hp : (PF.slices_IndexFunc_int_int a0 a1) = some r) :
  Calls Tryz.prog 211 #[v0, v1] wa (Sc Ha wa (Value.int .i64 r)) := by
 unfold PF.slices_IndexFunc_int_int at hp
 have S0 := St.init hs
 refine calls_go (N := 19) (args := [v0, v1]) Tryz.func211 rfl rfl rfl ?_
 refine FW.seq (FW.region ?_)
 refine FL.v (E.assign (v := Value.int .i64 0) rfl) ?_
 refine FL.nil (FW.seq (FW.seq (FW.region ?_)))
 refine FL.v (E.move (v := v0) rfl) ?_
 refine FL.v (E.lenP te39 rfl p0) ?_
 refine FL.v (E.move (v := Value.int .i64 0) rfl) ?_
 refine FL.nil ?_
 obtain ⟨q22, hq, hp⟩ := bndR hp
 refine FW.block ?_
 refine FW.mono (FW.forL (S := Unit) (X := Int) (fun (i22 : Nat) (s22 : Unit) f w => ∃ H : GH, St Ha wa H w [] ∧ Inc Ha H ∧ f 8 = Value.int .i64 ((i22 : Nat) : Int) ∧ f 0 = v0 ∧ f 1 = v1 ∧ f 7 = Value.int .i64 (len a0)) (fun q e f w => match q with | .go s22 => e = Exit.exit 0 ∧ (∃ H : GH, St Ha wa H w [] ∧ Inc Ha H) | .rt x => ((e = Exit.ret) ∧ (fun e f w => (e = Exit.normal ∨ e = Exit.ret) ∧ ∀ a, Fr (δ := []) 19 a f → ∃ v, (results Tryz.f211 a.tmps).run Tryz.prog w = .ok v w ∧ (Sc Ha wa (Value.int .i64 x)) (.returned v) w) e f w)) hq ⟨_, S0, (Inc.rfl _), rfl, rfl, rfl, rfl⟩ ?_ ?_) ?_
 ·
  clear hp hq
  rintro i22 y21 s22 f53 w52 ⟨H49, S50, i51, k54, k55, k56, k57⟩ hx22 o75 hp
  refine FW.seq (FW.region ?_)
  refine FL.v (E.lssT k54 k57 (lss_len hx22)) ?_
  refine FL.nil (FW.seq ?_)
  refine FW.condT rfl rfl ?_
  refine FW.skip (FW.seq (FW.block (FW.seq (FW.region ?_))))
  refine FL.v (E.move k54) ?_
  refine FL.v (E.assign (v := Value.int .i64 ((i22 : Nat) : Int)) rfl) ?_
  refine FL.nil (FW.seq (FW.region ?_))
  refine FL.v (E.move k56) ?_
  refine FL.v (E.move k55) ?_
  refine FL.v (E.move (v := Value.int .i64 ((i22 : Nat) : Int)) rfl) ?_
  obtain ⟨p58, cs59, pt60, l61, at62, rel63⟩ := p0.at (ix_nat hx22)
  obtain rfl := eI_open rel63
  refine FL.v (E.indexAddr te39 rfl rfl pt60) ?_
  refine FL.v (E.load rfl (run_load0 Tryz.isAgg3 ((at62.mono i51).now S50.sl) rfl)) ?_
  obtain ⟨r64, hr65, hp⟩ := bnd hp
  obtain ⟨fi69, cs70, hv71, he72, hc73⟩ := (p1.mono i51) H49 w52 (Inc.rfl _) S50.sl y21 r64 hr65
  refine FL.call rfl rfl rfl (E.callV he72 (Eq.trans rfl hv71) (appA (A1 rfl) cs70)) hc73 ?_
  rintro e w66 ⟨rfl, r67⟩
  refine ⟨_, rfl, ?_⟩
  have S68 := S50.call r67
  refine FL.nil ?_
  rcases ifB hp with ⟨c74, hp⟩ | ⟨c74, hp⟩
  ·
   refine FW.condT rfl c74 ?_
   refine FW.seq (FW.region ?_)
   refine FL.v (E.move (v := Value.int .i64 ((i22 : Nat) : Int)) rfl) ?_
   refine FL.v (E.assign (v := Value.int .i64 ((i22 : Nat) : Int)) rfl) ?_
   refine FL.nil ?_
   refine FW.ret ?_
   obtain rfl := Option.some.inj hp
   exact ⟨nofun, rfl, ⟨.inr rfl, res1 rfl rfl ⟨rfl, S68.back⟩⟩⟩
  ·
   refine FW.condF rfl c74 ?_
   refine FW.skip (FW.region ?_)
   refine FL.v (E.add k54 rfl) ?_
   refine FL.v (E.move (v := Value.int .i64 (wr (((i22 : Nat) : Int) + 1))) rfl) ?_
   refine FL.nil ?_
   obtain rfl := Option.some.inj hp
   exact ⟨rfl, ⟨_, S68, i51, (nat_succ rfl (lt_of_get hx22) (p0.mono i51).le), k55, k56, k57⟩⟩
 ·
  clear hp hq
  rintro s22 f85 w84 ⟨H81, S82, i83, k86, k87, k88, k89⟩
  refine FW.seq (FW.region ?_)
  refine FL.v (E.lss k86 k89) ?_
  refine FL.nil (FW.seq ?_)
  refine FW.condF rfl dlt_len ?_
  refine FW.exit ?_
  exact ⟨nofun, rfl, ⟨_, S82, i83⟩⟩
 ·
  clear hq
  intro e f80 w79 hD
  rcases q22 with s22 | x22
  ·
   obtain ⟨rfl, hD⟩ := hD
   obtain ⟨H76, S77, i78⟩ := hD
   replace hp := el_go hp
   refine FW.seq (FW.region ?_)
   refine FL.v (E.assign (v := Value.int .i64 (-1)) rfl) ?_
   refine FL.nil ?_
   refine FW.ret ?_
   obtain rfl := Option.some.inj hp
   exact ⟨.inr rfl, res1 rfl rfl ⟨rfl, S77.back⟩⟩
  ·
   obtain ⟨he, hL⟩ := hD
   replace hp := el_rt hp
   obtain rfl := Option.some.inj hp
   subst he
   exact hL

theorem w_slices_ContainsFunc_int_int {Ha : GH} {wa : World} (hs : Sl Ha wa) (v0 : Value) (a0 : List Int) (p0 : RSl Ha eI 1 v0 a0) (v1 : Value) (a1 : Int → Option Bool) (p1 : Fn_I_to_B Tryz.prog Ha v1 a1) {r : Bool} (hp : (PF.slices_ContainsFunc_int_int a0 a1) = some r) :
  Calls Tryz.prog 215 #[v0, v1] wa (Sc Ha wa (Value.bool r)) := by
 unfold PF.slices_ContainsFunc_int_int at hp
 have S0 := St.init hs
 refine calls_go (N := 9) (args := [v0, v1]) Tryz.func215 rfl rfl rfl ?_
 refine FW.seq (FW.region ?_)
 refine FL.v (E.assign (v := Value.bool false) rfl) ?_
 refine FL.nil (FW.seq (FW.region ?_))
 refine FL.v (E.move (v := v0) rfl) ?_
 refine FL.v (E.move (v := v1) rfl) ?_
 obtain ⟨r21, hr22, hp⟩ := bnd hp
 refine FL.call rfl rfl rfl (E.call Tryz.call211 (A2 rfl rfl)) (w_slices_IndexFunc_int_int S0.sl v0 a0 p0 v1 a1 p1 hr22) ?_
 rintro e w23 ⟨rfl, r24⟩
 refine ⟨_, rfl, ?_⟩
 have S25 := S0.call r24
 refine FL.v (E.geq rfl rfl) ?_
 refine FL.v (E.assign (v := Value.bool (decide (0 ≤ r21))) rfl) ?_
 refine FL.nil ?_
 refine FW.ret ?_
 obtain rfl := Option.some.inj hp
 exact ⟨.inr rfl, res1 rfl rfl ⟨rfl, S25.back⟩⟩

theorem w_slices_Index_int_int {Ha : GH} {wa : World} (hs : Sl Ha wa) (v0 : Value) (a0 : List Int) (p0 : RSl Ha eI 1 v0 a0) (a1 : Int) {r : Int} (hp : (PF.slices_Index_int_int a0 a1) = some r) :
  Calls Tryz.prog 212 #[v0, Value.int .i64 a1] wa (Sc Ha wa (Value.int .i64 r)) := by
 unfold PF.slices_Index_int_int at hp
 have S0 := St.init hs
 refine calls_go (N := 19) (args := [v0, Value.int .i64 a1]) Tryz.func212 rfl rfl rfl ?_
 refine FW.seq (FW.region ?_)
 refine FL.v (E.assign (v := Value.int .i64 0) rfl) ?_
 refine FL.nil (FW.seq (FW.seq (FW.region ?_)))
 refine FL.v (E.move (v := v0) rfl) ?_
 refine FL.v (E.lenP te39 rfl p0) ?_
 refine FL.v (E.move (v := Value.int .i64 0) rfl) ?_
 refine FL.nil ?_
 obtain ⟨q22, hq, hp⟩ := bndR hp
 refine FW.block ?_
 refine FW.mono (FW.forL (S := Unit) (X := Int) (fun (i22 : Nat) (s22 : Unit) f w => ∃ H : GH, St Ha wa H w [] ∧ Inc Ha H ∧ f 8 = Value.int .i64 ((i22 : Nat) : Int) ∧ f 0 = v0 ∧ f 1 = Value.int .i64 a1 ∧ f 7 = Value.int .i64 (len a0)) (fun q e f w => match q with | .go s22 => e = Exit.exit 0 ∧ (∃ H : GH, St Ha wa H w [] ∧ Inc Ha H) | .rt x => ((e = Exit.ret) ∧ (fun e f w => (e = Exit.normal ∨ e = Exit.ret) ∧ ∀ a, Fr (δ := []) 19 a f → ∃ v, (results Tryz.f212 a.tmps).run Tryz.prog w = .ok v w ∧ (Sc Ha wa (Value.int .i64 x)) (.returned v) w) e f w)) hq ⟨_, S0, (Inc.rfl _), rfl, rfl, rfl, rfl⟩ ?_ ?_) ?_
 ·
  clear hp hq
  rintro i22 y21 s22 f43 w42 ⟨H39, S40, i41, k44, k45, k46, k47⟩ hx22 o55 hp
  refine FW.seq (FW.region ?_)
  refine FL.v (E.lssT k44 k47 (lss_len hx22)) ?_
  refine FL.nil (FW.seq ?_)
  refine FW.condT rfl rfl ?_
  refine FW.skip (FW.seq (FW.block (FW.seq (FW.region ?_))))
  refine FL.v (E.move k44) ?_
  refine FL.v (E.assign (v := Value.int .i64 ((i22 : Nat) : Int)) rfl) ?_
  refine FL.nil (FW.seq (FW.region ?_))
  refine FL.v (E.move k46) ?_
  refine FL.v (E.move k45) ?_
  refine FL.v (E.move (v := Value.int .i64 ((i22 : Nat) : Int)) rfl) ?_
  obtain ⟨p48, cs49, pt50, l51, at52, rel53⟩ := p0.at (ix_nat hx22)
  obtain rfl := eI_open rel53
  refine FL.v (E.indexAddr te39 rfl rfl pt50) ?_
  refine FL.v (E.load rfl (run_load0 Tryz.isAgg3 ((at52.mono i41).now S40.sl) rfl)) ?_
  refine FL.v (E.eql rfl rfl) ?_
  refine FL.nil ?_
  rcases ifB hp with ⟨c54, hp⟩ | ⟨c54, hp⟩
  ·
   refine FW.condT rfl c54 ?_
   refine FW.seq (FW.region ?_)
   refine FL.v (E.move (v := Value.int .i64 ((i22 : Nat) : Int)) rfl) ?_
   refine FL.v (E.assign (v := Value.int .i64 ((i22 : Nat) : Int)) rfl) ?_
   refine FL.nil ?_
   refine FW.ret ?_
   obtain rfl := Option.some.inj hp
   exact ⟨nofun, rfl, ⟨.inr rfl, res1 rfl rfl ⟨rfl, S40.back⟩⟩⟩
  ·
   refine FW.condF rfl c54 ?_
   refine FW.skip (FW.region ?_)
   refine FL.v (E.add k44 rfl) ?_
   refine FL.v (E.move (v := Value.int .i64 (wr (((i22 : Nat) : Int) + 1))) rfl) ?_
   refine FL.nil ?_
   obtain rfl := Option.some.inj hp
   exact ⟨rfl, ⟨_, S40, i41, (nat_succ rfl (lt_of_get hx22) (p0.mono i41).le), k45, k46, k47⟩⟩
 ·
  clear hp hq
  rintro s22 f65 w64 ⟨H61, S62, i63, k66, k67, k68, k69⟩
  refine FW.seq (FW.region ?_)
  refine FL.v (E.lss k66 k69) ?_
  refine FL.nil (FW.seq ?_)
  refine FW.condF rfl dlt_len ?_
  refine FW.exit ?_
  exact ⟨nofun, rfl, ⟨_, S62, i63⟩⟩
 ·
  clear hq
  intro e f60 w59 hD
  rcases q22 with s22 | x22
  ·
   obtain ⟨rfl, hD⟩ := hD
   obtain ⟨H56, S57, i58⟩ := hD
   replace hp := el_go hp
   refine FW.seq (FW.region ?_)
   refine FL.v (E.assign (v := Value.int .i64 (-1)) rfl) ?_
   refine FL.nil ?_
   refine FW.ret ?_
   obtain rfl := Option.some.inj hp
   exact ⟨.inr rfl, res1 rfl rfl ⟨rfl, S57.back⟩⟩
  ·
   obtain ⟨he, hL⟩ := hD
   replace hp := el_rt hp
   obtain rfl := Option.some.inj hp
   subst he
   exact hL

theorem w_slices_Contains_int_int {Ha : GH} {wa : World} (hs : Sl Ha wa) (v0 : Value) (a0 : List Int) (p0 : RSl Ha eI 1 v0 a0) (a1 : Int) {r : Bool} (hp : (PF.slices_Contains_int_int a0 a1) = some r) :
  Calls Tryz.prog 162 #[v0, Value.int .i64 a1] wa (Sc Ha wa (Value.bool r)) := by
 unfold PF.slices_Contains_int_int at hp
 have S0 := St.init hs
 refine calls_go (N := 9) (args := [v0, Value.int .i64 a1]) Tryz.func162 rfl rfl rfl ?_
 refine FW.seq (FW.region ?_)
 refine FL.v (E.assign (v := Value.bool false) rfl) ?_
 refine FL.nil (FW.seq (FW.region ?_))
 refine FL.v (E.move (v := v0) rfl) ?_
 refine FL.v (E.move (v := Value.int .i64 a1) rfl) ?_
 obtain ⟨r21, hr22, hp⟩ := bnd hp
 refine FL.call rfl rfl rfl (E.call Tryz.call212 (A2 rfl rfl)) (w_slices_Index_int_int S0.sl v0 a0 p0 a1 hr22) ?_
 rintro e w23 ⟨rfl, r24⟩
 refine ⟨_, rfl, ?_⟩
 have S25 := S0.call r24
 refine FL.v (E.geq rfl rfl) ?_
 refine FL.v (E.assign (v := Value.bool (decide (0 ≤ r21))) rfl) ?_
 refine FL.nil ?_
 refine FW.ret ?_
 obtain rfl := Option.some.inj hp
 exact ⟨.inr rfl, res1 rfl rfl ⟨rfl, S25.back⟩⟩

theorem w_impl_part_1 {Ha : GH} {wa : World} (hs : Sl Ha wa) (a0 : Int) (q0 : Addr) (b0 : List Int) (u0_0 : Value) (g0_0 : RSl Ha eI 1 u0_0 b0) (c0 : CAt Ha q0 [u0_0]) {r : Bool} (hp : (PF.impl_part_1 a0 b0) = some r) :
  Calls Tryz.prog 263 #[Value.int .i64 a0, Value.pointer (some q0)] wa (Sc Ha wa (Value.bool r)) := by
 unfold PF.impl_part_1 at hp
 have S0 := St.init hs
 refine calls_go (N := 8) (args := [Value.int .i64 a0, Value.pointer (some q0)]) Tryz.func263 rfl rfl rfl ?_
 refine FW.seq (FW.region ?_)
 refine FL.v (E.assign (v := Value.bool false) rfl) ?_
 refine FL.nil (FW.seq (FW.region ?_))
 refine FL.v (E.load rfl (run_load0 Tryz.isAgg39 (c0.now S0.sl) rfl)) ?_
 refine FL.v (E.move (v := Value.int .i64 a0) rfl) ?_
 obtain ⟨r21, hr22, hp⟩ := bnd hp
 refine FL.call rfl rfl rfl (E.call Tryz.call162 (A2 rfl rfl)) (w_slices_Contains_int_int S0.sl u0_0 b0 g0_0 a0 hr22) ?_
 rintro e w23 ⟨rfl, r24⟩
 refine ⟨_, rfl, ?_⟩
 have S25 := S0.call r24
 refine FL.v (E.not rfl) ?_
 refine FL.v (E.assign (v := Value.bool (!r21)) rfl) ?_
 refine FL.nil ?_
 refine FW.ret ?_
 obtain rfl := Option.some.inj hp
 exact ⟨.inr rfl, res1 rfl rfl ⟨rfl, S25.back⟩⟩

theorem w_impl_part {Ha : GH} {wa : World} (hs : Sl Ha wa) (v0 : Value) (a0 : List Int) (p0 : RSl Ha eI 1 v0 a0) (v1 : Value) (a1 : List Int) (p1 : RSl Ha eI 1 v1 a1) {r : Bool} (hp : (PF.impl_part a0 a1) = some r) :
  Calls Tryz.prog 247 #[v0, v1] wa (Sc Ha wa (Value.bool r)) := by
 unfold PF.impl_part at hp
 have S0 := St.init hs
 refine calls_go (N := 9) (args := [v0, v1]) Tryz.func247 rfl rfl rfl ?_
 refine FW.seq (FW.region ?_)
 obtain ⟨b21, w22, run23, S24⟩ := S0.box (P := Tryz.prog) 39 [v1] (v := v1) p1.cells (ones_cons p1.one ones_nil)
 refine FL.v (E.box rfl run23) ?_
 obtain ⟨H25, S26, i27, at28⟩ := S24.sealBox (i := 0) (l' := []) rfl rfl
 refine FL.v (E.assign (v := Value.bool false) rfl) ?_
 refine FL.nil (FW.seq (FW.region ?_))
 refine FL.v (E.move (v := v0) rfl) ?_
 refine FL.v (E.makeFunc A0 (A1 rfl)) ?_
 obtain ⟨r29, hr30, hp⟩ := bnd hp
 refine FL.call rfl rfl rfl (E.call Tryz.call215 (A2 rfl rfl)) (w_slices_ContainsFunc_int_int S26.sl v0 a0 (p0.mono i27) (Value.func (.func 263) #[] #[Value.pointer (some ⟨b21, 0, none⟩)]) (fun x0 => PF.impl_part_1 x0 a1) (fun H2 w2 hi2 hs2 x0 r hr => ⟨263, #[Value.pointer (some ⟨b21, 0, none⟩)], rfl, Tryz.call263, w_impl_part_1 hs2 x0 ⟨b21, 0, none⟩ a1 v1 ((p1.mono i27).mono hi2) (at28.mono hi2) hr⟩) hr30) ?_
 rintro e w31 ⟨rfl, r32⟩
 refine ⟨_, rfl, ?_⟩
 have S33 := S26.call r32
 refine FL.v (E.not rfl) ?_
 refine FL.v (E.assign (v := Value.bool (!r29)) rfl) ?_
 refine FL.nil ?_
 refine FW.ret ?_
 obtain rfl := Option.some.inj hp
 exact ⟨.inr rfl, res1 rfl rfl ⟨rfl, S33.back⟩⟩

theorem w_impl_isVar {Ha : GH} {wa : World} (hs : Sl Ha wa) (a0 : Int) (a1 : Int) :
  Calls Tryz.prog 248 #[Value.int .i64 a0, Value.int .i64 a1] wa (Sc Ha wa (Value.bool (PF.impl_isVar a0 a1))) := by
 obtain ⟨r, hp⟩ : ∃ r, (PF.impl_isVar a0 a1) = r := ⟨_, rfl⟩
 rw [hp]
 unfold PF.impl_isVar at hp
 have S0 := St.init hs
 refine calls_go (N := 8) (args := [Value.int .i64 a0, Value.int .i64 a1]) Tryz.func248 rfl rfl rfl ?_
 refine FW.seq (FW.region ?_)
 refine FL.v (E.assign (v := Value.bool false) rfl) ?_
 refine FL.nil (FW.seq (FW.region ?_))
 refine FL.v (E.move (v := Value.int .i64 a1) rfl) ?_
 refine FL.v (E.move (v := Value.int .i64 a0) rfl) ?_
 refine FL.call rfl rfl rfl (E.call Tryz.call192 (A3 rfl rfl rfl)) (w_impl_within S0.sl a1 1 a0) ?_
 rintro e w21 ⟨rfl, r22⟩
 refine ⟨_, rfl, ?_⟩
 have S23 := S0.call r22
 refine FL.v (E.assign (v := Value.bool (PF.impl_within a1 1 a0)) rfl) ?_
 refine FL.nil ?_
 refine FW.ret ?_
 obtain rfl := hp
 exact ⟨.inr rfl, res1 rfl rfl ⟨rfl, S23.back⟩⟩

@[reducible] def p_slices_Clone_int_int (Ha : GH) (wa : World) (r : (List Int)) : Ending → World → Prop :=
 fun e w' => ∃ H' : GH, ∃ v0 : Value, ∃ n0 : Nat, ∃ c0 : List Value, e = .returned (v0) ∧ St Ha wa H' w' [.row 3 1 v0 n0 c0] ∧ Els (up wa.heap.size H') eI 1 c0 r
theorem w_slices_Clone_int_int {Ha : GH} {wa : World} (hs : Sl Ha wa) (v0 : Value) (a0 : List Int) (p0 : RSl Ha eI 1 v0 a0) {r : (List Int)} (hp : (PF.slices_Clone_int_int a0) = some r) :
  Calls Tryz.prog 160 #[v0] wa (p_slices_Clone_int_int Ha wa r) := by
 unfold PF.slices_Clone_int_int at hp
 have S0 := St.init hs
 refine calls_go (N := 8) (args := [v0]) Tryz.func160 rfl rfl rfl ?_
 refine FW.seq (FW.region ?_)
 refine FL.v (E.assign (v := Value.slice none 0 0) rfl) ?_
 refine FL.nil (FW.seq (FW.seq (FW.region ?_)))
 refine FL.v (E.move (v := v0) rfl) ?_
 obtain ⟨nb21, run22, hn23⟩ := RSl.nilTest te39 p0
 refine FL.v (run22 _ _ _ _ _ _ _ _ _ _ _ _ rfl rfl) ?_
 refine FL.nil ?_
 rcases bcase nb21 with c24 | c24
 ·
  refine FW.condT (b := nb21) rfl c24 ?_
  rw [hn23 c24, app_nil2] at hp
  refine FW.seq (FW.region ?_)
  refine FL.v (E.assign (v := Value.slice none 0 0) rfl) ?_
  refine FL.nil ?_
  refine FW.ret ?_
  obtain rfl := Option.some.inj hp
  exact ⟨.inr rfl, res1 rfl rfl ⟨_, _, _, _, rfl, (S0.nil 3 1), Els.nil⟩⟩
 ·
  refine FW.condF (b := nb21) rfl c24 ?_
  refine FW.skip (FW.seq (FW.region ?_))
  obtain ⟨v25, w26, run27, S28⟩ := S0.buildSlice (P := Tryz.prog) te39 [] (parts := #[]) (cells := []) rfl szs_nil fc_nil ones_nil (Nat.le_of_ble_eq_true rfl)
  have els29 : Els (up wa.heap.size Ha) eI 1 [] [] := Els.nil
  refine FL.v (E.buildSlice (B0) run27) ?_
  refine FL.v (E.move (v := v0) rfl) ?_
  obtain ⟨xs30, hz31, hp⟩ := bnd hp
  obtain ⟨v32, w35, n33, cs34, run36, S37, els38⟩ := S28.appendP (P := Tryz.prog) (Inc.rfl _) te39 (i := 0) rfl (els29.mono upI) p0 hz31
  have S37 : St Ha wa Ha w35 [.row 3 1 v32 n33 cs34] := S37
  have els38 : Els (up wa.heap.size Ha) eI 1 cs34 xs30 := els38.any (fun _ _ _ _ h => h)
  refine FL.v (E.append rfl rfl run36) ?_
  refine FL.v (E.assign (v := v32) rfl) ?_
  refine FL.nil ?_
  refine FW.ret ?_
  obtain rfl := Option.some.inj hp
  exact ⟨.inr rfl, res1 rfl rfl ⟨_, _, _, _, rfl, S37, els38⟩⟩

@[reducible] def p_slices_DeleteFunc_int_int (H0 : GH) (w0 : World) (Ha : GH) (L : List MO) (r : (List Int)) : Ending → World → Prop :=
  fun e w' => ∃ H' : GH, ∃ v0r : Value, ∃ n0r : Nat, ∃ c0r : List Value, e = .returned (v0r) ∧ (St H0 w0 H' w' (.row 3 1 v0r n0r c0r :: L) ∧ Inc Ha H') ∧ Els (up w0.heap.size H') eI 1 c0r r
theorem w_slices_DeleteFunc_int_int {H0 Ha : GH} {w0 wa : World} {L : List MO} {v0 : Value} {n0 : Nat} {k0 : List Value} (S0 : St H0 w0 Ha wa (.row 3 1 v0 n0 k0 :: L)) (a0 : List Int) (p0 : Els (up w0.heap.size Ha) eI 1 k0 a0) (v1 : Value) (a1 : Int → Option Bool) (p1 : Fn_I_to_B Tryz.prog Ha v1 a1) {r : (List Int)} (hp : (PF.slices_DeleteFunc_int_int a0 a1) = some r) :
    Calls Tryz.prog 159 #[v0, v1] wa (p_slices_DeleteFunc_int_int H0 w0 Ha L r) := by
  unfold PF.slices_DeleteFunc_int_int at hp
  refine calls_go (N := 42) (args := [v0, v1]) Tryz.func159 rfl rfl rfl ?_
  refine FW.seq (FW.region ?_)
  refine FL.v (E.assign (v := Value.slice none 0 0) rfl) ?_
  refine FL.nil (FW.seq (FW.region ?_))
  refine FL.v (E.move (v := v0) rfl) ?_
  refine FL.v (E.move (v := v1) rfl) ?_
  obtain ⟨H21, S22, i23, h24, nv25⟩ := S0.sealRowU (i := 0) (l' := L) rfl p0 (by decide) rfl
  obtain ⟨r26, hr27, hp⟩ := bnd hp
  refine FL.call rfl rfl rfl (E.call Tryz.call211 (A2 rfl rfl)) (w_slices_IndexFunc_int_int S22.sl v0 a0 (h24.mono upI) v1 a1 (p1.mono i23) hr27) ?_
  rintro e w28 ⟨rfl, r29⟩
  refine ⟨_, rfl, ?_⟩
  have r29 := Run.lend i23 S0.sl r29
  have S30 := S0.call r29
  refine FL.v (E.assign (v := Value.int .i64 r26) rfl) ?_
  refine FL.nil (FW.seq (FW.seq (FW.region ?_)))
  refine FL.v (E.move (v := Value.int .i64 r26) rfl) ?_
  refine FL.v (E.eql rfl rfl) ?_
  refine FL.nil ?_
  rcases ifB hp with ⟨c31, hp⟩ | ⟨c31, hp⟩
  ·
    refine FW.condT rfl c31 ?_
    refine FW.seq (FW.region ?_)
    refine FL.v (E.move (v := v0) rfl) ?_
    refine FL.v (E.assign (v := v0) rfl) ?_
    refine FL.nil ?_
    refine FW.ret ?_
    obtain rfl := Option.some.inj hp
    exact ⟨.inr rfl, res1 rfl rfl ⟨_, _, _, _, rfl, ⟨S30, (Inc.rfl _)⟩, p0⟩⟩
  ·
    refine FW.condF rfl c31 ?_
    refine FW.skip (FW.seq (FW.seq (FW.region ?_)))
    refine FL.v (E.move (v := Value.int .i64 r26) rfl) ?_
    refine FL.v (E.add rfl rfl) ?_
    refine FL.v (E.assign (v := Value.int .i64 (wr (r26 + 1))) rfl) ?_
    refine FL.nil ?_
    obtain ⟨q32, hq, hp⟩ := bndR hp
    refine FW.block ?_
    refine FW.mono (FW.iter (S := ((List Int) × Int × Int)) (X := Empty) (fun (s32 : ((List Int) × Int × Int)) f w => ∃ H : GH, ∃ cs78 : List Value, St H0 w0 H w (.row 3 1 v0 n0 cs78 :: L) ∧ Inc Ha H ∧ Els (up w0.heap.size H) eI 1 cs78 s32.1 ∧ f 0 = v0 ∧ f 1 = v1 ∧ f 5 = Value.int .i64 s32.2.1 ∧ f 6 = Value.int .i64 s32.2.2) (fun (q : Rs ((List Int) × Int × Int) Empty) e f w => match q with | .go s32 => e = Exit.exit 0 ∧ (∃ H : GH, ∃ cs78 : List Value, St H0 w0 H w (.row 3 1 v0 n0 cs78 :: L) ∧ Inc Ha H ∧ Els (up w0.heap.size H) eI 1 cs78 s32.1 ∧ f 0 = v0 ∧ f 5 = Value.int .i64 s32.2.1) | .rt x => x.elim) hq ⟨_, _, S30, (Inc.rfl _), p0, rfl, rfl, rfl, rfl⟩ ?_) ?_
    ·
      clear hp hq
      rintro s32 f129 w128 ⟨H125, cs78, S126, i127, els79, k130, k131, k132, k133⟩ o170 hp
      refine FW.seq (FW.seq (FW.region ?_))
      refine FL.v (E.move k133) ?_
      refine FL.v (E.move k130) ?_
      refine FL.v (E.lenO te39 rfl S126 (i := 0) rfl els79 (by decide)) ?_
      refine FL.v (E.lss rfl rfl) ?_
      refine FL.nil ?_
      rcases ifB hp with ⟨c134, hp⟩ | ⟨c134, hp⟩
      ·
        refine FW.condT rfl c134 ?_
        refine FW.skip (FW.seq (FW.block (FW.seq (FW.region ?_))))
        refine FL.v (E.move k130) ?_
        refine FL.v (E.move k133) ?_
        obtain ⟨x141, hx142, hp⟩ := bnd hp
        obtain ⟨p135, cs136, pt137, l138, at139, rel140⟩ := S126.row_at (i := 0) rfl els79 (by decide) hx142
        obtain rfl := eI_open rel140
        refine FL.v (E.indexAddr te39 rfl rfl pt137) ?_
        refine FL.v (E.load rfl (run_load0 Tryz.isAgg3 at139 rfl)) ?_
        refine FL.v (E.assign (v := Value.int .i64 x141) rfl) ?_
        refine FL.nil (FW.seq (FW.region ?_))
        refine FL.v (E.move k131) ?_
        refine FL.v (E.move (v := Value.int .i64 x141) rfl) ?_
        obtain ⟨r143, hr144, hp⟩ := bnd hp
        obtain ⟨fi148, cs149, hv150, he151, hc152⟩ := (p1.mono i127) H125 w128 (Inc.rfl _) S126.sl x141 r143 hr144
        refine FL.call rfl rfl rfl (E.callV he151 (Eq.trans rfl hv150) (appA (A1 rfl) cs149)) hc152 ?_
        rintro e w145 ⟨rfl, r146⟩
        refine ⟨_, rfl, ?_⟩
        have S147 := S126.call r146
        refine FL.v (E.not rfl) ?_
        refine FL.nil ?_
        rcases ifB hp with ⟨c153, hp⟩ | ⟨c153, hp⟩
        ·
          refine FW.condT rfl c153 ?_
          refine FW.seq (FW.region ?_)
          refine FL.v (E.move k130) ?_
          refine FL.v (E.move k132) ?_
          refine FL.v (E.move (v := Value.int .i64 x141) rfl) ?_
          obtain ⟨x160, hx161, hp⟩ := bnd hp
          obtain ⟨p154, cs155, pt156, l157, at158, rel159⟩ := S147.row_at (i := 0) rfl els79 (by decide) hx161
          obtain rfl := eI_open rel159
          refine FL.v (E.indexAddr te39 rfl rfl pt156) ?_
          obtain ⟨xs165, hput166, hp⟩ := bnd hp
          obtain ⟨w162, cs168, run163, S164, els167, ce169⟩ := S147.putEls (P := Tryz.prog) (t := 3) (i := 0) rfl els79 hput166 pt156 Tryz.sizeOf3 (u := Value.int .i64 x141) (c := [Value.int .i64 x141]) rfl rfl (ones_cons rfl ones_nil) rfl
          have S164 : St H0 w0 H125 w162 (.row 3 1 v0 n0 cs168 :: L) := S164
          refine FL.act rfl rfl (E.store rfl rfl run163) ?_
          refine FL.nil (FW.region ?_)
          refine FL.v (E.move k132) ?_
          refine FL.v (E.add rfl rfl) ?_
          refine FL.v (E.assign (v := Value.int .i64 (wr (s32.2.1 + 1))) rfl) ?_
          refine FL.nil (FW.region ?_)
          refine FL.v (E.move k133) ?_
          refine FL.v (E.add rfl rfl) ?_
          refine FL.v (E.assign (v := Value.int .i64 (wr (s32.2.2 + 1))) rfl) ?_
          refine FL.nil ?_
          obtain rfl := Option.some.inj hp
          exact ⟨rfl, ⟨_, _, S164, i127, els167, k130, k131, rfl, rfl⟩⟩
        ·
          refine FW.condF rfl c153 ?_
          refine FW.skip (FW.region ?_)
          refine FL.v (E.move k133) ?_
          refine FL.v (E.add rfl rfl) ?_
          refine FL.v (E.assign (v := Value.int .i64 (wr (s32.2.2 + 1))) rfl) ?_
          refine FL.nil ?_
          obtain rfl := Option.some.inj hp
          exact ⟨rfl, ⟨_, _, S147, i127, els79, k130, k131, k132, rfl⟩⟩
      ·
        refine FW.condF rfl c134 ?_
        refine FW.exit ?_
        obtain rfl := Option.some.inj hp
        exact ⟨nofun, rfl, ⟨_, _, S126, i127, els79, k130, k132⟩⟩
    ·
      clear hq
      intro e f175 w174 hD
      rcases q32 with s32 | x32
      ·
        obtain ⟨rfl, hD⟩ := hD
        obtain ⟨H171, cs78, S172, i173, els79, k176, k177⟩ := hD
        replace hp := el_go hp
        refine FW.seq (FW.region ?_)
        refine FL.v (E.move k176) ?_
        refine FL.v (E.move k177) ?_
        obtain ⟨xs178, hc179, hp⟩ := bnd hp
        obtain ⟨v180, run181, h182⟩ := S172.tail te39 (kk := .i64) (i := 0) rfl els79 hc179
        refine FL.v (E.slice te39 rfl (congrArg some rfl) rfl rfl (run181 _)) ?_
        obtain ⟨w183, cs184, run185, S186, els187⟩ := S172.clearTail (P := Tryz.prog) te39 (i := 0) rfl els79 h182 rfl (ones_cons rfl ones_nil)
        have S186 : St H0 w0 H171 w183 (.row 3 1 v0 n0 cs184 :: L) := S186
        refine FL.val0 rfl rfl (E.clear rfl run185) ?_
        refine FL.nil (FW.seq (FW.region ?_))
        refine FL.v (E.move k176) ?_
        refine FL.v (E.move k177) ?_
        obtain ⟨xs188, hc189, hp⟩ := bnd hp
        obtain ⟨v190, n191, cs192, run193, S194, els195, nd196⟩ := S186.cutRow te39 (kk := .i64) (i := 0) rfl els187 hc189
        have S194 : St H0 w0 H171 w183 (.row 3 1 v190 n191 cs192 :: L) := S194
        refine FL.v (E.slice te39 rfl rfl (congrArg some rfl) rfl (run193 _)) ?_
        refine FL.v (E.assign (v := v190) rfl) ?_
        refine FL.nil ?_
        refine FW.ret ?_
        obtain rfl := Option.some.inj hp
        exact ⟨.inr rfl, res1 rfl rfl ⟨_, _, _, _, rfl, ⟨S194, i173⟩, els195⟩⟩
      · exact x32.elim

theorem w_impl_withoutVar_1 {Ha : GH} {wa : World} (hs : Sl Ha wa) (a0 : Int) (q0 : Addr) (b0 : Int) (c0 : CAt Ha q0 [Value.int .i64 b0]) :
  Calls Tryz.prog 252 #[Value.int .i64 a0, Value.pointer (some q0)] wa (Sc Ha wa (Value.bool (PF.impl_withoutVar_1 a0 b0))) := by
 obtain ⟨r, hp⟩ : ∃ r, (PF.impl_withoutVar_1 a0 b0) = r := ⟨_, rfl⟩
 rw [hp]
 unfold PF.impl_withoutVar_1 at hp
 have S0 := St.init hs
 refine calls_go (N := 8) (args := [Value.int .i64 a0, Value.pointer (some q0)]) Tryz.func252 rfl rfl rfl ?_
 refine FW.seq (FW.region ?_)
 refine FL.v (E.assign (v := Value.bool false) rfl) ?_
 refine FL.nil (FW.seq ?_)
 refine FW.draw (fun w' => Run wa.heap.size Ha wa Ha w') (by kernel_rfl) (by kernel_rfl) (run_drew S0.sl) ?_
 refine FD.val rfl rfl rfl (fun w' hw' => (E.move (v := Value.int .i64 a0) rfl)) ?_
 refine FD.call rfl rfl rfl (fun w' hw' => (E.call Tryz.call158 (A1 rfl))) (fun w' hw' => Calls.cls hw' (w_impl_abs (S0.call hw').sl a0)) ?_
 refine FD.val rfl rfl rfl (fun w' hw' => (E.load rfl (run_load0 Tryz.isAgg3 (c0.now (S0.call hw').sl) rfl))) ?_
 refine FD.val rfl rfl rfl (fun w' hw' => (E.eql rfl rfl)) ?_
 refine FD.val rfl rfl rfl (fun w' hw' => (E.assign (v := Value.bool ((PF.impl_abs a0) == b0)) rfl)) ?_
 refine FD.nil ?_
 intro w22 r24
 have S23 := S0.call r24
 refine FW.ret ?_
 obtain rfl := hp
 exact ⟨.inr rfl, res1 rfl rfl ⟨rfl, S23.back⟩⟩

@[reducible] def p_impl_withoutVar (Ha : GH) (wa : World) (r : (List Int)) : Ending → World → Prop :=
 fun e w' => ∃ H' : GH, ∃ v0 : Value, ∃ n0 : Nat, ∃ c0 : List Value, e = .returned (v0) ∧ St Ha wa H' w' [.row 3 1 v0 n0 c0] ∧ Els (up wa.heap.size H') eI 1 c0 r
theorem w_impl_withoutVar {Ha : GH} {wa : World} (hs : Sl Ha wa) (v0 : Value) (a0 : List Int) (p0 : RSl Ha eI 1 v0 a0) (a1 : Int) {r : (List Int)} (hp : (PF.impl_withoutVar a0 a1) = some r) :
  Calls Tryz.prog 222 #[v0, Value.int .i64 a1] wa (p_impl_withoutVar Ha wa r) := by
 unfold PF.impl_withoutVar at hp
 have S0 := St.init hs
 refine calls_go (N := 9) (args := [v0, Value.int .i64 a1]) Tryz.func222 rfl rfl rfl ?_
 refine FW.seq (FW.region ?_)
 obtain ⟨b21, w22, run23, S24⟩ := S0.box (P := Tryz.prog) 3 [Value.int .i64 a1] (v := Value.int .i64 a1) rfl (ones_cons rfl ones_nil)
 refine FL.v (E.box rfl run23) ?_
 obtain ⟨H25, S26, i27, at28⟩ := S24.sealBox (i := 0) (l' := []) rfl rfl
 refine FL.v (E.assign (v := Value.slice none 0 0) rfl) ?_
 refine FL.nil (FW.seq (FW.region ?_))
 refine FL.v (E.move (v := v0) rfl) ?_
 obtain ⟨r29, hr30, hp⟩ := bnd hp
 refine FL.call rfl rfl rfl (E.call Tryz.call160 (A1 rfl)) (w_slices_Clone_int_int S26.sl v0 a0 (p0.mono i27) hr30) ?_
 rintro e w32 ⟨H31, v35, n36, cs37, rfl, r34, els38⟩
 refine ⟨_, rfl, ?_⟩
 have els38 := els38.mono (up_le S26.size)
 have S33 := S26.join (l' := [.row 3 1 v35 n36 cs37]) r34 rfl
 refine FL.v (E.makeFunc A0 (A1 rfl)) ?_
 obtain ⟨r39, hr40, hp⟩ := bnd hp
 refine FL.call rfl rfl rfl (E.call Tryz.call159 (A2 rfl rfl)) (w_slices_DeleteFunc_int_int (L := []) S33 r29 els38 (Value.func (.func 252) #[] #[Value.pointer (some ⟨b21, 0, none⟩)]) (fun x0 => some (PF.impl_withoutVar_1 x0 a1)) (fun H2 w2 hi2 hs2 x0 r hr => ⟨252, #[Value.pointer (some ⟨b21, 0, none⟩)], rfl, Tryz.call252, by cases hr; exact w_impl_withoutVar_1 hs2 x0 ⟨b21, 0, none⟩ a1 ((at28.mono r34.run.inc).mono hi2)⟩) hr40) ?_
 rintro e w42 ⟨H41, v45, n46, cs47, rfl, ⟨S43, i44⟩, els48⟩
 refine ⟨_, rfl, ?_⟩
 have S43 : St Ha wa H41 w42 [.row 3 1 v45 n46 cs47] := S43
 refine FL.v (E.assign (v := v45) rfl) ?_
 refine FL.nil ?_
 refine FW.ret ?_
 obtain rfl := Option.some.inj hp
 exact ⟨.inr rfl, res1 rfl rfl ⟨_, _, _, _, rfl, S43, els48⟩⟩

@[reducible] def p_slices_Grow_int_int (Ha : GH) (wa : World) (r : List Int) : Ending → World → Prop :=
  fun e w' => ∃ H' : GH, ∃ v0 : Value, ∃ n0 : Nat, ∃ c0 : List Value, e = .returned (v0) ∧ St Ha wa H' w' [.row 3 1 v0 n0 c0] ∧ Els (up wa.heap.size H') eI 1 c0 r
theorem w_slices_Grow_int_int {Ha : GH} {wa : World} (hs : Sl Ha wa) (a1 : Int) {r : List Int} (hp : PF.slices_Grow_int_int a1 = some r) :
    Calls Tryz.prog 267 #[.slice none 0 0, .int .i64 a1] wa (p_slices_Grow_int_int Ha wa r) := by
  unfold PF.slices_Grow_int_int at hp
  split at hp
  · rename_i h
    cases hp
    refine (growNil (En := eI) te39 hs h.1 h.2 (fun w => Any8.slices_Grow_room (P := Tryz.prog) Tryz.grow267 none 0 0 0 w (Nat.le_refl _) (by decide) (by decide) (by decide))
      (fun n w h0 hl => ?_)).mono ?_
    · have h := Any8.slices_Grow_grow (P := Tryz.prog) Tryz.grow267 _ _ Tryz.type3 rfl (by decide) none 0 0 n [] w (Nat.le_refl _) (by omega) ?_ (by unfold lim at hl; omega) (by simp) (fun _ => rfl) (by simp)
      · refine h.mono ?_
        rintro _ _ ⟨rfl, rfl⟩
        refine ⟨by simp; rfl, ?_⟩
        simp
        rfl
      · rw [Nat.zero_add]; refine Nat.le_trans (Nat.mul_le_mul hl (show _ ≤ 4096 by decide)) (by decide)
    · rintro e w' ⟨v, n, c, rfl, h1, h2⟩
      exact ⟨_, _, _, _, rfl, h1, h2 _⟩
  · cases hp

@[reducible] def p_slices_Concat_int_int (Ha : GH) (wa : World) (r : (List Int)) : Ending → World → Prop :=
  fun e w' => ∃ H' : GH, ∃ v0 : Value, ∃ n0 : Nat, ∃ c0 : List Value, e = .returned (v0) ∧ St Ha wa H' w' [.row 3 1 v0 n0 c0] ∧ Els (up wa.heap.size H') eI 1 c0 r
theorem w_slices_Concat_int_int {Ha : GH} {wa : World} (hs : Sl Ha wa) (v0 : Value) (a0 : List (List Int)) (p0 : RSl Ha (eL eI 1) 1 v0 a0) {r : (List Int)} (hp : (PF.slices_Concat_int_int a0) = some r) :
    Calls Tryz.prog 250 #[v0] wa (p_slices_Concat_int_int Ha wa r) := by
  unfold PF.slices_Concat_int_int at hp
  have S0 := St.init hs
  refine calls_go (N := 36) (args := [v0]) Tryz.func250 rfl rfl rfl ?_
  refine FW.seq (FW.region ?_)
  refine FL.v (E.assign (v := Value.slice none 0 0) rfl) ?_
  refine FL.nil (FW.seq (FW.region ?_))
  refine FL.v (E.assign (v := Value.int .i64 0) rfl) ?_
  refine FL.nil (FW.seq (FW.seq (FW.region ?_)))
  refine FL.v (E.move (v := v0) rfl) ?_
  refine FL.v (E.lenP te22 rfl p0) ?_
  refine FL.v (E.move (v := Value.int .i64 0) rfl) ?_
  refine FL.nil ?_
  obtain ⟨q22, hq, hp⟩ := bndR hp
  refine FW.block ?_
  refine FW.mono (FW.forL (S := Int) (X := Empty) (fun (i22 : Nat) (s22 : Int) f w => ∃ H : GH, St Ha wa H w [] ∧ Inc Ha H ∧ f 11 = Value.int .i64 ((i22 : Nat) : Int) ∧ f 0 = v0 ∧ f 3 = Value.int .i64 s22 ∧ f 9 = v0 ∧ f 10 = Value.int .i64 (len a0)) (fun (q : Rs Int Empty) e f w => match q with | .go s22 => e = Exit.exit 0 ∧ (∃ H : GH, St Ha wa H w [] ∧ Inc Ha H ∧ f 0 = v0 ∧ f 3 = Value.int .i64 s22) | .rt x => x.elim) hq ⟨_, S0, (Inc.rfl _), rfl, rfl, rfl, rfl, rfl⟩ ?_ ?_) ?_
  ·
    clear hp hq
    rintro i22 y21 s22 f46 w45 ⟨H42, S43, i44, k47, k48, k49, k50, k51⟩ hx22 o61 hp
    refine FW.seq (FW.region ?_)
    refine FL.v (E.lssT k47 k51 (lss_len hx22)) ?_
    refine FL.nil (FW.seq ?_)
    refine FW.condT rfl rfl ?_
    refine FW.skip (FW.seq (FW.block (FW.seq (FW.region ?_))))
    obtain ⟨p52, cs53, pt54, l55, at56, rel57⟩ := p0.at (ix_nat hx22)
    obtain ⟨v58, rfl, h59⟩ := eL_open rel57
    refine FL.v (E.indexAddr te22 k50 k47 pt54) ?_
    refine FL.v (E.load rfl (run_load0 Tryz.isAgg39 ((at56.mono i44).now S43.sl) rfl)) ?_
    refine FL.v (E.assign (v := v58) rfl) ?_
    refine FL.nil (FW.seq (FW.region ?_))
    refine FL.v (E.move k49) ?_
    refine FL.v (E.move (v := v58) rfl) ?_
    refine FL.v (E.lenP te39 rfl h59) ?_
    refine FL.v (E.add rfl rfl) ?_
    refine FL.v (E.assign (v := Value.int .i64 (wr (s22 + (len y21)))) rfl) ?_
    refine FL.nil (FW.seq (FW.region ?_))
    refine FL.v (E.move (v := Value.int .i64 (wr (s22 + (len y21)))) rfl) ?_
    refine FL.v (E.lss rfl rfl) ?_
    refine FL.nil ?_
    rcases ifB hp with ⟨c60, hp⟩ | ⟨c60, hp⟩
    ·
      refine FW.condT rfl c60 ?_
      cases hp
    ·
      refine FW.condF rfl c60 ?_
      refine FW.skip (FW.region ?_)
      refine FL.v (E.add k47 rfl) ?_
      refine FL.v (E.move (v := Value.int .i64 (wr (((i22 : Nat) : Int) + 1))) rfl) ?_
      refine FL.nil ?_
      obtain rfl := Option.some.inj hp
      exact ⟨rfl, ⟨_, S43, i44, (nat_succ rfl (lt_of_get hx22) (p0.mono i44).le), k48, rfl, k50, k51⟩⟩
  ·
    clear hp hq
    rintro s22 f159 w158 ⟨H155, S156, i157, k160, k161, k162, k163, k164⟩
    refine FW.seq (FW.region ?_)
    refine FL.v (E.lss k160 k164) ?_
    refine FL.nil (FW.seq ?_)
    refine FW.condF rfl dlt_len ?_
    refine FW.exit ?_
    exact ⟨nofun, rfl, ⟨_, S156, i157, k161, k162⟩⟩
  ·
    clear hq
    intro e f66 w65 hD
    rcases q22 with s22 | x22
    ·
      obtain ⟨rfl, hD⟩ := hD
      obtain ⟨H62, S63, i64, k67, k68⟩ := hD
      replace hp := el_go hp
      refine FW.seq (FW.region ?_)
      refine FL.v (E.move k68) ?_
      obtain ⟨r69, hr70, hp⟩ := bnd hp
      refine FL.call rfl rfl rfl (E.call Tryz.call267 (A2 rfl rfl)) (w_slices_Grow_int_int S63.sl s22 hr70) ?_
      rintro e w72 ⟨H71, v75, n76, cs77, rfl, r74, els78⟩
      refine ⟨_, rfl, ?_⟩
      have els78 := els78.mono (up_le S63.size)
      have S73 := S63.join (l' := [.row 3 1 v75 n76 cs77]) r74 rfl
      refine FL.v (E.assign (v := v75) rfl) ?_
      refine FL.nil (FW.seq (FW.seq (FW.region ?_)))
      refine FL.v (E.move k67) ?_
      refine FL.v (E.lenP te22 rfl p0) ?_
      refine FL.v (E.move (v := Value.int .i64 0) rfl) ?_
      refine FL.nil ?_
      obtain ⟨q80, hq, hp⟩ := bndR hp
      refine FW.block ?_
      refine FW.mono (FW.forL (S := (List Int)) (X := Empty) (fun (i80 : Nat) (s80 : (List Int)) f w => ∃ H : GH, ∃ v81 : Value, ∃ n82 : Nat, ∃ cs83 : List Value, St Ha wa H w [.row 3 1 v81 n82 cs83] ∧ Inc H71 H ∧ Els (up wa.heap.size H) eI 1 cs83 s80 ∧ f 27 = Value.int .i64 ((i80 : Nat) : Int) ∧ f 6 = v81 ∧ f 25 = v0 ∧ f 26 = Value.int .i64 (len a0)) (fun (q : Rs (List Int) Empty) e f w => match q with | .go s80 => e = Exit.exit 2 ∧ (∃ H : GH, ∃ v81 : Value, ∃ n82 : Nat, ∃ cs83 : List Value, St Ha wa H w [.row 3 1 v81 n82 cs83] ∧ Inc H71 H ∧ Els (up wa.heap.size H) eI 1 cs83 s80 ∧ f 6 = v81) | .rt x => x.elim) hq ⟨_, _, _, _, S73, (Inc.rfl _), els78, rfl, rfl, rfl, rfl⟩ ?_ ?_) ?_
      ·
        clear hp hq
        rintro i80 y79 s80 f116 w115 ⟨H112, v81, n82, cs83, S113, i114, els84, k117, k118, k119, k120⟩ hx80 o139 hp
        refine FW.seq (FW.region ?_)
        refine FL.v (E.lssT k117 k120 (lss_len hx80)) ?_
        refine FL.nil (FW.seq ?_)
        refine FW.condT rfl rfl ?_
        refine FW.skip (FW.seq (FW.block (FW.seq (FW.region ?_))))
        obtain ⟨p121, cs122, pt123, l124, at125, rel126⟩ := p0.at (ix_nat hx80)
        obtain ⟨v127, rfl, h128⟩ := eL_open rel126
        refine FL.v (E.indexAddr te22 k119 k117 pt123) ?_
        refine FL.v (E.load rfl (run_load0 Tryz.isAgg39 ((at125.mono ((i64.tr r74.run.inc).tr i114)).now S113.sl) rfl)) ?_
        refine FL.v (E.assign (v := v127) rfl) ?_
        refine FL.nil (FW.region ?_)
        refine FL.v (E.move k118) ?_
        refine FL.v (E.move (v := v127) rfl) ?_
        obtain ⟨xs129, hz130, hp⟩ := bnd hp
        obtain ⟨v131, w134, n132, cs133, run135, S136, els137⟩ := S113.appendP (P := Tryz.prog) (Inc.rfl _) te39 (i := 0) rfl (els84.mono upI) (h128.mono ((i64.tr r74.run.inc).tr i114)) hz130
        have S136 : St Ha wa H112 w134 [.row 3 1 v131 n132 cs133] := S136
        have els137 : Els (up wa.heap.size H112) eI 1 cs133 xs129 := els137.any (fun _ _ _ _ h => h)
        refine FL.v (E.append rfl rfl run135) ?_
        refine FL.v (E.assign (v := v131) rfl) ?_
        refine FL.nil (FW.region ?_)
        refine FL.v (E.add k117 rfl) ?_
        refine FL.v (E.move (v := Value.int .i64 (wr (((i80 : Nat) : Int) + 1))) rfl) ?_
        refine FL.nil ?_
        obtain rfl := Option.some.inj hp
        exact ⟨rfl, ⟨_, _, _, _, S136, i114, els137, (nat_succ rfl (lt_of_get hx80) (p0.mono ((i64.tr r74.run.inc).tr i114)).le), rfl, k119, k120⟩⟩
      ·
        clear hp hq
        rintro s80 f150 w149 ⟨H146, v81, n82, cs83, S147, i148, els84, k151, k152, k153, k154⟩
        refine FW.seq (FW.region ?_)
        refine FL.v (E.lss k151 k154) ?_
        refine FL.nil (FW.seq ?_)
        refine FW.condF rfl dlt_len ?_
        refine FW.exit ?_
        exact ⟨nofun, rfl, ⟨_, _, _, _, S147, i148, els84, k152⟩⟩
      ·
        clear hq
        intro e f144 w143 hD
        rcases q80 with s80 | x80
        ·
          obtain ⟨rfl, hD⟩ := hD
          obtain ⟨H140, v81, n82, cs83, S141, i142, els84, k145⟩ := hD
          replace hp := el_go hp
          refine FW.seq (FW.region ?_)
          refine FL.v (E.move k145) ?_
          refine FL.v (E.assign (v := v81) rfl) ?_
          refine FL.nil ?_
          refine FW.ret ?_
          obtain rfl := Option.some.inj hp
          exact ⟨.inr rfl, res1 rfl rfl ⟨_, _, _, _, rfl, S141, els84⟩⟩
        · exact x80.elim
    · exact x22.elim

@[reducible] def p_slices_SortFunc_int_int (H0 : GH) (w0 : World) (Ha : GH) (L : List MO) (v0 : Value) (n0 : Nat) (r : (List Int)) : Ending → World → Prop :=
 fun e w' => ∃ H' : GH, ∃ c0k : List Value, e = .returned (Value.tuple #[]) ∧ (St H0 w0 H' w' (.row 3 1 v0 n0 c0k :: L) ∧ Inc Ha H') ∧ Els (up w0.heap.size H') eI 1 c0k r
theorem w_slices_SortFunc_int_int {H0 Ha : GH} {w0 wa : World} {L : List MO} {v0 : Value} {n0 : Nat} {k0 : List Value} (S0 : St H0 w0 Ha wa (.row 3 1 v0 n0 k0 :: L)) (a0 : List Int) (p0 : Els (up w0.heap.size Ha) eI 1 k0 a0) (v1 : Value) (a1 : Int → Int → Option Int) (p1 : Fn_I_I_to_I Tryz.prog Ha v1 a1) {r : (List Int)} (hp : (PF.slices_SortFunc_int_int a0 a1) = some r) :
  Calls Tryz.prog 264 #[v0, v1] wa (p_slices_SortFunc_int_int H0 w0 Ha L v0 n0 r) := by
 refine (St.sortF (l := .row 3 1 v0 n0 k0 :: L) (i := 0) upI S0 rfl p0 (fun H2 w2 hi hs2 c x hc d y hd r hr => by cases eI_open hc; cases eI_open hd; exact p1 H2 w2 hi hs2 x y r hr) (fun p cap fv w => AnyF.slices_SortFunc_none (P := Tryz.prog) (ρ := Tryz.sort264_ren) { Tryz.sort264 with } p cap fv w) (fun α _ enc h1 cf hO g cb blk off cap d w eg hc hH hb hs => Any.slices_SortFunc Tryz.sort264 enc h1 cf hO g cb blk off cap d w eg hc hH hb hs) hp).mono ?_
 rintro e w' ⟨rfl, c', h1, h2⟩
 exact ⟨_, _, rfl, ⟨h1, Inc.rfl _⟩, h2⟩

theorem w_cmp_isNaN_int {Ha : GH} {wa : World} (hs : Sl Ha wa) (a0 : Int) :
  Calls Tryz.prog 281 #[Value.int .i64 a0] wa (Sc Ha wa (Value.bool (PF.cmp_isNaN_int a0))) := by
 obtain ⟨r, hp⟩ : ∃ r, (PF.cmp_isNaN_int a0) = r := ⟨_, rfl⟩
 rw [hp]
 unfold PF.cmp_isNaN_int at hp
 have S0 := St.init hs
 refine calls_go (N := 6) (args := [Value.int .i64 a0]) Tryz.func281 rfl rfl rfl ?_
 refine FW.seq (FW.region ?_)
 refine FL.v (E.assign (v := Value.bool false) rfl) ?_
 refine FL.nil (FW.seq (FW.region ?_))
 refine FL.v (E.move (v := Value.int .i64 a0) rfl) ?_
 refine FL.v (E.move (v := Value.int .i64 a0) rfl) ?_
 refine FL.v (E.neq rfl rfl) ?_
 refine FL.v (E.assign (v := Value.bool (!(a0 == a0))) rfl) ?_
 refine FL.nil ?_
 refine FW.ret ?_
 obtain rfl := hp
 exact ⟨.inr rfl, res1 rfl rfl ⟨rfl, S0.back⟩⟩

theorem w_cmp_Compare_int {Ha : GH} {wa : World} (hs : Sl Ha wa) (a0 : Int) (a1 : Int) :
  Calls Tryz.prog 261 #[Value.int .i64 a0, Value.int .i64 a1] wa (Sc Ha wa (Value.int .i64 (PF.cmp_Compare_int a0 a1))) := by
 obtain ⟨r, hp⟩ : ∃ r, (PF.cmp_Compare_int a0 a1) = r := ⟨_, rfl⟩
 rw [hp]
 unfold PF.cmp_Compare_int at hp
 have S0 := St.init hs
 refine calls_go (N := 20) (args := [Value.int .i64 a0, Value.int .i64 a1]) Tryz.func261 rfl rfl rfl ?_
 refine FW.seq (FW.region ?_)
 refine FL.v (E.assign (v := Value.int .i64 0) rfl) ?_
 refine FL.nil (FW.seq (FW.region ?_))
 refine FL.v (E.move (v := Value.int .i64 a0) rfl) ?_
 refine FL.call rfl rfl rfl (E.call Tryz.call281 (A1 rfl)) (w_cmp_isNaN_int S0.sl a0) ?_
 rintro e w21 ⟨rfl, r22⟩
 refine ⟨_, rfl, ?_⟩
 have S23 := S0.call r22
 refine FL.v (E.assign (v := Value.bool (PF.cmp_isNaN_int a0)) rfl) ?_
 refine FL.nil (FW.seq (FW.region ?_))
 refine FL.v (E.move (v := Value.int .i64 a1) rfl) ?_
 refine FL.call rfl rfl rfl (E.call Tryz.call281 (A1 rfl)) (w_cmp_isNaN_int S23.sl a1) ?_
 rintro e w24 ⟨rfl, r25⟩
 refine ⟨_, rfl, ?_⟩
 have S26 := S23.call r25
 refine FL.v (E.assign (v := Value.bool (PF.cmp_isNaN_int a1)) rfl) ?_
 refine FL.nil (FW.seq (FW.seq (FW.region ?_)))
 refine FL.v (E.move (v := Value.bool (PF.cmp_isNaN_int a0)) rfl) ?_
 refine FL.nil ?_
 rcases ifT hp with ⟨c27, hp⟩ | ⟨c27, hp⟩
 ·
  refine FW.condT rfl c27 ?_
  refine FW.seq (FW.seq (FW.region ?_))
  refine FL.v (E.move (v := Value.bool (PF.cmp_isNaN_int a1)) rfl) ?_
  refine FL.nil ?_
  rcases ifT hp with ⟨c28, hp⟩ | ⟨c28, hp⟩
  ·
   refine FW.condT rfl c28 ?_
   refine FW.seq (FW.region ?_)
   refine FL.v (E.assign (v := Value.int .i64 0) rfl) ?_
   refine FL.nil ?_
   refine FW.ret ?_
   obtain rfl := hp
   exact ⟨.inr rfl, res1 rfl rfl ⟨rfl, S26.back⟩⟩
  ·
   refine FW.condF rfl c28 ?_
   refine FW.skip (FW.seq (FW.region ?_))
   refine FL.v (E.assign (v := Value.int .i64 (-1)) rfl) ?_
   refine FL.nil ?_
   refine FW.ret ?_
   obtain rfl := hp
   exact ⟨.inr rfl, res1 rfl rfl ⟨rfl, S26.back⟩⟩
 ·
  refine FW.condF rfl c27 ?_
  refine FW.skip (FW.seq (FW.seq (FW.region ?_)))
  refine FL.v (E.move (v := Value.bool (PF.cmp_isNaN_int a1)) rfl) ?_
  refine FL.nil ?_
  rcases ifT hp with ⟨c29, hp⟩ | ⟨c29, hp⟩
  ·
   refine FW.condT rfl c29 ?_
   refine FW.seq (FW.region ?_)
   refine FL.v (E.assign (v := Value.int .i64 1) rfl) ?_
   refine FL.nil ?_
   refine FW.ret ?_
   obtain rfl := hp
   exact ⟨.inr rfl, res1 rfl rfl ⟨rfl, S26.back⟩⟩
  ·
   refine FW.condF rfl c29 ?_
   refine FW.skip (FW.seq (FW.seq (FW.region ?_)))
   refine FL.v (E.move (v := Value.int .i64 a0) rfl) ?_
   refine FL.v (E.move (v := Value.int .i64 a1) rfl) ?_
   refine FL.v (E.lss rfl rfl) ?_
   refine FL.nil ?_
   rcases ifT hp with ⟨c30, hp⟩ | ⟨c30, hp⟩
   ·
    refine FW.condT rfl c30 ?_
    refine FW.seq (FW.region ?_)
    refine FL.v (E.assign (v := Value.int .i64 (-1)) rfl) ?_
    refine FL.nil ?_
    refine FW.ret ?_
    obtain rfl := hp
    exact ⟨.inr rfl, res1 rfl rfl ⟨rfl, S26.back⟩⟩
   ·
    refine FW.condF rfl c30 ?_
    refine FW.skip (FW.seq (FW.seq (FW.region ?_)))
    refine FL.v (E.move (v := Value.int .i64 a0) rfl) ?_
    refine FL.v (E.move (v := Value.int .i64 a1) rfl) ?_
    refine FL.v (E.gtr rfl rfl) ?_
    refine FL.nil ?_
    rcases ifT hp with ⟨c31, hp⟩ | ⟨c31, hp⟩
    ·
     refine FW.condT rfl c31 ?_
     refine FW.seq (FW.region ?_)
     refine FL.v (E.assign (v := Value.int .i64 1) rfl) ?_
     refine FL.nil ?_
     refine FW.ret ?_
     obtain rfl := hp
     exact ⟨.inr rfl, res1 rfl rfl ⟨rfl, S26.back⟩⟩
    ·
     refine FW.condF rfl c31 ?_
     refine FW.skip (FW.seq (FW.region ?_))
     refine FL.v (E.assign (v := Value.int .i64 0) rfl) ?_
     refine FL.nil ?_
     refine FW.ret ?_
     obtain rfl := hp
     exact ⟨.inr rfl, res1 rfl rfl ⟨rfl, S26.back⟩⟩

theorem w_cmp_Or_int {Ha : GH} {wa : World} (hs : Sl Ha wa) (v0 : Value) (a0 : List Int) (p0 : RSl Ha eI 1 v0 a0) {r : Int} (hp : (PF.cmp_Or_int a0) = some r) :
  Calls Tryz.prog 260 #[v0] wa (Sc Ha wa (Value.int .i64 r)) := by
 unfold PF.cmp_Or_int at hp
 have S0 := St.init hs
 refine calls_go (N := 18) (args := [v0]) Tryz.func260 rfl rfl rfl ?_
 refine FW.seq (FW.region ?_)
 refine FL.v (E.assign (v := Value.int .i64 0) rfl) ?_
 refine FL.nil (FW.seq (FW.region ?_))
 refine FL.v (E.assign (v := Value.int .i64 0) rfl) ?_
 refine FL.nil (FW.seq (FW.seq (FW.region ?_)))
 refine FL.v (E.move (v := v0) rfl) ?_
 refine FL.v (E.lenP te39 rfl p0) ?_
 refine FL.v (E.move (v := Value.int .i64 0) rfl) ?_
 refine FL.nil ?_
 obtain ⟨q22, hq, hp⟩ := bndR hp
 refine FW.block ?_
 refine FW.mono (FW.forL (S := Unit) (X := Int) (fun (i22 : Nat) (s22 : Unit) f w => ∃ H : GH, St Ha wa H w [] ∧ Inc Ha H ∧ f 8 = Value.int .i64 ((i22 : Nat) : Int) ∧ f 3 = Value.int .i64 0 ∧ f 6 = v0 ∧ f 7 = Value.int .i64 (len a0)) (fun q e f w => match q with | .go s22 => e = Exit.exit 0 ∧ (∃ H : GH, St Ha wa H w [] ∧ Inc Ha H ∧ f 3 = Value.int .i64 0) | .rt x => ((e = Exit.ret) ∧ (fun e f w => (e = Exit.normal ∨ e = Exit.ret) ∧ ∀ a, Fr (δ := []) 18 a f → ∃ v, (results Tryz.f260 a.tmps).run Tryz.prog w = .ok v w ∧ (Sc Ha wa (Value.int .i64 x)) (.returned v) w) e f w)) hq ⟨_, S0, (Inc.rfl _), rfl, rfl, rfl, rfl⟩ ?_ ?_) ?_
 ·
  clear hp hq
  rintro i22 y21 s22 f43 w42 ⟨H39, S40, i41, k44, k45, k46, k47⟩ hx22 o55 hp
  refine FW.seq (FW.region ?_)
  refine FL.v (E.lssT k44 k47 (lss_len hx22)) ?_
  refine FL.nil (FW.seq ?_)
  refine FW.condT rfl rfl ?_
  refine FW.skip (FW.seq (FW.block (FW.seq (FW.region ?_))))
  obtain ⟨p48, cs49, pt50, l51, at52, rel53⟩ := p0.at (ix_nat hx22)
  obtain rfl := eI_open rel53
  refine FL.v (E.indexAddr te39 k46 k44 pt50) ?_
  refine FL.v (E.load rfl (run_load0 Tryz.isAgg3 ((at52.mono i41).now S40.sl) rfl)) ?_
  refine FL.v (E.assign (v := Value.int .i64 y21) rfl) ?_
  refine FL.nil (FW.seq (FW.region ?_))
  refine FL.v (E.move (v := Value.int .i64 y21) rfl) ?_
  refine FL.v (E.move k45) ?_
  refine FL.v (E.neq rfl rfl) ?_
  refine FL.nil ?_
  rcases ifB hp with ⟨c54, hp⟩ | ⟨c54, hp⟩
  ·
   refine FW.condT rfl c54 ?_
   refine FW.seq (FW.region ?_)
   refine FL.v (E.move (v := Value.int .i64 y21) rfl) ?_
   refine FL.v (E.assign (v := Value.int .i64 y21) rfl) ?_
   refine FL.nil ?_
   refine FW.ret ?_
   obtain rfl := Option.some.inj hp
   exact ⟨nofun, rfl, ⟨.inr rfl, res1 rfl rfl ⟨rfl, S40.back⟩⟩⟩
  ·
   refine FW.condF rfl c54 ?_
   refine FW.skip (FW.region ?_)
   refine FL.v (E.add k44 rfl) ?_
   refine FL.v (E.move (v := Value.int .i64 (wr (((i22 : Nat) : Int) + 1))) rfl) ?_
   refine FL.nil ?_
   obtain rfl := Option.some.inj hp
   exact ⟨rfl, ⟨_, S40, i41, (nat_succ rfl (lt_of_get hx22) (p0.mono i41).le), k45, k46, k47⟩⟩
 ·
  clear hp hq
  rintro s22 f66 w65 ⟨H62, S63, i64, k67, k68, k69, k70⟩
  refine FW.seq (FW.region ?_)
  refine FL.v (E.lss k67 k70) ?_
  refine FL.nil (FW.seq ?_)
  refine FW.condF rfl dlt_len ?_
  refine FW.exit ?_
  exact ⟨nofun, rfl, ⟨_, S63, i64, k68⟩⟩
 ·
  clear hq
  intro e f60 w59 hD
  rcases q22 with s22 | x22
  ·
   obtain ⟨rfl, hD⟩ := hD
   obtain ⟨H56, S57, i58, k61⟩ := hD
   replace hp := el_go hp
   refine FW.seq (FW.region ?_)
   refine FL.v (E.move k61) ?_
   refine FL.v (E.assign (v := Value.int .i64 0) rfl) ?_
   refine FL.nil ?_
   refine FW.ret ?_
   obtain rfl := Option.some.inj hp
   exact ⟨.inr rfl, res1 rfl rfl ⟨rfl, S57.back⟩⟩
  ·
   obtain ⟨he, hL⟩ := hD
   replace hp := el_rt hp
   obtain rfl := Option.some.inj hp
   subst he
   exact hL

theorem w_impl_compareLiterals {Ha : GH} {wa : World} (hs : Sl Ha wa) (a0 : Int) (a1 : Int) {r : Int} (hp : (PF.impl_compareLiterals a0 a1) = some r) :
  Calls Tryz.prog 265 #[Value.int .i64 a0, Value.int .i64 a1] wa (Sc Ha wa (Value.int .i64 r)) := by
 unfold PF.impl_compareLiterals at hp
 have S0 := St.init hs
 refine calls_go (N := 15) (args := [Value.int .i64 a0, Value.int .i64 a1]) Tryz.func265 rfl rfl rfl ?_
 refine FW.seq (FW.region ?_)
 refine FL.v (E.assign (v := Value.int .i64 0) rfl) ?_
 refine FL.nil (FW.seq (FW.region ?_))
 refine FL.v (E.move (v := Value.int .i64 a0) rfl) ?_
 refine FL.call rfl rfl rfl (E.call Tryz.call158 (A1 rfl)) (w_impl_abs S0.sl a0) ?_
 rintro e w21 ⟨rfl, r22⟩
 refine ⟨_, rfl, ?_⟩
 have S23 := S0.call r22
 refine FL.v (E.move (v := Value.int .i64 a1) rfl) ?_
 refine FL.call rfl rfl rfl (E.call Tryz.call158 (A1 rfl)) (w_impl_abs S23.sl a1) ?_
 rintro e w24 ⟨rfl, r25⟩
 refine ⟨_, rfl, ?_⟩
 have S26 := S23.call r25
 refine FL.call rfl rfl rfl (E.call Tryz.call261 (A2 rfl rfl)) (w_cmp_Compare_int S26.sl (PF.impl_abs a0) (PF.impl_abs a1)) ?_
 rintro e w27 ⟨rfl, r28⟩
 refine ⟨_, rfl, ?_⟩
 have S29 := S26.call r28
 refine FL.v (E.move (v := Value.int .i64 a1) rfl) ?_
 refine FL.v (E.move (v := Value.int .i64 a0) rfl) ?_
 refine FL.call rfl rfl rfl (E.call Tryz.call261 (A2 rfl rfl)) (w_cmp_Compare_int S29.sl a1 a0) ?_
 rintro e w30 ⟨rfl, r31⟩
 refine ⟨_, rfl, ?_⟩
 have S32 := S29.call r31
 obtain ⟨v33, w34, run35, S36⟩ := S32.buildSlice (P := Tryz.prog) te39 [Value.int .i64 (PF.cmp_Compare_int (PF.impl_abs a0) (PF.impl_abs a1)), Value.int .i64 (PF.cmp_Compare_int a1 a0)] (parts := #[(0, Value.int .i64 (PF.cmp_Compare_int (PF.impl_abs a0) (PF.impl_abs a1))), (1, Value.int .i64 (PF.cmp_Compare_int a1 a0))]) (cells := [Value.int .i64 (PF.cmp_Compare_int (PF.impl_abs a0) (PF.impl_abs a1)), Value.int .i64 (PF.cmp_Compare_int a1 a0)]) rfl (szs_cons rfl (szs_cons rfl szs_nil)) (fc_cons rfl (fc_cons rfl fc_nil)) (ones_cons rfl (ones_cons rfl ones_nil)) (Nat.le_of_ble_eq_true rfl)
 have els37 : Els (up wa.heap.size Ha) eI 1 [Value.int .i64 (PF.cmp_Compare_int (PF.impl_abs a0) (PF.impl_abs a1)), Value.int .i64 (PF.cmp_Compare_int a1 a0)] [(PF.cmp_Compare_int (PF.impl_abs a0) (PF.impl_abs a1)), (PF.cmp_Compare_int a1 a0)] := (Els.snoc (H := (up wa.heap.size Ha)) (E := eI) (k := 1) (c := [Value.int .i64 (PF.cmp_Compare_int a1 a0)]) (x := (PF.cmp_Compare_int a1 a0)) (Els.snoc (H := (up wa.heap.size Ha)) (E := eI) (k := 1) (c := [Value.int .i64 (PF.cmp_Compare_int (PF.impl_abs a0) (PF.impl_abs a1))]) (x := (PF.cmp_Compare_int (PF.impl_abs a0) (PF.impl_abs a1))) Els.nil rfl rfl) rfl rfl)
 refine FL.v (E.buildSlice (B2 rfl rfl) run35) ?_
 obtain ⟨H38, S39, i40, h41, nv42⟩ := S36.sealRowU (i := 0) (l' := []) rfl els37 (by decide) rfl
 obtain ⟨r43, hr44, hp⟩ := bnd hp
 refine FL.call rfl rfl rfl (E.call Tryz.call260 (A1 rfl)) (w_cmp_Or_int S39.sl v33 [(PF.cmp_Compare_int (PF.impl_abs a0) (PF.impl_abs a1)), (PF.cmp_Compare_int a1 a0)] (h41.mono upI) hr44) ?_
 rintro e w45 ⟨rfl, r46⟩
 refine ⟨_, rfl, ?_⟩
 have r46 := Run.lend i40 S36.sl r46
 have S47 := S36.call r46
 refine FL.v (E.assign (v := Value.int .i64 r43) rfl) ?_
 refine FL.nil ?_
 refine FW.ret ?_
 obtain rfl := Option.some.inj hp
 exact ⟨.inr rfl, res1 rfl rfl ⟨rfl, S47.back⟩⟩

@[reducible] def p_slices_Compact_int_int (H0 : GH) (w0 : World) (Ha : GH) (L : List MO) (r : (List Int)) : Ending → World → Prop :=
 fun e w' => ∃ H' : GH, ∃ v0r : Value, ∃ n0r : Nat, ∃ c0r : List Value, e = .returned (v0r) ∧ (St H0 w0 H' w' (.row 3 1 v0r n0r c0r :: L) ∧ Inc Ha H') ∧ Els (up w0.heap.size H') eI 1 c0r r
theorem w_slices_Compact_int_int {H0 Ha : GH} {w0 wa : World} {L : List MO} {v0 : Value} {n0 : Nat} {k0 : List Value} (S0 : St H0 w0 Ha wa (.row 3 1 v0 n0 k0 :: L)) (a0 : List Int) (p0 : Els (up w0.heap.size Ha) eI 1 k0 a0) {r : (List Int)} (hp : (PF.slices_Compact_int_int a0) = some r) :
  Calls Tryz.prog 266 #[v0] wa (p_slices_Compact_int_int H0 w0 Ha L r) := by
 cases hp
 refine (St.compactF (l := .row 3 1 v0 n0 k0 :: L) (i := 0) S0 rfl p0 (enc := Value.int .i64) (fun _ => rfl) (fun _ _ _ h => by cases eI_open h; rfl) (fun _ _ => rfl) 0 (fun w => compact_none Tryz.comp266 w) (fun blk off cap d w hH hs hc => AnyE.slices_Compact Tryz.comp266 (Value.int .i64) (fun _ => rfl) (EqlAt.intD _ _ _) (NeqAt.intD _ _ _) 0 (fun w => Tryz.zeroValue3 w) blk off cap d w hH hs hc)).mono ?_
 rintro e w' ⟨v', n', c', rfl, h1, h2⟩
 exact ⟨_, _, _, _, rfl, ⟨h1, Inc.rfl _⟩, h2⟩

@[reducible] def p_impl_clause (Ha : GH) (wa : World) (r : ((List Int) × Bool)) : Ending → World → Prop :=
 fun e w' => ∃ H' : GH, ∃ v0 : Value, ∃ n0 : Nat, ∃ c0 : List Value, e = .returned (Value.tuple #[v0, Value.bool r.2]) ∧ St Ha wa H' w' [.row 3 1 v0 n0 c0] ∧ Els (up wa.heap.size H') eI 1 c0 r.1
theorem w_impl_clause {Ha : GH} {wa : World} (hs : Sl Ha wa) (v0 : Value) (a0 : List Int) (p0 : RSl Ha eI 1 v0 a0) {r : ((List Int) × Bool)} (hp : (PF.impl_clause a0) = some r) :
  Calls Tryz.prog 249 #[v0] wa (p_impl_clause Ha wa r) := by
 unfold PF.impl_clause at hp
 have S0 := St.init hs
 refine calls_go (N := 30) (args := [v0]) Tryz.func249 rfl rfl rfl ?_
 refine FW.seq (FW.region ?_)
 refine FL.v (E.assign (v := Value.slice none 0 0) rfl) ?_
 refine FL.v (E.assign (v := Value.bool false) rfl) ?_
 refine FL.nil (FW.seq (FW.region ?_))
 refine FL.v (E.move (v := v0) rfl) ?_
 obtain ⟨r21, hr22, hp⟩ := bnd hp
 refine FL.call rfl rfl rfl (E.call Tryz.call160 (A1 rfl)) (w_slices_Clone_int_int S0.sl v0 a0 p0 hr22) ?_
 rintro e w24 ⟨H23, v27, n28, cs29, rfl, r26, els30⟩
 refine ⟨_, rfl, ?_⟩
 have els30 := els30.mono (up_le S0.size)
 have S25 := S0.join (l' := [.row 3 1 v27 n28 cs29]) r26 rfl
 refine FL.v (E.assign (v := v27) rfl) ?_
 refine FL.nil (FW.seq (FW.region ?_))
 refine FL.v (E.move (v := v27) rfl) ?_
 obtain ⟨r31, hr32, hp⟩ := bnd hp
 refine FL.call rfl rfl rfl (E.call Tryz.call264 (A2 rfl rfl)) (w_slices_SortFunc_int_int (L := []) S25 r21 els30 (Value.func (.func 265) #[] #[]) (fun x0 x1 => PF.impl_compareLiterals x0 x1) (fun H2 w2 hi2 hs2 x0 x1 r hr => ⟨265, #[], rfl, Tryz.call265, w_impl_compareLiterals hs2 x0 x1  hr⟩) hr32) ?_
 rintro e w34 ⟨H33, cs37, rfl, ⟨S35, i36⟩, els38⟩
 refine ⟨_, rfl, ?_⟩
 have S35 : St Ha wa H33 w34 [.row 3 1 v27 n28 cs37] := S35
 refine FL.nil (FW.seq (FW.region ?_))
 refine FL.v (E.move (v := v27) rfl) ?_
 obtain ⟨r39, hr40, hp⟩ := bnd hp
 refine FL.call rfl rfl rfl (E.call Tryz.call266 (A1 rfl)) (w_slices_Compact_int_int (L := []) S35 r31 els38 hr40) ?_
 rintro e w42 ⟨H41, v45, n46, cs47, rfl, ⟨S43, i44⟩, els48⟩
 refine ⟨_, rfl, ?_⟩
 have S43 : St Ha wa H41 w42 [.row 3 1 v45 n46 cs47] := S43
 refine FL.v (E.assign (v := v45) rfl) ?_
 refine FL.nil (FW.seq (FW.seq (FW.region ?_)))
 refine FL.v (E.assign (v := Value.int .i64 1) rfl) ?_
 refine FL.nil ?_
 obtain ⟨q49, hq, hp⟩ := bndR hp
 refine FW.block ?_
 refine FW.mono (FW.iter (S := Int) (X := ((List Int) × Bool)) (fun (s49 : Int) f w => ∃ H : GH, St Ha wa H w [.row 3 1 v45 n46 cs47] ∧ Inc H41 H ∧ f 4 = v45 ∧ f 5 = Value.int .i64 s49) (fun q e f w => match q with | .go s49 => e = Exit.exit 0 ∧ (∃ H : GH, St Ha wa H w [.row 3 1 v45 n46 cs47] ∧ Inc H41 H ∧ f 4 = v45) | .rt x => ((e = Exit.ret) ∧ (fun e f w => (e = Exit.normal ∨ e = Exit.ret) ∧ ∀ a, Fr (δ := []) 30 a f → ∃ v, (results Tryz.f249 a.tmps).run Tryz.prog w = .ok v w ∧ (p_impl_clause Ha wa x) (.returned v) w) e f w)) hq ⟨_, S43, (Inc.rfl _), rfl, rfl⟩ ?_) ?_
 ·
  clear hp hq
  rintro s49 f83 w82 ⟨H79, S80, i81, k84, k85⟩ o108 hp
  refine FW.seq (FW.seq (FW.region ?_))
  refine FL.v (E.move k85) ?_
  refine FL.v (E.move k84) ?_
  refine FL.v (E.lenO te39 rfl S80 (i := 0) rfl els48 (by decide)) ?_
  refine FL.v (E.lss rfl rfl) ?_
  refine FL.nil ?_
  rcases ifB hp with ⟨c86, hp⟩ | ⟨c86, hp⟩
  ·
   refine FW.condT rfl c86 ?_
   refine FW.skip (FW.seq (FW.block (FW.seq ?_)))
   refine FW.draw (fun w' => Run w82.heap.size H79 w82 H79 w') (by kernel_rfl) (by kernel_rfl) (run_drew S80.sl) ?_
   refine FD.val rfl rfl rfl (fun w' hw' => (E.move k84)) ?_
   refine FD.val rfl rfl rfl (fun w' hw' => (E.move k85)) ?_
   obtain ⟨x94, hx95, hp⟩ := bnd hp
   obtain ⟨p88, cs89, pt90, l91, at92, rel93⟩ := S80.row_at (i := 0) rfl els48 (by decide) hx95
   obtain rfl := eI_open rel93
   refine FD.val rfl rfl rfl (fun w' hw' => (E.indexAddr te39 rfl rfl pt90)) ?_
   refine FD.val rfl rfl rfl (fun w' hw' => (E.load rfl (run_load0 Tryz.isAgg3 (at92.cls hw') rfl))) ?_
   refine FD.val rfl rfl rfl (fun w' hw' => (E.move k84)) ?_
   refine FD.val rfl rfl rfl (fun w' hw' => (E.move k85)) ?_
   refine FD.val rfl rfl rfl (fun w' hw' => (E.sub rfl rfl)) ?_
   obtain ⟨x102, hx103, hp⟩ := bnd hp
   obtain ⟨p96, cs97, pt98, l99, at100, rel101⟩ := S80.row_at (i := 0) rfl els48 (by decide) hx103
   obtain rfl := eI_open rel101
   refine FD.val rfl rfl rfl (fun w' hw' => (E.indexAddr te39 rfl rfl pt98)) ?_
   refine FD.val rfl rfl rfl (fun w' hw' => (E.load rfl (run_load0 Tryz.isAgg3 (at100.cls hw') rfl))) ?_
   refine FD.val rfl rfl rfl (fun w' hw' => (E.neg rfl)) ?_
   refine FD.val rfl rfl rfl (fun w' hw' => (E.eql rfl rfl)) ?_
   refine FD.nil ?_
   intro w104 r106
   have S105 := S80.call r106
   rcases ifB hp with ⟨c107, hp⟩ | ⟨c107, hp⟩
   ·
    refine FW.condT rfl c107 ?_
    refine FW.seq (FW.region ?_)
    refine FL.v (E.assign (v := Value.slice none 0 0) rfl) ?_
    refine FL.v (E.assign (v := Value.bool false) rfl) ?_
    refine FL.nil ?_
    refine FW.ret ?_
    obtain rfl := Option.some.inj hp
    exact ⟨nofun, rfl, ⟨.inr rfl, res2 rfl rfl rfl ⟨_, _, _, _, rfl, ((S105.nil 3 1).sel [0] (by decide) rfl), Els.nil⟩⟩⟩
   ·
    refine FW.condF rfl c107 ?_
    refine FW.skip (FW.region ?_)
    refine FL.v (E.move k85) ?_
    refine FL.v (E.add rfl rfl) ?_
    refine FL.v (E.assign (v := Value.int .i64 (wr (s49 + 1))) rfl) ?_
    refine FL.nil ?_
    obtain rfl := Option.some.inj hp
    exact ⟨rfl, ⟨_, S105, i81, k84, rfl⟩⟩
  ·
   refine FW.condF rfl c86 ?_
   refine FW.exit ?_
   obtain rfl := Option.some.inj hp
   exact ⟨nofun, rfl, ⟨_, S80, i81, k84⟩⟩
 ·
  clear hq
  intro e f113 w112 hD
  rcases q49 with s49 | x49
  ·
   obtain ⟨rfl, hD⟩ := hD
   obtain ⟨H109, S110, i111, k114⟩ := hD
   replace hp := el_go hp
   refine FW.seq (FW.region ?_)
   refine FL.v (E.move k114) ?_
   refine FL.v (E.assign (v := v45) rfl) ?_
   refine FL.v (E.assign (v := Value.bool true) rfl) ?_
   refine FL.nil ?_
   refine FW.ret ?_
   obtain rfl := Option.some.inj hp
   exact ⟨.inr rfl, res2 rfl rfl rfl ⟨_, _, _, _, rfl, S110, (els48.mono (up_mono i111))⟩⟩
  ·
   obtain ⟨he, hL⟩ := hD
   replace hp := el_rt hp
   obtain rfl := Option.some.inj hp
   subst he
   exact hL

@[reducible] def p_impl_resolve (Ha : GH) (wa : World) (r : ((List Int) × Bool)) : Ending → World → Prop :=
 fun e w' => ∃ H' : GH, ∃ v0 : Value, ∃ n0 : Nat, ∃ c0 : List Value, e = .returned (Value.tuple #[v0, Value.bool r.2]) ∧ St Ha wa H' w' [.row 3 1 v0 n0 c0] ∧ Els (up wa.heap.size H') eI 1 c0 r.1
theorem w_impl_resolve {Ha : GH} {wa : World} (hs : Sl Ha wa) (v0 : Value) (a0 : List Int) (p0 : RSl Ha eI 1 v0 a0) (v1 : Value) (a1 : List Int) (p1 : RSl Ha eI 1 v1 a1) (a2 : Int) {r : ((List Int) × Bool)} (hp : (PF.impl_resolve a0 a1 a2) = some r) :
  Calls Tryz.prog 203 #[v0, v1, Value.int .i64 a2] wa (p_impl_resolve Ha wa r) := by
 unfold PF.impl_resolve at hp
 have S0 := St.init hs
 refine calls_go (N := 30) (args := [v0, v1, Value.int .i64 a2]) Tryz.func203 rfl rfl rfl ?_
 refine FW.seq (FW.region ?_)
 refine FL.v (E.assign (v := Value.slice none 0 0) rfl) ?_
 refine FL.v (E.assign (v := Value.bool false) rfl) ?_
 refine FL.nil (FW.seq (FW.seq (FW.region ?_)))
 refine FL.v (E.move (v := v0) rfl) ?_
 refine FL.v (E.move (v := Value.int .i64 a2) rfl) ?_
 obtain ⟨r21, hr22, hp⟩ := bnd hp
 refine FL.call rfl rfl rfl (E.call Tryz.call162 (A2 rfl rfl)) (w_slices_Contains_int_int S0.sl v0 a0 p0 a2 hr22) ?_
 rintro e w23 ⟨rfl, r24⟩
 refine ⟨_, rfl, ?_⟩
 have S25 := S0.call r24
 refine FL.v (E.not rfl) ?_
 refine FL.v (E.move (v := Value.bool (!r21)) rfl) ?_
 obtain ⟨t31, hqt31, hp⟩ := bnd hp
 refine FL.cut 6 (fun f w => ∃ H : GH, St Ha wa H w [] ∧ Inc Ha H ∧ f 0 = v0 ∧ f 1 = v1 ∧ f 2 = Value.int .i64 a2 ∧ f 18 = Value.bool t31) ?_ ?_
 ·
  clear hp; have hp := hqt31; clear hqt31
  rcases ifB hp with ⟨c37, hp⟩ | ⟨c37, hp⟩
  ·
   refine FL.skip (wF_no rfl rfl rfl c37) rfl ?_
   refine FL.skip (wF_no rfl rfl rfl c37) rfl ?_
   refine FL.skip (wF_no rfl rfl rfl c37) rfl ?_
   refine FL.skip (wF_no rfl rfl rfl c37) rfl ?_
   refine FL.skip (wF_no rfl rfl rfl c37) rfl ?_
   obtain rfl := Option.some.inj hp
   refine FL.v (E.pickT rfl c37 rfl) ?_
   exact FL.nil ⟨rfl, _, S25, (Inc.rfl _), rfl, rfl, rfl, rfl⟩
  ·
   refine FL.val (wF_yes rfl rfl rfl c37) rfl rfl (E.move (v := v1) rfl) ?_
   refine FL.val (wF_yes rfl rfl rfl c37) rfl rfl (E.move (v := Value.int .i64 a2) rfl) ?_
   refine FL.val (wF_yes rfl rfl rfl c37) rfl rfl (E.neg rfl) ?_
   obtain ⟨r38, hr39, hp⟩ := bnd hp
   refine FL.call (wF_yes rfl rfl rfl c37) rfl rfl (E.call Tryz.call162 (A2 rfl rfl)) (w_slices_Contains_int_int S25.sl v1 a1 p1 (wr (-a2)) hr39) ?_
   rintro e w40 ⟨rfl, r41⟩
   refine ⟨_, rfl, ?_⟩
   have S42 := S25.call r41
   refine FL.val (wF_yes rfl rfl rfl c37) rfl rfl (E.not rfl) ?_
   obtain rfl := Option.some.inj hp
   refine FL.v (E.pickF rfl c37 rfl) ?_
   exact FL.nil ⟨rfl, _, S42, (Inc.rfl _), rfl, rfl, rfl, rfl⟩
 rintro f36 w35 ⟨H32, S33, i34, k43, k44, k45, k46⟩
 refine FL.nil ?_
 rcases ifB hp with ⟨c47, hp⟩ | ⟨c47, hp⟩
 ·
  refine FW.condT k46 c47 ?_
  refine FW.seq (FW.region ?_)
  refine FL.v (E.assign (v := Value.slice none 0 0) rfl) ?_
  refine FL.v (E.assign (v := Value.bool false) rfl) ?_
  refine FL.nil ?_
  refine FW.ret ?_
  obtain rfl := Option.some.inj hp
  exact ⟨.inr rfl, res2 rfl rfl rfl ⟨_, _, _, _, rfl, (S33.nil 3 1), Els.nil⟩⟩
 ·
  refine FW.condF k46 c47 ?_
  refine FW.skip (FW.seq (FW.region ?_))
  refine FL.v (E.move k43) ?_
  refine FL.v (E.move k45) ?_
  obtain ⟨r48, hr49, hp⟩ := bnd hp
  refine FL.call rfl rfl rfl (E.call Tryz.call222 (A2 rfl rfl)) (w_impl_withoutVar S33.sl v0 a0 (p0.mono i34) a2 hr49) ?_
  rintro e w51 ⟨H50, v54, n55, cs56, rfl, r53, els57⟩
  refine ⟨_, rfl, ?_⟩
  have els57 := els57.mono (up_le S33.size)
  have S52 := S33.join (l' := [.row 3 1 v54 n55 cs56]) r53 rfl
  refine FL.v (E.move k44) ?_
  refine FL.v (E.move k45) ?_
  obtain ⟨r58, hr59, hp⟩ := bnd hp
  refine FL.call rfl rfl rfl (E.call Tryz.call222 (A2 rfl rfl)) (w_impl_withoutVar S52.sl v1 a1 (p1.mono (i34.tr r53.run.inc)) a2 hr59) ?_
  rintro e w61 ⟨H60, v64, n65, cs66, rfl, r63, els67⟩
  refine ⟨_, rfl, ?_⟩
  have els67 := els67.mono (up_le S52.size)
  have S62 := S52.join (l' := [.row 3 1 v64 n65 cs66, .row 3 1 v54 n55 cs56]) r63 rfl
  obtain ⟨H68, S69, i70, h71, nv72⟩ := S62.sealRowU (i := 1) (l' := [.row 3 1 v64 n65 cs66]) rfl (els57.mono (up_mono r63.run.inc)) (by decide) rfl
  obtain ⟨H73, S74, i75, h76, nv77⟩ := S69.sealRowU (i := 0) (l' := []) rfl (els67.mono (up_mono i70)) (by decide) rfl
  obtain ⟨v78, w79, run80, S81⟩ := S74.buildSlice (P := Tryz.prog) te22 [v54, v64] (parts := #[(0, v54), (1, v64)]) (cells := [v54, v64]) rfl (szs_cons (cells_size h71.cells) (szs_cons (cells_size h76.cells) szs_nil)) (fc_cons h71.cells (fc_cons h76.cells fc_nil)) (ones_cons h71.one (ones_cons h76.one ones_nil)) (Nat.le_of_ble_eq_true rfl)
  have els82 : Els (up wa.heap.size H73) (eL eI 1) 1 [v54, v64] [r48, r58] := (Els.snoc (H := (up wa.heap.size H73)) (E := (eL eI 1)) (k := 1) (c := [v64]) (x := r58) (Els.snoc (H := (up wa.heap.size H73)) (E := (eL eI 1)) (k := 1) (c := [v54]) (x := r48) Els.nil rfl ⟨_, rfl, (h71.mono (up_mono i75))⟩) rfl ⟨_, rfl, h76⟩)
  refine FL.v (E.buildSlice (B2 rfl rfl) run80) ?_
  obtain ⟨H83, S84, i85, h86, nv87⟩ := S81.sealRowU (i := 0) (l' := []) rfl els82 (by decide) rfl
  obtain ⟨r88, hr89, hp⟩ := bnd hp
  refine FL.call rfl rfl rfl (E.call Tryz.call250 (A1 rfl)) (w_slices_Concat_int_int S84.sl v78 [r48, r58] (h86.mono upI) hr89) ?_
  rintro e w91 ⟨H90, v96, n97, cs98, rfl, r93, els99⟩
  refine ⟨_, rfl, ?_⟩
  obtain ⟨H94, r93, hU95⟩ := St.lendX i85 S81.sl r93
  have els99 := els99.mono (hU95.tr (up_le S81.size))
  have S92 := S81.join (l' := [.row 3 1 v96 n97 cs98, .row 39 1 v78 2 [v54, v64]]) r93 rfl
  obtain ⟨H100, S101, i102, h103, nv104⟩ := S92.sealRowU (i := 0) (l' := [.row 39 1 v78 2 [v54, v64]]) rfl els99 (by decide) rfl
  obtain ⟨r105, hr106, hp⟩ := bnd hp
  refine FL.call rfl rfl rfl (E.call Tryz.call249 (A1 rfl)) (w_impl_clause S101.sl v96 r88 (h103.mono upI) hr106) ?_
  rintro e w108 ⟨H107, v113, n114, cs115, rfl, r110, els116⟩
  refine ⟨_, rfl, ?_⟩
  obtain ⟨H111, r110, hU112⟩ := St.lendX i102 S92.sl r110
  have els116 := els116.mono (hU112.tr (up_le S92.size))
  have S109 := S92.join (l' := [.row 3 1 v113 n114 cs115, .row 3 1 v96 n97 cs98, .row 39 1 v78 2 [v54, v64]]) r110 rfl
  refine FL.v (E.extract (i := 0) rfl rfl) ?_
  refine FL.v (E.extract (i := 1) rfl rfl) ?_
  refine FL.v (E.assign (v := v113) rfl) ?_
  refine FL.v (E.assign (v := Value.bool r105.2) rfl) ?_
  refine FL.nil ?_
  refine FW.ret ?_
  obtain rfl := Option.some.inj hp
  exact ⟨.inr rfl, res2 rfl rfl rfl ⟨_, _, _, _, rfl, (S109.sel [0] (by decide) rfl), els116⟩⟩

set_option maxHeartbeats 4000000 in
theorem w_impl_correct {Ha : GH} {wa : World} (hs : Sl Ha wa) (a0 : Cnf) (v0_1 : Value) (p0_1 : RSl Ha (eL eI 1) 1 v0_1 a0.clauses) (v1 : Value) (a1 : List ResStep) (p1 : RSl Ha eResStep 4 v1 a1) (a2 : Int) {r : Bool} (hp : (PF.impl_correct a0 a1 a2) = some r) :
  Calls Tryz.prog 201 #[Value.agg #[Value.int .i64 a0.vars, v0_1], v1, Value.int .i64 a2] wa (Sc Ha wa (Value.bool r)) := by
 unfold PF.impl_correct at hp
 have S0 := St.init hs
 refine calls_go (N := 105) (args := [Value.agg #[Value.int .i64 a0.vars, v0_1], v1, Value.int .i64 a2]) Tryz.func201 rfl rfl rfl ?_
 refine FW.seq (FW.region ?_)
 obtain ⟨b21, w22, run23, S24⟩ := S0.box (P := Tryz.prog) 31 [Value.int .i64 a0.vars, v0_1] (v := Value.agg #[Value.int .i64 a0.vars, v0_1]) rfl (ones_cons rfl (ones_cons p0_1.one ones_nil))
 refine FL.v (E.box rfl run23) ?_
 obtain ⟨H25, S26, i27, at28⟩ := S24.sealBox (i := 0) (l' := []) rfl rfl
 refine FL.v (E.assign (v := Value.bool false) rfl) ?_
 refine FL.nil (FW.seq (FW.region ?_))
 refine FL.v (E.move (v := v1) rfl) ?_
 refine FL.v (E.move (v := Value.int .i64 a2) rfl) ?_
 obtain ⟨x35, hx36, hp⟩ := bnd hp
 obtain ⟨p29, cs30, pt31, l32, at33, rel34⟩ := p1.at hx36
 obtain ⟨v37, rfl, h38⟩ := eResStep_open rel34
 refine FL.v (E.indexAddr te28 rfl rfl pt31) ?_
 refine FL.v (E.load rfl (run_loadA Tryz.isAgg89 Tryz.sizeOf89 ((at33.mono i27).now S26.sl) rfl)) ?_
 obtain ⟨b39, w40, run41, S42⟩ := S26.alloc (P := Tryz.prog) 89 [Value.slice none 0 0, Value.int .i64 0, Value.int .i64 0, Value.int .i64 0] Tryz.zeroValue89 rfl (ones_cons rfl (ones_cons rfl (ones_cons rfl (ones_cons rfl ones_nil))))
 refine FL.v (E.alloc run41) ?_
 obtain ⟨w43, run44, S45⟩ := S42.store0 (P := Tryz.prog) (t := 89) (i := 0) (cs' := [v37, Value.int .i64 x35.left, Value.int .i64 x35.right, Value.int .i64 x35.pivot]) (l' := [.box b39 89 [v37, Value.int .i64 x35.left, Value.int .i64 x35.right, Value.int .i64 x35.pivot]]) (v := Value.agg #[v37, Value.int .i64 x35.left, Value.int .i64 x35.right, Value.int .i64 x35.pivot]) (c := [v37, Value.int .i64 x35.left, Value.int .i64 x35.right, Value.int .i64 x35.pivot]) rfl Tryz.sizeOf89 rfl rfl (ones_cons h38.one (ones_cons rfl (ones_cons rfl (ones_cons rfl ones_nil)))) (Nat.le_of_ble_eq_true rfl) rfl rfl
 refine FL.act rfl rfl (E.store rfl rfl run44) ?_
 obtain ⟨H46, S47, i48, at49⟩ := S45.sealBox (i := 0) (l' := []) rfl rfl
 refine FL.nil (FW.seq (FW.seq (FW.region ?_)))
 refine FL.v (E.fieldAddr tf31_0 rfl) ?_
 refine FL.v (E.load rfl (run_load1 Tryz.isAgg3 ((at28.mono i48).now S47.sl) rfl)) ?_
 refine FL.v (E.fieldAddr tf89_0 rfl) ?_
 refine FL.v (E.load rfl (run_load1 Tryz.isAgg39 (at49.now S47.sl) rfl)) ?_
 obtain ⟨r50, hr51, hp⟩ := bnd hp
 refine FL.call rfl rfl rfl (E.call Tryz.call142 (A2 rfl rfl)) (w_impl_IsClause S47.sl a0.vars v37 x35.clause (h38.mono (i27.tr i48)) hr51) ?_
 rintro e w52 ⟨rfl, r53⟩
 refine ⟨_, rfl, ?_⟩
 have S54 := S47.call r53
 refine FL.v (E.not rfl) ?_
 refine FL.nil ?_
 rcases ifB hp with ⟨c55, hp⟩ | ⟨c55, hp⟩
 ·
  refine FW.condT rfl c55 ?_
  refine FW.seq (FW.region ?_)
  refine FL.v (E.assign (v := Value.bool false) rfl) ?_
  refine FL.nil ?_
  refine FW.ret ?_
  obtain rfl := Option.some.inj hp
  exact ⟨.inr rfl, res1 rfl rfl ⟨rfl, S54.back⟩⟩
 ·
  refine FW.condF rfl c55 ?_
  refine FW.skip (FW.seq (FW.seq (FW.region ?_)))
  refine FL.v (E.fieldAddr tf89_1 rfl) ?_
  refine FL.v (E.load rfl (run_load1 Tryz.isAgg3 (at49.now S54.sl) rfl)) ?_
  refine FL.v (E.eql rfl rfl) ?_
  refine FL.nil ?_
  rcases ifB hp with ⟨c56, hp⟩ | ⟨c56, hp⟩
  ·
   refine FW.condT rfl c56 ?_
   refine FW.seq ?_
   refine FW.draw (fun w' => Run w52.heap.size H46 w52 H46 w') (by kernel_rfl) (by kernel_rfl) (run_drew S54.sl) ?_
   refine FD.val rfl rfl rfl (fun w' hw' => (E.fieldAddr tf89_3 rfl)) ?_
   refine FD.val rfl rfl rfl (fun w' hw' => (E.load rfl (run_load1 Tryz.isAgg3 (at49.now (S54.call hw').sl) rfl))) ?_
   refine FD.val rfl rfl rfl (fun w' hw' => (E.eql rfl rfl)) ?_
   refine FD.val rfl rfl rfl (fun w' hw' => (E.move (v := Value.bool (x35.pivot == 0)) rfl)) ?_
   refine FD.cut 8 (fun f => f 3 = Value.pointer (some ⟨b21, 0, none⟩) ∧ f 7 = Value.pointer (some ⟨b39, 0, none⟩) ∧ f 36 = Value.bool (bif (x35.pivot == 0) then (PF.impl_within x35.right 0 (wr ((len a0.clauses) - 1))) else false)) ?_ ?_
   ·
    rcases bcase (x35.pivot == 0) with c64 | c64
    ·
     refine FD.val (wF_yes rfl rfl rfl c64) rfl rfl (fun w' hw' => (E.fieldAddr tf89_2 rfl)) ?_
     refine FD.val (wF_yes rfl rfl rfl c64) rfl rfl (fun w' hw' => (E.load rfl (run_load1 Tryz.isAgg3 (at49.now (S54.call hw').sl) rfl))) ?_
     refine FD.val (wF_yes rfl rfl rfl c64) rfl rfl (fun w' hw' => (E.fieldAddr tf31_1 rfl)) ?_
     refine FD.val (wF_yes rfl rfl rfl c64) rfl rfl (fun w' hw' => (E.load rfl (run_load1 Tryz.isAgg22 ((at28.mono i48).now (S54.call hw').sl) rfl))) ?_
     refine FD.val (wF_yes rfl rfl rfl c64) rfl rfl (fun w' hw' => (E.lenP te22 rfl p0_1)) ?_
     refine FD.val (wF_yes rfl rfl rfl c64) rfl rfl (fun w' hw' => (E.sub rfl rfl)) ?_
     refine FD.call (wF_yes rfl rfl rfl c64) rfl rfl (fun w' hw' => (E.call Tryz.call192 (A3 rfl rfl rfl))) (fun w' hw' => Calls.cls hw' (w_impl_within (S54.call hw').sl x35.right 0 (wr ((len a0.clauses) - 1)))) ?_
     refine FD.val rfl rfl rfl (fun w' hw' => (E.pickT rfl c64 rfl)) ?_
     exact FD.nil ⟨rfl, rfl, (congrArg Value.bool (bifT c64).symm)⟩
    ·
     refine FD.skip (wF_no rfl rfl rfl c64) rfl ?_
     refine FD.skip (wF_no rfl rfl rfl c64) rfl ?_
     refine FD.skip (wF_no rfl rfl rfl c64) rfl ?_
     refine FD.skip (wF_no rfl rfl rfl c64) rfl ?_
     refine FD.skip (wF_no rfl rfl rfl c64) rfl ?_
     refine FD.skip (wF_no rfl rfl rfl c64) rfl ?_
     refine FD.skip (wF_no rfl rfl rfl c64) rfl ?_
     refine FD.val rfl rfl rfl (fun w' hw' => (E.pickF rfl c64 rfl)) ?_
     exact FD.nil ⟨rfl, rfl, (congrArg Value.bool (bifF c64).symm)⟩
   rintro f63 ⟨k65, k66, k67⟩
   refine FD.val rfl rfl rfl (fun w' hw' => (E.move k67)) ?_
   obtain ⟨t80, hqt80, hp⟩ := bnd hp
   refine FD.cut 10 (fun f => f 47 = Value.bool t80) ?_ ?_
   ·
    clear hp; have hp := hqt80; clear hqt80
    rcases ifB hp with ⟨c86, hp⟩ | ⟨c86, hp⟩
    ·
     refine FD.val (wF_yes rfl rfl rfl c86) rfl rfl (fun w' hw' => (E.fieldAddr tf31_1 k65)) ?_
     refine FD.val (wF_yes rfl rfl rfl c86) rfl rfl (fun w' hw' => (E.load rfl (run_load1 Tryz.isAgg22 ((at28.mono i48).now (S54.call hw').sl) rfl))) ?_
     refine FD.val (wF_yes rfl rfl rfl c86) rfl rfl (fun w' hw' => (E.fieldAddr tf89_2 k66)) ?_
     refine FD.val (wF_yes rfl rfl rfl c86) rfl rfl (fun w' hw' => (E.load rfl (run_load1 Tryz.isAgg3 (at49.now (S54.call hw').sl) rfl))) ?_
     obtain ⟨x93, hx94, hp⟩ := bnd hp
     obtain ⟨p87, cs88, pt89, l90, at91, rel92⟩ := p0_1.at hx94
     obtain ⟨v95, rfl, h96⟩ := eL_open rel92
     refine FD.val (wF_yes rfl rfl rfl c86) rfl rfl (fun w' hw' => (E.indexAddr te22 rfl rfl pt89)) ?_
     refine FD.val (wF_yes rfl rfl rfl c86) rfl rfl (fun w' hw' => (E.load rfl (run_load0 Tryz.isAgg39 ((at91.mono (i27.tr i48)).now (S54.call hw').sl) rfl))) ?_
     refine FD.val (wF_yes rfl rfl rfl c86) rfl rfl (fun w' hw' => (E.fieldAddr tf89_0 k66)) ?_
     refine FD.val (wF_yes rfl rfl rfl c86) rfl rfl (fun w' hw' => (E.load rfl (run_load1 Tryz.isAgg39 (at49.now (S54.call hw').sl) rfl))) ?_
     obtain ⟨r97, hr98, hp⟩ := bnd hp
     refine FD.call (wF_yes rfl rfl rfl c86) rfl rfl (fun w' hw' => (E.call Tryz.call245 (A2 rfl rfl))) (fun w' hw' => Calls.cls hw' (w_slices_Equal_int_int (S54.call hw').sl v95 x93 (h96.mono (i27.tr i48)) v37 x35.clause (h38.mono (i27.tr i48)) hr98)) ?_
     obtain rfl := Option.some.inj hp
     refine FD.val rfl rfl rfl (fun w' hw' => (E.pickT rfl c86 rfl)) ?_
     exact FD.nil rfl
    ·
     refine FD.skip (wF_no rfl rfl rfl c86) rfl ?_
     refine FD.skip (wF_no rfl rfl rfl c86) rfl ?_
     refine FD.skip (wF_no rfl rfl rfl c86) rfl ?_
     refine FD.skip (wF_no rfl rfl rfl c86) rfl ?_
     refine FD.skip (wF_no rfl rfl rfl c86) rfl ?_
     refine FD.skip (wF_no rfl rfl rfl c86) rfl ?_
     refine FD.skip (wF_no rfl rfl rfl c86) rfl ?_
     refine FD.skip (wF_no rfl rfl rfl c86) rfl ?_
     refine FD.skip (wF_no rfl rfl rfl c86) rfl ?_
     obtain rfl := Option.some.inj hp
     refine FD.val rfl rfl rfl (fun w' hw' => (E.pickF rfl c86 rfl)) ?_
     exact FD.nil rfl
   intro f85 k99
   refine FD.val rfl rfl rfl (fun w' hw' => (E.assign k99)) ?_
   refine FD.nil ?_
   intro w100 r102
   have S101 := S54.call r102
   refine FW.ret ?_
   obtain rfl := Option.some.inj hp
   exact ⟨.inr rfl, res1 rfl rfl ⟨rfl, S101.back⟩⟩
  ·
   refine FW.condF rfl c56 ?_
   refine FW.skip (FW.seq (FW.region ?_))
   refine FL.v (E.load rfl (run_loadA Tryz.isAgg31 Tryz.sizeOf31 ((at28.mono i48).now S54.sl) rfl)) ?_
   refine FL.v (E.move (v := v1) rfl) ?_
   refine FL.v (E.move (v := Value.int .i64 a2) rfl) ?_
   refine FL.v (E.fieldAddr tf89_1 rfl) ?_
   refine FL.v (E.load rfl (run_load1 Tryz.isAgg3 (at49.now S54.sl) rfl)) ?_
   obtain ⟨r103, hr104, hp⟩ := bnd hp
   refine FL.call rfl rfl rfl (E.call Tryz.call246 (A4 rfl rfl rfl rfl)) (w_impl_earlier S54.sl a0 v0_1 (p0_1.mono (i27.tr i48)) v1 a1 (p1.mono (i27.tr i48)) a2 x35.left hr104) ?_
   rintro e w106 ⟨H105, v109, rfl, r108, h110⟩
   refine ⟨_, rfl, ?_⟩
   have S107 := S54.call r108
   refine FL.v (E.move (v := Value.tuple #[v109, Value.bool r103.2]) rfl) ?_
   refine FL.v (E.extract (i := 0) rfl rfl) ?_
   refine FL.v (E.extract (i := 1) rfl rfl) ?_
   refine FL.v (E.assign (v := v109) rfl) ?_
   refine FL.v (E.assign (v := Value.bool r103.2) rfl) ?_
   refine FL.nil (FW.seq (FW.seq (FW.region ?_)))
   refine FL.v (E.move (v := Value.bool r103.2) rfl) ?_
   refine FL.v (E.not rfl) ?_
   refine FL.nil ?_
   rcases ifB hp with ⟨c111, hp⟩ | ⟨c111, hp⟩
   ·
    refine FW.condT rfl c111 ?_
    refine FW.seq (FW.region ?_)
    refine FL.v (E.assign (v := Value.bool false) rfl) ?_
    refine FL.nil ?_
    refine FW.ret ?_
    obtain rfl := Option.some.inj hp
    exact ⟨.inr rfl, res1 rfl rfl ⟨rfl, S107.back⟩⟩
   ·
    refine FW.condF rfl c111 ?_
    refine FW.skip (FW.seq (FW.seq (FW.region ?_)))
    refine FL.v (E.fieldAddr tf89_2 rfl) ?_
    refine FL.v (E.load rfl (run_load1 Tryz.isAgg3 ((at49.mono r108.inc).now S107.sl) rfl)) ?_
    refine FL.v (E.eql rfl rfl) ?_
    refine FL.nil ?_
    rcases ifB hp with ⟨c112, hp⟩ | ⟨c112, hp⟩
    ·
     refine FW.condT rfl c112 ?_
     refine FW.seq (FW.region ?_)
     refine FL.v (E.fieldAddr tf89_3 rfl) ?_
     refine FL.v (E.load rfl (run_load1 Tryz.isAgg3 ((at49.mono r108.inc).now S107.sl) rfl)) ?_
     refine FL.v (E.eql rfl rfl) ?_
     refine FL.v (E.move (v := Value.bool (x35.pivot == 0)) rfl) ?_
     obtain ⟨t118, hqt118, hp⟩ := bnd hp
     refine FL.cut 5 (fun f w => ∃ H : GH, St Ha wa H w [] ∧ Inc H105 H ∧ f 70 = Value.bool t118) ?_ ?_
     ·
      clear hp; have hp := hqt118; clear hqt118
      rcases ifB hp with ⟨c124, hp⟩ | ⟨c124, hp⟩
      ·
       refine FL.val (wF_yes rfl rfl rfl c124) rfl rfl (E.move (v := v109) rfl) ?_
       refine FL.val (wF_yes rfl rfl rfl c124) rfl rfl (E.fieldAddr tf89_0 rfl) ?_
       refine FL.val (wF_yes rfl rfl rfl c124) rfl rfl (E.load rfl (run_load1 Tryz.isAgg39 ((at49.mono r108.inc).now S107.sl) rfl)) ?_
       obtain ⟨r125, hr126, hp⟩ := bnd hp
       refine FL.call (wF_yes rfl rfl rfl c124) rfl rfl (E.call Tryz.call247 (A2 rfl rfl)) (w_impl_part S107.sl v109 r103.1 h110 v37 x35.clause (h38.mono ((i27.tr i48).tr r108.inc)) hr126) ?_
       rintro e w127 ⟨rfl, r128⟩
       refine ⟨_, rfl, ?_⟩
       have S129 := S107.call r128
       obtain rfl := Option.some.inj hp
       refine FL.v (E.pickT rfl c124 rfl) ?_
       exact FL.nil ⟨rfl, _, S129, (Inc.rfl _), rfl⟩
      ·
       refine FL.skip (wF_no rfl rfl rfl c124) rfl ?_
       refine FL.skip (wF_no rfl rfl rfl c124) rfl ?_
       refine FL.skip (wF_no rfl rfl rfl c124) rfl ?_
       refine FL.skip (wF_no rfl rfl rfl c124) rfl ?_
       obtain rfl := Option.some.inj hp
       refine FL.v (E.pickF rfl c124 rfl) ?_
       exact FL.nil ⟨rfl, _, S107, (Inc.rfl _), rfl⟩
     rintro f123 w122 ⟨H119, S120, i121, k130⟩
     refine FL.v (E.assign k130) ?_
     refine FL.nil ?_
     refine FW.ret ?_
     obtain rfl := Option.some.inj hp
     exact ⟨.inr rfl, res1 rfl rfl ⟨rfl, S120.back⟩⟩
    ·
     refine FW.condF rfl c112 ?_
     refine FW.skip (FW.seq (FW.region ?_))
     refine FL.v (E.load rfl (run_loadA Tryz.isAgg31 Tryz.sizeOf31 ((at28.mono (i48.tr r108.inc)).now S107.sl) rfl)) ?_
     refine FL.v (E.move (v := v1) rfl) ?_
     refine FL.v (E.move (v := Value.int .i64 a2) rfl) ?_
     refine FL.v (E.fieldAddr tf89_2 rfl) ?_
     refine FL.v (E.load rfl (run_load1 Tryz.isAgg3 ((at49.mono r108.inc).now S107.sl) rfl)) ?_
     obtain ⟨r131, hr132, hp⟩ := bnd hp
     refine FL.call rfl rfl rfl (E.call Tryz.call246 (A4 rfl rfl rfl rfl)) (w_impl_earlier S107.sl a0 v0_1 (p0_1.mono ((i27.tr i48).tr r108.inc)) v1 a1 (p1.mono ((i27.tr i48).tr r108.inc)) a2 x35.right hr132) ?_
     rintro e w134 ⟨H133, v137, rfl, r136, h138⟩
     refine ⟨_, rfl, ?_⟩
     have S135 := S107.call r136
     refine FL.v (E.move (v := Value.tuple #[v137, Value.bool r131.2]) rfl) ?_
     refine FL.v (E.extract (i := 0) rfl rfl) ?_
     refine FL.v (E.extract (i := 1) rfl rfl) ?_
     refine FL.v (E.assign (v := v137) rfl) ?_
     refine FL.v (E.assign (v := Value.bool r131.2) rfl) ?_
     refine FL.nil (FW.seq (FW.seq (FW.region ?_)))
     refine FL.v (E.move (v := Value.bool r131.2) rfl) ?_
     refine FL.v (E.not rfl) ?_
     refine FL.v (E.move (v := Value.bool (!r131.2)) rfl) ?_
     refine FL.cut 7 (fun f w => ∃ H : GH, St Ha wa H w [] ∧ Inc H133 H ∧ f 7 = Value.pointer (some ⟨b39, 0, none⟩) ∧ f 8 = v109 ∧ f 10 = v137 ∧ f 89 = Value.bool (bif (!r131.2) then true else (!(PF.impl_isVar a0.vars x35.pivot)))) ?_ ?_
     ·
      rcases bcase (!r131.2) with c148 | c148
      ·
       refine FL.skip (wF_no rfl rfl rfl c148) rfl ?_
       refine FL.skip (wF_no rfl rfl rfl c148) rfl ?_
       refine FL.skip (wF_no rfl rfl rfl c148) rfl ?_
       refine FL.skip (wF_no rfl rfl rfl c148) rfl ?_
       refine FL.skip (wF_no rfl rfl rfl c148) rfl ?_
       refine FL.skip (wF_no rfl rfl rfl c148) rfl ?_
       refine FL.v (E.pickT rfl c148 rfl) ?_
       exact FL.nil ⟨rfl, _, S135, (Inc.rfl _), rfl, rfl, rfl, (congrArg Value.bool (bifT c148).symm)⟩
      ·
       refine FL.val (wF_yes rfl rfl rfl c148) rfl rfl (E.fieldAddr tf31_0 rfl) ?_
       refine FL.val (wF_yes rfl rfl rfl c148) rfl rfl (E.load rfl (run_load1 Tryz.isAgg3 ((at28.mono ((i48.tr r108.inc).tr r136.inc)).now S135.sl) rfl)) ?_
       refine FL.val (wF_yes rfl rfl rfl c148) rfl rfl (E.fieldAddr tf89_3 rfl) ?_
       refine FL.val (wF_yes rfl rfl rfl c148) rfl rfl (E.load rfl (run_load1 Tryz.isAgg3 ((at49.mono (r108.inc.tr r136.inc)).now S135.sl) rfl)) ?_
       refine FL.call (wF_yes rfl rfl rfl c148) rfl rfl (E.call Tryz.call248 (A2 rfl rfl)) (w_impl_isVar S135.sl a0.vars x35.pivot) ?_
       rintro e w149 ⟨rfl, r150⟩
       refine ⟨_, rfl, ?_⟩
       have S151 := S135.call r150
       refine FL.val (wF_yes rfl rfl rfl c148) rfl rfl (E.not rfl) ?_
       refine FL.v (E.pickF rfl c148 rfl) ?_
       exact FL.nil ⟨rfl, _, S151, (Inc.rfl _), rfl, rfl, rfl, (congrArg Value.bool (bifF c148).symm)⟩
     rintro f147 w146 ⟨H143, S144, i145, k152, k153, k154, k155⟩
     refine FL.nil ?_
     rcases ifB hp with ⟨c156, hp⟩ | ⟨c156, hp⟩
     ·
      refine FW.condT k155 c156 ?_
      refine FW.seq (FW.region ?_)
      refine FL.v (E.assign (v := Value.bool false) rfl) ?_
      refine FL.nil ?_
      refine FW.ret ?_
      obtain rfl := Option.some.inj hp
      exact ⟨.inr rfl, res1 rfl rfl ⟨rfl, S144.back⟩⟩
     ·
      refine FW.condF k155 c156 ?_
      refine FW.skip (FW.seq (FW.region ?_))
      refine FL.v (E.move k153) ?_
      refine FL.v (E.move k154) ?_
      refine FL.v (E.fieldAddr tf89_3 k152) ?_
      refine FL.v (E.load rfl (run_load1 Tryz.isAgg3 ((at49.mono ((r108.inc.tr r136.inc).tr i145)).now S144.sl) rfl)) ?_
      obtain ⟨r157, hr158, hp⟩ := bnd hp
      refine FL.call rfl rfl rfl (E.call Tryz.call203 (A3 rfl rfl rfl)) (w_impl_resolve S144.sl v109 r103.1 (h110.mono (r136.inc.tr i145)) v137 r131.1 (h138.mono i145) x35.pivot hr158) ?_
      rintro e w160 ⟨H159, v163, n164, cs165, rfl, r162, els166⟩
      refine ⟨_, rfl, ?_⟩
      have els166 := els166.mono (up_le S144.size)
      have S161 := S144.join (l' := [.row 3 1 v163 n164 cs165]) r162 rfl
      refine FL.v (E.move (v := Value.tuple #[v163, Value.bool r157.2]) rfl) ?_
      refine FL.v (E.extract (i := 0) rfl rfl) ?_
      refine FL.v (E.extract (i := 1) rfl rfl) ?_
      refine FL.v (E.assign (v := v163) rfl) ?_
      refine FL.v (E.assign (v := Value.bool r157.2) rfl) ?_
      refine FL.nil (FW.seq (FW.region ?_))
      refine FL.v (E.move (v := Value.bool r157.2) rfl) ?_
      refine FL.v (E.move (v := Value.bool r157.2) rfl) ?_
      obtain ⟨t177, hqt177, hp⟩ := bnd hp
      refine FL.cut 5 (fun f w => ∃ H : GH, St Ha wa H w [.row 3 1 v163 n164 cs165] ∧ Inc H159 H ∧ f 104 = Value.bool t177) ?_ ?_
      ·
       clear hp; have hp := hqt177; clear hqt177
       rcases ifB hp with ⟨c183, hp⟩ | ⟨c183, hp⟩
       ·
        refine FL.val (wF_yes rfl rfl rfl c183) rfl rfl (E.move (v := v163) rfl) ?_
        refine FL.val (wF_yes rfl rfl rfl c183) rfl rfl (E.fieldAddr tf89_0 k152) ?_
        refine FL.val (wF_yes rfl rfl rfl c183) rfl rfl (E.load rfl (run_load1 Tryz.isAgg39 ((at49.mono (((r108.inc.tr r136.inc).tr i145).tr r162.run.inc)).now S161.sl) rfl)) ?_
        obtain ⟨H184, S185, i186, h187, nv188⟩ := S161.sealRowU (i := 0) (l' := []) rfl els166 (by decide) rfl
        obtain ⟨r189, hr190, hp⟩ := bnd hp
        refine FL.call (wF_yes rfl rfl rfl c183) rfl rfl (E.call Tryz.call245 (A2 rfl rfl)) (w_slices_Equal_int_int S185.sl v163 r157.1 (h187.mono upI) v37 x35.clause (h38.mono ((((((i27.tr i48).tr r108.inc).tr r136.inc).tr i145).tr r162.run.inc).tr i186)) hr190) ?_
        rintro e w191 ⟨rfl, r192⟩
        refine ⟨_, rfl, ?_⟩
        have r192 := Run.lend i186 S161.sl r192
        have S193 := S161.call r192
        obtain rfl := Option.some.inj hp
        refine FL.v (E.pickT rfl c183 rfl) ?_
        exact FL.nil ⟨rfl, _, S193, (Inc.rfl _), rfl⟩
       ·
        refine FL.skip (wF_no rfl rfl rfl c183) rfl ?_
        refine FL.skip (wF_no rfl rfl rfl c183) rfl ?_
        refine FL.skip (wF_no rfl rfl rfl c183) rfl ?_
        refine FL.skip (wF_no rfl rfl rfl c183) rfl ?_
        obtain rfl := Option.some.inj hp
        refine FL.v (E.pickF rfl c183 rfl) ?_
        exact FL.nil ⟨rfl, _, S161, (Inc.rfl _), rfl⟩
      rintro f182 w181 ⟨H178, S179, i180, k194⟩
      refine FL.v (E.assign k194) ?_
      refine FL.nil ?_
      refine FW.ret ?_
      obtain rfl := Option.some.inj hp
      exact ⟨.inr rfl, res1 rfl rfl ⟨rfl, S179.back⟩⟩

theorem w_impl_firstWrong {Ha : GH} {wa : World} (hs : Sl Ha wa) (a0 : Cnf) (v0_1 : Value) (p0_1 : RSl Ha (eL eI 1) 1 v0_1 a0.clauses) (v1 : Value) (a1 : List ResStep) (p1 : RSl Ha eResStep 4 v1 a1) {r : Int} (hp : (PF.impl_firstWrong a0 a1) = some r) :
  Calls Tryz.prog 135 #[Value.agg #[Value.int .i64 a0.vars, v0_1], v1] wa (Sc Ha wa (Value.int .i64 r)) := by
 unfold PF.impl_firstWrong at hp
 have S0 := St.init hs
 refine calls_go (N := 18) (args := [Value.agg #[Value.int .i64 a0.vars, v0_1], v1]) Tryz.func135 rfl rfl rfl ?_
 refine FW.seq (FW.region ?_)
 obtain ⟨b21, w22, run23, S24⟩ := S0.box (P := Tryz.prog) 31 [Value.int .i64 a0.vars, v0_1] (v := Value.agg #[Value.int .i64 a0.vars, v0_1]) rfl (ones_cons rfl (ones_cons p0_1.one ones_nil))
 refine FL.v (E.box rfl run23) ?_
 obtain ⟨H25, S26, i27, at28⟩ := S24.sealBox (i := 0) (l' := []) rfl rfl
 refine FL.v (E.assign (v := Value.int .i64 0) rfl) ?_
 refine FL.nil (FW.seq (FW.seq (FW.region ?_)))
 refine FL.v (E.move (v := v1) rfl) ?_
 refine FL.v (E.lenP te28 rfl p1) ?_
 refine FL.v (E.move (v := Value.int .i64 0) rfl) ?_
 refine FL.nil ?_
 obtain ⟨q30, hq, hp⟩ := bndR hp
 refine FW.block ?_
 refine FW.mono (FW.forL (S := Unit) (X := Int) (fun (i30 : Nat) (s30 : Unit) f w => ∃ H : GH, St Ha wa H w [] ∧ Inc H25 H ∧ f 8 = Value.int .i64 ((i30 : Nat) : Int) ∧ f 1 = v1 ∧ f 2 = Value.pointer (some ⟨b21, 0, none⟩) ∧ f 7 = Value.int .i64 (len a1)) (fun q e f w => match q with | .go s30 => e = Exit.exit 0 ∧ (∃ H : GH, St Ha wa H w [] ∧ Inc H25 H) | .rt x => ((e = Exit.ret) ∧ (fun e f w => (e = Exit.normal ∨ e = Exit.ret) ∧ ∀ a, Fr (δ := []) 18 a f → ∃ v, (results Tryz.f135 a.tmps).run Tryz.prog w = .ok v w ∧ (Sc Ha wa (Value.int .i64 x)) (.returned v) w) e f w)) hq ⟨_, S26, (Inc.rfl _), rfl, rfl, rfl, rfl⟩ ?_ ?_) ?_
 ·
  clear hp hq
  rintro i30 y29 s30 f50 w49 ⟨H46, S47, i48, k51, k52, k53, k54⟩ hx30 o61 hp
  refine FW.seq (FW.region ?_)
  refine FL.v (E.lssT k51 k54 (lss_len hx30)) ?_
  refine FL.nil (FW.seq ?_)
  refine FW.condT rfl rfl ?_
  refine FW.skip (FW.seq (FW.block (FW.seq (FW.region ?_))))
  refine FL.v (E.move k51) ?_
  refine FL.v (E.assign (v := Value.int .i64 ((i30 : Nat) : Int)) rfl) ?_
  refine FL.nil (FW.seq (FW.region ?_))
  refine FL.v (E.load k53 (run_loadA Tryz.isAgg31 Tryz.sizeOf31 ((at28.mono i48).now S47.sl) rfl)) ?_
  refine FL.v (E.move k52) ?_
  refine FL.v (E.move (v := Value.int .i64 ((i30 : Nat) : Int)) rfl) ?_
  obtain ⟨r55, hr56, hp⟩ := bnd hp
  refine FL.call rfl rfl rfl (E.call Tryz.call201 (A3 rfl rfl rfl)) (w_impl_correct S47.sl a0 v0_1 (p0_1.mono (i27.tr i48)) v1 a1 (p1.mono (i27.tr i48)) ((i30 : Nat) : Int) hr56) ?_
  rintro e w57 ⟨rfl, r58⟩
  refine ⟨_, rfl, ?_⟩
  have S59 := S47.call r58
  refine FL.v (E.not rfl) ?_
  refine FL.nil ?_
  rcases ifB hp with ⟨c60, hp⟩ | ⟨c60, hp⟩
  ·
   refine FW.condT rfl c60 ?_
   refine FW.seq (FW.region ?_)
   refine FL.v (E.move (v := Value.int .i64 ((i30 : Nat) : Int)) rfl) ?_
   refine FL.v (E.assign (v := Value.int .i64 ((i30 : Nat) : Int)) rfl) ?_
   refine FL.nil ?_
   refine FW.ret ?_
   obtain rfl := Option.some.inj hp
   exact ⟨nofun, rfl, ⟨.inr rfl, res1 rfl rfl ⟨rfl, S59.back⟩⟩⟩
  ·
   refine FW.condF rfl c60 ?_
   refine FW.skip (FW.region ?_)
   refine FL.v (E.add k51 rfl) ?_
   refine FL.v (E.move (v := Value.int .i64 (wr (((i30 : Nat) : Int) + 1))) rfl) ?_
   refine FL.nil ?_
   obtain rfl := Option.some.inj hp
   exact ⟨rfl, ⟨_, S59, i48, (nat_succ rfl (lt_of_get hx30) (p1.mono (i27.tr i48)).le), k52, k53, k54⟩⟩
 ·
  clear hp hq
  rintro s30 f71 w70 ⟨H67, S68, i69, k72, k73, k74, k75⟩
  refine FW.seq (FW.region ?_)
  refine FL.v (E.lss k72 k75) ?_
  refine FL.nil (FW.seq ?_)
  refine FW.condF rfl dlt_len ?_
  refine FW.exit ?_
  exact ⟨nofun, rfl, ⟨_, S68, i69⟩⟩
 ·
  clear hq
  intro e f66 w65 hD
  rcases q30 with s30 | x30
  ·
   obtain ⟨rfl, hD⟩ := hD
   obtain ⟨H62, S63, i64⟩ := hD
   replace hp := el_go hp
   refine FW.seq (FW.region ?_)
   refine FL.v (E.assign (v := Value.int .i64 (-1)) rfl) ?_
   refine FL.nil ?_
   refine FW.ret ?_
   obtain rfl := Option.some.inj hp
   exact ⟨.inr rfl, res1 rfl rfl ⟨rfl, S63.back⟩⟩
  ·
   obtain ⟨he, hL⟩ := hD
   replace hp := el_rt hp
   obtain rfl := Option.some.inj hp
   subst he
   exact hL

theorem w_impl_IsDerivation {Ha : GH} {wa : World} (hs : Sl Ha wa) (a0 : Cnf) (v0_1 : Value) (p0_1 : RSl Ha (eL eI 1) 1 v0_1 a0.clauses) (v1 : Value) (a1 : List ResStep) (p1 : RSl Ha eResStep 4 v1 a1) {r : Bool} (hp : (PF.impl_IsDerivation a0 a1) = some r) :
  Calls Tryz.prog 74 #[Value.agg #[Value.int .i64 a0.vars, v0_1], v1] wa (Sc Ha wa (Value.bool r)) := by
 unfold PF.impl_IsDerivation at hp
 have S0 := St.init hs
 refine calls_go (N := 18) (args := [Value.agg #[Value.int .i64 a0.vars, v0_1], v1]) Tryz.func74 rfl rfl rfl ?_
 refine FW.seq (FW.region ?_)
 obtain ⟨b21, w22, run23, S24⟩ := S0.box (P := Tryz.prog) 31 [Value.int .i64 a0.vars, v0_1] (v := Value.agg #[Value.int .i64 a0.vars, v0_1]) rfl (ones_cons rfl (ones_cons p0_1.one ones_nil))
 refine FL.v (E.box rfl run23) ?_
 obtain ⟨H25, S26, i27, at28⟩ := S24.sealBox (i := 0) (l' := []) rfl rfl
 refine FL.v (E.assign (v := Value.bool false) rfl) ?_
 refine FL.nil (FW.seq (FW.region ?_))
 refine FL.v (E.load rfl (run_loadA Tryz.isAgg31 Tryz.sizeOf31 (at28.now S26.sl) rfl)) ?_
 obtain ⟨r29, hr30, hp⟩ := bnd hp
 refine FL.call rfl rfl rfl (E.call Tryz.call134 (A1 rfl)) (w_impl_IsCnf S26.sl a0 v0_1 (p0_1.mono i27) hr30) ?_
 rintro e w31 ⟨rfl, r32⟩
 refine ⟨_, rfl, ?_⟩
 have S33 := S26.call r32
 refine FL.v (E.move (v := Value.bool r29) rfl) ?_
 refine FL.cut 4 (fun f w => ∃ H : GH, St Ha wa H w [] ∧ Inc H25 H ∧ f 1 = v1 ∧ f 2 = Value.pointer (some ⟨b21, 0, none⟩) ∧ f 11 = Value.bool (bif r29 then (decide ((len a1) ≤ 200)) else false)) ?_ ?_
 ·
  rcases bcase r29 with c40 | c40
  ·
   refine FL.val (wF_yes rfl rfl rfl c40) rfl rfl (E.move (v := v1) rfl) ?_
   refine FL.val (wF_yes rfl rfl rfl c40) rfl rfl (E.lenP te28 rfl p1) ?_
   refine FL.val (wF_yes rfl rfl rfl c40) rfl rfl (E.leq rfl rfl) ?_
   refine FL.v (E.pickT rfl c40 rfl) ?_
   exact FL.nil ⟨rfl, _, S33, (Inc.rfl _), rfl, rfl, (congrArg Value.bool (bifT c40).symm)⟩
  ·
   refine FL.skip (wF_no rfl rfl rfl c40) rfl ?_
   refine FL.skip (wF_no rfl rfl rfl c40) rfl ?_
   refine FL.skip (wF_no rfl rfl rfl c40) rfl ?_
   refine FL.v (E.pickF rfl c40 rfl) ?_
   exact FL.nil ⟨rfl, _, S33, (Inc.rfl _), rfl, rfl, (congrArg Value.bool (bifF c40).symm)⟩
 rintro f39 w38 ⟨H35, S36, i37, k41, k42, k43⟩
 refine FL.v (E.move k43) ?_
 obtain ⟨t49, hqt49, hp⟩ := bnd hp
 refine FL.cut 5 (fun f w => ∃ H : GH, St Ha wa H w [] ∧ Inc H35 H ∧ f 17 = Value.bool t49) ?_ ?_
 ·
  clear hp; have hp := hqt49; clear hqt49
  rcases ifB hp with ⟨c55, hp⟩ | ⟨c55, hp⟩
  ·
   refine FL.val (wF_yes rfl rfl rfl c55) rfl rfl (E.load k42 (run_loadA Tryz.isAgg31 Tryz.sizeOf31 ((at28.mono i37).now S36.sl) rfl)) ?_
   refine FL.val (wF_yes rfl rfl rfl c55) rfl rfl (E.move k41) ?_
   obtain ⟨r56, hr57, hp⟩ := bnd hp
   refine FL.call (wF_yes rfl rfl rfl c55) rfl rfl (E.call Tryz.call135 (A2 rfl rfl)) (w_impl_firstWrong S36.sl a0 v0_1 (p0_1.mono (i27.tr i37)) v1 a1 (p1.mono (i27.tr i37)) hr57) ?_
   rintro e w58 ⟨rfl, r59⟩
   refine ⟨_, rfl, ?_⟩
   have S60 := S36.call r59
   refine FL.val (wF_yes rfl rfl rfl c55) rfl rfl (E.lss rfl rfl) ?_
   obtain rfl := Option.some.inj hp
   refine FL.v (E.pickT rfl c55 rfl) ?_
   exact FL.nil ⟨rfl, _, S60, (Inc.rfl _), rfl⟩
  ·
   refine FL.skip (wF_no rfl rfl rfl c55) rfl ?_
   refine FL.skip (wF_no rfl rfl rfl c55) rfl ?_
   refine FL.skip (wF_no rfl rfl rfl c55) rfl ?_
   refine FL.skip (wF_no rfl rfl rfl c55) rfl ?_
   obtain rfl := Option.some.inj hp
   refine FL.v (E.pickF rfl c55 rfl) ?_
   exact FL.nil ⟨rfl, _, S36, (Inc.rfl _), rfl⟩
 rintro f54 w53 ⟨H50, S51, i52, k61⟩
 refine FL.v (E.assign k61) ?_
 refine FL.nil ?_
 refine FW.ret ?_
 obtain rfl := Option.some.inj hp
 exact ⟨.inr rfl, res1 rfl rfl ⟨rfl, S51.back⟩⟩

theorem w_impl_ResStep_isAxiom {Ha : GH} {wa : World} (hs : Sl Ha wa) (a0 : ResStep) (v0_0 : Value) (p0_0 : RSl Ha eI 1 v0_0 a0.clause) :
  Calls Tryz.prog 87 #[Value.agg #[v0_0, Value.int .i64 a0.left, Value.int .i64 a0.right, Value.int .i64 a0.pivot]] wa (Sc Ha wa (Value.bool (PF.impl_ResStep_isAxiom a0))) := by
 obtain ⟨r, hp⟩ : ∃ r, (PF.impl_ResStep_isAxiom a0) = r := ⟨_, rfl⟩
 rw [hp]
 unfold PF.impl_ResStep_isAxiom at hp
 have S0 := St.init hs
 refine calls_go (N := 6) (args := [Value.agg #[v0_0, Value.int .i64 a0.left, Value.int .i64 a0.right, Value.int .i64 a0.pivot]]) Tryz.func87 rfl rfl rfl ?_
 refine FW.seq (FW.region ?_)
 obtain ⟨b21, w22, run23, S24⟩ := S0.box (P := Tryz.prog) 89 [v0_0, Value.int .i64 a0.left, Value.int .i64 a0.right, Value.int .i64 a0.pivot] (v := Value.agg #[v0_0, Value.int .i64 a0.left, Value.int .i64 a0.right, Value.int .i64 a0.pivot]) rfl (ones_cons p0_0.one (ones_cons rfl (ones_cons rfl (ones_cons rfl ones_nil))))
 refine FL.v (E.box rfl run23) ?_
 obtain ⟨H25, S26, i27, at28⟩ := S24.sealBox (i := 0) (l' := []) rfl rfl
 refine FL.v (E.assign (v := Value.bool false) rfl) ?_
 refine FL.nil (FW.seq (FW.region ?_))
 refine FL.v (E.fieldAddr tf89_1 rfl) ?_
 refine FL.v (E.load rfl (run_load1 Tryz.isAgg3 (at28.now S26.sl) rfl)) ?_
 refine FL.v (E.lss rfl rfl) ?_
 refine FL.v (E.assign (v := Value.bool (decide (a0.left < 0))) rfl) ?_
 refine FL.nil ?_
 refine FW.ret ?_
 obtain rfl := hp
 exact ⟨.inr rfl, res1 rfl rfl ⟨rfl, S26.back⟩⟩

@[reducible] def p_impl_dense_terms (Ha : GH) (wa : World) (r : (List Term)) : Ending → World → Prop :=
  fun e w' => ∃ H' : GH, ∃ v0 : Value, ∃ n0 : Nat, ∃ c0 : List Value, e = .returned (v0) ∧ St Ha wa H' w' [.row 147 2 v0 n0 c0] ∧ Els (up wa.heap.size H') eTerm 2 c0 r
theorem w_impl_dense_terms {Ha : GH} {wa : World} (hs : Sl Ha wa) (v0 : Value) (a0 : List Int) (p0 : RSl Ha eI 1 v0 a0) {r : (List Term)} (hp : (PF.impl_dense_terms a0) = some r) :
    Calls Tryz.prog 110 #[v0] wa (p_impl_dense_terms Ha wa r) := by
  unfold PF.impl_dense_terms at hp
  have S0 := St.init hs
  refine calls_go (N := 23) (args := [v0]) Tryz.func110 rfl rfl rfl ?_
  refine FW.seq (FW.region ?_)
  refine FL.v (E.assign (v := Value.slice none 0 0) rfl) ?_
  refine FL.nil (FW.seq (FW.region ?_))
  refine FL.v (E.assign (v := Value.slice none 0 0) rfl) ?_
  refine FL.nil (FW.seq (FW.seq (FW.region ?_)))
  refine FL.v (E.move (v := v0) rfl) ?_
  refine FL.v (E.lenP te139 rfl p0) ?_
  refine FL.v (E.move (v := Value.int .i64 0) rfl) ?_
  refine FL.nil ?_
  obtain ⟨q22, hq, hp⟩ := bndR hp
  refine FW.block ?_
  refine FW.mono (FW.forL (S := (List Term)) (X := Empty) (fun (i22 : Nat) (s22 : (List Term)) f w => ∃ H : GH, ∃ v23 : Value, ∃ n24 : Nat, ∃ cs25 : List Value, St Ha wa H w [.row 147 2 v23 n24 cs25] ∧ Inc Ha H ∧ Els (up wa.heap.size H) eTerm 2 cs25 s22 ∧ f 8 = Value.int .i64 ((i22 : Nat) : Int) ∧ f 3 = v23 ∧ f 6 = v0 ∧ f 7 = Value.int .i64 (len a0)) (fun (q : Rs (List Term) Empty) e f w => match q with | .go s22 => e = Exit.exit 0 ∧ (∃ H : GH, ∃ v23 : Value, ∃ n24 : Nat, ∃ cs25 : List Value, St Ha wa H w [.row 147 2 v23 n24 cs25] ∧ Inc Ha H ∧ Els (up wa.heap.size H) eTerm 2 cs25 s22 ∧ f 3 = v23) | .rt x => x.elim) hq ⟨_, _, _, _, (S0.nil 147 2), (Inc.rfl _), Els.nil, rfl, rfl, rfl, rfl⟩ ?_ ?_) ?_
  ·
    clear hp hq
    rintro i22 y21 s22 f63 w62 ⟨H59, v23, n24, cs25, S60, i61, els26, k64, k65, k66, k67⟩ hx22 o91 hp
    refine FW.seq (FW.region ?_)
    refine FL.v (E.lssT k64 k67 (lss_len hx22)) ?_
    refine FL.nil (FW.seq ?_)
    refine FW.condT rfl rfl ?_
    refine FW.skip (FW.seq (FW.block (FW.seq (FW.region ?_))))
    refine FL.v (E.move k64) ?_
    obtain ⟨p68, cs69, pt70, l71, at72, rel73⟩ := p0.at (ix_nat hx22)
    obtain rfl := eI_open rel73
    refine FL.v (E.indexAddr te139 k66 k64 pt70) ?_
    refine FL.v (E.load rfl (run_load0 Tryz.isAgg3 ((at72.mono i61).now S60.sl) rfl)) ?_
    refine FL.v (E.assign (v := Value.int .i64 ((i22 : Nat) : Int)) rfl) ?_
    refine FL.v (E.assign (v := Value.int .i64 y21) rfl) ?_
    refine FL.nil (FW.seq (FW.region ?_))
    refine FL.v (E.move (v := Value.int .i64 y21) rfl) ?_
    refine FL.v (E.neq rfl rfl) ?_
    refine FL.nil ?_
    rcases ifB hp with ⟨c74, hp⟩ | ⟨c74, hp⟩
    ·
      refine FW.condT rfl c74 ?_
      refine FW.region ?_
      refine FL.v (E.move k65) ?_
      refine FL.v (E.move (v := Value.int .i64 ((i22 : Nat) : Int)) rfl) ?_
      refine FL.v (E.move (v := Value.int .i64 y21) rfl) ?_
      refine FL.v (E.build (B2 rfl rfl) (run_build _ 147 #[(0, Value.int .i64 ((i22 : Nat) : Int)), (1, Value.int .i64 y21)] #[Value.int .i64 ((i22 : Nat) : Int), Value.int .i64 y21] (by rfl))) ?_
      obtain ⟨v75, w76, run77, S78⟩ := S60.buildSlice (P := Tryz.prog) te68 [Value.agg #[Value.int .i64 ((i22 : Nat) : Int), Value.int .i64 y21]] (parts := #[(0, Value.agg #[Value.int .i64 ((i22 : Nat) : Int), Value.int .i64 y21])]) (cells := [Value.int .i64 ((i22 : Nat) : Int), Value.int .i64 y21]) rfl (szs_cons rfl szs_nil) (fc_cons rfl fc_nil) (ones_cons rfl (ones_cons rfl ones_nil)) (Nat.le_of_ble_eq_true rfl)
      have els79 : Els (up wa.heap.size H59) eTerm 2 [Value.int .i64 ((i22 : Nat) : Int), Value.int .i64 y21] [(Term.mk ((i22 : Nat) : Int) y21)] := (Els.snoc (H := (up wa.heap.size H59)) (E := eTerm) (k := 2) (c := [Value.int .i64 ((i22 : Nat) : Int), Value.int .i64 y21]) (x := (Term.mk ((i22 : Nat) : Int) y21)) Els.nil rfl rfl)
      refine FL.v (E.buildSlice (B1 rfl) run77) ?_
      obtain ⟨xs80, hz81, hp⟩ := bnd hp
      obtain ⟨v82, w85, n83, cs84, run86, S87, els88, ce89⟩ := S78.appendO (P := Tryz.prog) te68 (i := 1) (j := 0) rfl els26 rfl els79 hz81
      have S87 : St Ha wa H59 w85 [.row 147 2 v75 1 [Value.int .i64 ((i22 : Nat) : Int), Value.int .i64 y21], .row 147 2 v82 n83 cs84] := S87
      have S90 : St Ha wa H59 w85 [.row 147 2 v82 n83 cs84] := S87.drop 0
      refine FL.v (E.append rfl rfl run86) ?_
      refine FL.v (E.assign (v := v82) rfl) ?_
      refine FL.nil (FW.region ?_)
      refine FL.v (E.add k64 rfl) ?_
      refine FL.v (E.move (v := Value.int .i64 (wr (((i22 : Nat) : Int) + 1))) rfl) ?_
      refine FL.nil ?_
      obtain rfl := Option.some.inj hp
      exact ⟨rfl, ⟨_, _, _, _, S90, i61, els88, (nat_succ rfl (lt_of_get hx22) (p0.mono i61).le), rfl, k66, k67⟩⟩
    ·
      refine FW.condF rfl c74 ?_
      refine FW.skip (FW.region ?_)
      refine FL.v (E.add k64 rfl) ?_
      refine FL.v (E.move (v := Value.int .i64 (wr (((i22 : Nat) : Int) + 1))) rfl) ?_
      refine FL.nil ?_
      obtain rfl := Option.some.inj hp
      exact ⟨rfl, ⟨_, _, _, _, S60, i61, els26, (nat_succ rfl (lt_of_get hx22) (p0.mono i61).le), k65, k66, k67⟩⟩
  ·
    clear hp hq
    rintro s22 f102 w101 ⟨H98, v23, n24, cs25, S99, i100, els26, k103, k104, k105, k106⟩
    refine FW.seq (FW.region ?_)
    refine FL.v (E.lss k103 k106) ?_
    refine FL.nil (FW.seq ?_)
    refine FW.condF rfl dlt_len ?_
    refine FW.exit ?_
    exact ⟨nofun, rfl, ⟨_, _, _, _, S99, i100, els26, k104⟩⟩
  ·
    clear hq
    intro e f96 w95 hD
    rcases q22 with s22 | x22
    ·
      obtain ⟨rfl, hD⟩ := hD
      obtain ⟨H92, v23, n24, cs25, S93, i94, els26, k97⟩ := hD
      replace hp := el_go hp
      refine FW.seq (FW.region ?_)
      refine FL.v (E.move k97) ?_
      refine FL.v (E.assign (v := v23) rfl) ?_
      refine FL.nil ?_
      refine FW.ret ?_
      obtain rfl := Option.some.inj hp
      exact ⟨.inr rfl, res1 rfl rfl ⟨_, _, _, _, rfl, S93, els26⟩⟩
    · exact x22.elim

theorem w_impl_ResStep_isWeakening {Ha : GH} {wa : World} (hs : Sl Ha wa) (a0 : ResStep) (v0_0 : Value) (p0_0 : RSl Ha eI 1 v0_0 a0.clause) :
  Calls Tryz.prog 89 #[Value.agg #[v0_0, Value.int .i64 a0.left, Value.int .i64 a0.right, Value.int .i64 a0.pivot]] wa (Sc Ha wa (Value.bool (PF.impl_ResStep_isWeakening a0))) := by
 obtain ⟨r, hp⟩ : ∃ r, (PF.impl_ResStep_isWeakening a0) = r := ⟨_, rfl⟩
 rw [hp]
 unfold PF.impl_ResStep_isWeakening at hp
 have S0 := St.init hs
 refine calls_go (N := 11) (args := [Value.agg #[v0_0, Value.int .i64 a0.left, Value.int .i64 a0.right, Value.int .i64 a0.pivot]]) Tryz.func89 rfl rfl rfl ?_
 refine FW.seq (FW.region ?_)
 obtain ⟨b21, w22, run23, S24⟩ := S0.box (P := Tryz.prog) 89 [v0_0, Value.int .i64 a0.left, Value.int .i64 a0.right, Value.int .i64 a0.pivot] (v := Value.agg #[v0_0, Value.int .i64 a0.left, Value.int .i64 a0.right, Value.int .i64 a0.pivot]) rfl (ones_cons p0_0.one (ones_cons rfl (ones_cons rfl (ones_cons rfl ones_nil))))
 refine FL.v (E.box rfl run23) ?_
 obtain ⟨H25, S26, i27, at28⟩ := S24.sealBox (i := 0) (l' := []) rfl rfl
 refine FL.v (E.assign (v := Value.bool false) rfl) ?_
 refine FL.nil (FW.seq (FW.region ?_))
 refine FL.v (E.fieldAddr tf89_1 rfl) ?_
 refine FL.v (E.load rfl (run_load1 Tryz.isAgg3 (at28.now S26.sl) rfl)) ?_
 refine FL.v (E.geq rfl rfl) ?_
 refine FL.v (E.move (v := Value.bool (decide (0 ≤ a0.left))) rfl) ?_
 refine FL.cut 4 (fun f w => ∃ H : GH, St Ha wa H w [] ∧ Inc H25 H ∧ f 10 = Value.bool (bif (decide (0 ≤ a0.left)) then (decide (a0.right < 0)) else false)) ?_ ?_
 ·
  rcases bcase (decide (0 ≤ a0.left)) with c35 | c35
  ·
   refine FL.val (wF_yes rfl rfl rfl c35) rfl rfl (E.fieldAddr tf89_2 rfl) ?_
   refine FL.val (wF_yes rfl rfl rfl c35) rfl rfl (E.load rfl (run_load1 Tryz.isAgg3 (at28.now S26.sl) rfl)) ?_
   refine FL.val (wF_yes rfl rfl rfl c35) rfl rfl (E.lss rfl rfl) ?_
   refine FL.v (E.pickT rfl c35 rfl) ?_
   exact FL.nil ⟨rfl, _, S26, (Inc.rfl _), (congrArg Value.bool (bifT c35).symm)⟩
  ·
   refine FL.skip (wF_no rfl rfl rfl c35) rfl ?_
   refine FL.skip (wF_no rfl rfl rfl c35) rfl ?_
   refine FL.skip (wF_no rfl rfl rfl c35) rfl ?_
   refine FL.v (E.pickF rfl c35 rfl) ?_
   exact FL.nil ⟨rfl, _, S26, (Inc.rfl _), (congrArg Value.bool (bifF c35).symm)⟩
 rintro f34 w33 ⟨H30, S31, i32, k36⟩
 refine FL.v (E.assign k36) ?_
 refine FL.nil ?_
 refine FW.ret ?_
 obtain rfl := hp
 exact ⟨.inr rfl, res1 rfl rfl ⟨rfl, S31.back⟩⟩

theorem w_impl_further_1 {Ha : GH} {wa : World} (hs : Sl Ha wa) (a0 : Int) (q0 : Addr) (b0 : List Int) (u0_0 : Value) (g0_0 : RSl Ha eI 1 u0_0 b0) (c0 : CAt Ha q0 [u0_0]) {r : Bool} (hp : (PF.impl_further_1 a0 b0) = some r) :
  Calls Tryz.prog 161 #[Value.int .i64 a0, Value.pointer (some q0)] wa (Sc Ha wa (Value.bool r)) := by
 unfold PF.impl_further_1 at hp
 have S0 := St.init hs
 refine calls_go (N := 7) (args := [Value.int .i64 a0, Value.pointer (some q0)]) Tryz.func161 rfl rfl rfl ?_
 refine FW.seq (FW.region ?_)
 refine FL.v (E.assign (v := Value.bool false) rfl) ?_
 refine FL.nil (FW.seq (FW.region ?_))
 refine FL.v (E.load rfl (run_load0 Tryz.isAgg39 (c0.now S0.sl) rfl)) ?_
 refine FL.v (E.move (v := Value.int .i64 a0) rfl) ?_
 obtain ⟨r21, hr22, hp⟩ := bnd hp
 refine FL.call rfl rfl rfl (E.call Tryz.call162 (A2 rfl rfl)) (w_slices_Contains_int_int S0.sl u0_0 b0 g0_0 a0 hr22) ?_
 rintro e w23 ⟨rfl, r24⟩
 refine ⟨_, rfl, ?_⟩
 have S25 := S0.call r24
 refine FL.v (E.assign (v := Value.bool r21) rfl) ?_
 refine FL.nil ?_
 refine FW.ret ?_
 obtain rfl := Option.some.inj hp
 exact ⟨.inr rfl, res1 rfl rfl ⟨rfl, S25.back⟩⟩

@[reducible] def p_impl_further (Ha : GH) (wa : World) (r : (List Int)) : Ending → World → Prop :=
 fun e w' => ∃ H' : GH, ∃ v0 : Value, ∃ n0 : Nat, ∃ c0 : List Value, e = .returned (v0) ∧ St Ha wa H' w' [.row 3 1 v0 n0 c0] ∧ Els (up wa.heap.size H') eI 1 c0 r
theorem w_impl_further {Ha : GH} {wa : World} (hs : Sl Ha wa) (v0 : Value) (a0 : List Int) (p0 : RSl Ha eI 1 v0 a0) (v1 : Value) (a1 : List Int) (p1 : RSl Ha eI 1 v1 a1) {r : (List Int)} (hp : (PF.impl_further a0 a1) = some r) :
  Calls Tryz.prog 91 #[v0, v1] wa (p_impl_further Ha wa r) := by
 unfold PF.impl_further at hp
 have S0 := St.init hs
 refine calls_go (N := 9) (args := [v0, v1]) Tryz.func91 rfl rfl rfl ?_
 refine FW.seq (FW.region ?_)
 obtain ⟨b21, w22, run23, S24⟩ := S0.box (P := Tryz.prog) 39 [v1] (v := v1) p1.cells (ones_cons p1.one ones_nil)
 refine FL.v (E.box rfl run23) ?_
 obtain ⟨H25, S26, i27, at28⟩ := S24.sealBox (i := 0) (l' := []) rfl rfl
 refine FL.v (E.assign (v := Value.slice none 0 0) rfl) ?_
 refine FL.nil (FW.seq (FW.region ?_))
 refine FL.v (E.move (v := v0) rfl) ?_
 obtain ⟨r29, hr30, hp⟩ := bnd hp
 refine FL.call rfl rfl rfl (E.call Tryz.call160 (A1 rfl)) (w_slices_Clone_int_int S26.sl v0 a0 (p0.mono i27) hr30) ?_
 rintro e w32 ⟨H31, v35, n36, cs37, rfl, r34, els38⟩
 refine ⟨_, rfl, ?_⟩
 have els38 := els38.mono (up_le S26.size)
 have S33 := S26.join (l' := [.row 3 1 v35 n36 cs37]) r34 rfl
 refine FL.v (E.makeFunc A0 (A1 rfl)) ?_
 obtain ⟨r39, hr40, hp⟩ := bnd hp
 refine FL.call rfl rfl rfl (E.call Tryz.call159 (A2 rfl rfl)) (w_slices_DeleteFunc_int_int (L := []) S33 r29 els38 (Value.func (.func 161) #[] #[Value.pointer (some ⟨b21, 0, none⟩)]) (fun x0 => PF.impl_further_1 x0 a1) (fun H2 w2 hi2 hs2 x0 r hr => ⟨161, #[Value.pointer (some ⟨b21, 0, none⟩)], rfl, Tryz.call161, w_impl_further_1 hs2 x0 ⟨b21, 0, none⟩ a1 v1 ((p1.mono (i27.tr r34.run.inc)).mono hi2) ((at28.mono r34.run.inc).mono hi2) hr⟩) hr40) ?_
 rintro e w42 ⟨H41, v45, n46, cs47, rfl, ⟨S43, i44⟩, els48⟩
 refine ⟨_, rfl, ?_⟩
 have S43 : St Ha wa H41 w42 [.row 3 1 v45 n46 cs47] := S43
 refine FL.v (E.assign (v := v45) rfl) ?_
 refine FL.nil ?_
 refine FW.ret ?_
 obtain rfl := Option.some.inj hp
 exact ⟨.inr rfl, res1 rfl rfl ⟨_, _, _, _, rfl, S43, els48⟩⟩

@[reducible] def p_impl_translator_sum (H0 : GH) (w0 : World) (Ha : GH) (L : List MO) (b0 : Nat) (q0_0 : Addr) (v0_3 : Value) (n0_3 : Nat) (k0_3 : List Value) (r : (Int × translator)) : Ending → World → Prop :=
 fun e w' => ∃ H' : GH, ∃ v0_1r : Value, ∃ n0_1r : Nat, ∃ c0_1r : List Value, ∃ v0_2r : Value, ∃ n0_2r : Nat, ∃ c0_2r : List Value, e = .returned (Value.int .i64 r.1) ∧ (St H0 w0 H' w' (.box b0 126 [Value.pointer (some q0_0), v0_1r, v0_2r, v0_3] :: .row 129 6 v0_1r n0_1r c0_1r :: .row 139 1 v0_2r n0_2r c0_2r :: .row 3 1 v0_3 n0_3 k0_3 :: L) ∧ Inc Ha H') ∧ Els (up w0.heap.size H') ePcStep 6 c0_1r r.2.steps ∧ (bl c0_1r).Nodup ∧ Els H' (eL eI 1) 1 c0_2r r.2.polys
theorem w_impl_translator_sum {H0 Ha : GH} {w0 wa : World} {L : List MO} {b0 : Nat} {q0_0 : Addr} {v0_0_3 : Value} {v0_0_4 : Value} {v0_1 : Value} {n0_1 : Nat} {k0_1 : List Value} {v0_2 : Value} {n0_2 : Nat} {k0_2 : List Value} {v0_3 : Value} {n0_3 : Nat} {k0_3 : List Value} (S0 : St H0 w0 Ha wa (.box b0 126 [Value.pointer (some q0_0), v0_1, v0_2, v0_3] :: .row 129 6 v0_1 n0_1 k0_1 :: .row 139 1 v0_2 n0_2 k0_2 :: .row 3 1 v0_3 n0_3 k0_3 :: L)) (a0 : translator) (p0_0_3 : RSl Ha (eL eI 1) 1 v0_0_3 a0.algebra.f.clauses) (p0_0_4 : RSl Ha (eL eI 1) 1 v0_0_4 a0.algebra.q) (c0_0 : CAt Ha q0_0 [Value.int .i64 a0.algebra.ring.p, Value.int .i64 a0.algebra.ring.vars, Value.int .i64 a0.algebra.f.vars, v0_0_3, v0_0_4]) (p0_1 : Els (up w0.heap.size Ha) ePcStep 6 k0_1 a0.steps) (d0_1 : (bl k0_1).Nodup) (p0_2 : Els Ha (eL eI 1) 1 k0_2 a0.polys) (p0_3 : Els (up w0.heap.size Ha) eI 1 k0_3 a0.at_) (a1 : Int) (a2 : Int) (a3 : Int) (a4 : Int) {r : (Int × translator)} (hp : (PF.impl_translator_sum a0 a1 a2 a3 a4) = some r) :
  Calls Tryz.prog 220 #[Value.pointer (some (⟨b0, 0, none⟩ : Addr)), Value.int .i64 a1, Value.int .i64 a2, Value.int .i64 a3, Value.int .i64 a4] wa (p_impl_translator_sum H0 w0 Ha L b0 q0_0 v0_3 n0_3 k0_3 r) := by
 unfold PF.impl_translator_sum at hp
 refine calls_go (N := 60) (args := [Value.pointer (some (⟨b0, 0, none⟩ : Addr)), Value.int .i64 a1, Value.int .i64 a2, Value.int .i64 a3, Value.int .i64 a4]) Tryz.func220 rfl rfl rfl ?_
 refine FW.seq (FW.region ?_)
 refine FL.v (E.assign (v := Value.int .i64 0) rfl) ?_
 refine FL.nil (FW.seq ?_)
 obtain ⟨r24, hr25, hp⟩ := bnd hp
 obtain ⟨x40, hx41, hp⟩ := bnd hp
 obtain ⟨r50, hr51, hp⟩ := bnd hp
 obtain ⟨x69, hx70, hp⟩ := bnd hp
 obtain ⟨r79, hr80, hp⟩ := bnd hp
 refine FW.drawB (SX H0 w0 Ha (.box b0 126 [Value.pointer (some q0_0), v0_1, v0_2, v0_3] :: .row 139 1 v0_2 n0_2 k0_2 :: L)) (fun f w => ∃ H : GH, ∃ v91 : Value, ∃ n92 : Nat, ∃ cs93 : List Value, St H0 w0 H w (.box b0 126 [Value.pointer (some q0_0), v0_1, v0_2, v0_3] :: .row 129 6 v0_1 n0_1 k0_1 :: .row 139 1 v0_2 n0_2 k0_2 :: .row 3 1 v0_3 n0_3 k0_3 :: .row 3 1 v91 n92 cs93 :: L) ∧ Inc Ha H ∧ Els (up w0.heap.size H) eI 1 cs93 r79 ∧ f 0 = Value.pointer (some (⟨b0, 0, none⟩ : Addr)) ∧ f 1 = Value.int .i64 a1 ∧ f 2 = Value.int .i64 a2 ∧ f 3 = Value.int .i64 a3 ∧ f 4 = Value.int .i64 a4 ∧ f 11 = v91) (by kernel_rfl) S0.sl ?_ ?_
 ·
  intro w21 r22
  have S23 := S0.call r22
  refine FB.t (i := 0) (bs 41 1) rfl (SP.nil ⟨_, (S23.selT (a := [.box b0 126 [Value.pointer (some q0_0), v0_1, v0_2, v0_3], .row 129 6 v0_1 n0_1 k0_1, .row 139 1 v0_2 n0_2 k0_2, .row 3 1 v0_3 n0_3 k0_3]) (l' := [.box b0 126 [Value.pointer (some q0_0), v0_1, v0_2, v0_3], .row 139 1 v0_2 n0_2 k0_2]) [0, 2] (by decide) rfl), (Inc.rfl _)⟩) rfl (fun w' hw' => (E.move (v := Value.pointer (some (⟨b0, 0, none⟩ : Addr))) rfl)) ?_
  refine FB.t (i := 1) (bs 41 3) rfl (SP.nil ⟨_, (S23.selT (a := [.box b0 126 [Value.pointer (some q0_0), v0_1, v0_2, v0_3], .row 129 6 v0_1 n0_1 k0_1, .row 139 1 v0_2 n0_2 k0_2, .row 3 1 v0_3 n0_3 k0_3]) (l' := [.box b0 126 [Value.pointer (some q0_0), v0_1, v0_2, v0_3], .row 139 1 v0_2 n0_2 k0_2]) [0, 2] (by decide) rfl), (Inc.rfl _)⟩) rfl (fun w' hw' => (E.nilCheck rfl)) ?_
  refine FB.t (i := 2) (bs 41 7) rfl (SP.nil ⟨_, (S23.selT (a := [.box b0 126 [Value.pointer (some q0_0), v0_1, v0_2, v0_3], .row 129 6 v0_1 n0_1 k0_1, .row 139 1 v0_2 n0_2 k0_2, .row 3 1 v0_3 n0_3 k0_3]) (l' := [.box b0 126 [Value.pointer (some q0_0), v0_1, v0_2, v0_3], .row 139 1 v0_2 n0_2 k0_2]) [0, 2] (by decide) rfl), (Inc.rfl _)⟩) rfl (fun w' hw' => (E.fieldAddr tf126_0 rfl)) ?_
  refine FB.t (i := 3) (bs 41 15) rfl (SP.nil ⟨_, (S23.selT (a := [.box b0 126 [Value.pointer (some q0_0), v0_1, v0_2, v0_3], .row 129 6 v0_1 n0_1 k0_1, .row 139 1 v0_2 n0_2 k0_2, .row 3 1 v0_3 n0_3 k0_3]) (l' := [.box b0 126 [Value.pointer (some q0_0), v0_1, v0_2, v0_3], .row 139 1 v0_2 n0_2 k0_2]) [0, 2] (by decide) rfl), (Inc.rfl _)⟩) rfl (fun w' hw' => (E.load rfl (run_load1 Tryz.isAgg123 (SX.box_now hw' (i := 0) rfl) rfl))) ?_
  refine FB.t (i := 4) (bs 41 31) rfl (SP.nil ⟨_, (S23.selT (a := [.box b0 126 [Value.pointer (some q0_0), v0_1, v0_2, v0_3], .row 129 6 v0_1 n0_1 k0_1, .row 139 1 v0_2 n0_2 k0_2, .row 3 1 v0_3 n0_3 k0_3]) (l' := [.box b0 126 [Value.pointer (some q0_0), v0_1, v0_2, v0_3], .row 139 1 v0_2 n0_2 k0_2]) [0, 2] (by decide) rfl), (Inc.rfl _)⟩) rfl (fun w' hw' => (E.nilCheck rfl)) ?_
  refine FB.t (i := 5) (bs 41 63) rfl (SP.nil ⟨_, (S23.selT (a := [.box b0 126 [Value.pointer (some q0_0), v0_1, v0_2, v0_3], .row 129 6 v0_1 n0_1 k0_1, .row 139 1 v0_2 n0_2 k0_2, .row 3 1 v0_3 n0_3 k0_3]) (l' := [.box b0 126 [Value.pointer (some q0_0), v0_1, v0_2, v0_3], .row 139 1 v0_2 n0_2 k0_2]) [0, 2] (by decide) rfl), (Inc.rfl _)⟩) rfl (fun w' hw' => (E.fieldAddr tf144_0 rfl)) ?_
  refine FB.t (i := 6) (bs 41 127) rfl (SP.nil ⟨_, (S23.selT (a := [.box b0 126 [Value.pointer (some q0_0), v0_1, v0_2, v0_3], .row 129 6 v0_1 n0_1 k0_1, .row 139 1 v0_2 n0_2 k0_2, .row 3 1 v0_3 n0_3 k0_3]) (l' := [.box b0 126 [Value.pointer (some q0_0), v0_1, v0_2, v0_3], .row 139 1 v0_2 n0_2 k0_2]) [0, 2] (by decide) rfl), (Inc.rfl _)⟩) rfl (fun w' hw' => (E.load rfl (run_loadA Tryz.isAgg142 Tryz.sizeOf142 ((c0_0.now hw'.sl).sub (j := 0) (n := 2) (c := [Value.int .i64 a0.algebra.ring.p, Value.int .i64 a0.algebra.ring.vars]) rfl) rfl))) ?_
  refine FB.t (i := 7) (bs 41 255) rfl (SP.nil ⟨_, (S23.selT (a := [.box b0 126 [Value.pointer (some q0_0), v0_1, v0_2, v0_3], .row 129 6 v0_1 n0_1 k0_1, .row 139 1 v0_2 n0_2 k0_2, .row 3 1 v0_3 n0_3 k0_3]) (l' := [.box b0 126 [Value.pointer (some q0_0), v0_1, v0_2, v0_3], .row 139 1 v0_2 n0_2 k0_2]) [0, 2] (by decide) rfl), (Inc.rfl _)⟩) rfl (fun w' hw' => (E.move (v := Value.pointer (some (⟨b0, 0, none⟩ : Addr))) rfl)) ?_
  refine FB.t (i := 8) (bs 41 511) rfl (SP.nil ⟨_, (S23.selT (a := [.box b0 126 [Value.pointer (some q0_0), v0_1, v0_2, v0_3], .row 129 6 v0_1 n0_1 k0_1, .row 139 1 v0_2 n0_2 k0_2, .row 3 1 v0_3 n0_3 k0_3]) (l' := [.box b0 126 [Value.pointer (some q0_0), v0_1, v0_2, v0_3], .row 139 1 v0_2 n0_2 k0_2]) [0, 2] (by decide) rfl), (Inc.rfl _)⟩) rfl (fun w' hw' => (E.nilCheck rfl)) ?_
  refine FB.t (i := 9) (bs 41 1023) rfl (SP.nil ⟨_, (S23.selT (a := [.box b0 126 [Value.pointer (some q0_0), v0_1, v0_2, v0_3], .row 129 6 v0_1 n0_1 k0_1, .row 139 1 v0_2 n0_2 k0_2, .row 3 1 v0_3 n0_3 k0_3]) (l' := [.box b0 126 [Value.pointer (some q0_0), v0_1, v0_2, v0_3], .row 139 1 v0_2 n0_2 k0_2]) [0, 2] (by decide) rfl), (Inc.rfl _)⟩) rfl (fun w' hw' => (E.fieldAddr tf126_0 rfl)) ?_
  refine FB.t (i := 10) (bs 41 2047) rfl (SP.nil ⟨_, (S23.selT (a := [.box b0 126 [Value.pointer (some q0_0), v0_1, v0_2, v0_3], .row 129 6 v0_1 n0_1 k0_1, .row 139 1 v0_2 n0_2 k0_2, .row 3 1 v0_3 n0_3 k0_3]) (l' := [.box b0 126 [Value.pointer (some q0_0), v0_1, v0_2, v0_3], .row 139 1 v0_2 n0_2 k0_2]) [0, 2] (by decide) rfl), (Inc.rfl _)⟩) rfl (fun w' hw' => (E.load rfl (run_load1 Tryz.isAgg123 (SX.box_now hw' (i := 0) rfl) rfl))) ?_
  refine FB.t (i := 11) (bs 41 4095) rfl (SP.nil ⟨_, (S23.selT (a := [.box b0 126 [Value.pointer (some q0_0), v0_1, v0_2, v0_3], .row 129 6 v0_1 n0_1 k0_1, .row 139 1 v0_2 n0_2 k0_2, .row 3 1 v0_3 n0_3 k0_3]) (l' := [.box b0 126 [Value.pointer (some q0_0), v0_1, v0_2, v0_3], .row 139 1 v0_2 n0_2 k0_2]) [0, 2] (by decide) rfl), (Inc.rfl _)⟩) rfl (fun w' hw' => (E.nilCheck rfl)) ?_
  refine FB.t (i := 12) (bs 41 8191) rfl (SP.nil ⟨_, (S23.selT (a := [.box b0 126 [Value.pointer (some q0_0), v0_1, v0_2, v0_3], .row 129 6 v0_1 n0_1 k0_1, .row 139 1 v0_2 n0_2 k0_2, .row 3 1 v0_3 n0_3 k0_3]) (l' := [.box b0 126 [Value.pointer (some q0_0), v0_1, v0_2, v0_3], .row 139 1 v0_2 n0_2 k0_2]) [0, 2] (by decide) rfl), (Inc.rfl _)⟩) rfl (fun w' hw' => (E.fieldAddr tf144_0 rfl)) ?_
  refine FB.t (i := 13) (bs 41 16383) rfl (SP.nil ⟨_, (S23.selT (a := [.box b0 126 [Value.pointer (some q0_0), v0_1, v0_2, v0_3], .row 129 6 v0_1 n0_1 k0_1, .row 139 1 v0_2 n0_2 k0_2, .row 3 1 v0_3 n0_3 k0_3]) (l' := [.box b0 126 [Value.pointer (some q0_0), v0_1, v0_2, v0_3], .row 139 1 v0_2 n0_2 k0_2]) [0, 2] (by decide) rfl), (Inc.rfl _)⟩) rfl (fun w' hw' => (E.load rfl (run_loadA Tryz.isAgg142 Tryz.sizeOf142 ((c0_0.now hw'.sl).sub (j := 0) (n := 2) (c := [Value.int .i64 a0.algebra.ring.p, Value.int .i64 a0.algebra.ring.vars]) rfl) rfl))) ?_
  refine FB.t (i := 14) (bs 41 32767) rfl (SP.nil ⟨_, (S23.selT (a := [.box b0 126 [Value.pointer (some q0_0), v0_1, v0_2, v0_3], .row 129 6 v0_1 n0_1 k0_1, .row 139 1 v0_2 n0_2 k0_2, .row 3 1 v0_3 n0_3 k0_3]) (l' := [.box b0 126 [Value.pointer (some q0_0), v0_1, v0_2, v0_3], .row 139 1 v0_2 n0_2 k0_2]) [0, 2] (by decide) rfl), (Inc.rfl _)⟩) rfl (fun w' hw' => (E.move (v := Value.pointer (some (⟨b0, 0, none⟩ : Addr))) rfl)) ?_
  refine FB.t (i := 15) (bs 41 65535) rfl (SP.nil ⟨_, (S23.selT (a := [.box b0 126 [Value.pointer (some q0_0), v0_1, v0_2, v0_3], .row 129 6 v0_1 n0_1 k0_1, .row 139 1 v0_2 n0_2 k0_2, .row 3 1 v0_3 n0_3 k0_3]) (l' := [.box b0 126 [Value.pointer (some q0_0), v0_1, v0_2, v0_3], .row 139 1 v0_2 n0_2 k0_2]) [0, 2] (by decide) rfl), (Inc.rfl _)⟩) rfl (fun w' hw' => (E.nilCheck rfl)) ?_
  refine FB.t (i := 16) (bs 41 131071) rfl (SP.nil ⟨_, (S23.selT (a := [.box b0 126 [Value.pointer (some q0_0), v0_1, v0_2, v0_3], .row 129 6 v0_1 n0_1 k0_1, .row 139 1 v0_2 n0_2 k0_2, .row 3 1 v0_3 n0_3 k0_3]) (l' := [.box b0 126 [Value.pointer (some q0_0), v0_1, v0_2, v0_3], .row 139 1 v0_2 n0_2 k0_2]) [0, 2] (by decide) rfl), (Inc.rfl _)⟩) rfl (fun w' hw' => (E.fieldAddr tf126_0 rfl)) ?_
  refine FB.t (i := 17) (bs 41 262143) rfl (SP.nil ⟨_, (S23.selT (a := [.box b0 126 [Value.pointer (some q0_0), v0_1, v0_2, v0_3], .row 129 6 v0_1 n0_1 k0_1, .row 139 1 v0_2 n0_2 k0_2, .row 3 1 v0_3 n0_3 k0_3]) (l' := [.box b0 126 [Value.pointer (some q0_0), v0_1, v0_2, v0_3], .row 139 1 v0_2 n0_2 k0_2]) [0, 2] (by decide) rfl), (Inc.rfl _)⟩) rfl (fun w' hw' => (E.load rfl (run_load1 Tryz.isAgg123 (SX.box_now hw' (i := 0) rfl) rfl))) ?_
  refine FB.t (i := 18) (bs 41 524287) rfl (SP.nil ⟨_, (S23.selT (a := [.box b0 126 [Value.pointer (some q0_0), v0_1, v0_2, v0_3], .row 129 6 v0_1 n0_1 k0_1, .row 139 1 v0_2 n0_2 k0_2, .row 3 1 v0_3 n0_3 k0_3]) (l' := [.box b0 126 [Value.pointer (some q0_0), v0_1, v0_2, v0_3], .row 139 1 v0_2 n0_2 k0_2]) [0, 2] (by decide) rfl), (Inc.rfl _)⟩) rfl (fun w' hw' => (E.nilCheck rfl)) ?_
  refine FB.t (i := 19) (bs 41 1048575) rfl (SP.nil ⟨_, (S23.selT (a := [.box b0 126 [Value.pointer (some q0_0), v0_1, v0_2, v0_3], .row 129 6 v0_1 n0_1 k0_1, .row 139 1 v0_2 n0_2 k0_2, .row 3 1 v0_3 n0_3 k0_3]) (l' := [.box b0 126 [Value.pointer (some q0_0), v0_1, v0_2, v0_3], .row 139 1 v0_2 n0_2 k0_2]) [0, 2] (by decide) rfl), (Inc.rfl _)⟩) rfl (fun w' hw' => (E.fieldAddr tf144_0 rfl)) ?_
  refine FB.t (i := 20) (bs 41 2097151) rfl (SP.nil ⟨_, (S23.selT (a := [.box b0 126 [Value.pointer (some q0_0), v0_1, v0_2, v0_3], .row 129 6 v0_1 n0_1 k0_1, .row 139 1 v0_2 n0_2 k0_2, .row 3 1 v0_3 n0_3 k0_3]) (l' := [.box b0 126 [Value.pointer (some q0_0), v0_1, v0_2, v0_3], .row 139 1 v0_2 n0_2 k0_2]) [0, 2] (by decide) rfl), (Inc.rfl _)⟩) rfl (fun w' hw' => (E.load rfl (run_loadA Tryz.isAgg142 Tryz.sizeOf142 ((c0_0.now hw'.sl).sub (j := 0) (n := 2) (c := [Value.int .i64 a0.algebra.ring.p, Value.int .i64 a0.algebra.ring.vars]) rfl) rfl))) ?_
  refine FB.t (i := 22) (bs 41 6291455) rfl (SP.nil ⟨_, (S23.selT (a := [.box b0 126 [Value.pointer (some q0_0), v0_1, v0_2, v0_3], .row 129 6 v0_1 n0_1 k0_1, .row 139 1 v0_2 n0_2 k0_2, .row 3 1 v0_3 n0_3 k0_3]) (l' := [.box b0 126 [Value.pointer (some q0_0), v0_1, v0_2, v0_3], .row 139 1 v0_2 n0_2 k0_2]) [0, 2] (by decide) rfl), (Inc.rfl _)⟩) rfl (fun w' hw' => (E.move (v := Value.pointer (some (⟨b0, 0, none⟩ : Addr))) rfl)) ?_
  refine FB.t (i := 23) (bs 41 14680063) rfl (SP.nil ⟨_, (S23.selT (a := [.box b0 126 [Value.pointer (some q0_0), v0_1, v0_2, v0_3], .row 129 6 v0_1 n0_1 k0_1, .row 139 1 v0_2 n0_2 k0_2, .row 3 1 v0_3 n0_3 k0_3]) (l' := [.box b0 126 [Value.pointer (some q0_0), v0_1, v0_2, v0_3], .row 139 1 v0_2 n0_2 k0_2]) [0, 2] (by decide) rfl), (Inc.rfl _)⟩) rfl (fun w' hw' => (E.nilCheck rfl)) ?_
  refine FB.t (i := 24) (bs 41 31457279) rfl (SP.nil ⟨_, (S23.selT (a := [.box b0 126 [Value.pointer (some q0_0), v0_1, v0_2, v0_3], .row 129 6 v0_1 n0_1 k0_1, .row 139 1 v0_2 n0_2 k0_2, .row 3 1 v0_3 n0_3 k0_3]) (l' := [.box b0 126 [Value.pointer (some q0_0), v0_1, v0_2, v0_3], .row 139 1 v0_2 n0_2 k0_2]) [0, 2] (by decide) rfl), (Inc.rfl _)⟩) rfl (fun w' hw' => (E.fieldAddr tf126_2 rfl)) ?_
  refine FB.t (i := 25) (bs 41 65011711) rfl (SP.nil ⟨_, (S23.selT (a := [.box b0 126 [Value.pointer (some q0_0), v0_1, v0_2, v0_3], .row 129 6 v0_1 n0_1 k0_1, .row 139 1 v0_2 n0_2 k0_2, .row 3 1 v0_3 n0_3 k0_3]) (l' := [.box b0 126 [Value.pointer (some q0_0), v0_1, v0_2, v0_3], .row 139 1 v0_2 n0_2 k0_2]) [0, 2] (by decide) rfl), (Inc.rfl _)⟩) rfl (fun w' hw' => (E.load rfl (run_load1 Tryz.isAgg124 (SX.box_now hw' (i := 0) rfl) rfl))) ?_
  refine FB.t (i := 26) (bs 41 132120575) rfl (SP.nil ⟨_, (S23.selT (a := [.box b0 126 [Value.pointer (some q0_0), v0_1, v0_2, v0_3], .row 129 6 v0_1 n0_1 k0_1, .row 139 1 v0_2 n0_2 k0_2, .row 3 1 v0_3 n0_3 k0_3]) (l' := [.box b0 126 [Value.pointer (some q0_0), v0_1, v0_2, v0_3], .row 139 1 v0_2 n0_2 k0_2]) [0, 2] (by decide) rfl), (Inc.rfl _)⟩) rfl (fun w' hw' => (E.move (v := Value.int .i64 a1) rfl)) ?_
  obtain ⟨p34, cs35, pt36, l37, at38, rel39, hall42⟩ := S23.row_atA (i := 2) rfl p0_2 (by decide) hx41
  obtain ⟨v43, rfl, h44⟩ := eL_open rel39
  refine FB.t (i := 27) (bs 41 266338303) rfl (SP.nil ⟨_, (S23.selT (a := [.box b0 126 [Value.pointer (some q0_0), v0_1, v0_2, v0_3], .row 129 6 v0_1 n0_1 k0_1, .row 139 1 v0_2 n0_2 k0_2, .row 3 1 v0_3 n0_3 k0_3]) (l' := [.box b0 126 [Value.pointer (some q0_0), v0_1, v0_2, v0_3], .row 139 1 v0_2 n0_2 k0_2]) [0, 2] (by decide) rfl), (Inc.rfl _)⟩) rfl (fun w' hw' => (E.indexAddr te124 rfl rfl pt36)) ?_
  refine FB.t (i := 28) (bs 41 534773759) rfl (SP.nil ⟨_, (S23.selT (a := [.box b0 126 [Value.pointer (some q0_0), v0_1, v0_2, v0_3], .row 129 6 v0_1 n0_1 k0_1, .row 139 1 v0_2 n0_2 k0_2, .row 3 1 v0_3 n0_3 k0_3]) (l' := [.box b0 126 [Value.pointer (some q0_0), v0_1, v0_2, v0_3], .row 139 1 v0_2 n0_2 k0_2]) [0, 2] (by decide) rfl), (Inc.rfl _)⟩) rfl (fun w' hw' => (E.load rfl (run_load0 Tryz.isAgg139 (hw'.use fun _ st => hall42 _ _ _ 1 st rfl) rfl))) ?_
  refine FB.t (i := 29) (bs 41 1071644671) rfl (SP.nil ⟨_, (S23.selT (a := [.box b0 126 [Value.pointer (some q0_0), v0_1, v0_2, v0_3], .row 129 6 v0_1 n0_1 k0_1, .row 139 1 v0_2 n0_2 k0_2, .row 3 1 v0_3 n0_3 k0_3]) (l' := [.box b0 126 [Value.pointer (some q0_0), v0_1, v0_2, v0_3], .row 139 1 v0_2 n0_2 k0_2]) [0, 2] (by decide) rfl), (Inc.rfl _)⟩) rfl (fun w' hw' => (E.move (v := Value.int .i64 a3) rfl)) ?_
  refine FB.t (i := 31) (bs 41 3219128319) rfl (SP.nil ⟨_, (S23.selT (a := [.box b0 126 [Value.pointer (some q0_0), v0_1, v0_2, v0_3], .row 129 6 v0_1 n0_1 k0_1, .row 139 1 v0_2 n0_2 k0_2, .row 3 1 v0_3 n0_3 k0_3]) (l' := [.box b0 126 [Value.pointer (some q0_0), v0_1, v0_2, v0_3], .row 139 1 v0_2 n0_2 k0_2]) [0, 2] (by decide) rfl), (Inc.rfl _)⟩) rfl (fun w' hw' => (E.move (v := Value.pointer (some (⟨b0, 0, none⟩ : Addr))) rfl)) ?_
  refine FB.t (i := 32) (bs 41 7514095615) rfl (SP.nil ⟨_, (S23.selT (a := [.box b0 126 [Value.pointer (some q0_0), v0_1, v0_2, v0_3], .row 129 6 v0_1 n0_1 k0_1, .row 139 1 v0_2 n0_2 k0_2, .row 3 1 v0_3 n0_3 k0_3]) (l' := [.box b0 126 [Value.pointer (some q0_0), v0_1, v0_2, v0_3], .row 139 1 v0_2 n0_2 k0_2]) [0, 2] (by decide) rfl), (Inc.rfl _)⟩) rfl (fun w' hw' => (E.nilCheck rfl)) ?_
  refine FB.t (i := 33) (bs 41 16104030207) rfl (SP.nil ⟨_, (S23.selT (a := [.box b0 126 [Value.pointer (some q0_0), v0_1, v0_2, v0_3], .row 129 6 v0_1 n0_1 k0_1, .row 139 1 v0_2 n0_2 k0_2, .row 3 1 v0_3 n0_3 k0_3]) (l' := [.box b0 126 [Value.pointer (some q0_0), v0_1, v0_2, v0_3], .row 139 1 v0_2 n0_2 k0_2]) [0, 2] (by decide) rfl), (Inc.rfl _)⟩) rfl (fun w' hw' => (E.fieldAddr tf126_2 rfl)) ?_
  refine FB.t (i := 34) (bs 41 33283899391) rfl (SP.nil ⟨_, (S23.selT (a := [.box b0 126 [Value.pointer (some q0_0), v0_1, v0_2, v0_3], .row 129 6 v0_1 n0_1 k0_1, .row 139 1 v0_2 n0_2 k0_2, .row 3 1 v0_3 n0_3 k0_3]) (l' := [.box b0 126 [Value.pointer (some q0_0), v0_1, v0_2, v0_3], .row 139 1 v0_2 n0_2 k0_2]) [0, 2] (by decide) rfl), (Inc.rfl _)⟩) rfl (fun w' hw' => (E.load rfl (run_load1 Tryz.isAgg124 (SX.box_now hw' (i := 0) rfl) rfl))) ?_
  refine FB.t (i := 35) (bs 41 67643637759) rfl (SP.nil ⟨_, (S23.selT (a := [.box b0 126 [Value.pointer (some q0_0), v0_1, v0_2, v0_3], .row 129 6 v0_1 n0_1 k0_1, .row 139 1 v0_2 n0_2 k0_2, .row 3 1 v0_3 n0_3 k0_3]) (l' := [.box b0 126 [Value.pointer (some q0_0), v0_1, v0_2, v0_3], .row 139 1 v0_2 n0_2 k0_2]) [0, 2] (by decide) rfl), (Inc.rfl _)⟩) rfl (fun w' hw' => (E.move (v := Value.int .i64 a2) rfl)) ?_
  obtain ⟨p63, cs64, pt65, l66, at67, rel68, hall71⟩ := S23.row_atA (i := 2) rfl p0_2 (by decide) hx70
  obtain ⟨v72, rfl, h73⟩ := eL_open rel68
  refine FB.t (i := 36) (bs 41 136363114495) rfl (SP.nil ⟨_, (S23.selT (a := [.box b0 126 [Value.pointer (some q0_0), v0_1, v0_2, v0_3], .row 129 6 v0_1 n0_1 k0_1, .row 139 1 v0_2 n0_2 k0_2, .row 3 1 v0_3 n0_3 k0_3]) (l' := [.box b0 126 [Value.pointer (some q0_0), v0_1, v0_2, v0_3], .row 139 1 v0_2 n0_2 k0_2]) [0, 2] (by decide) rfl), (Inc.rfl _)⟩) rfl (fun w' hw' => (E.indexAddr te124 rfl rfl pt65)) ?_
  refine FB.t (i := 37) (bs 41 273802067967) rfl (SP.nil ⟨_, (S23.selT (a := [.box b0 126 [Value.pointer (some q0_0), v0_1, v0_2, v0_3], .row 129 6 v0_1 n0_1 k0_1, .row 139 1 v0_2 n0_2 k0_2, .row 3 1 v0_3 n0_3 k0_3]) (l' := [.box b0 126 [Value.pointer (some q0_0), v0_1, v0_2, v0_3], .row 139 1 v0_2 n0_2 k0_2]) [0, 2] (by decide) rfl), (Inc.rfl _)⟩) rfl (fun w' hw' => (E.load rfl (run_load0 Tryz.isAgg139 (hw'.use fun _ st => hall71 _ _ _ 1 st rfl) rfl))) ?_
  refine FB.t (i := 38) (bs 41 548679974911) rfl (SP.nil ⟨_, (S23.selT (a := [.box b0 126 [Value.pointer (some q0_0), v0_1, v0_2, v0_3], .row 129 6 v0_1 n0_1 k0_1, .row 139 1 v0_2 n0_2 k0_2, .row 3 1 v0_3 n0_3 k0_3]) (l' := [.box b0 126 [Value.pointer (some q0_0), v0_1, v0_2, v0_3], .row 139 1 v0_2 n0_2 k0_2]) [0, 2] (by decide) rfl), (Inc.rfl _)⟩) rfl (fun w' hw' => (E.move (v := Value.int .i64 a4) rfl)) ?_
  refine FB.all1 (i := 21) (by kernel_rfl) ?_
  ·
   refine FC.call (l' := (bs 41 548682072063)) rfl (by kernel_rfl) rfl rfl rfl (E.call Tryz.call195 (A1 rfl)) (w_impl_ring_zero S23.sl a0.algebra.ring hr25) ?_
   rintro e w27 ⟨H26, v30, n31, cs32, rfl, r29, els33⟩
   refine ⟨_, rfl, ?_⟩
   have els33 := els33.mono (up_le S23.size)
   have S28 := S23.join (l' := (.row 3 1 v30 n31 cs32 :: .box b0 126 [Value.pointer (some q0_0), v0_1, v0_2, v0_3] :: .row 129 6 v0_1 n0_1 k0_1 :: .row 139 1 v0_2 n0_2 k0_2 :: .row 3 1 v0_3 n0_3 k0_3 :: L)) r29 rfl
   refine ⟨(SP.nil ⟨_, (S28.selT (a := [.row 3 1 v30 n31 cs32, .box b0 126 [Value.pointer (some q0_0), v0_1, v0_2, v0_3], .row 129 6 v0_1 n0_1 k0_1, .row 139 1 v0_2 n0_2 k0_2, .row 3 1 v0_3 n0_3 k0_3]) (l' := [.box b0 126 [Value.pointer (some q0_0), v0_1, v0_2, v0_3], .row 139 1 v0_2 n0_2 k0_2]) [1, 3] (by decide) rfl), r29.run.inc⟩), ?_⟩
   refine FB.all1 (i := 30) (by kernel_rfl) ?_
   ·
    obtain ⟨H45, S46, i47, h48, nv49⟩ := S28.sealRowU (i := 0) (l' := (.box b0 126 [Value.pointer (some q0_0), v0_1, v0_2, v0_3] :: .row 129 6 v0_1 n0_1 k0_1 :: .row 139 1 v0_2 n0_2 k0_2 :: .row 3 1 v0_3 n0_3 k0_3 :: L)) rfl els33 (by decide) rfl
    refine FC.call (l' := (bs 41 549755813887)) rfl (by kernel_rfl) rfl rfl rfl (E.call Tryz.call194 (A4 rfl rfl rfl rfl)) (w_impl_ring_plus S46.sl a0.algebra.ring v30 r24 (h48.mono upI) v43 x40 (h44.mono (r29.run.inc.tr i47)) a3 hr51) ?_
    rintro e w53 ⟨H52, v59, n60, cs61, rfl, r56, els62⟩
    refine ⟨_, rfl, ?_⟩
    obtain ⟨H57, r56, hU58⟩ := St.lendX i47 S28.sl r56
    have els62 := els62.mono (hU58.tr (up_le S28.size))
    have S54 := S28.join (l' := (.row 3 1 v59 n60 cs61 :: .row 3 1 v30 n31 cs32 :: .box b0 126 [Value.pointer (some q0_0), v0_1, v0_2, v0_3] :: .row 129 6 v0_1 n0_1 k0_1 :: .row 139 1 v0_2 n0_2 k0_2 :: .row 3 1 v0_3 n0_3 k0_3 :: L)) r56 rfl
    refine ⟨(SP.nil ⟨_, (S54.selT (a := [.row 3 1 v59 n60 cs61, .row 3 1 v30 n31 cs32, .box b0 126 [Value.pointer (some q0_0), v0_1, v0_2, v0_3], .row 129 6 v0_1 n0_1 k0_1, .row 139 1 v0_2 n0_2 k0_2, .row 3 1 v0_3 n0_3 k0_3]) (l' := [.box b0 126 [Value.pointer (some q0_0), v0_1, v0_2, v0_3], .row 139 1 v0_2 n0_2 k0_2]) [2, 4] (by decide) rfl), (r29.run.inc.tr r56.run.inc)⟩), ?_⟩
    refine FB.all1 (i := 39) (by kernel_rfl) ?_
    ·
     obtain ⟨H74, S75, i76, h77, nv78⟩ := S54.sealRowU (i := 0) (l' := (.row 3 1 v30 n31 cs32 :: .box b0 126 [Value.pointer (some q0_0), v0_1, v0_2, v0_3] :: .row 129 6 v0_1 n0_1 k0_1 :: .row 139 1 v0_2 n0_2 k0_2 :: .row 3 1 v0_3 n0_3 k0_3 :: L)) rfl els62 (by decide) rfl
     refine FC.call (l' := (bs 41 1099511627775)) rfl (by kernel_rfl) rfl rfl rfl (E.call Tryz.call194 (A4 rfl rfl rfl rfl)) (w_impl_ring_plus S75.sl a0.algebra.ring v59 r50 (h77.mono upI) v72 x69 (h73.mono ((r29.run.inc.tr r56.run.inc).tr i76)) a4 hr80) ?_
     rintro e w82 ⟨H81, v87, n88, cs89, rfl, r84, els90⟩
     refine ⟨_, rfl, ?_⟩
     obtain ⟨H85, r84, hU86⟩ := St.lendX i76 S54.sl r84
     have els90 := els90.mono (hU86.tr (up_le S54.size))
     have S83 := S54.join (l' := (.row 3 1 v87 n88 cs89 :: .row 3 1 v59 n60 cs61 :: .row 3 1 v30 n31 cs32 :: .box b0 126 [Value.pointer (some q0_0), v0_1, v0_2, v0_3] :: .row 129 6 v0_1 n0_1 k0_1 :: .row 139 1 v0_2 n0_2 k0_2 :: .row 3 1 v0_3 n0_3 k0_3 :: L)) r84 rfl
     refine ⟨(SP.nil ⟨_, (S83.selT (a := [.row 3 1 v87 n88 cs89, .row 3 1 v59 n60 cs61, .row 3 1 v30 n31 cs32, .box b0 126 [Value.pointer (some q0_0), v0_1, v0_2, v0_3], .row 129 6 v0_1 n0_1 k0_1, .row 139 1 v0_2 n0_2 k0_2, .row 3 1 v0_3 n0_3 k0_3]) (l' := [.box b0 126 [Value.pointer (some q0_0), v0_1, v0_2, v0_3], .row 139 1 v0_2 n0_2 k0_2]) [3, 5] (by decide) rfl), ((r29.run.inc.tr r56.run.inc).tr r84.run.inc)⟩), ?_⟩
     refine FB.t (i := 40) (bs 41 2199023255551) rfl (SP.nil ⟨_, (S83.selT (a := [.row 3 1 v87 n88 cs89, .row 3 1 v59 n60 cs61, .row 3 1 v30 n31 cs32, .box b0 126 [Value.pointer (some q0_0), v0_1, v0_2, v0_3], .row 129 6 v0_1 n0_1 k0_1, .row 139 1 v0_2 n0_2 k0_2, .row 3 1 v0_3 n0_3 k0_3]) (l' := [.box b0 126 [Value.pointer (some q0_0), v0_1, v0_2, v0_3], .row 139 1 v0_2 n0_2 k0_2]) [3, 5] (by decide) rfl), ((r29.run.inc.tr r56.run.inc).tr r84.run.inc)⟩) rfl (fun w' hw' => (E.assign (v := v87) rfl)) ?_
     exact FB.done (by kernel_rfl) ⟨_, _, _, _, (S83.selT (a := [.row 3 1 v87 n88 cs89, .row 3 1 v59 n60 cs61, .row 3 1 v30 n31 cs32, .box b0 126 [Value.pointer (some q0_0), v0_1, v0_2, v0_3], .row 129 6 v0_1 n0_1 k0_1, .row 139 1 v0_2 n0_2 k0_2, .row 3 1 v0_3 n0_3 k0_3]) (l' := [.box b0 126 [Value.pointer (some q0_0), v0_1, v0_2, v0_3], .row 129 6 v0_1 n0_1 k0_1, .row 139 1 v0_2 n0_2 k0_2, .row 3 1 v0_3 n0_3 k0_3, .row 3 1 v87 n88 cs89]) [3, 4, 5, 6, 0] (by decide) rfl), ((r29.run.inc.tr r56.run.inc).tr r84.run.inc), els90, rfl, rfl, rfl, rfl, rfl, rfl⟩
 ·
  rintro f99 w98 ⟨H95, v91, n92, cs93, S96, i97, els94, k100, k101, k102, k103, k104, k105⟩
  refine FW.seq (FW.region ?_)
  refine FL.v (E.move k100) ?_
  refine FL.v (E.move k101) ?_
  refine FL.v (E.move k102) ?_
  refine FL.v (E.move k103) ?_
  refine FL.v (E.move k104) ?_
  refine FL.v (E.build (B5 rfl rfl rfl rfl rfl) (run_build _ 129 #[(0, Value.int .i64 2), (2, Value.int .i64 a1), (3, Value.int .i64 a2), (4, Value.int .i64 a3), (5, Value.int .i64 a4)] #[Value.int .i64 2, Value.slice none 0 0, Value.int .i64 a1, Value.int .i64 a2, Value.int .i64 a3, Value.int .i64 a4] (by rfl))) ?_
  refine FL.v (E.move k105) ?_
  obtain ⟨H106, S107, i108, h109, nv110⟩ := S96.sealRowU (i := 4) (l' := (.box b0 126 [Value.pointer (some q0_0), v0_1, v0_2, v0_3] :: .row 129 6 v0_1 n0_1 k0_1 :: .row 139 1 v0_2 n0_2 k0_2 :: .row 3 1 v0_3 n0_3 k0_3 :: L)) rfl els94 (by decide) rfl
  obtain ⟨s111, hq111, hp⟩ := bnd hp
  obtain ⟨R111, hR111⟩ : ∃ R111 : ((List PcStep) × (List (List Int)) × Int) → Ending → World → Prop, R111 = (fun s111 e w => ∃ H : GH, ∃ v112 : Value, ∃ n113 : Nat, ∃ cs114 : List Value, ∃ v117 : Value, ∃ n118 : Nat, ∃ cs119 : List Value, e = Ending.returned (Value.int .i64 s111.2.2) ∧ St H0 w0 H w (.box b0 126 [Value.pointer (some q0_0), v112, v117, v0_3] :: .row 129 6 v112 n113 cs114 :: .row 139 1 v117 n118 cs119 :: .row 3 1 v0_3 n0_3 k0_3 :: L) ∧ Inc H106 H ∧ Els (up w0.heap.size H) ePcStep 6 cs114 s111.1 ∧ Els H (eL eI 1) 1 cs119 s111.2.1 ∧ (bl cs114).Nodup) := ⟨_, rfl⟩
  have hc111 : Calls Tryz.prog 219 #[Value.pointer (some (⟨b0, 0, none⟩ : Addr)), Value.agg #[Value.int .i64 2, Value.slice none 0 0, Value.int .i64 a1, Value.int .i64 a2, Value.int .i64 a3, Value.int .i64 a4], v91] w98 (R111 s111) := by
   clear hp; have hp := hq111; clear hq111
   refine calls_go (N := 36) (args := [Value.pointer (some (⟨b0, 0, none⟩ : Addr)), Value.agg #[Value.int .i64 2, Value.slice none 0 0, Value.int .i64 a1, Value.int .i64 a2, Value.int .i64 a3, Value.int .i64 a4], v91]) Tryz.func219 rfl rfl rfl ?_
   refine FW.seq (FW.region ?_)
   obtain ⟨b121, w122, run123, S125⟩ := S107.box (P := Tryz.prog) 129 [Value.int .i64 2, Value.slice none 0 0, Value.int .i64 a1, Value.int .i64 a2, Value.int .i64 a3, Value.int .i64 a4] (v := Value.agg #[Value.int .i64 2, Value.slice none 0 0, Value.int .i64 a1, Value.int .i64 a2, Value.int .i64 a3, Value.int .i64 a4]) rfl (ones_cons rfl (ones_cons rfl (ones_cons rfl (ones_cons rfl (ones_cons rfl (ones_cons rfl ones_nil))))))
   refine FL.v (E.box rfl run123) ?_
   refine FL.v (E.assign (v := Value.int .i64 0) rfl) ?_
   refine FL.nil (FW.seq (FW.region ?_))
   refine FL.v (E.move (v := v91) rfl) ?_
   obtain ⟨r127, hr128, hp⟩ := bnd hp
   refine FL.call rfl rfl rfl (E.call Tryz.call110 (A1 rfl)) (w_impl_dense_terms S125.sl v91 r79 (h109.mono upI) hr128) ?_
   rintro e w131 ⟨H130, v134, n135, cs136, rfl, r133, els137⟩
   refine ⟨_, rfl, ?_⟩
   have els137 := els137.mono (up_le S125.size)
   have S132 := S125.join (l' := (.row 147 2 v134 n135 cs136 :: .box b121 129 [Value.int .i64 2, Value.slice none 0 0, Value.int .i64 a1, Value.int .i64 a2, Value.int .i64 a3, Value.int .i64 a4] :: .box b0 126 [Value.pointer (some q0_0), v0_1, v0_2, v0_3] :: .row 129 6 v0_1 n0_1 k0_1 :: .row 139 1 v0_2 n0_2 k0_2 :: .row 3 1 v0_3 n0_3 k0_3 :: L)) r133 rfl
   refine FL.v (E.fieldAddr tf129_1 rfl) ?_
   obtain ⟨w138, run139, S140⟩ := S132.store (P := Tryz.prog) (t := 68) (i := 1) (j := 1) (cs' := [Value.int .i64 2, v134, Value.int .i64 a1, Value.int .i64 a2, Value.int .i64 a3, Value.int .i64 a4]) (l' := (.row 147 2 v134 n135 cs136 :: .box b121 129 [Value.int .i64 2, v134, Value.int .i64 a1, Value.int .i64 a2, Value.int .i64 a3, Value.int .i64 a4] :: .box b0 126 [Value.pointer (some q0_0), v0_1, v0_2, v0_3] :: .row 129 6 v0_1 n0_1 k0_1 :: .row 139 1 v0_2 n0_2 k0_2 :: .row 3 1 v0_3 n0_3 k0_3 :: L)) (v := v134) (c := [v134]) rfl Tryz.sizeOf68 (Ln.cells (S132.row_ln (i := 0) rfl)) rfl (ones_cons (Ln.one (S132.row_ln (i := 0) rfl)) ones_nil) (Nat.le_of_ble_eq_true rfl) rfl rfl
   refine FL.act rfl rfl (E.store rfl rfl run139) ?_
   refine FL.nil (FW.seq ?_)
   obtain ⟨xs156, hz157, hp⟩ := bnd hp
   refine FW.drawB (Sl H130) (fun f w => ∃ H : GH, ∃ v171 : Value, ∃ n172 : Nat, ∃ cs173 : List Value, St H0 w0 H w (.box b0 126 [Value.pointer (some q0_0), v171, v0_2, v0_3] :: .row 129 6 v171 n172 cs173 :: .row 139 1 v0_2 n0_2 k0_2 :: .row 3 1 v0_3 n0_3 k0_3 :: L) ∧ Inc H130 H ∧ Els (up w0.heap.size H) ePcStep 6 cs173 xs156 ∧ (bl cs173).Nodup ∧ f 0 = Value.pointer (some (⟨b0, 0, none⟩ : Addr)) ∧ f 2 = v91) (by kernel_rfl) S140.sl ?_ ?_
   ·
    intro w141 r142
    have S143 := S140.call r142
    refine FB.phase [6] (fun w => WAt w (⟨b121, 0, none⟩ : Addr) [Value.int .i64 2, v134, Value.int .i64 a1, Value.int .i64 a2, Value.int .i64 a3, Value.int .i64 a4]) ?_
    refine FB.phase [10] (fun w => WAt w (Addr.add ⟨b0, 0, none⟩ 1) [v0_1]) ?_
    refine FB.t (i := 0) (bs 11 1) rfl (SP.on ((S143.box_now (i := 2) rfl).sub (j := 1) (n := 1) (c := [v0_1]) rfl) (SP.on (S143.box_now (i := 1) rfl) (SP.nil S143.sl))) rfl (fun w' hw' => (E.move (v := Value.pointer (some (⟨b0, 0, none⟩ : Addr))) rfl)) ?_
    refine FB.t (i := 1) (bs 11 3) rfl (SP.on ((S143.box_now (i := 2) rfl).sub (j := 1) (n := 1) (c := [v0_1]) rfl) (SP.on (S143.box_now (i := 1) rfl) (SP.nil S143.sl))) rfl (fun w' hw' => (E.move (v := Value.pointer (some (⟨b0, 0, none⟩ : Addr))) rfl)) ?_
    refine FB.t (i := 2) (bs 11 7) rfl (SP.on ((S143.box_now (i := 2) rfl).sub (j := 1) (n := 1) (c := [v0_1]) rfl) (SP.on (S143.box_now (i := 1) rfl) (SP.nil S143.sl))) rfl (fun w' hw' => (E.nilCheck rfl)) ?_
    refine FB.t (i := 3) (bs 11 15) rfl (SP.on ((S143.box_now (i := 2) rfl).sub (j := 1) (n := 1) (c := [v0_1]) rfl) (SP.on (S143.box_now (i := 1) rfl) (SP.nil S143.sl))) rfl (fun w' hw' => (E.fieldAddr tf126_1 rfl)) ?_
    refine FB.p (i := 4) (bs 11 31) 0 [7, 8, 9, 10] rfl (SP.on ((S143.box_now (i := 2) rfl).sub (j := 1) (n := 1) (c := [v0_1]) rfl) (SP.on (S143.box_now (i := 1) rfl) (SP.nil S143.sl))) rfl rfl (fun w' hw' => (E.load rfl (run_load0 Tryz.isAgg55 hw' rfl))) ?_
    refine FB.p (i := 5) (bs 11 63) 1 [6, 7, 8, 9, 10] rfl (SP.on ((S143.box_now (i := 2) rfl).sub (j := 1) (n := 1) (c := [v0_1]) rfl) (SP.on (S143.box_now (i := 1) rfl) (SP.nil S143.sl))) rfl rfl (fun w' hw' => (E.load rfl (run_loadA Tryz.isAgg129 Tryz.sizeOf129 hw' rfl))) ?_
    refine FB.all1 (i := 6) (by kernel_rfl) ?_
    ·
     obtain ⟨H145, S146, i147, h148, nv149⟩ := S143.sealRowU (i := 0) (l' := (.box b121 129 [Value.int .i64 2, v134, Value.int .i64 a1, Value.int .i64 a2, Value.int .i64 a3, Value.int .i64 a4] :: .box b0 126 [Value.pointer (some q0_0), v0_1, v0_2, v0_3] :: .row 129 6 v0_1 n0_1 k0_1 :: .row 139 1 v0_2 n0_2 k0_2 :: .row 3 1 v0_3 n0_3 k0_3 :: L)) rfl els137 (by decide) rfl
     obtain ⟨v150, w151, run152, S153⟩ := S146.buildSlice (P := Tryz.prog) te55 [Value.agg #[Value.int .i64 2, v134, Value.int .i64 a1, Value.int .i64 a2, Value.int .i64 a3, Value.int .i64 a4]] (parts := #[(0, Value.agg #[Value.int .i64 2, v134, Value.int .i64 a1, Value.int .i64 a2, Value.int .i64 a3, Value.int .i64 a4])]) (cells := [Value.int .i64 2, v134, Value.int .i64 a1, Value.int .i64 a2, Value.int .i64 a3, Value.int .i64 a4]) rfl (szs_cons rfl szs_nil) (fc_cons rfl fc_nil) (ones_cons rfl (ones_cons h148.one (ones_cons rfl (ones_cons rfl (ones_cons rfl (ones_cons rfl ones_nil)))))) (Nat.le_of_ble_eq_true rfl)
     have els154 : Els (up w0.heap.size H145) ePcStep 6 [Value.int .i64 2, v134, Value.int .i64 a1, Value.int .i64 a2, Value.int .i64 a3, Value.int .i64 a4] [(PcStep.mk 2 r127 a1 a2 a3 a4)] := (Els.snoc (H := (up w0.heap.size H145)) (E := ePcStep) (k := 6) (c := [Value.int .i64 2, v134, Value.int .i64 a1, Value.int .i64 a2, Value.int .i64 a3, Value.int .i64 a4]) (x := (PcStep.mk 2 r127 a1 a2 a3 a4)) Els.nil rfl ⟨_, rfl, h148⟩)
     have nd155 : (bl [Value.int .i64 2, v134, Value.int .i64 a1, Value.int .i64 a2, Value.int .i64 a3, Value.int .i64 a4]).Nodup := by exact nd_one v134
     refine FC.val (l' := (bs 11 127)) rfl (by kernel_rfl) rfl rfl rfl (E.buildSlice (B1 rfl) run152) ?_
     refine ⟨(SP.on ((S153.box_now (i := 2) rfl).sub (j := 1) (n := 1) (c := [v0_1]) rfl) (SP.o (SP.nil (Sl.of_inc i147 S153.sl)))), ?_⟩
     refine FB.all1 (i := 7) (by kernel_rfl) ?_
     ·
      obtain ⟨v158, w161, n159, cs160, run162, S163, els164, ce165⟩ := S153.appendO (P := Tryz.prog) te55 (i := 3) (j := 0) rfl (p0_1.mono (up_mono (((i97.tr i108).tr r133.run.inc).tr i147))) rfl els154 hz157
      have S163 : St H0 w0 H145 w161 (.row 129 6 v150 1 [Value.int .i64 2, v134, Value.int .i64 a1, Value.int .i64 a2, Value.int .i64 a3, Value.int .i64 a4] :: .box b121 129 [Value.int .i64 2, v134, Value.int .i64 a1, Value.int .i64 a2, Value.int .i64 a3, Value.int .i64 a4] :: .box b0 126 [Value.pointer (some q0_0), v0_1, v0_2, v0_3] :: .row 129 6 v158 n159 cs160 :: .row 139 1 v0_2 n0_2 k0_2 :: .row 3 1 v0_3 n0_3 k0_3 :: L) := S163
      have nd166 : (bl cs160).Nodup := by rw [ce165]; exact nd_app d0_1 nd155 (Els.dom (p0_1.mono (upI.tr ((i97.tr i108).tr r133.run.inc)))) (by exact nv149)
      have S167 : St H0 w0 H145 w161 (.box b121 129 [Value.int .i64 2, v134, Value.int .i64 a1, Value.int .i64 a2, Value.int .i64 a3, Value.int .i64 a4] :: .box b0 126 [Value.pointer (some q0_0), v0_1, v0_2, v0_3] :: .row 129 6 v158 n159 cs160 :: .row 139 1 v0_2 n0_2 k0_2 :: .row 3 1 v0_3 n0_3 k0_3 :: L) := S163.drop 0
      refine FC.val (l' := (bs 11 255)) rfl (by kernel_rfl) rfl rfl rfl (E.append rfl rfl run162) ?_
      refine ⟨(SP.on ((S167.box_now (i := 1) rfl).sub (j := 1) (n := 1) (c := [v0_1]) rfl) (SP.o (SP.nil (Sl.of_inc i147 S167.sl)))), ?_⟩
      refine FB.t (i := 8) (bs 11 511) rfl (SP.on ((S167.box_now (i := 1) rfl).sub (j := 1) (n := 1) (c := [v0_1]) rfl) (SP.o (SP.nil (Sl.of_inc i147 S167.sl)))) rfl (fun w' hw' => (E.nilCheck rfl)) ?_
      refine FB.t (i := 9) (bs 11 1023) rfl (SP.on ((S167.box_now (i := 1) rfl).sub (j := 1) (n := 1) (c := [v0_1]) rfl) (SP.o (SP.nil (Sl.of_inc i147 S167.sl)))) rfl (fun w' hw' => (E.fieldAddr tf126_1 rfl)) ?_
      refine FB.all1 (i := 10) (by kernel_rfl) ?_
      ·
       obtain ⟨w168, run169, S170⟩ := S167.store (P := Tryz.prog) (t := 55) (i := 1) (j := 1) (cs' := [Value.pointer (some q0_0), v158, v0_2, v0_3]) (l' := (.box b121 129 [Value.int .i64 2, v134, Value.int .i64 a1, Value.int .i64 a2, Value.int .i64 a3, Value.int .i64 a4] :: .box b0 126 [Value.pointer (some q0_0), v158, v0_2, v0_3] :: .row 129 6 v158 n159 cs160 :: .row 139 1 v0_2 n0_2 k0_2 :: .row 3 1 v0_3 n0_3 k0_3 :: L)) (v := v158) (c := [v158]) rfl Tryz.sizeOf55 (Ln.cells (S167.row_ln (i := 2) rfl)) rfl (ones_cons (Ln.one (S167.row_ln (i := 2) rfl)) ones_nil) (Nat.le_of_ble_eq_true rfl) rfl rfl
       refine FC.act (l' := (bs 11 2047)) rfl (by kernel_rfl) rfl rfl (E.store rfl rfl run169) ?_
       refine ⟨(SP.o (SP.o (SP.nil (Sl.of_inc i147 S170.sl)))), ?_⟩
       exact FB.done (by kernel_rfl) ⟨_, _, _, _, (S170.selT (a := [.box b121 129 [Value.int .i64 2, v134, Value.int .i64 a1, Value.int .i64 a2, Value.int .i64 a3, Value.int .i64 a4], .box b0 126 [Value.pointer (some q0_0), v158, v0_2, v0_3], .row 129 6 v158 n159 cs160, .row 139 1 v0_2 n0_2 k0_2, .row 3 1 v0_3 n0_3 k0_3]) (l' := [.box b0 126 [Value.pointer (some q0_0), v158, v0_2, v0_3], .row 129 6 v158 n159 cs160, .row 139 1 v0_2 n0_2 k0_2, .row 3 1 v0_3 n0_3 k0_3]) [1, 2, 3, 4] (by decide) rfl), i147, els164, nd166, rfl, rfl⟩
   ·
    rintro f180 w179 ⟨H176, v171, n172, cs173, S177, i178, els174, nd175, k181, k182⟩
    refine FW.seq (FW.region ?_)
    refine FL.v (E.move k181) ?_
    refine FL.v (E.move k181) ?_
    refine FL.v (E.nilCheck rfl) ?_
    refine FL.v (E.fieldAddr tf126_2 rfl) ?_
    refine FL.v (E.load rfl (run_load1 Tryz.isAgg124 (S177.box_now (i := 0) rfl) rfl)) ?_
    refine FL.v (E.move k182) ?_
    obtain ⟨v183, w184, run185, S186⟩ := S177.buildSlice (P := Tryz.prog) te124 [v91] (parts := #[(0, v91)]) (cells := [v91]) rfl (szs_cons (cells_size h109.cells) szs_nil) (fc_cons h109.cells fc_nil) (ones_cons h109.one ones_nil) (Nat.le_of_ble_eq_true rfl)
    have els187 : Els (up w0.heap.size H176) (eL eI 1) 1 [v91] [r79] := (Els.snoc (H := (up w0.heap.size H176)) (E := (eL eI 1)) (k := 1) (c := [v91]) (x := r79) Els.nil rfl ⟨_, rfl, (h109.mono (up_mono (r133.run.inc.tr i178)))⟩)
    have nd188 : (bl [v91]).Nodup := by exact nd_one v91
    refine FL.v (E.buildSlice (B1 rfl) run185) ?_
    obtain ⟨xs189, hz190, hp⟩ := bnd hp
    obtain ⟨v191, w194, n192, cs193, run195, S196, els197, ce198⟩ := S186.appendO (P := Tryz.prog) te124 (i := 3) (j := 0) rfl (p0_2.mono (((i97.tr i108).tr r133.run.inc).tr i178)) rfl (els187.mono upI) hz190
    have S196 : St H0 w0 H176 w194 (.row 139 1 v183 1 [v91] :: .box b0 126 [Value.pointer (some q0_0), v171, v0_2, v0_3] :: .row 129 6 v171 n172 cs173 :: .row 139 1 v191 n192 cs193 :: .row 3 1 v0_3 n0_3 k0_3 :: L) := S196
    have S199 : St H0 w0 H176 w194 (.box b0 126 [Value.pointer (some q0_0), v171, v0_2, v0_3] :: .row 129 6 v171 n172 cs173 :: .row 139 1 v191 n192 cs193 :: .row 3 1 v0_3 n0_3 k0_3 :: L) := S196.drop 0
    refine FL.v (E.append rfl rfl run195) ?_
    refine FL.v (E.nilCheck rfl) ?_
    refine FL.v (E.fieldAddr tf126_2 rfl) ?_
    obtain ⟨w200, run201, S202⟩ := S199.store (P := Tryz.prog) (t := 124) (i := 0) (j := 2) (cs' := [Value.pointer (some q0_0), v171, v191, v0_3]) (l' := (.box b0 126 [Value.pointer (some q0_0), v171, v191, v0_3] :: .row 129 6 v171 n172 cs173 :: .row 139 1 v191 n192 cs193 :: .row 3 1 v0_3 n0_3 k0_3 :: L)) (v := v191) (c := [v191]) rfl Tryz.sizeOf124 (Ln.cells (S199.row_ln (i := 2) rfl)) rfl (ones_cons (Ln.one (S199.row_ln (i := 2) rfl)) ones_nil) (Nat.le_of_ble_eq_true rfl) rfl rfl
    refine FL.act rfl rfl (E.store rfl rfl run201) ?_
    refine FL.nil (FW.seq (FW.region ?_))
    refine FL.v (E.move k181) ?_
    refine FL.v (E.nilCheck rfl) ?_
    refine FL.v (E.fieldAddr tf126_1 rfl) ?_
    refine FL.v (E.load rfl (run_load1 Tryz.isAgg55 (S202.box_now (i := 0) rfl) rfl)) ?_
    refine FL.v (E.lenO te55 rfl S202 (i := 1) rfl els174 (by decide)) ?_
    refine FL.v (E.sub rfl rfl) ?_
    refine FL.v (E.assign (v := Value.int .i64 (wr ((len xs156) - 1))) rfl) ?_
    refine FL.nil ?_
    refine FW.ret ?_
    obtain rfl := Option.some.inj hp
    exact ⟨.inr rfl, res1 rfl rfl (by rw [hR111]; exact ⟨_, _, _, _, _, _, _, rfl, S202, (r133.run.inc.tr i178), els174, els197, nd175⟩)⟩
  clear hq111
  refine FL.call rfl rfl rfl (E.call Tryz.call219 (A3 rfl rfl rfl)) hc111 ?_
  intro e w206 hQ111
  rw [hR111] at hQ111
  obtain ⟨H203, v112, n113, cs114, v117, n118, cs119, rfl, S204, i205, els115, els120, nd116⟩ := hQ111
  refine ⟨_, rfl, ?_⟩
  refine FL.v (E.assign (v := Value.int .i64 s111.2.2) rfl) ?_
  refine FL.nil ?_
  refine FW.ret ?_
  obtain rfl := Option.some.inj hp
  exact ⟨.inr rfl, res1 rfl rfl ⟨_, _, _, _, _, _, _, rfl, ⟨S204, ((i97.tr i108).tr i205)⟩, els115, nd116, els120⟩⟩

@[reducible] def p_impl_translator_widen (H0 : GH) (w0 : World) (Ha : GH) (L : List MO) (b0 : Nat) (q0_0 : Addr) (v0_3 : Value) (n0_3 : Nat) (k0_3 : List Value) (r : (Int × translator)) : Ending → World → Prop :=
  fun e w' => ∃ H' : GH, ∃ v0_1r : Value, ∃ n0_1r : Nat, ∃ c0_1r : List Value, ∃ v0_2r : Value, ∃ n0_2r : Nat, ∃ c0_2r : List Value, e = .returned (Value.int .i64 r.1) ∧ (St H0 w0 H' w' (.box b0 126 [Value.pointer (some q0_0), v0_1r, v0_2r, v0_3] :: .row 129 6 v0_1r n0_1r c0_1r :: .row 139 1 v0_2r n0_2r c0_2r :: .row 3 1 v0_3 n0_3 k0_3 :: L) ∧ Inc Ha H') ∧ Els (up w0.heap.size H') ePcStep 6 c0_1r r.2.steps ∧ (bl c0_1r).Nodup ∧ Els H' (eL eI 1) 1 c0_2r r.2.polys
set_option maxHeartbeats 4000000 in
theorem w_impl_translator_widen {H0 Ha : GH} {w0 wa : World} {L : List MO} {b0 : Nat} {q0_0 : Addr} {v0_0_3 : Value} {v0_0_4 : Value} {v0_1 : Value} {n0_1 : Nat} {k0_1 : List Value} {v0_2 : Value} {n0_2 : Nat} {k0_2 : List Value} {v0_3 : Value} {n0_3 : Nat} {k0_3 : List Value} (S0 : St H0 w0 Ha wa (.box b0 126 [Value.pointer (some q0_0), v0_1, v0_2, v0_3] :: .row 129 6 v0_1 n0_1 k0_1 :: .row 139 1 v0_2 n0_2 k0_2 :: .row 3 1 v0_3 n0_3 k0_3 :: L)) (a0 : translator) (p0_0_3 : RSl Ha (eL eI 1) 1 v0_0_3 a0.algebra.f.clauses) (p0_0_4 : RSl Ha (eL eI 1) 1 v0_0_4 a0.algebra.q) (c0_0 : CAt Ha q0_0 [Value.int .i64 a0.algebra.ring.p, Value.int .i64 a0.algebra.ring.vars, Value.int .i64 a0.algebra.f.vars, v0_0_3, v0_0_4]) (p0_1 : Els (up w0.heap.size Ha) ePcStep 6 k0_1 a0.steps) (d0_1 : (bl k0_1).Nodup) (p0_2 : Els Ha (eL eI 1) 1 k0_2 a0.polys) (p0_3 : Els (up w0.heap.size Ha) eI 1 k0_3 a0.at_) (a1 : Int) (v2 : Value) (a2 : List Int) (p2 : RSl Ha eI 1 v2 a2) {r : (Int × translator)} (hp : (PF.impl_translator_widen a0 a1 a2) = some r) :
    Calls Tryz.prog 221 #[Value.pointer (some (⟨b0, 0, none⟩ : Addr)), Value.int .i64 a1, v2] wa (p_impl_translator_widen H0 w0 Ha L b0 q0_0 v0_3 n0_3 k0_3 r) := by
  unfold PF.impl_translator_widen at hp
  refine calls_go (N := 65) (args := [Value.pointer (some (⟨b0, 0, none⟩ : Addr)), Value.int .i64 a1, v2]) Tryz.func221 rfl rfl rfl ?_
  refine FW.seq (FW.region ?_)
  refine FL.v (E.assign (v := Value.int .i64 0) rfl) ?_
  refine FL.nil (FW.seq (FW.seq (FW.region ?_)))
  refine FL.v (E.move (v := v2) rfl) ?_
  refine FL.v (E.lenP te39 rfl p2) ?_
  refine FL.v (E.move (v := Value.int .i64 0) rfl) ?_
  refine FL.nil ?_
  obtain ⟨q22, hq, hp⟩ := bndR hp
  refine FW.block ?_
  refine FW.mono (FW.forL (S := ((List PcStep) × (List (List Int)) × Int)) (X := Empty) (fun (i22 : Nat) (s22 : ((List PcStep) × (List (List Int)) × Int)) f w => ∃ H : GH, ∃ v23 : Value, ∃ n24 : Nat, ∃ cs25 : List Value, ∃ v28 : Value, ∃ n29 : Nat, ∃ cs30 : List Value, St H0 w0 H w (.box b0 126 [Value.pointer (some q0_0), v23, v28, v0_3] :: .row 129 6 v23 n24 cs25 :: .row 139 1 v28 n29 cs30 :: .row 3 1 v0_3 n0_3 k0_3 :: L) ∧ Inc Ha H ∧ Els (up w0.heap.size H) ePcStep 6 cs25 s22.1 ∧ Els H (eL eI 1) 1 cs30 s22.2.1 ∧ (bl cs25).Nodup ∧ f 12 = Value.int .i64 ((i22 : Nat) : Int) ∧ f 0 = Value.pointer (some (⟨b0, 0, none⟩ : Addr)) ∧ f 1 = Value.int .i64 s22.2.2 ∧ f 10 = v2 ∧ f 11 = Value.int .i64 (len a2)) (fun (q : Rs ((List PcStep) × (List (List Int)) × Int) Empty) e f w => match q with | .go s22 => e = Exit.exit 0 ∧ (∃ H : GH, ∃ v23 : Value, ∃ n24 : Nat, ∃ cs25 : List Value, ∃ v28 : Value, ∃ n29 : Nat, ∃ cs30 : List Value, St H0 w0 H w (.box b0 126 [Value.pointer (some q0_0), v23, v28, v0_3] :: .row 129 6 v23 n24 cs25 :: .row 139 1 v28 n29 cs30 :: .row 3 1 v0_3 n0_3 k0_3 :: L) ∧ Inc Ha H ∧ Els (up w0.heap.size H) ePcStep 6 cs25 s22.1 ∧ Els H (eL eI 1) 1 cs30 s22.2.1 ∧ (bl cs25).Nodup ∧ f 1 = Value.int .i64 s22.2.2) | .rt x => x.elim) hq ⟨_, _, _, _, _, _, _, S0, (Inc.rfl _), p0_1, p0_2, d0_1, rfl, rfl, rfl, rfl, rfl⟩ ?_ ?_) ?_
  ·
    clear hp hq
    rintro i22 y21 s22 f36 w35 ⟨H32, v23, n24, cs25, v28, n29, cs30, S33, i34, els26, els31, nd27, k37, k38, k40, k41, k42⟩ hx22 o141 hp
    refine FW.seq (FW.region ?_)
    refine FL.v (E.lssT k37 k42 (lss_len hx22)) ?_
    refine FL.nil (FW.seq ?_)
    refine FW.condT rfl rfl ?_
    refine FW.skip (FW.seq (FW.block (FW.seq (FW.region ?_))))
    obtain ⟨p43, cs44, pt45, l46, at47, rel48⟩ := p2.at (ix_nat hx22)
    obtain rfl := eI_open rel48
    refine FL.v (E.indexAddr te39 k41 k37 pt45) ?_
    refine FL.v (E.load rfl (run_load0 Tryz.isAgg3 ((at47.mono i34).now S33.sl) rfl)) ?_
    refine FL.v (E.assign (v := Value.int .i64 y21) rfl) ?_
    refine FL.nil (FW.seq ?_)
    obtain ⟨x62, hx63, hp⟩ := bnd hp
    obtain ⟨r70, hr71, hp⟩ := bnd hp
    obtain ⟨r85, hr86, hp⟩ := bnd hp
    obtain ⟨s165, hq165, hp⟩ := bnd hp
    refine FW.drawB (Sl H32) (fun f w => ∃ H : GH, ∃ v97 : Value, ∃ n98 : Nat, ∃ cs99 : List Value, ∃ v102 : Value, ∃ n103 : Nat, ∃ cs104 : List Value, St H0 w0 H w (.box b0 126 [Value.pointer (some q0_0), v97, v102, v0_3] :: .row 129 6 v97 n98 cs99 :: .row 139 1 v102 n103 cs104 :: .row 3 1 v0_3 n0_3 k0_3 :: L) ∧ Inc H32 H ∧ Els (up w0.heap.size H) ePcStep 6 cs99 s165.1 ∧ Els H (eL eI 1) 1 cs104 s165.2.1 ∧ (bl cs99).Nodup ∧ f 0 = Value.pointer (some (⟨b0, 0, none⟩ : Addr)) ∧ f 1 = Value.int .i64 s22.2.2 ∧ f 8 = Value.int .i64 y21 ∧ f 9 = Value.int .i64 s165.2.2 ∧ f 10 = v2 ∧ f 11 = Value.int .i64 (len a2) ∧ f 12 = Value.int .i64 ((i22 : Nat) : Int)) (by kernel_rfl) S33.sl ?_ ?_
    ·
      intro w49 r50
      have S51 := S33.call r50
      refine FB.phase [30] (fun w => WAt w (Addr.add ⟨b0, 0, none⟩ 2) [v28]) ?_
      refine FB.phase [] (fun w => WAt w (Addr.add ⟨b0, 0, none⟩ 0) [Value.pointer (some q0_0)]) ?_
      refine FB.t (i := 0) (bs 32 1) rfl (SP.on ((S51.box_now (i := 0) rfl).sub (j := 0) (n := 1) (c := [Value.pointer (some q0_0)]) rfl) (SP.on ((S51.box_now (i := 0) rfl).sub (j := 2) (n := 1) (c := [v28]) rfl) (SP.nil S51.sl))) rfl (fun w' hw' => (E.move k38)) ?_
      refine FB.t (i := 1) (bs 32 3) rfl (SP.on ((S51.box_now (i := 0) rfl).sub (j := 0) (n := 1) (c := [Value.pointer (some q0_0)]) rfl) (SP.on ((S51.box_now (i := 0) rfl).sub (j := 2) (n := 1) (c := [v28]) rfl) (SP.nil S51.sl))) rfl (fun w' hw' => (E.move k40)) ?_
      refine FB.t (i := 2) (bs 32 7) rfl (SP.on ((S51.box_now (i := 0) rfl).sub (j := 0) (n := 1) (c := [Value.pointer (some q0_0)]) rfl) (SP.on ((S51.box_now (i := 0) rfl).sub (j := 2) (n := 1) (c := [v28]) rfl) (SP.nil S51.sl))) rfl (fun w' hw' => (E.move (v := Value.int .i64 y21) rfl)) ?_
      refine FB.t (i := 5) (bs 32 39) rfl (SP.on ((S51.box_now (i := 0) rfl).sub (j := 0) (n := 1) (c := [Value.pointer (some q0_0)]) rfl) (SP.on ((S51.box_now (i := 0) rfl).sub (j := 2) (n := 1) (c := [v28]) rfl) (SP.nil S51.sl))) rfl (fun w' hw' => (E.move k38)) ?_
      refine FB.t (i := 6) (bs 32 103) rfl (SP.on ((S51.box_now (i := 0) rfl).sub (j := 0) (n := 1) (c := [Value.pointer (some q0_0)]) rfl) (SP.on ((S51.box_now (i := 0) rfl).sub (j := 2) (n := 1) (c := [v28]) rfl) (SP.nil S51.sl))) rfl (fun w' hw' => (E.nilCheck rfl)) ?_
      refine FB.t (i := 7) (bs 32 231) rfl (SP.on ((S51.box_now (i := 0) rfl).sub (j := 0) (n := 1) (c := [Value.pointer (some q0_0)]) rfl) (SP.on ((S51.box_now (i := 0) rfl).sub (j := 2) (n := 1) (c := [v28]) rfl) (SP.nil S51.sl))) rfl (fun w' hw' => (E.fieldAddr tf126_0 rfl)) ?_
      refine FB.p (i := 8) (bs 32 487) 0 [9, 10, 11, 29, 30, 31] rfl (SP.on ((S51.box_now (i := 0) rfl).sub (j := 0) (n := 1) (c := [Value.pointer (some q0_0)]) rfl) (SP.on ((S51.box_now (i := 0) rfl).sub (j := 2) (n := 1) (c := [v28]) rfl) (SP.nil S51.sl))) rfl rfl (fun w' hw' => (E.load rfl (run_load0 Tryz.isAgg123 hw' rfl))) ?_
      refine FB.t (i := 9) (bs 32 999) rfl (SP.on ((S51.box_now (i := 0) rfl).sub (j := 0) (n := 1) (c := [Value.pointer (some q0_0)]) rfl) (SP.on ((S51.box_now (i := 0) rfl).sub (j := 2) (n := 1) (c := [v28]) rfl) (SP.nil S51.sl))) rfl (fun w' hw' => (E.nilCheck rfl)) ?_
      refine FB.t (i := 10) (bs 32 2023) rfl (SP.on ((S51.box_now (i := 0) rfl).sub (j := 0) (n := 1) (c := [Value.pointer (some q0_0)]) rfl) (SP.on ((S51.box_now (i := 0) rfl).sub (j := 2) (n := 1) (c := [v28]) rfl) (SP.nil S51.sl))) rfl (fun w' hw' => (E.fieldAddr tf144_0 rfl)) ?_
      refine FB.t (i := 11) (bs 32 4071) rfl (SP.on ((S51.box_now (i := 0) rfl).sub (j := 0) (n := 1) (c := [Value.pointer (some q0_0)]) rfl) (SP.on ((S51.box_now (i := 0) rfl).sub (j := 2) (n := 1) (c := [v28]) rfl) (SP.nil S51.sl))) rfl (fun w' hw' => (E.load rfl (run_loadA Tryz.isAgg142 Tryz.sizeOf142 (((c0_0.mono i34).now hw').sub (j := 0) (n := 2) (c := [Value.int .i64 a0.algebra.ring.p, Value.int .i64 a0.algebra.ring.vars]) rfl) rfl))) ?_
      refine FB.t (i := 12) (bs 32 8167) rfl (SP.on ((S51.box_now (i := 0) rfl).sub (j := 0) (n := 1) (c := [Value.pointer (some q0_0)]) rfl) (SP.on ((S51.box_now (i := 0) rfl).sub (j := 2) (n := 1) (c := [v28]) rfl) (SP.nil S51.sl))) rfl (fun w' hw' => (E.move k38)) ?_
      refine FB.t (i := 13) (bs 32 16359) rfl (SP.on ((S51.box_now (i := 0) rfl).sub (j := 0) (n := 1) (c := [Value.pointer (some q0_0)]) rfl) (SP.on ((S51.box_now (i := 0) rfl).sub (j := 2) (n := 1) (c := [v28]) rfl) (SP.nil S51.sl))) rfl (fun w' hw' => (E.nilCheck rfl)) ?_
      refine FB.t (i := 14) (bs 32 32743) rfl (SP.on ((S51.box_now (i := 0) rfl).sub (j := 0) (n := 1) (c := [Value.pointer (some q0_0)]) rfl) (SP.on ((S51.box_now (i := 0) rfl).sub (j := 2) (n := 1) (c := [v28]) rfl) (SP.nil S51.sl))) rfl (fun w' hw' => (E.fieldAddr tf126_2 rfl)) ?_
      refine FB.p (i := 15) (bs 32 65511) 1 [17, 18, 29, 30, 31] rfl (SP.on ((S51.box_now (i := 0) rfl).sub (j := 0) (n := 1) (c := [Value.pointer (some q0_0)]) rfl) (SP.on ((S51.box_now (i := 0) rfl).sub (j := 2) (n := 1) (c := [v28]) rfl) (SP.nil S51.sl))) rfl rfl (fun w' hw' => (E.load rfl (run_load0 Tryz.isAgg124 hw' rfl))) ?_
      refine FB.t (i := 16) (bs 32 131047) rfl (SP.on ((S51.box_now (i := 0) rfl).sub (j := 0) (n := 1) (c := [Value.pointer (some q0_0)]) rfl) (SP.on ((S51.box_now (i := 0) rfl).sub (j := 2) (n := 1) (c := [v28]) rfl) (SP.nil S51.sl))) rfl (fun w' hw' => (E.move k40)) ?_
      obtain ⟨p56, cs57, pt58, l59, at60, rel61, hall64⟩ := S51.row_atA (i := 2) rfl els31 (by decide) hx63
      obtain ⟨v65, rfl, h66⟩ := eL_open rel61
      refine FB.t (i := 17) (bs 32 262119) rfl (SP.on ((S51.box_now (i := 0) rfl).sub (j := 0) (n := 1) (c := [Value.pointer (some q0_0)]) rfl) (SP.on ((S51.box_now (i := 0) rfl).sub (j := 2) (n := 1) (c := [v28]) rfl) (SP.nil S51.sl))) rfl (fun w' hw' => (E.indexAddr te124 rfl rfl pt58)) ?_
      refine FB.phase [30] (fun w' => WAt w' p56 [v65]) ?_
      refine FB.p (i := 18) (bs 32 524263) 0 [29, 30, 31] rfl (SP.on (hall64 _ _ _ 2 S51 rfl) (SP.on ((S51.box_now (i := 0) rfl).sub (j := 0) (n := 1) (c := [Value.pointer (some q0_0)]) rfl) (SP.on ((S51.box_now (i := 0) rfl).sub (j := 2) (n := 1) (c := [v28]) rfl) (SP.nil S51.sl)))) rfl rfl (fun w' hw' => (E.load rfl (run_load0 Tryz.isAgg139 hw' rfl))) ?_
      refine FB.t (i := 19) (bs 32 1048551) rfl (SP.on (hall64 _ _ _ 2 S51 rfl) (SP.on ((S51.box_now (i := 0) rfl).sub (j := 0) (n := 1) (c := [Value.pointer (some q0_0)]) rfl) (SP.on ((S51.box_now (i := 0) rfl).sub (j := 2) (n := 1) (c := [v28]) rfl) (SP.nil S51.sl)))) rfl (fun w' hw' => (E.move k38)) ?_
      refine FB.t (i := 20) (bs 32 2097127) rfl (SP.on (hall64 _ _ _ 2 S51 rfl) (SP.on ((S51.box_now (i := 0) rfl).sub (j := 0) (n := 1) (c := [Value.pointer (some q0_0)]) rfl) (SP.on ((S51.box_now (i := 0) rfl).sub (j := 2) (n := 1) (c := [v28]) rfl) (SP.nil S51.sl)))) rfl (fun w' hw' => (E.nilCheck rfl)) ?_
      refine FB.t (i := 21) (bs 32 4194279) rfl (SP.on (hall64 _ _ _ 2 S51 rfl) (SP.on ((S51.box_now (i := 0) rfl).sub (j := 0) (n := 1) (c := [Value.pointer (some q0_0)]) rfl) (SP.on ((S51.box_now (i := 0) rfl).sub (j := 2) (n := 1) (c := [v28]) rfl) (SP.nil S51.sl)))) rfl (fun w' hw' => (E.fieldAddr tf126_0 rfl)) ?_
      refine FB.p (i := 22) (bs 32 8388583) 1 [23, 24, 25, 28, 29, 30, 31] rfl (SP.on (hall64 _ _ _ 2 S51 rfl) (SP.on ((S51.box_now (i := 0) rfl).sub (j := 0) (n := 1) (c := [Value.pointer (some q0_0)]) rfl) (SP.on ((S51.box_now (i := 0) rfl).sub (j := 2) (n := 1) (c := [v28]) rfl) (SP.nil S51.sl)))) rfl rfl (fun w' hw' => (E.load rfl (run_load0 Tryz.isAgg123 hw' rfl))) ?_
      refine FB.t (i := 23) (bs 32 16777191) rfl (SP.on (hall64 _ _ _ 2 S51 rfl) (SP.on ((S51.box_now (i := 0) rfl).sub (j := 0) (n := 1) (c := [Value.pointer (some q0_0)]) rfl) (SP.on ((S51.box_now (i := 0) rfl).sub (j := 2) (n := 1) (c := [v28]) rfl) (SP.nil S51.sl)))) rfl (fun w' hw' => (E.nilCheck rfl)) ?_
      refine FB.t (i := 24) (bs 32 33554407) rfl (SP.on (hall64 _ _ _ 2 S51 rfl) (SP.on ((S51.box_now (i := 0) rfl).sub (j := 0) (n := 1) (c := [Value.pointer (some q0_0)]) rfl) (SP.on ((S51.box_now (i := 0) rfl).sub (j := 2) (n := 1) (c := [v28]) rfl) (SP.nil S51.sl)))) rfl (fun w' hw' => (E.fieldAddr tf144_0 rfl)) ?_
      refine FB.t (i := 25) (bs 32 67108839) rfl (SP.on (hall64 _ _ _ 2 S51 rfl) (SP.on ((S51.box_now (i := 0) rfl).sub (j := 0) (n := 1) (c := [Value.pointer (some q0_0)]) rfl) (SP.on ((S51.box_now (i := 0) rfl).sub (j := 2) (n := 1) (c := [v28]) rfl) (SP.nil S51.sl)))) rfl (fun w' hw' => (E.load rfl (run_loadA Tryz.isAgg142 Tryz.sizeOf142 (((c0_0.mono i34).now hw').sub (j := 0) (n := 2) (c := [Value.int .i64 a0.algebra.ring.p, Value.int .i64 a0.algebra.ring.vars]) rfl) rfl))) ?_
      refine FB.t (i := 26) (bs 32 134217703) rfl (SP.on (hall64 _ _ _ 2 S51 rfl) (SP.on ((S51.box_now (i := 0) rfl).sub (j := 0) (n := 1) (c := [Value.pointer (some q0_0)]) rfl) (SP.on ((S51.box_now (i := 0) rfl).sub (j := 2) (n := 1) (c := [v28]) rfl) (SP.nil S51.sl)))) rfl (fun w' hw' => (E.move (v := Value.int .i64 y21) rfl)) ?_
      refine FB.all1 (i := 3) (by kernel_rfl) ?_
      ·
        refine FC.call (l' := (bs 32 134217711)) rfl (by kernel_rfl) rfl rfl rfl (E.call Tryz.call158 (A1 rfl)) (w_impl_abs S51.sl y21) ?_
        rintro e w52 ⟨rfl, r53⟩
        refine ⟨_, rfl, ?_⟩
        have S54 := S51.call r53
        refine ⟨(SP.on (hall64 _ _ _ 2 S54 rfl) (SP.on ((S54.box_now (i := 0) rfl).sub (j := 0) (n := 1) (c := [Value.pointer (some q0_0)]) rfl) (SP.on ((S54.box_now (i := 0) rfl).sub (j := 2) (n := 1) (c := [v28]) rfl) (SP.nil S54.sl)))), ?_⟩
        refine FB.t (i := 4) (bs 32 134217727) rfl (SP.on (hall64 _ _ _ 2 S54 rfl) (SP.on ((S54.box_now (i := 0) rfl).sub (j := 0) (n := 1) (c := [Value.pointer (some q0_0)]) rfl) (SP.on ((S54.box_now (i := 0) rfl).sub (j := 2) (n := 1) (c := [v28]) rfl) (SP.nil S54.sl)))) rfl (fun w' hw' => (E.build (B3 rfl rfl rfl) (run_build _ 129 #[(0, Value.int .i64 3), (2, Value.int .i64 s22.2.2), (4, Value.int .i64 (PF.impl_abs y21))] #[Value.int .i64 3, Value.slice none 0 0, Value.int .i64 s22.2.2, Value.int .i64 0, Value.int .i64 (PF.impl_abs y21), Value.int .i64 0] (by rfl)))) ?_
        refine FB.all1 (i := 27) (by kernel_rfl) ?_
        ·
          refine FC.call (l' := (bs 32 268435455)) rfl (by kernel_rfl) rfl rfl rfl (E.call Tryz.call158 (A1 rfl)) (w_impl_abs S54.sl y21) ?_
          rintro e w67 ⟨rfl, r68⟩
          refine ⟨_, rfl, ?_⟩
          have S69 := S54.call r68
          refine ⟨(SP.on (hall64 _ _ _ 2 S69 rfl) (SP.on ((S69.box_now (i := 0) rfl).sub (j := 0) (n := 1) (c := [Value.pointer (some q0_0)]) rfl) (SP.on ((S69.box_now (i := 0) rfl).sub (j := 2) (n := 1) (c := [v28]) rfl) (SP.nil S69.sl)))), ?_⟩
          refine FB.all1 (i := 28) (by kernel_rfl) ?_
          ·
            refine FC.call (l' := (bs 32 536870911)) rfl (by kernel_rfl) rfl rfl rfl (E.call Tryz.call177 (A2 rfl rfl)) (w_impl_ring_literal S69.sl a0.algebra.ring (PF.impl_abs y21) hr71) ?_
            rintro e w73 ⟨H72, v76, n77, cs78, rfl, r75, els79⟩
            refine ⟨_, rfl, ?_⟩
            have els79 := els79.mono (up_le S69.size)
            have S74 := S69.join (l' := (.row 3 1 v76 n77 cs78 :: .box b0 126 [Value.pointer (some q0_0), v23, v28, v0_3] :: .row 129 6 v23 n24 cs25 :: .row 139 1 v28 n29 cs30 :: .row 3 1 v0_3 n0_3 k0_3 :: L)) r75 rfl
            refine ⟨(SP.on (hall64 _ _ _ 3 S74 rfl) (SP.on ((S74.box_now (i := 1) rfl).sub (j := 0) (n := 1) (c := [Value.pointer (some q0_0)]) rfl) (SP.on ((S74.box_now (i := 1) rfl).sub (j := 2) (n := 1) (c := [v28]) rfl) (SP.nil (Sl.of_inc r75.run.inc S74.sl))))), ?_⟩
            refine FB.all1 (i := 29) (by kernel_rfl) ?_
            ·
              obtain ⟨H80, S81, i82, h83, nv84⟩ := S74.sealRowU (i := 0) (l' := (.box b0 126 [Value.pointer (some q0_0), v23, v28, v0_3] :: .row 129 6 v23 n24 cs25 :: .row 139 1 v28 n29 cs30 :: .row 3 1 v0_3 n0_3 k0_3 :: L)) rfl els79 (by decide) rfl
              refine FC.call (l' := (bs 32 1073741823)) rfl (by kernel_rfl) rfl rfl rfl (E.call Tryz.call176 (A3 rfl rfl rfl)) (w_impl_ring_times S81.sl a0.algebra.ring v65 x62 (h66.mono (r75.run.inc.tr i82)) v76 r70 (h83.mono upI) hr86) ?_
              rintro e w88 ⟨H87, v93, n94, cs95, rfl, r90, els96⟩
              refine ⟨_, rfl, ?_⟩
              obtain ⟨H91, r90, hU92⟩ := St.lendX i82 S74.sl r90
              have els96 := els96.mono (hU92.tr (up_le S74.size))
              have S89 := S74.join (l' := (.row 3 1 v93 n94 cs95 :: .row 3 1 v76 n77 cs78 :: .box b0 126 [Value.pointer (some q0_0), v23, v28, v0_3] :: .row 129 6 v23 n24 cs25 :: .row 139 1 v28 n29 cs30 :: .row 3 1 v0_3 n0_3 k0_3 :: L)) r90 rfl
              refine ⟨(SP.on (hall64 _ _ _ 4 S89 rfl) (SP.on ((S89.box_now (i := 2) rfl).sub (j := 0) (n := 1) (c := [Value.pointer (some q0_0)]) rfl) (SP.on ((S89.box_now (i := 2) rfl).sub (j := 2) (n := 1) (c := [v28]) rfl) (SP.nil (Sl.of_inc (r75.run.inc.tr r90.run.inc) S89.sl))))), ?_⟩
              refine FB.all1 (i := 30) (by kernel_rfl) ?_
              ·
                obtain ⟨H160, S161, i162, h163, nv164⟩ := S89.sealRowU (i := 0) (l' := (.row 3 1 v76 n77 cs78 :: .box b0 126 [Value.pointer (some q0_0), v23, v28, v0_3] :: .row 129 6 v23 n24 cs25 :: .row 139 1 v28 n29 cs30 :: .row 3 1 v0_3 n0_3 k0_3 :: L)) rfl els96 (by decide) rfl
                obtain ⟨R165, hR165⟩ : ∃ R165 : ((List PcStep) × (List (List Int)) × Int) → Ending → World → Prop, R165 = (fun s165 e w => ∃ H : GH, ∃ v166 : Value, ∃ n167 : Nat, ∃ cs168 : List Value, ∃ v171 : Value, ∃ n172 : Nat, ∃ cs173 : List Value, e = Ending.returned (Value.int .i64 s165.2.2) ∧ St H0 w0 H w (.row 3 1 v76 n77 cs78 :: .box b0 126 [Value.pointer (some q0_0), v166, v171, v0_3] :: .row 129 6 v166 n167 cs168 :: .row 139 1 v171 n172 cs173 :: .row 3 1 v0_3 n0_3 k0_3 :: L) ∧ Inc H160 H ∧ Els (up w0.heap.size H) ePcStep 6 cs168 s165.1 ∧ Els H (eL eI 1) 1 cs173 s165.2.1 ∧ (bl cs168).Nodup) := ⟨_, rfl⟩
                have hc165 : Calls Tryz.prog 219 #[Value.pointer (some (⟨b0, 0, none⟩ : Addr)), Value.agg #[Value.int .i64 3, Value.slice none 0 0, Value.int .i64 s22.2.2, Value.int .i64 0, Value.int .i64 (PF.impl_abs y21), Value.int .i64 0], v93] w88 (R165 s165) := by
                  clear hp; have hp := hq165; clear hq165
                  refine calls_go (N := 36) (args := [Value.pointer (some (⟨b0, 0, none⟩ : Addr)), Value.agg #[Value.int .i64 3, Value.slice none 0 0, Value.int .i64 s22.2.2, Value.int .i64 0, Value.int .i64 (PF.impl_abs y21), Value.int .i64 0], v93]) Tryz.func219 rfl rfl rfl ?_
                  refine FW.seq (FW.region ?_)
                  obtain ⟨b175, w176, run177, S178⟩ := S161.box (P := Tryz.prog) 129 [Value.int .i64 3, Value.slice none 0 0, Value.int .i64 s22.2.2, Value.int .i64 0, Value.int .i64 (PF.impl_abs y21), Value.int .i64 0] (v := Value.agg #[Value.int .i64 3, Value.slice none 0 0, Value.int .i64 s22.2.2, Value.int .i64 0, Value.int .i64 (PF.impl_abs y21), Value.int .i64 0]) rfl (ones_cons rfl (ones_cons rfl (ones_cons rfl (ones_cons rfl (ones_cons rfl (ones_cons rfl ones_nil))))))
                  refine FL.v (E.box rfl run177) ?_
                  refine FL.v (E.assign (v := Value.int .i64 0) rfl) ?_
                  refine FL.nil (FW.seq (FW.region ?_))
                  refine FL.v (E.move (v := v93) rfl) ?_
                  obtain ⟨r179, hr180, hp⟩ := bnd hp
                  refine FL.call rfl rfl rfl (E.call Tryz.call110 (A1 rfl)) (w_impl_dense_terms S178.sl v93 r85 (h163.mono upI) hr180) ?_
                  rintro e w182 ⟨H181, v185, n186, cs187, rfl, r184, els188⟩
                  refine ⟨_, rfl, ?_⟩
                  have els188 := els188.mono (up_le S178.size)
                  have S183 := S178.join (l' := (.row 147 2 v185 n186 cs187 :: .box b175 129 [Value.int .i64 3, Value.slice none 0 0, Value.int .i64 s22.2.2, Value.int .i64 0, Value.int .i64 (PF.impl_abs y21), Value.int .i64 0] :: .row 3 1 v76 n77 cs78 :: .box b0 126 [Value.pointer (some q0_0), v23, v28, v0_3] :: .row 129 6 v23 n24 cs25 :: .row 139 1 v28 n29 cs30 :: .row 3 1 v0_3 n0_3 k0_3 :: L)) r184 rfl
                  refine FL.v (E.fieldAddr tf129_1 rfl) ?_
                  obtain ⟨w189, run190, S191⟩ := S183.store (P := Tryz.prog) (t := 68) (i := 1) (j := 1) (cs' := [Value.int .i64 3, v185, Value.int .i64 s22.2.2, Value.int .i64 0, Value.int .i64 (PF.impl_abs y21), Value.int .i64 0]) (l' := (.row 147 2 v185 n186 cs187 :: .box b175 129 [Value.int .i64 3, v185, Value.int .i64 s22.2.2, Value.int .i64 0, Value.int .i64 (PF.impl_abs y21), Value.int .i64 0] :: .row 3 1 v76 n77 cs78 :: .box b0 126 [Value.pointer (some q0_0), v23, v28, v0_3] :: .row 129 6 v23 n24 cs25 :: .row 139 1 v28 n29 cs30 :: .row 3 1 v0_3 n0_3 k0_3 :: L)) (v := v185) (c := [v185]) rfl Tryz.sizeOf68 (Ln.cells (S183.row_ln (i := 0) rfl)) rfl (ones_cons (Ln.one (S183.row_ln (i := 0) rfl)) ones_nil) (Nat.le_of_ble_eq_true rfl) rfl rfl
                  refine FL.act rfl rfl (E.store rfl rfl run190) ?_
                  refine FL.nil (FW.seq ?_)
                  obtain ⟨xs206, hz207, hp⟩ := bnd hp
                  refine FW.drawB (Sl H181) (fun f w => ∃ H : GH, ∃ v221 : Value, ∃ n222 : Nat, ∃ cs223 : List Value, St H0 w0 H w (.row 3 1 v76 n77 cs78 :: .box b0 126 [Value.pointer (some q0_0), v221, v28, v0_3] :: .row 129 6 v221 n222 cs223 :: .row 139 1 v28 n29 cs30 :: .row 3 1 v0_3 n0_3 k0_3 :: L) ∧ Inc H181 H ∧ Els (up w0.heap.size H) ePcStep 6 cs223 xs206 ∧ (bl cs223).Nodup ∧ f 0 = Value.pointer (some (⟨b0, 0, none⟩ : Addr)) ∧ f 2 = v93) (by kernel_rfl) S191.sl ?_ ?_
                  ·
                    intro w192 r193
                    have S194 := S191.call r193
                    refine FB.phase [6] (fun w => WAt w (⟨b175, 0, none⟩ : Addr) [Value.int .i64 3, v185, Value.int .i64 s22.2.2, Value.int .i64 0, Value.int .i64 (PF.impl_abs y21), Value.int .i64 0]) ?_
                    refine FB.phase [10] (fun w => WAt w (Addr.add ⟨b0, 0, none⟩ 1) [v23]) ?_
                    refine FB.t (i := 0) (bs 11 1) rfl (SP.on ((S194.box_now (i := 3) rfl).sub (j := 1) (n := 1) (c := [v23]) rfl) (SP.on (S194.box_now (i := 1) rfl) (SP.nil S194.sl))) rfl (fun w' hw' => (E.move (v := Value.pointer (some (⟨b0, 0, none⟩ : Addr))) rfl)) ?_
                    refine FB.t (i := 1) (bs 11 3) rfl (SP.on ((S194.box_now (i := 3) rfl).sub (j := 1) (n := 1) (c := [v23]) rfl) (SP.on (S194.box_now (i := 1) rfl) (SP.nil S194.sl))) rfl (fun w' hw' => (E.move (v := Value.pointer (some (⟨b0, 0, none⟩ : Addr))) rfl)) ?_
                    refine FB.t (i := 2) (bs 11 7) rfl (SP.on ((S194.box_now (i := 3) rfl).sub (j := 1) (n := 1) (c := [v23]) rfl) (SP.on (S194.box_now (i := 1) rfl) (SP.nil S194.sl))) rfl (fun w' hw' => (E.nilCheck rfl)) ?_
                    refine FB.t (i := 3) (bs 11 15) rfl (SP.on ((S194.box_now (i := 3) rfl).sub (j := 1) (n := 1) (c := [v23]) rfl) (SP.on (S194.box_now (i := 1) rfl) (SP.nil S194.sl))) rfl (fun w' hw' => (E.fieldAddr tf126_1 rfl)) ?_
                    refine FB.p (i := 4) (bs 11 31) 0 [7, 8, 9, 10] rfl (SP.on ((S194.box_now (i := 3) rfl).sub (j := 1) (n := 1) (c := [v23]) rfl) (SP.on (S194.box_now (i := 1) rfl) (SP.nil S194.sl))) rfl rfl (fun w' hw' => (E.load rfl (run_load0 Tryz.isAgg55 hw' rfl))) ?_
                    refine FB.p (i := 5) (bs 11 63) 1 [6, 7, 8, 9, 10] rfl (SP.on ((S194.box_now (i := 3) rfl).sub (j := 1) (n := 1) (c := [v23]) rfl) (SP.on (S194.box_now (i := 1) rfl) (SP.nil S194.sl))) rfl rfl (fun w' hw' => (E.load rfl (run_loadA Tryz.isAgg129 Tryz.sizeOf129 hw' rfl))) ?_
                    refine FB.all1 (i := 6) (by kernel_rfl) ?_
                    ·
                      obtain ⟨H195, S196, i197, h198, nv199⟩ := S194.sealRowU (i := 0) (l' := (.box b175 129 [Value.int .i64 3, v185, Value.int .i64 s22.2.2, Value.int .i64 0, Value.int .i64 (PF.impl_abs y21), Value.int .i64 0] :: .row 3 1 v76 n77 cs78 :: .box b0 126 [Value.pointer (some q0_0), v23, v28, v0_3] :: .row 129 6 v23 n24 cs25 :: .row 139 1 v28 n29 cs30 :: .row 3 1 v0_3 n0_3 k0_3 :: L)) rfl els188 (by decide) rfl
                      obtain ⟨v200, w201, run202, S203⟩ := S196.buildSlice (P := Tryz.prog) te55 [Value.agg #[Value.int .i64 3, v185, Value.int .i64 s22.2.2, Value.int .i64 0, Value.int .i64 (PF.impl_abs y21), Value.int .i64 0]] (parts := #[(0, Value.agg #[Value.int .i64 3, v185, Value.int .i64 s22.2.2, Value.int .i64 0, Value.int .i64 (PF.impl_abs y21), Value.int .i64 0])]) (cells := [Value.int .i64 3, v185, Value.int .i64 s22.2.2, Value.int .i64 0, Value.int .i64 (PF.impl_abs y21), Value.int .i64 0]) rfl (szs_cons rfl szs_nil) (fc_cons rfl fc_nil) (ones_cons rfl (ones_cons h198.one (ones_cons rfl (ones_cons rfl (ones_cons rfl (ones_cons rfl ones_nil)))))) (Nat.le_of_ble_eq_true rfl)
                      have els204 : Els (up w0.heap.size H195) ePcStep 6 [Value.int .i64 3, v185, Value.int .i64 s22.2.2, Value.int .i64 0, Value.int .i64 (PF.impl_abs y21), Value.int .i64 0] [(PcStep.mk 3 r179 s22.2.2 0 (PF.impl_abs y21) 0)] := (Els.snoc (H := (up w0.heap.size H195)) (E := ePcStep) (k := 6) (c := [Value.int .i64 3, v185, Value.int .i64 s22.2.2, Value.int .i64 0, Value.int .i64 (PF.impl_abs y21), Value.int .i64 0]) (x := (PcStep.mk 3 r179 s22.2.2 0 (PF.impl_abs y21) 0)) Els.nil rfl ⟨_, rfl, h198⟩)
                      have nd205 : (bl [Value.int .i64 3, v185, Value.int .i64 s22.2.2, Value.int .i64 0, Value.int .i64 (PF.impl_abs y21), Value.int .i64 0]).Nodup := by exact nd_one v185
                      refine FC.val (l' := (bs 11 127)) rfl (by kernel_rfl) rfl rfl rfl (E.buildSlice (B1 rfl) run202) ?_
                      refine ⟨(SP.on ((S203.box_now (i := 3) rfl).sub (j := 1) (n := 1) (c := [v23]) rfl) (SP.o (SP.nil (Sl.of_inc i197 S203.sl)))), ?_⟩
                      refine FB.all1 (i := 7) (by kernel_rfl) ?_
                      ·
                        obtain ⟨v208, w211, n209, cs210, run212, S213, els214, ce215⟩ := S203.appendO (P := Tryz.prog) te55 (i := 4) (j := 0) rfl (els26.mono (up_mono ((((r75.run.inc.tr r90.run.inc).tr i162).tr r184.run.inc).tr i197))) rfl els204 hz207
                        have S213 : St H0 w0 H195 w211 (.row 129 6 v200 1 [Value.int .i64 3, v185, Value.int .i64 s22.2.2, Value.int .i64 0, Value.int .i64 (PF.impl_abs y21), Value.int .i64 0] :: .box b175 129 [Value.int .i64 3, v185, Value.int .i64 s22.2.2, Value.int .i64 0, Value.int .i64 (PF.impl_abs y21), Value.int .i64 0] :: .row 3 1 v76 n77 cs78 :: .box b0 126 [Value.pointer (some q0_0), v23, v28, v0_3] :: .row 129 6 v208 n209 cs210 :: .row 139 1 v28 n29 cs30 :: .row 3 1 v0_3 n0_3 k0_3 :: L) := S213
                        have nd216 : (bl cs210).Nodup := by rw [ce215]; exact nd_app nd27 nd205 (Els.dom (els26.mono (upI.tr (((r75.run.inc.tr r90.run.inc).tr i162).tr r184.run.inc)))) (by exact nv199)
                        have S217 : St H0 w0 H195 w211 (.box b175 129 [Value.int .i64 3, v185, Value.int .i64 s22.2.2, Value.int .i64 0, Value.int .i64 (PF.impl_abs y21), Value.int .i64 0] :: .row 3 1 v76 n77 cs78 :: .box b0 126 [Value.pointer (some q0_0), v23, v28, v0_3] :: .row 129 6 v208 n209 cs210 :: .row 139 1 v28 n29 cs30 :: .row 3 1 v0_3 n0_3 k0_3 :: L) := S213.drop 0
                        refine FC.val (l' := (bs 11 255)) rfl (by kernel_rfl) rfl rfl rfl (E.append rfl rfl run212) ?_
                        refine ⟨(SP.on ((S217.box_now (i := 2) rfl).sub (j := 1) (n := 1) (c := [v23]) rfl) (SP.o (SP.nil (Sl.of_inc i197 S217.sl)))), ?_⟩
                        refine FB.t (i := 8) (bs 11 511) rfl (SP.on ((S217.box_now (i := 2) rfl).sub (j := 1) (n := 1) (c := [v23]) rfl) (SP.o (SP.nil (Sl.of_inc i197 S217.sl)))) rfl (fun w' hw' => (E.nilCheck rfl)) ?_
                        refine FB.t (i := 9) (bs 11 1023) rfl (SP.on ((S217.box_now (i := 2) rfl).sub (j := 1) (n := 1) (c := [v23]) rfl) (SP.o (SP.nil (Sl.of_inc i197 S217.sl)))) rfl (fun w' hw' => (E.fieldAddr tf126_1 rfl)) ?_
                        refine FB.all1 (i := 10) (by kernel_rfl) ?_
                        ·
                          obtain ⟨w218, run219, S220⟩ := S217.store (P := Tryz.prog) (t := 55) (i := 2) (j := 1) (cs' := [Value.pointer (some q0_0), v208, v28, v0_3]) (l' := (.box b175 129 [Value.int .i64 3, v185, Value.int .i64 s22.2.2, Value.int .i64 0, Value.int .i64 (PF.impl_abs y21), Value.int .i64 0] :: .row 3 1 v76 n77 cs78 :: .box b0 126 [Value.pointer (some q0_0), v208, v28, v0_3] :: .row 129 6 v208 n209 cs210 :: .row 139 1 v28 n29 cs30 :: .row 3 1 v0_3 n0_3 k0_3 :: L)) (v := v208) (c := [v208]) rfl Tryz.sizeOf55 (Ln.cells (S217.row_ln (i := 3) rfl)) rfl (ones_cons (Ln.one (S217.row_ln (i := 3) rfl)) ones_nil) (Nat.le_of_ble_eq_true rfl) rfl rfl
                          refine FC.act (l' := (bs 11 2047)) rfl (by kernel_rfl) rfl rfl (E.store rfl rfl run219) ?_
                          refine ⟨(SP.o (SP.o (SP.nil (Sl.of_inc i197 S220.sl)))), ?_⟩
                          exact FB.done (by kernel_rfl) ⟨_, _, _, _, (S220.selT (a := [.box b175 129 [Value.int .i64 3, v185, Value.int .i64 s22.2.2, Value.int .i64 0, Value.int .i64 (PF.impl_abs y21), Value.int .i64 0], .row 3 1 v76 n77 cs78, .box b0 126 [Value.pointer (some q0_0), v208, v28, v0_3], .row 129 6 v208 n209 cs210, .row 139 1 v28 n29 cs30, .row 3 1 v0_3 n0_3 k0_3]) (l' := [.row 3 1 v76 n77 cs78, .box b0 126 [Value.pointer (some q0_0), v208, v28, v0_3], .row 129 6 v208 n209 cs210, .row 139 1 v28 n29 cs30, .row 3 1 v0_3 n0_3 k0_3]) [1, 2, 3, 4, 5] (by decide) rfl), i197, els214, nd216, rfl, rfl⟩
                  ·
                    rintro f230 w229 ⟨H226, v221, n222, cs223, S227, i228, els224, nd225, k231, k232⟩
                    refine FW.seq (FW.region ?_)
                    refine FL.v (E.move k231) ?_
                    refine FL.v (E.move k231) ?_
                    refine FL.v (E.nilCheck rfl) ?_
                    refine FL.v (E.fieldAddr tf126_2 rfl) ?_
                    refine FL.v (E.load rfl (run_load1 Tryz.isAgg124 (S227.box_now (i := 1) rfl) rfl)) ?_
                    refine FL.v (E.move k232) ?_
                    obtain ⟨v233, w234, run235, S236⟩ := S227.buildSlice (P := Tryz.prog) te124 [v93] (parts := #[(0, v93)]) (cells := [v93]) rfl (szs_cons (cells_size h163.cells) szs_nil) (fc_cons h163.cells fc_nil) (ones_cons h163.one ones_nil) (Nat.le_of_ble_eq_true rfl)
                    have els237 : Els (up w0.heap.size H226) (eL eI 1) 1 [v93] [r85] := (Els.snoc (H := (up w0.heap.size H226)) (E := (eL eI 1)) (k := 1) (c := [v93]) (x := r85) Els.nil rfl ⟨_, rfl, (h163.mono (up_mono (r184.run.inc.tr i228)))⟩)
                    have nd238 : (bl [v93]).Nodup := by exact nd_one v93
                    refine FL.v (E.buildSlice (B1 rfl) run235) ?_
                    obtain ⟨xs239, hz240, hp⟩ := bnd hp
                    obtain ⟨v241, w244, n242, cs243, run245, S246, els247, ce248⟩ := S236.appendO (P := Tryz.prog) te124 (i := 4) (j := 0) rfl (els31.mono ((((r75.run.inc.tr r90.run.inc).tr i162).tr r184.run.inc).tr i228)) rfl (els237.mono upI) hz240
                    have S246 : St H0 w0 H226 w244 (.row 139 1 v233 1 [v93] :: .row 3 1 v76 n77 cs78 :: .box b0 126 [Value.pointer (some q0_0), v221, v28, v0_3] :: .row 129 6 v221 n222 cs223 :: .row 139 1 v241 n242 cs243 :: .row 3 1 v0_3 n0_3 k0_3 :: L) := S246
                    have S249 : St H0 w0 H226 w244 (.row 3 1 v76 n77 cs78 :: .box b0 126 [Value.pointer (some q0_0), v221, v28, v0_3] :: .row 129 6 v221 n222 cs223 :: .row 139 1 v241 n242 cs243 :: .row 3 1 v0_3 n0_3 k0_3 :: L) := S246.drop 0
                    refine FL.v (E.append rfl rfl run245) ?_
                    refine FL.v (E.nilCheck rfl) ?_
                    refine FL.v (E.fieldAddr tf126_2 rfl) ?_
                    obtain ⟨w250, run251, S252⟩ := S249.store (P := Tryz.prog) (t := 124) (i := 1) (j := 2) (cs' := [Value.pointer (some q0_0), v221, v241, v0_3]) (l' := (.row 3 1 v76 n77 cs78 :: .box b0 126 [Value.pointer (some q0_0), v221, v241, v0_3] :: .row 129 6 v221 n222 cs223 :: .row 139 1 v241 n242 cs243 :: .row 3 1 v0_3 n0_3 k0_3 :: L)) (v := v241) (c := [v241]) rfl Tryz.sizeOf124 (Ln.cells (S249.row_ln (i := 3) rfl)) rfl (ones_cons (Ln.one (S249.row_ln (i := 3) rfl)) ones_nil) (Nat.le_of_ble_eq_true rfl) rfl rfl
                    refine FL.act rfl rfl (E.store rfl rfl run251) ?_
                    refine FL.nil (FW.seq (FW.region ?_))
                    refine FL.v (E.move k231) ?_
                    refine FL.v (E.nilCheck rfl) ?_
                    refine FL.v (E.fieldAddr tf126_1 rfl) ?_
                    refine FL.v (E.load rfl (run_load1 Tryz.isAgg55 (S252.box_now (i := 1) rfl) rfl)) ?_
                    refine FL.v (E.lenO te55 rfl S252 (i := 2) rfl els224 (by decide)) ?_
                    refine FL.v (E.sub rfl rfl) ?_
                    refine FL.v (E.assign (v := Value.int .i64 (wr ((len xs206) - 1))) rfl) ?_
                    refine FL.nil ?_
                    refine FW.ret ?_
                    obtain rfl := Option.some.inj hp
                    exact ⟨.inr rfl, res1 rfl rfl (by rw [hR165]; exact ⟨_, _, _, _, _, _, _, rfl, S252, (r184.run.inc.tr i228), els224, els247, nd225⟩)⟩
                clear hq165
                refine FC.call (l' := (bs 32 2147483647)) rfl (by kernel_rfl) rfl rfl rfl (E.call Tryz.call219 (A3 rfl rfl rfl)) hc165 ?_
                intro e w256 hQ165
                rw [hR165] at hQ165
                obtain ⟨H253, v166, n167, cs168, v171, n172, cs173, rfl, S254, i255, els169, els174, nd170⟩ := hQ165
                refine ⟨_, rfl, ?_⟩
                refine ⟨(SP.o (SP.on ((S254.box_now (i := 1) rfl).sub (j := 0) (n := 1) (c := [Value.pointer (some q0_0)]) rfl) (SP.o (SP.nil (Sl.of_inc (((r75.run.inc.tr r90.run.inc).tr i162).tr i255) S254.sl))))), ?_⟩
                refine FB.t (i := 31) (bs 32 4294967295) rfl (SP.o (SP.on ((S254.box_now (i := 1) rfl).sub (j := 0) (n := 1) (c := [Value.pointer (some q0_0)]) rfl) (SP.o (SP.nil (Sl.of_inc (((r75.run.inc.tr r90.run.inc).tr i162).tr i255) S254.sl))))) rfl (fun w' hw' => (E.assign (v := Value.int .i64 s165.2.2) rfl)) ?_
                exact FB.done (by kernel_rfl) ⟨_, _, _, _, _, _, _, (S254.selT (a := [.row 3 1 v76 n77 cs78, .box b0 126 [Value.pointer (some q0_0), v166, v171, v0_3], .row 129 6 v166 n167 cs168, .row 139 1 v171 n172 cs173, .row 3 1 v0_3 n0_3 k0_3]) (l' := [.box b0 126 [Value.pointer (some q0_0), v166, v171, v0_3], .row 129 6 v166 n167 cs168, .row 139 1 v171 n172 cs173, .row 3 1 v0_3 n0_3 k0_3]) [1, 2, 3, 4] (by decide) rfl), (((r75.run.inc.tr r90.run.inc).tr i162).tr i255), els169, els174, nd170, k38, k40, rfl, rfl, k41, k42, k37⟩
    ·
      rintro f110 w109 ⟨H106, v97, n98, cs99, v102, n103, cs104, S107, i108, els100, els105, nd101, k111, k112, k113, k114, k115, k116, k117⟩
      refine FW.seq (FW.seq (FW.region ?_))
      refine FL.v (E.move k113) ?_
      refine FL.v (E.gtr rfl rfl) ?_
      refine FL.nil ?_
      rcases ifB hp with ⟨c118, hp⟩ | ⟨c118, hp⟩
      ·
        refine FW.condT rfl c118 ?_
        refine FW.region ?_
        refine FL.v (E.move k111) ?_
        refine FL.v (E.move k112) ?_
        refine FL.v (E.move k114) ?_
        refine FL.v (E.move k111) ?_
        refine FL.v (E.nilCheck rfl) ?_
        refine FL.v (E.fieldAddr tf126_0 rfl) ?_
        refine FL.v (E.load rfl (run_load1 Tryz.isAgg123 (S107.box_now (i := 0) rfl) rfl)) ?_
        refine FL.v (E.nilCheck rfl) ?_
        refine FL.v (E.fieldAddr tf144_0 rfl) ?_
        refine FL.v (E.fieldAddrN tf142_0 rfl rfl) ?_
        refine FL.v (E.load rfl (run_load1 Tryz.isAgg3 ((c0_0.mono (i34.tr i108)).now S107.sl) rfl)) ?_
        refine FL.v (E.sub rfl rfl) ?_
        obtain ⟨r119, hr120, hp⟩ := bnd hp
        have S121 : St H0 w0 H106 w109 (.row 3 1 v0_3 n0_3 k0_3 :: .box b0 126 [Value.pointer (some q0_0), v97, v102, v0_3] :: .row 129 6 v97 n98 cs99 :: .row 139 1 v102 n103 cs104 :: L) := S107.front 3 rfl rfl
        have S122 : St H0 w0 H106 w109 (.row 139 1 v102 n103 cs104 :: .row 3 1 v0_3 n0_3 k0_3 :: .box b0 126 [Value.pointer (some q0_0), v97, v102, v0_3] :: .row 129 6 v97 n98 cs99 :: L) := S121.front 3 rfl rfl
        have S123 : St H0 w0 H106 w109 (.row 129 6 v97 n98 cs99 :: .row 139 1 v102 n103 cs104 :: .row 3 1 v0_3 n0_3 k0_3 :: .box b0 126 [Value.pointer (some q0_0), v97, v102, v0_3] :: L) := S122.front 3 rfl rfl
        have S125 : St H0 w0 H106 w109 (.box b0 126 [Value.pointer (some q0_0), v97, v102, v0_3] :: .row 129 6 v97 n98 cs99 :: .row 139 1 v102 n103 cs104 :: .row 3 1 v0_3 n0_3 k0_3 :: L) := S123.front 3 rfl rfl
        refine FL.call rfl rfl rfl (E.call Tryz.call220 (A5 rfl rfl rfl rfl rfl)) (w_impl_translator_sum (L := (L)) S125 (translator.mk a0.algebra s165.1 s165.2.1 a0.at_) (p0_0_3.mono (i34.tr i108)) (p0_0_4.mono (i34.tr i108)) (c0_0.mono (i34.tr i108)) els100 nd101 els105 (p0_3.mono (up_mono (i34.tr i108))) s22.2.2 s165.2.2 1 (wr (a0.algebra.ring.p - 1)) hr120) ?_
        rintro e w128 ⟨H127, v132, n133, cs134, v137, n138, cs139, rfl, ⟨S130, i131⟩, els135, nd136, els140⟩
        refine ⟨_, rfl, ?_⟩
        have S130 : St H0 w0 H127 w128 (.box b0 126 [Value.pointer (some q0_0), v132, v137, v0_3] :: .row 129 6 v132 n133 cs134 :: .row 139 1 v137 n138 cs139 :: .row 3 1 v0_3 n0_3 k0_3 :: L) := S130
        refine FL.v (E.assign (v := Value.int .i64 r119.1) rfl) ?_
        refine FL.nil (FW.region ?_)
        refine FL.v (E.move (v := Value.int .i64 r119.1) rfl) ?_
        refine FL.v (E.assign (v := Value.int .i64 r119.1) rfl) ?_
        refine FL.nil (FW.region ?_)
        refine FL.v (E.add k117 rfl) ?_
        refine FL.v (E.move (v := Value.int .i64 (wr (((i22 : Nat) : Int) + 1))) rfl) ?_
        refine FL.nil ?_
        obtain rfl := Option.some.inj hp
        exact ⟨rfl, ⟨_, _, _, _, _, _, _, S130, ((i34.tr i108).tr i131), els135, els140, nd136, (nat_succ rfl (lt_of_get hx22) (p2.mono ((i34.tr i108).tr i131)).le), k111, rfl, k115, k116⟩⟩
      ·
        refine FW.condF rfl c118 ?_
        refine FW.skip (FW.region ?_)
        refine FL.v (E.move k114) ?_
        refine FL.v (E.assign (v := Value.int .i64 s165.2.2) rfl) ?_
        refine FL.nil (FW.region ?_)
        refine FL.v (E.add k117 rfl) ?_
        refine FL.v (E.move (v := Value.int .i64 (wr (((i22 : Nat) : Int) + 1))) rfl) ?_
        refine FL.nil ?_
        obtain rfl := Option.some.inj hp
        exact ⟨rfl, ⟨_, _, _, _, _, _, _, S107, (i34.tr i108), els100, els105, nd101, (nat_succ rfl (lt_of_get hx22) (p2.mono (i34.tr i108)).le), k111, rfl, k115, k116⟩⟩
  ·
    clear hp hq
    rintro s22 f154 w153 ⟨H150, v23, n24, cs25, v28, n29, cs30, S151, i152, els26, els31, nd27, k155, k156, k157, k158, k159⟩
    refine FW.seq (FW.region ?_)
    refine FL.v (E.lss k155 k159) ?_
    refine FL.nil (FW.seq ?_)
    refine FW.condF rfl dlt_len ?_
    refine FW.exit ?_
    exact ⟨nofun, rfl, ⟨_, _, _, _, _, _, _, S151, i152, els26, els31, nd27, k157⟩⟩
  ·
    clear hq
    intro e f148 w147 hD
    rcases q22 with s22 | x22
    ·
      obtain ⟨rfl, hD⟩ := hD
      obtain ⟨H143, v23, n24, cs25, v28, n29, cs30, S145, i146, els26, els31, nd27, k149⟩ := hD
      replace hp := el_go hp
      refine FW.seq (FW.region ?_)
      refine FL.v (E.move k149) ?_
      refine FL.v (E.assign (v := Value.int .i64 s22.2.2) rfl) ?_
      refine FL.nil ?_
      refine FW.ret ?_
      obtain rfl := Option.some.inj hp
      exact ⟨.inr rfl, res1 rfl rfl ⟨_, _, _, _, _, _, _, rfl, ⟨S145, i146⟩, els26, nd27, els31⟩⟩
    · exact x22.elim

end Go.Proofs
