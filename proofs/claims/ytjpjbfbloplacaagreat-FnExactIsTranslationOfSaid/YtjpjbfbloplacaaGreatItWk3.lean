/- Part of the walks and plain laws behind the claim: it proves helpers, under no condition beyond their own. -/
import Derived.Test.YtjpjbfbloplacaaGreatItWk2
set_option linter.unusedVariables false
set_option maxRecDepth 100000
namespace Go.Proofs
open Go.Mr Go.Pu Go.PF Go.RowKit

@[reducible] def p_impl_algebraOf (Ha : GH) (wa : World) (r : ((Option algebra) × Bool)) : Ending → World → Prop :=
  fun e w' => ∃ H' : GH, ∃ v0 : Value, e = .returned (Value.tuple #[v0, Value.bool r.2]) ∧ Run wa.heap.size Ha wa H' w' ∧ OP (fun (q : Addr) (x : algebra) => ∃ v0R_3 : Value, ∃ v0R_4 : Value, RSl H' (eL eI 1) 1 v0R_3 x.f.clauses ∧ (∃ c, Nest (up wa.heap.size H') (eL eI 1) 1 v0R_4 x.q c) ∧ CAt H' q [Value.int .i64 x.ring.p, Value.int .i64 x.ring.vars, Value.int .i64 x.f.vars, v0R_3, v0R_4]) v0 r.1
theorem w_impl_algebraOf {Ha : GH} {wa : World} (hs : Sl Ha wa) (a0 : Int) (a1 : Cnf) (v1_1 : Value) (p1_1 : RSl Ha (eL eI 1) 1 v1_1 a1.clauses) {r : ((Option algebra) × Bool)} (hp : (PF.impl_algebraOf a0 a1) = some r) :
    Calls Tryz.prog 65 #[Value.int .i64 a0, Value.agg #[Value.int .i64 a1.vars, v1_1]] wa (p_impl_algebraOf Ha wa r) := by
  unfold PF.impl_algebraOf at hp
  have S0 := St.init hs
  refine calls_go (N := 50) (args := [Value.int .i64 a0, Value.agg #[Value.int .i64 a1.vars, v1_1]]) Tryz.func65 rfl rfl rfl ?_
  refine FW.seq (FW.region ?_)
  obtain ⟨b21, w22, run23, S24⟩ := S0.box (P := Tryz.prog) 32 [Value.int .i64 a1.vars, v1_1] (v := Value.agg #[Value.int .i64 a1.vars, v1_1]) rfl (ones_cons rfl (ones_cons p1_1.one ones_nil))
  refine FL.v (E.box rfl run23) ?_
  obtain ⟨H25, S26, i27, at28⟩ := S24.sealBox (i := 0) (l' := []) rfl rfl
  refine FL.v (E.assign (v := Value.pointer none) rfl) ?_
  refine FL.v (E.assign (v := Value.bool false) rfl) ?_
  refine FL.nil (FW.seq (FW.region ?_))
  refine FL.v (E.move (v := Value.int .i64 a0) rfl) ?_
  refine FL.v (E.fieldAddr tf32_0 rfl) ?_
  refine FL.v (E.load rfl (run_load1 Tryz.isAgg3 (at28.now S26.sl) rfl)) ?_
  refine FL.call rfl rfl rfl (E.call Tryz.call119 (A2 rfl rfl)) (w_impl_ringOf S26.sl a0 a1.vars) ?_
  rintro e w29 ⟨rfl, r30⟩
  refine ⟨_, rfl, ?_⟩
  have S31 := S26.call r30
  refine FL.v (E.move (v := Value.tuple #[Value.agg #[Value.int .i64 (((PF.impl_ringOf a0 a1.vars).1).p), Value.int .i64 (((PF.impl_ringOf a0 a1.vars).1).vars)], Value.bool ((PF.impl_ringOf a0 a1.vars).2)]) rfl) ?_
  refine FL.v (E.extract (i := 0) rfl rfl) ?_
  refine FL.v (E.extract (i := 1) rfl rfl) ?_
  obtain ⟨b32, w33, run34, S35⟩ := S31.alloc (P := Tryz.prog) 102 [Value.int .i64 0, Value.int .i64 0] Tryz.zeroValue102 rfl (ones_cons rfl (ones_cons rfl ones_nil))
  refine FL.v (E.alloc run34) ?_
  obtain ⟨w36, run37, S38⟩ := S35.store0 (P := Tryz.prog) (t := 102) (i := 0) (cs' := [Value.int .i64 (((PF.impl_ringOf a0 a1.vars).1).p), Value.int .i64 (((PF.impl_ringOf a0 a1.vars).1).vars)]) (l' := [.box b32 102 [Value.int .i64 (((PF.impl_ringOf a0 a1.vars).1).p), Value.int .i64 (((PF.impl_ringOf a0 a1.vars).1).vars)]]) (v := Value.agg #[Value.int .i64 (((PF.impl_ringOf a0 a1.vars).1).p), Value.int .i64 (((PF.impl_ringOf a0 a1.vars).1).vars)]) (c := [Value.int .i64 (((PF.impl_ringOf a0 a1.vars).1).p), Value.int .i64 (((PF.impl_ringOf a0 a1.vars).1).vars)]) rfl Tryz.sizeOf102 rfl rfl (ones_cons rfl (ones_cons rfl ones_nil)) (Nat.le_of_ble_eq_true rfl) rfl rfl
  refine FL.act rfl rfl (E.store rfl rfl run37) ?_
  obtain ⟨H39, S40, i41, at42⟩ := S38.sealBox (i := 0) (l' := []) rfl rfl
  refine FL.v (E.assign (v := Value.bool ((PF.impl_ringOf a0 a1.vars).2)) rfl) ?_
  refine FL.nil (FW.seq (FW.seq (FW.region ?_)))
  refine FL.v (E.move (v := Value.bool ((PF.impl_ringOf a0 a1.vars).2)) rfl) ?_
  refine FL.v (E.not rfl) ?_
  refine FL.v (E.move (v := Value.bool (!((PF.impl_ringOf a0 a1.vars).2))) rfl) ?_
  obtain ⟨t48, hqt48, hp⟩ := bnd hp
  refine FL.cut 4 (fun f w => ∃ H : GH, St Ha wa H w [] ∧ Inc H39 H ∧ f 3 = Value.pointer (some ⟨b21, 0, none⟩) ∧ f 6 = Value.pointer (some ⟨b32, 0, none⟩) ∧ f 24 = Value.bool t48) ?_ ?_
  ·
    clear hp; have hp := hqt48; clear hqt48
    rcases ifB hp with ⟨c54, hp⟩ | ⟨c54, hp⟩
    ·
      refine FL.skip (wF_no rfl rfl rfl c54) rfl ?_
      refine FL.skip (wF_no rfl rfl rfl c54) rfl ?_
      refine FL.skip (wF_no rfl rfl rfl c54) rfl ?_
      obtain rfl := Option.some.inj hp
      refine FL.v (E.pickT rfl c54 rfl) ?_
      exact FL.nil ⟨rfl, _, S40, (Inc.rfl _), rfl, rfl, rfl⟩
    ·
      refine FL.val (wF_yes rfl rfl rfl c54) rfl rfl (E.load rfl (run_loadA Tryz.isAgg32 Tryz.sizeOf32 ((at28.mono i41).now S40.sl) rfl)) ?_
      obtain ⟨r55, hr56, hp⟩ := bnd hp
      refine FL.call (wF_yes rfl rfl rfl c54) rfl rfl (E.call Tryz.call120 (A1 rfl)) (w_impl_IsCnf S40.sl a1 v1_1 (p1_1.mono (i27.tr i41)) hr56) ?_
      rintro e w57 ⟨rfl, r58⟩
      refine ⟨_, rfl, ?_⟩
      have S59 := S40.call r58
      refine FL.val (wF_yes rfl rfl rfl c54) rfl rfl (E.not rfl) ?_
      obtain rfl := Option.some.inj hp
      refine FL.v (E.pickF rfl c54 rfl) ?_
      exact FL.nil ⟨rfl, _, S59, (Inc.rfl _), rfl, rfl, rfl⟩
  rintro f53 w52 ⟨H49, S50, i51, k60, k61, k62⟩
  refine FL.nil ?_
  rcases ifB hp with ⟨c63, hp⟩ | ⟨c63, hp⟩
  ·
    refine FW.condT k62 c63 ?_
    refine FW.seq (FW.region ?_)
    refine FL.v (E.assign (v := Value.pointer none) rfl) ?_
    refine FL.v (E.assign (v := Value.bool false) rfl) ?_
    refine FL.nil ?_
    refine FW.ret ?_
    obtain rfl := Option.some.inj hp
    exact ⟨.inr rfl, res2 rfl rfl rfl ⟨_, _, rfl, S50.run, rfl⟩⟩
  ·
    refine FW.condF k62 c63 ?_
    refine FW.skip (FW.seq (FW.region ?_))
    refine FL.v (E.load k61 (run_loadA Tryz.isAgg102 Tryz.sizeOf102 ((at42.mono i51).now S50.sl) rfl)) ?_
    refine FL.v (E.load k60 (run_loadA Tryz.isAgg32 Tryz.sizeOf32 ((at28.mono (i41.tr i51)).now S50.sl) rfl)) ?_
    refine FL.v (E.build (B2 rfl rfl) (run_build _ 105 #[(0, Value.agg #[Value.int .i64 (((PF.impl_ringOf a0 a1.vars).1).p), Value.int .i64 (((PF.impl_ringOf a0 a1.vars).1).vars)]), (1, Value.agg #[Value.int .i64 a1.vars, v1_1])] #[Value.int .i64 (((PF.impl_ringOf a0 a1.vars).1).p), Value.int .i64 (((PF.impl_ringOf a0 a1.vars).1).vars), Value.int .i64 a1.vars, v1_1, Value.slice none 0 0] (by obtain ⟨_, _, rfl⟩ := RSl.ln (p1_1.mono ((i27.tr i41).tr i51)); rfl))) ?_
    have S68 := S50.nil 99 1
    have els69 : Els (up wa.heap.size H49) (eL eI 1) 1 [] [] := Els.nil
    obtain ⟨b64, w65, run66, S67⟩ := S68.box (P := Tryz.prog) 105 [Value.int .i64 (((PF.impl_ringOf a0 a1.vars).1).p), Value.int .i64 (((PF.impl_ringOf a0 a1.vars).1).vars), Value.int .i64 a1.vars, v1_1, (Value.slice none 0 0)] (v := Value.agg #[Value.int .i64 (((PF.impl_ringOf a0 a1.vars).1).p), Value.int .i64 (((PF.impl_ringOf a0 a1.vars).1).vars), Value.int .i64 a1.vars, v1_1, Value.slice none 0 0]) rfl (ones_cons rfl (ones_cons rfl (ones_cons rfl (ones_cons p1_1.one (ones_cons (Ln.one (S68.row_ln (i := 0) rfl)) ones_nil)))))
    refine FL.v (E.box rfl run66) ?_
    refine FL.v (E.assign (v := Value.pointer (some (⟨b64, 0, none⟩ : Addr))) rfl) ?_
    refine FL.nil (FW.seq (FW.seq (FW.region ?_)))
    refine FL.v (E.fieldAddr tf32_1 k60) ?_
    refine FL.v (E.load rfl (run_load1 Tryz.isAgg22 ((at28.mono (i41.tr i51)).now S67.sl) rfl)) ?_
    refine FL.v (E.lenP te22 rfl p1_1) ?_
    refine FL.v (E.move (v := Value.int .i64 0) rfl) ?_
    refine FL.nil ?_
    obtain ⟨q71, hq, hp⟩ := bndR hp
    refine FW.block ?_
    refine FW.mono (FW.forL (S := ((List (List Int)) × Int × Int × Int × (List (List Int)))) (X := Empty) (fun (i71 : Nat) (s71 : ((List (List Int)) × Int × Int × Int × (List (List Int)))) f w => ∃ H : GH, ∃ v43 : Value, ∃ n44 : Nat, ∃ cs45 : List Value, ∃ v72 : Value, St Ha wa H w [.box b64 105 [Value.int .i64 s71.2.1, Value.int .i64 s71.2.2.1, Value.int .i64 s71.2.2.2.1, v72, v43], .row 99 1 v43 n44 cs45] ∧ Inc H49 H ∧ Els (up wa.heap.size H) (eL eI 1) 1 cs45 s71.1 ∧ RSl H (eL eI 1) 1 v72 s71.2.2.2.2 ∧ (bl cs45).Nodup ∧ f 32 = Value.int .i64 ((i71 : Nat) : Int) ∧ f 6 = Value.pointer (some ⟨b32, 0, none⟩) ∧ f 8 = Value.pointer (some (⟨b64, 0, none⟩ : Addr)) ∧ f 30 = v1_1 ∧ f 31 = Value.int .i64 (len a1.clauses)) (fun (q : Rs ((List (List Int)) × Int × Int × Int × (List (List Int))) Empty) e f w => match q with | .go s71 => e = Exit.exit 0 ∧ (∃ H : GH, ∃ v43 : Value, ∃ n44 : Nat, ∃ cs45 : List Value, ∃ v72 : Value, St Ha wa H w [.box b64 105 [Value.int .i64 s71.2.1, Value.int .i64 s71.2.2.1, Value.int .i64 s71.2.2.2.1, v72, v43], .row 99 1 v43 n44 cs45] ∧ Inc H49 H ∧ Els (up wa.heap.size H) (eL eI 1) 1 cs45 s71.1 ∧ RSl H (eL eI 1) 1 v72 s71.2.2.2.2 ∧ (bl cs45).Nodup ∧ f 8 = Value.pointer (some (⟨b64, 0, none⟩ : Addr))) | .rt x => x.elim) hq ⟨_, _, _, _, _, S67, (Inc.rfl _), els69, (p1_1.mono ((i27.tr i41).tr i51)), (show (bl []).Nodup from List.nodup_nil), rfl, k61, rfl, rfl, rfl⟩ ?_ ?_) ?_
    ·
      clear hp hq
      rintro i71 y70 s71 f78 w77 ⟨H74, v43, n44, cs45, v72, S75, i76, els46, h73, nd47, k79, k80, k81, k82, k83⟩ hx71 o150 hp
      refine FW.seq (FW.region ?_)
      refine FL.v (E.lssT k79 k83 (lss_len hx71)) ?_
      refine FL.nil (FW.seq ?_)
      refine FW.condT rfl rfl ?_
      refine FW.skip (FW.seq (FW.block (FW.seq (FW.region ?_))))
      obtain ⟨p84, cs85, pt86, l87, at88, rel89⟩ := p1_1.at (ix_nat hx71)
      obtain ⟨v90, rfl, h91⟩ := eL_open rel89
      refine FL.v (E.indexAddr te22 k82 k79 pt86) ?_
      refine FL.v (E.load rfl (run_load0 Tryz.isAgg73 ((at88.mono (((i27.tr i41).tr i51).tr i76)).now S75.sl) rfl)) ?_
      refine FL.v (E.assign (v := v90) rfl) ?_
      refine FL.nil ?_
      obtain ⟨r95, hr96, hp⟩ := bnd hp
      obtain ⟨xs118, hz119, hp⟩ := bnd hp
      refine FW.drawB (Sl H74) (fun f w => ∃ H : GH, ∃ v133 : Value, ∃ n134 : Nat, ∃ cs135 : List Value, ∃ v138 : Value, St Ha wa H w [.box b64 105 [Value.int .i64 s71.2.1, Value.int .i64 s71.2.2.1, Value.int .i64 s71.2.2.2.1, v138, v133], .row 99 1 v133 n134 cs135] ∧ Inc H74 H ∧ Els (up wa.heap.size H) (eL eI 1) 1 cs135 xs118 ∧ RSl H (eL eI 1) 1 v138 s71.2.2.2.2 ∧ (bl cs135).Nodup ∧ f 6 = Value.pointer (some ⟨b32, 0, none⟩) ∧ f 8 = Value.pointer (some (⟨b64, 0, none⟩ : Addr)) ∧ f 30 = v1_1 ∧ f 31 = Value.int .i64 (len a1.clauses) ∧ f 32 = Value.int .i64 ((i71 : Nat) : Int)) (by kernel_rfl) S75.sl ?_ ?_
      ·
        intro w92 r93
        have S94 := S75.call r93
        refine FB.phase [12] (fun w => WAt w (Addr.add ⟨b64, 0, none⟩ 4) [v43]) ?_
        refine FB.t (i := 0) (bs 13 1) rfl (SP.on ((S94.box_now (i := 0) rfl).sub (j := 4) (n := 1) (c := [v43]) rfl) (SP.nil S94.sl)) rfl (fun w' hw' => (E.move k81)) ?_
        refine FB.t (i := 1) (bs 13 3) rfl (SP.on ((S94.box_now (i := 0) rfl).sub (j := 4) (n := 1) (c := [v43]) rfl) (SP.nil S94.sl)) rfl (fun w' hw' => (E.move k81)) ?_
        refine FB.t (i := 2) (bs 13 7) rfl (SP.on ((S94.box_now (i := 0) rfl).sub (j := 4) (n := 1) (c := [v43]) rfl) (SP.nil S94.sl)) rfl (fun w' hw' => (E.nilCheck rfl)) ?_
        refine FB.t (i := 3) (bs 13 15) rfl (SP.on ((S94.box_now (i := 0) rfl).sub (j := 4) (n := 1) (c := [v43]) rfl) (SP.nil S94.sl)) rfl (fun w' hw' => (E.fieldAddr tf105_2 rfl)) ?_
        refine FB.p (i := 4) (bs 13 31) 0 [9, 10, 11, 12] rfl (SP.on ((S94.box_now (i := 0) rfl).sub (j := 4) (n := 1) (c := [v43]) rfl) (SP.nil S94.sl)) rfl rfl (fun w' hw' => (E.load rfl (run_load0 Tryz.isAgg103 hw' rfl))) ?_
        refine FB.t (i := 5) (bs 13 63) rfl (SP.on ((S94.box_now (i := 0) rfl).sub (j := 4) (n := 1) (c := [v43]) rfl) (SP.nil S94.sl)) rfl (fun w' hw' => (E.load k80 (run_loadA Tryz.isAgg102 Tryz.sizeOf102 ((at42.mono (i51.tr i76)).now hw') rfl))) ?_
        refine FB.t (i := 6) (bs 13 127) rfl (SP.on ((S94.box_now (i := 0) rfl).sub (j := 4) (n := 1) (c := [v43]) rfl) (SP.nil S94.sl)) rfl (fun w' hw' => (E.move (v := v90) rfl)) ?_
        refine FB.all1 (i := 7) (by kernel_rfl) ?_
        ·
          refine FC.call (l' := (bs 13 255)) rfl (by kernel_rfl) rfl rfl rfl (E.call Tryz.call68 (A2 rfl rfl)) (w_impl_ring_clause S94.sl ((PF.impl_ringOf a0 a1.vars).1) v90 y70 (h91.mono (((i27.tr i41).tr i51).tr i76)) hr96) ?_
          rintro e w98 ⟨H97, v101, n102, cs104, rfl, r100, els106⟩
          refine ⟨_, rfl, ?_⟩
          have els106 := els106.mono (up_le S94.size)
          have S99 := S94.join (l' := [.row 3 1 v101 n102 cs104, .box b64 105 [Value.int .i64 s71.2.1, Value.int .i64 s71.2.2.1, Value.int .i64 s71.2.2.2.1, v72, v43], .row 99 1 v43 n44 cs45]) r100 rfl
          refine ⟨(SP.on ((S99.box_now (i := 1) rfl).sub (j := 4) (n := 1) (c := [v43]) rfl) (SP.nil (Sl.of_inc r100.run.inc S99.sl))), ?_⟩
          refine FB.all1 (i := 8) (by kernel_rfl) ?_
          ·
            obtain ⟨H107, S108, i109, h110, nv111⟩ := S99.sealRowU (i := 0) (l' := [.box b64 105 [Value.int .i64 s71.2.1, Value.int .i64 s71.2.2.1, Value.int .i64 s71.2.2.2.1, v72, v43], .row 99 1 v43 n44 cs45]) rfl els106 (by decide) rfl
            obtain ⟨v112, w113, run114, S115⟩ := S108.buildSlice (P := Tryz.prog) te103 [v101] (parts := #[(0, v101)]) (cells := [v101]) rfl (szs_cons (cells_size h110.cells) szs_nil) (fc_cons h110.cells fc_nil) (ones_cons h110.one ones_nil) (Nat.le_of_ble_eq_true rfl)
            have els116 : Els (up wa.heap.size H107) (eL eI 1) 1 [v101] [r95] := (Els.snoc (H := (up wa.heap.size H107)) (E := (eL eI 1)) (k := 1) (c := [v101]) (x := r95) Els.nil rfl ⟨_, rfl, h110⟩)
            have nd117 : (bl [v101]).Nodup := by exact nd_one v101
            refine FC.val (l' := (bs 13 511)) rfl (by kernel_rfl) rfl rfl rfl (E.buildSlice (B1 rfl) run114) ?_
            refine ⟨(SP.on ((S115.box_now (i := 1) rfl).sub (j := 4) (n := 1) (c := [v43]) rfl) (SP.nil (Sl.of_inc (r100.run.inc.tr i109) S115.sl))), ?_⟩
            refine FB.all1 (i := 9) (by kernel_rfl) ?_
            ·
              obtain ⟨v120, w123, n121, cs122, run124, S125, els126, ce127⟩ := S115.appendO (P := Tryz.prog) te103 (i := 2) (j := 0) rfl (els46.mono (up_mono (r100.run.inc.tr i109))) rfl els116 hz119
              have S125 : St Ha wa H107 w123 [.row 99 1 v112 1 [v101], .box b64 105 [Value.int .i64 s71.2.1, Value.int .i64 s71.2.2.1, Value.int .i64 s71.2.2.2.1, v72, v43], .row 99 1 v120 n121 cs122] := S125
              have nd128 : (bl cs122).Nodup := by rw [ce127]; exact nd_app nd47 nd117 (Els.dom (els46.mono (upI.tr r100.run.inc))) (by exact nv111)
              have S129 : St Ha wa H107 w123 [.box b64 105 [Value.int .i64 s71.2.1, Value.int .i64 s71.2.2.1, Value.int .i64 s71.2.2.2.1, v72, v43], .row 99 1 v120 n121 cs122] := S125.drop 0
              refine FC.val (l' := (bs 13 1023)) rfl (by kernel_rfl) rfl rfl rfl (E.append rfl rfl run124) ?_
              refine ⟨(SP.on ((S129.box_now (i := 0) rfl).sub (j := 4) (n := 1) (c := [v43]) rfl) (SP.nil (Sl.of_inc (r100.run.inc.tr i109) S129.sl))), ?_⟩
              refine FB.t (i := 10) (bs 13 2047) rfl (SP.on ((S129.box_now (i := 0) rfl).sub (j := 4) (n := 1) (c := [v43]) rfl) (SP.nil (Sl.of_inc (r100.run.inc.tr i109) S129.sl))) rfl (fun w' hw' => (E.nilCheck rfl)) ?_
              refine FB.t (i := 11) (bs 13 4095) rfl (SP.on ((S129.box_now (i := 0) rfl).sub (j := 4) (n := 1) (c := [v43]) rfl) (SP.nil (Sl.of_inc (r100.run.inc.tr i109) S129.sl))) rfl (fun w' hw' => (E.fieldAddr tf105_2 rfl)) ?_
              refine FB.all1 (i := 12) (by kernel_rfl) ?_
              ·
                obtain ⟨w130, run131, S132⟩ := S129.store (P := Tryz.prog) (t := 103) (i := 0) (j := 4) (cs' := [Value.int .i64 s71.2.1, Value.int .i64 s71.2.2.1, Value.int .i64 s71.2.2.2.1, v72, v120]) (l' := [.box b64 105 [Value.int .i64 s71.2.1, Value.int .i64 s71.2.2.1, Value.int .i64 s71.2.2.2.1, v72, v120], .row 99 1 v120 n121 cs122]) (v := v120) (c := [v120]) rfl Tryz.sizeOf103 (Ln.cells (S129.row_ln (i := 1) rfl)) rfl (ones_cons (Ln.one (S129.row_ln (i := 1) rfl)) ones_nil) (Nat.le_of_ble_eq_true rfl) rfl rfl
                refine FC.act (l' := (bs 13 8191)) rfl (by kernel_rfl) rfl rfl (E.store rfl rfl run131) ?_
                refine ⟨(SP.o (SP.nil (Sl.of_inc (r100.run.inc.tr i109) S132.sl))), ?_⟩
                exact FB.done (by kernel_rfl) ⟨_, _, _, _, _, S132, (r100.run.inc.tr i109), els126, (h73.mono (r100.run.inc.tr i109)), nd128, k80, k81, k82, k83, k79⟩
      ·
        rintro f144 w143 ⟨H140, v133, n134, cs135, v138, S141, i142, els136, h139, nd137, k145, k146, k147, k148, k149⟩
        refine FW.region ?_
        refine FL.v (E.add k149 rfl) ?_
        refine FL.v (E.move (v := Value.int .i64 (wr (((i71 : Nat) : Int) + 1))) rfl) ?_
        refine FL.nil ?_
        obtain rfl := Option.some.inj hp
        exact ⟨rfl, ⟨_, _, _, _, _, S141, (i76.tr i142), els136, h139, nd137, (nat_succ rfl (lt_of_get hx71) (p1_1.mono ((((i27.tr i41).tr i51).tr i76).tr i142)).le), k145, k146, k147, k148⟩⟩
    ·
      clear hp hq
      rintro s71 f171 w170 ⟨H167, v43, n44, cs45, v72, S168, i169, els46, h73, nd47, k172, k173, k174, k175, k176⟩
      refine FW.seq (FW.region ?_)
      refine FL.v (E.lss k172 k176) ?_
      refine FL.nil (FW.seq ?_)
      refine FW.condF rfl dlt_len ?_
      refine FW.exit ?_
      exact ⟨nofun, rfl, ⟨_, _, _, _, _, S168, i169, els46, h73, nd47, k174⟩⟩
    ·
      clear hq
      intro e f155 w154 hD
      rcases q71 with s71 | x71
      ·
        obtain ⟨rfl, hD⟩ := hD
        obtain ⟨H151, v43, n44, cs45, v72, S152, i153, els46, h73, nd47, k156⟩ := hD
        replace hp := el_go hp
        refine FW.seq (FW.region ?_)
        refine FL.v (E.move k156) ?_
        refine FL.v (E.assign (v := Value.pointer (some (⟨b64, 0, none⟩ : Addr))) rfl) ?_
        refine FL.v (E.assign (v := Value.bool true) rfl) ?_
        refine FL.nil ?_
        refine FW.ret ?_
        obtain ⟨H157, S158, i159, ns162, nv161⟩ := S152.sealRowN (i := 1) (l' := [.box b64 105 [Value.int .i64 s71.2.1, Value.int .i64 s71.2.2.1, Value.int .i64 s71.2.2.2.1, v72, v43]]) rfl els46 nd47 (by decide) rfl
        have h160 := ns162.rsl
        obtain ⟨H163, S164, i165, at166⟩ := S158.sealBox (i := 0) (l' := []) rfl rfl
        obtain rfl := Option.some.inj hp
        exact ⟨.inr rfl, res2 rfl rfl rfl ⟨_, _, rfl, S164.run, ⟨_, rfl, _, _, (h73.mono (i159.tr i165)), ⟨_, (ns162.mono (up_mono i165))⟩, at166⟩⟩⟩
      · exact x71.elim

theorem w_slices_Equal_int_int {Ha : GH} {wa : World} (hs : Sl Ha wa) (v0 : Value) (a0 : List Int) (p0 : RSl Ha eI 1 v0 a0) (v1 : Value) (a1 : List Int) (p1 : RSl Ha eI 1 v1 a1) {r : Bool} (hp : (PF.slices_Equal_int_int a0 a1) = some r) :
  Calls Tryz.prog 230 #[v0, v1] wa (Sc Ha wa (Value.bool r)) := by
 unfold PF.slices_Equal_int_int at hp
 have S0 := St.init hs
 refine calls_go (N := 26) (args := [v0, v1]) Tryz.func230 rfl rfl rfl ?_
 refine FW.seq (FW.region ?_)
 refine FL.v (E.assign (v := Value.bool false) rfl) ?_
 refine FL.nil (FW.seq (FW.seq (FW.region ?_)))
 refine FL.v (E.move (v := v0) rfl) ?_
 refine FL.v (E.lenP te73 rfl p0) ?_
 refine FL.v (E.move (v := v1) rfl) ?_
 refine FL.v (E.lenP te73 rfl p1) ?_
 refine FL.v (E.neq rfl rfl) ?_
 refine FL.nil ?_
 rcases ifB hp with ⟨c21, hp⟩ | ⟨c21, hp⟩
 ·
  refine FW.condT rfl c21 ?_
  refine FW.seq (FW.region ?_)
  refine FL.v (E.assign (v := Value.bool false) rfl) ?_
  refine FL.nil ?_
  refine FW.ret ?_
  obtain rfl := Option.some.inj hp
  exact ⟨.inr rfl, res1 rfl rfl ⟨rfl, S0.back⟩⟩
 ·
  refine FW.condF rfl c21 ?_
  refine FW.skip (FW.seq (FW.seq (FW.region ?_)))
  refine FL.v (E.move (v := v0) rfl) ?_
  refine FL.v (E.lenP te73 rfl p0) ?_
  refine FL.v (E.move (v := Value.int .i64 0) rfl) ?_
  refine FL.nil ?_
  obtain ⟨q23, hq, hp⟩ := bndR hp
  refine FW.block ?_
  refine FW.mono (FW.forL (S := Unit) (X := Bool) (fun (i23 : Nat) (s23 : Unit) f w => ∃ H : GH, St Ha wa H w [] ∧ Inc Ha H ∧ f 13 = Value.int .i64 ((i23 : Nat) : Int) ∧ f 0 = v0 ∧ f 1 = v1 ∧ f 12 = Value.int .i64 (len a0)) (fun q e f w => match q with | .go s23 => e = Exit.exit 0 ∧ (∃ H : GH, St Ha wa H w [] ∧ Inc Ha H) | .rt x => ((e = Exit.ret) ∧ (fun e f w => (e = Exit.normal ∨ e = Exit.ret) ∧ ∀ a, Fr (δ := []) 26 a f → ∃ v, (results Tryz.f230 a.tmps).run Tryz.prog w = .ok v w ∧ (Sc Ha wa (Value.bool x)) (.returned v) w) e f w)) hq ⟨_, S0, (Inc.rfl _), rfl, rfl, rfl, rfl⟩ ?_ ?_) ?_
  ·
   clear hp hq
   rintro i23 y22 s23 f56 w55 ⟨H52, S53, i54, k57, k58, k59, k60⟩ hx23 o80 hp
   refine FW.seq (FW.region ?_)
   refine FL.v (E.lssT k57 k60 (lss_len hx23)) ?_
   refine FL.nil (FW.seq ?_)
   refine FW.condT rfl rfl ?_
   refine FW.skip (FW.seq (FW.block (FW.seq (FW.region ?_))))
   refine FL.v (E.move k57) ?_
   refine FL.v (E.assign (v := Value.int .i64 ((i23 : Nat) : Int)) rfl) ?_
   refine FL.nil (FW.seq ?_)
   refine FW.draw (fun w' => Run w55.heap.size H52 w55 H52 w') (by kernel_rfl) (by kernel_rfl) (run_drew S53.sl) ?_
   refine FD.val rfl rfl rfl (fun w' hw' => (E.move k58)) ?_
   refine FD.val rfl rfl rfl (fun w' hw' => (E.move (v := Value.int .i64 ((i23 : Nat) : Int)) rfl)) ?_
   obtain ⟨p62, cs63, pt64, l65, at66, rel67⟩ := p0.at (ix_nat hx23)
   obtain rfl := eI_open rel67
   refine FD.val rfl rfl rfl (fun w' hw' => (E.indexAddr te73 rfl rfl pt64)) ?_
   refine FD.val rfl rfl rfl (fun w' hw' => (E.load rfl (run_load0 Tryz.isAgg3 ((at66.mono i54).now (S53.call hw').sl) rfl))) ?_
   refine FD.val rfl rfl rfl (fun w' hw' => (E.move k59)) ?_
   refine FD.val rfl rfl rfl (fun w' hw' => (E.move (v := Value.int .i64 ((i23 : Nat) : Int)) rfl)) ?_
   obtain ⟨x74, hx75, hp⟩ := bnd hp
   obtain ⟨p68, cs69, pt70, l71, at72, rel73⟩ := p1.at hx75
   obtain rfl := eI_open rel73
   refine FD.val rfl rfl rfl (fun w' hw' => (E.indexAddr te73 rfl rfl pt70)) ?_
   refine FD.val rfl rfl rfl (fun w' hw' => (E.load rfl (run_load0 Tryz.isAgg3 ((at72.mono i54).now (S53.call hw').sl) rfl))) ?_
   refine FD.val rfl rfl rfl (fun w' hw' => (E.neq rfl rfl)) ?_
   refine FD.nil ?_
   intro w76 r78
   have S77 := S53.call r78
   rcases ifB hp with ⟨c79, hp⟩ | ⟨c79, hp⟩
   ·
    refine FW.condT rfl c79 ?_
    refine FW.seq (FW.region ?_)
    refine FL.v (E.assign (v := Value.bool false) rfl) ?_
    refine FL.nil ?_
    refine FW.ret ?_
    obtain rfl := Option.some.inj hp
    exact ⟨nofun, rfl, ⟨.inr rfl, res1 rfl rfl ⟨rfl, S77.back⟩⟩⟩
   ·
    refine FW.condF rfl c79 ?_
    refine FW.skip (FW.region ?_)
    refine FL.v (E.add k57 rfl) ?_
    refine FL.v (E.move (v := Value.int .i64 (wr (((i23 : Nat) : Int) + 1))) rfl) ?_
    refine FL.nil ?_
    obtain rfl := Option.some.inj hp
    exact ⟨rfl, ⟨_, S77, i54, (nat_succ rfl (lt_of_get hx23) (p0.mono i54).le), k58, k59, k60⟩⟩
  ·
   clear hp hq
   rintro s23 f90 w89 ⟨H86, S87, i88, k91, k92, k93, k94⟩
   refine FW.seq (FW.region ?_)
   refine FL.v (E.lss k91 k94) ?_
   refine FL.nil (FW.seq ?_)
   refine FW.condF rfl dlt_len ?_
   refine FW.exit ?_
   exact ⟨nofun, rfl, ⟨_, S87, i88⟩⟩
  ·
   clear hq
   intro e f85 w84 hD
   rcases q23 with s23 | x23
   ·
    obtain ⟨rfl, hD⟩ := hD
    obtain ⟨H81, S82, i83⟩ := hD
    replace hp := el_go hp
    refine FW.seq (FW.region ?_)
    refine FL.v (E.assign (v := Value.bool true) rfl) ?_
    refine FL.nil ?_
    refine FW.ret ?_
    obtain rfl := Option.some.inj hp
    exact ⟨.inr rfl, res1 rfl rfl ⟨rfl, S82.back⟩⟩
   ·
    obtain ⟨he, hL⟩ := hD
    replace hp := el_rt hp
    obtain rfl := Option.some.inj hp
    subst he
    exact hL

@[reducible] def p_impl_earlier (Ha : GH) (wa : World) (r : ((List Int) × Bool)) : Ending → World → Prop :=
 fun e w' => ∃ H' : GH, ∃ v0 : Value, e = .returned (Value.tuple #[v0, Value.bool r.2]) ∧ Run wa.heap.size Ha wa H' w' ∧ RSl H' eI 1 v0 r.1
theorem w_impl_earlier {Ha : GH} {wa : World} (hs : Sl Ha wa) (a0 : Cnf) (v0_1 : Value) (p0_1 : RSl Ha (eL eI 1) 1 v0_1 a0.clauses) (v1 : Value) (a1 : List ResStep) (p1 : RSl Ha eResStep 4 v1 a1) (a2 : Int) (a3 : Int) {r : ((List Int) × Bool)} (hp : (PF.impl_earlier a0 a1 a2 a3) = some r) :
  Calls Tryz.prog 231 #[Value.agg #[Value.int .i64 a0.vars, v0_1], v1, Value.int .i64 a2, Value.int .i64 a3] wa (p_impl_earlier Ha wa r) := by
 unfold PF.impl_earlier at hp
 have S0 := St.init hs
 refine calls_go (N := 31) (args := [Value.agg #[Value.int .i64 a0.vars, v0_1], v1, Value.int .i64 a2, Value.int .i64 a3]) Tryz.func231 rfl rfl rfl ?_
 refine FW.seq (FW.region ?_)
 obtain ⟨b21, w22, run23, S24⟩ := S0.box (P := Tryz.prog) 32 [Value.int .i64 a0.vars, v0_1] (v := Value.agg #[Value.int .i64 a0.vars, v0_1]) rfl (ones_cons rfl (ones_cons p0_1.one ones_nil))
 refine FL.v (E.box rfl run23) ?_
 obtain ⟨H25, S26, i27, at28⟩ := S24.sealBox (i := 0) (l' := []) rfl rfl
 refine FL.v (E.assign (v := Value.slice none 0 0) rfl) ?_
 refine FL.v (E.assign (v := Value.bool false) rfl) ?_
 refine FL.nil (FW.seq (FW.seq ?_))
 refine FW.draw (fun w' => Run w22.heap.size H25 w22 H25 w') (by kernel_rfl) (by kernel_rfl) (run_drew S26.sl) ?_
 refine FD.val rfl rfl rfl (fun w' hw' => (E.move (v := Value.int .i64 a3) rfl)) ?_
 refine FD.val rfl rfl rfl (fun w' hw' => (E.move (v := Value.int .i64 a2) rfl)) ?_
 refine FD.val rfl rfl rfl (fun w' hw' => (E.sub rfl rfl)) ?_
 refine FD.call rfl rfl rfl (fun w' hw' => (E.call Tryz.call162 (A3 rfl rfl rfl))) (fun w' hw' => Calls.cls hw' (w_impl_within (S26.call hw').sl a3 0 (wr (a2 - 1)))) ?_
 refine FD.val rfl rfl rfl (fun w' hw' => (E.not rfl)) ?_
 refine FD.val rfl rfl rfl (fun w' hw' => (E.move (v := Value.bool (!(PF.impl_within a3 0 (wr (a2 - 1))))) rfl)) ?_
 obtain ⟨t42, hqt42, hp⟩ := bnd hp
 refine FD.cut 10 (fun f => f 1 = v1 ∧ f 3 = Value.int .i64 a3 ∧ f 25 = Value.bool t42) ?_ ?_
 ·
  clear hp; have hp := hqt42; clear hqt42
  rcases ifB hp with ⟨c48, hp⟩ | ⟨c48, hp⟩
  ·
   refine FD.skip (wF_no rfl rfl rfl c48) rfl ?_
   refine FD.skip (wF_no rfl rfl rfl c48) rfl ?_
   refine FD.skip (wF_no rfl rfl rfl c48) rfl ?_
   refine FD.skip (wF_no rfl rfl rfl c48) rfl ?_
   refine FD.skip (wF_no rfl rfl rfl c48) rfl ?_
   refine FD.skip (wF_no rfl rfl rfl c48) rfl ?_
   refine FD.skip (wF_no rfl rfl rfl c48) rfl ?_
   refine FD.skip (wF_no rfl rfl rfl c48) rfl ?_
   refine FD.skip (wF_no rfl rfl rfl c48) rfl ?_
   obtain rfl := Option.some.inj hp
   refine FD.val rfl rfl rfl (fun w' hw' => (E.pickT rfl c48 rfl)) ?_
   exact FD.nil ⟨rfl, rfl, rfl⟩
  ·
   refine FD.val (wF_yes rfl rfl rfl c48) rfl rfl (fun w' hw' => (E.fieldAddr tf32_0 rfl)) ?_
   refine FD.val (wF_yes rfl rfl rfl c48) rfl rfl (fun w' hw' => (E.load rfl (run_load1 Tryz.isAgg3 (at28.now (S26.call hw').sl) rfl))) ?_
   refine FD.val (wF_yes rfl rfl rfl c48) rfl rfl (fun w' hw' => (E.move (v := v1) rfl)) ?_
   refine FD.val (wF_yes rfl rfl rfl c48) rfl rfl (fun w' hw' => (E.move (v := Value.int .i64 a3) rfl)) ?_
   obtain ⟨x55, hx56, hp⟩ := bnd hp
   obtain ⟨p49, cs50, pt51, l52, at53, rel54⟩ := p1.at hx56
   obtain ⟨v57, rfl, h58⟩ := eResStep_open rel54
   refine FD.val (wF_yes rfl rfl rfl c48) rfl rfl (fun w' hw' => (E.indexAddr te34 rfl rfl pt51)) ?_
   refine FD.val (wF_yes rfl rfl rfl c48) rfl rfl (fun w' hw' => (E.fieldAddr tf88_0 rfl)) ?_
   refine FD.val (wF_yes rfl rfl rfl c48) rfl rfl (fun w' hw' => (E.load rfl (run_load1 Tryz.isAgg73 ((at53.mono i27).now (S26.call hw').sl) rfl))) ?_
   obtain ⟨r59, hr60, hp⟩ := bnd hp
   refine FD.call (wF_yes rfl rfl rfl c48) rfl rfl (fun w' hw' => (E.call Tryz.call180 (A2 rfl rfl))) (fun w' hw' => Calls.cls hw' (w_impl_IsClause (S26.call hw').sl a0.vars v57 x55.clause (h58.mono i27) hr60)) ?_
   refine FD.val (wF_yes rfl rfl rfl c48) rfl rfl (fun w' hw' => (E.not rfl)) ?_
   obtain rfl := Option.some.inj hp
   refine FD.val rfl rfl rfl (fun w' hw' => (E.pickF rfl c48 rfl)) ?_
   exact FD.nil ⟨rfl, rfl, rfl⟩
 rintro f47 ⟨k61, k62, k63⟩
 refine FD.nil ?_
 intro w64 r66
 have S65 := S26.call r66
 rcases ifB hp with ⟨c67, hp⟩ | ⟨c67, hp⟩
 ·
  refine FW.condT k63 c67 ?_
  refine FW.seq (FW.region ?_)
  refine FL.v (E.assign (v := Value.slice none 0 0) rfl) ?_
  refine FL.v (E.assign (v := Value.bool false) rfl) ?_
  refine FL.nil ?_
  refine FW.ret ?_
  obtain rfl := Option.some.inj hp
  exact ⟨.inr rfl, res2 rfl rfl rfl ⟨_, _, rfl, S65.run, (RSl.nil _ _ _)⟩⟩
 ·
  refine FW.condF k63 c67 ?_
  refine FW.skip (FW.seq (FW.region ?_))
  refine FL.v (E.move k61) ?_
  refine FL.v (E.move k62) ?_
  obtain ⟨x74, hx75, hp⟩ := bnd hp
  obtain ⟨p68, cs69, pt70, l71, at72, rel73⟩ := p1.at hx75
  obtain ⟨v76, rfl, h77⟩ := eResStep_open rel73
  refine FL.v (E.indexAddr te34 rfl rfl pt70) ?_
  refine FL.v (E.fieldAddr tf88_0 rfl) ?_
  refine FL.v (E.load rfl (run_load1 Tryz.isAgg73 ((at72.mono i27).now S65.sl) rfl)) ?_
  refine FL.v (E.assign (v := v76) rfl) ?_
  refine FL.v (E.assign (v := Value.bool true) rfl) ?_
  refine FL.nil ?_
  refine FW.ret ?_
  obtain rfl := Option.some.inj hp
  exact ⟨.inr rfl, res2 rfl rfl rfl ⟨_, _, rfl, S65.run, (h77.mono i27)⟩⟩

theorem w_slices_IndexFunc_int_int {Ha : GH} {wa : World} (hs : Sl Ha wa) (v0 : Value) (a0 : List Int) (p0 : RSl Ha eI 1 v0 a0) (v1 : Value) (a1 : Int → Option Bool) (p1 : Fn_I_to_B Tryz.prog Ha v1 a1) {r : Int} (hp : (PF.slices_IndexFunc_int_int a0 a1) = some r) :
  Calls Tryz.prog 193 #[v0, v1] wa (Sc Ha wa (Value.int .i64 r)) := by
 unfold PF.slices_IndexFunc_int_int at hp
 have S0 := St.init hs
 refine calls_go (N := 19) (args := [v0, v1]) Tryz.func193 rfl rfl rfl ?_
 refine FW.seq (FW.region ?_)
 refine FL.v (E.assign (v := Value.int .i64 0) rfl) ?_
 refine FL.nil (FW.seq (FW.seq (FW.region ?_)))
 refine FL.v (E.move (v := v0) rfl) ?_
 refine FL.v (E.lenP te73 rfl p0) ?_
 refine FL.v (E.move (v := Value.int .i64 0) rfl) ?_
 refine FL.nil ?_
 obtain ⟨q22, hq, hp⟩ := bndR hp
 refine FW.block ?_
 refine FW.mono (FW.forL (S := Unit) (X := Int) (fun (i22 : Nat) (s22 : Unit) f w => ∃ H : GH, St Ha wa H w [] ∧ Inc Ha H ∧ f 8 = Value.int .i64 ((i22 : Nat) : Int) ∧ f 0 = v0 ∧ f 1 = v1 ∧ f 7 = Value.int .i64 (len a0)) (fun q e f w => match q with | .go s22 => e = Exit.exit 0 ∧ (∃ H : GH, St Ha wa H w [] ∧ Inc Ha H) | .rt x => ((e = Exit.ret) ∧ (fun e f w => (e = Exit.normal ∨ e = Exit.ret) ∧ ∀ a, Fr (δ := []) 19 a f → ∃ v, (results Tryz.f193 a.tmps).run Tryz.prog w = .ok v w ∧ (Sc Ha wa (Value.int .i64 x)) (.returned v) w) e f w)) hq ⟨_, S0, (Inc.rfl _), rfl, rfl, rfl, rfl⟩ ?_ ?_) ?_
 ·
  clear hp hq
  rintro i22 y21 s22 f53 w52 ⟨H49, S50, i51, k54, k55, k56, k57⟩ hx22 o75 hp
  refine FW.seq (FW.region ?_)
  refine FL.v (E.lssT k54 k57 (lss_len hx22)) ?_
  refine FL.nil (FW.seq ?_)
  refine FW.condT rfl rfl ?_
  refine FW.skip (FW.seq (FW.block (FW.seq (FW.region ?_))))
  refine FL.v (E.move k54) ?_
  refine FL.v (E.assign (v := Value.int .i64 ((i22 : Nat) : Int)) rfl) ?_
  refine FL.nil (FW.seq (FW.region ?_))
  refine FL.v (E.move k56) ?_
  refine FL.v (E.move k55) ?_
  refine FL.v (E.move (v := Value.int .i64 ((i22 : Nat) : Int)) rfl) ?_
  obtain ⟨p58, cs59, pt60, l61, at62, rel63⟩ := p0.at (ix_nat hx22)
  obtain rfl := eI_open rel63
  refine FL.v (E.indexAddr te73 rfl rfl pt60) ?_
  refine FL.v (E.load rfl (run_load0 Tryz.isAgg3 ((at62.mono i51).now S50.sl) rfl)) ?_
  obtain ⟨r64, hr65, hp⟩ := bnd hp
  obtain ⟨fi69, cs70, hv71, he72, hc73⟩ := (p1.mono i51) H49 w52 (Inc.rfl _) S50.sl y21 r64 hr65
  refine FL.call rfl rfl rfl (E.callV he72 (Eq.trans rfl hv71) (appA (A1 rfl) cs70)) hc73 ?_
  rintro e w66 ⟨rfl, r67⟩
  refine ⟨_, rfl, ?_⟩
  have S68 := S50.call r67
  refine FL.nil ?_
  rcases ifB hp with ⟨c74, hp⟩ | ⟨c74, hp⟩
  ·
   refine FW.condT rfl c74 ?_
   refine FW.seq (FW.region ?_)
   refine FL.v (E.move (v := Value.int .i64 ((i22 : Nat) : Int)) rfl) ?_
   refine FL.v (E.assign (v := Value.int .i64 ((i22 : Nat) : Int)) rfl) ?_
   refine FL.nil ?_
   refine FW.ret ?_
   obtain rfl := Option.some.inj hp
   exact ⟨nofun, rfl, ⟨.inr rfl, res1 rfl rfl ⟨rfl, S68.back⟩⟩⟩
  ·
   refine FW.condF rfl c74 ?_
   refine FW.skip (FW.region ?_)
   refine FL.v (E.add k54 rfl) ?_
   refine FL.v (E.move (v := Value.int .i64 (wr (((i22 : Nat) : Int) + 1))) rfl) ?_
   refine FL.nil ?_
   obtain rfl := Option.some.inj hp
   exact ⟨rfl, ⟨_, S68, i51, (nat_succ rfl (lt_of_get hx22) (p0.mono i51).le), k55, k56, k57⟩⟩
 ·
  clear hp hq
  rintro s22 f85 w84 ⟨H81, S82, i83, k86, k87, k88, k89⟩
  refine FW.seq (FW.region ?_)
  refine FL.v (E.lss k86 k89) ?_
  refine FL.nil (FW.seq ?_)
  refine FW.condF rfl dlt_len ?_
  refine FW.exit ?_
  exact ⟨nofun, rfl, ⟨_, S82, i83⟩⟩
 ·
  clear hq
  intro e f80 w79 hD
  rcases q22 with s22 | x22
  ·
   obtain ⟨rfl, hD⟩ := hD
   obtain ⟨H76, S77, i78⟩ := hD
   replace hp := el_go hp
   refine FW.seq (FW.region ?_)
   refine FL.v (E.assign (v := Value.int .i64 (-1)) rfl) ?_
   refine FL.nil ?_
   refine FW.ret ?_
   obtain rfl := Option.some.inj hp
   exact ⟨.inr rfl, res1 rfl rfl ⟨rfl, S77.back⟩⟩
  ·
   obtain ⟨he, hL⟩ := hD
   replace hp := el_rt hp
   obtain rfl := Option.some.inj hp
   subst he
   exact hL

theorem w_slices_ContainsFunc_int_int {Ha : GH} {wa : World} (hs : Sl Ha wa) (v0 : Value) (a0 : List Int) (p0 : RSl Ha eI 1 v0 a0) (v1 : Value) (a1 : Int → Option Bool) (p1 : Fn_I_to_B Tryz.prog Ha v1 a1) {r : Bool} (hp : (PF.slices_ContainsFunc_int_int a0 a1) = some r) :
  Calls Tryz.prog 197 #[v0, v1] wa (Sc Ha wa (Value.bool r)) := by
 unfold PF.slices_ContainsFunc_int_int at hp
 have S0 := St.init hs
 refine calls_go (N := 9) (args := [v0, v1]) Tryz.func197 rfl rfl rfl ?_
 refine FW.seq (FW.region ?_)
 refine FL.v (E.assign (v := Value.bool false) rfl) ?_
 refine FL.nil (FW.seq (FW.region ?_))
 refine FL.v (E.move (v := v0) rfl) ?_
 refine FL.v (E.move (v := v1) rfl) ?_
 obtain ⟨r21, hr22, hp⟩ := bnd hp
 refine FL.call rfl rfl rfl (E.call Tryz.call193 (A2 rfl rfl)) (w_slices_IndexFunc_int_int S0.sl v0 a0 p0 v1 a1 p1 hr22) ?_
 rintro e w23 ⟨rfl, r24⟩
 refine ⟨_, rfl, ?_⟩
 have S25 := S0.call r24
 refine FL.v (E.geq rfl rfl) ?_
 refine FL.v (E.assign (v := Value.bool (decide (0 ≤ r21))) rfl) ?_
 refine FL.nil ?_
 refine FW.ret ?_
 obtain rfl := Option.some.inj hp
 exact ⟨.inr rfl, res1 rfl rfl ⟨rfl, S25.back⟩⟩

theorem w_slices_Index_int_int {Ha : GH} {wa : World} (hs : Sl Ha wa) (v0 : Value) (a0 : List Int) (p0 : RSl Ha eI 1 v0 a0) (a1 : Int) {r : Int} (hp : (PF.slices_Index_int_int a0 a1) = some r) :
  Calls Tryz.prog 194 #[v0, Value.int .i64 a1] wa (Sc Ha wa (Value.int .i64 r)) := by
 unfold PF.slices_Index_int_int at hp
 have S0 := St.init hs
 refine calls_go (N := 19) (args := [v0, Value.int .i64 a1]) Tryz.func194 rfl rfl rfl ?_
 refine FW.seq (FW.region ?_)
 refine FL.v (E.assign (v := Value.int .i64 0) rfl) ?_
 refine FL.nil (FW.seq (FW.seq (FW.region ?_)))
 refine FL.v (E.move (v := v0) rfl) ?_
 refine FL.v (E.lenP te73 rfl p0) ?_
 refine FL.v (E.move (v := Value.int .i64 0) rfl) ?_
 refine FL.nil ?_
 obtain ⟨q22, hq, hp⟩ := bndR hp
 refine FW.block ?_
 refine FW.mono (FW.forL (S := Unit) (X := Int) (fun (i22 : Nat) (s22 : Unit) f w => ∃ H : GH, St Ha wa H w [] ∧ Inc Ha H ∧ f 8 = Value.int .i64 ((i22 : Nat) : Int) ∧ f 0 = v0 ∧ f 1 = Value.int .i64 a1 ∧ f 7 = Value.int .i64 (len a0)) (fun q e f w => match q with | .go s22 => e = Exit.exit 0 ∧ (∃ H : GH, St Ha wa H w [] ∧ Inc Ha H) | .rt x => ((e = Exit.ret) ∧ (fun e f w => (e = Exit.normal ∨ e = Exit.ret) ∧ ∀ a, Fr (δ := []) 19 a f → ∃ v, (results Tryz.f194 a.tmps).run Tryz.prog w = .ok v w ∧ (Sc Ha wa (Value.int .i64 x)) (.returned v) w) e f w)) hq ⟨_, S0, (Inc.rfl _), rfl, rfl, rfl, rfl⟩ ?_ ?_) ?_
 ·
  clear hp hq
  rintro i22 y21 s22 f43 w42 ⟨H39, S40, i41, k44, k45, k46, k47⟩ hx22 o55 hp
  refine FW.seq (FW.region ?_)
  refine FL.v (E.lssT k44 k47 (lss_len hx22)) ?_
  refine FL.nil (FW.seq ?_)
  refine FW.condT rfl rfl ?_
  refine FW.skip (FW.seq (FW.block (FW.seq (FW.region ?_))))
  refine FL.v (E.move k44) ?_
  refine FL.v (E.assign (v := Value.int .i64 ((i22 : Nat) : Int)) rfl) ?_
  refine FL.nil (FW.seq (FW.region ?_))
  refine FL.v (E.move k46) ?_
  refine FL.v (E.move k45) ?_
  refine FL.v (E.move (v := Value.int .i64 ((i22 : Nat) : Int)) rfl) ?_
  obtain ⟨p48, cs49, pt50, l51, at52, rel53⟩ := p0.at (ix_nat hx22)
  obtain rfl := eI_open rel53
  refine FL.v (E.indexAddr te73 rfl rfl pt50) ?_
  refine FL.v (E.load rfl (run_load0 Tryz.isAgg3 ((at52.mono i41).now S40.sl) rfl)) ?_
  refine FL.v (E.eql rfl rfl) ?_
  refine FL.nil ?_
  rcases ifB hp with ⟨c54, hp⟩ | ⟨c54, hp⟩
  ·
   refine FW.condT rfl c54 ?_
   refine FW.seq (FW.region ?_)
   refine FL.v (E.move (v := Value.int .i64 ((i22 : Nat) : Int)) rfl) ?_
   refine FL.v (E.assign (v := Value.int .i64 ((i22 : Nat) : Int)) rfl) ?_
   refine FL.nil ?_
   refine FW.ret ?_
   obtain rfl := Option.some.inj hp
   exact ⟨nofun, rfl, ⟨.inr rfl, res1 rfl rfl ⟨rfl, S40.back⟩⟩⟩
  ·
   refine FW.condF rfl c54 ?_
   refine FW.skip (FW.region ?_)
   refine FL.v (E.add k44 rfl) ?_
   refine FL.v (E.move (v := Value.int .i64 (wr (((i22 : Nat) : Int) + 1))) rfl) ?_
   refine FL.nil ?_
   obtain rfl := Option.some.inj hp
   exact ⟨rfl, ⟨_, S40, i41, (nat_succ rfl (lt_of_get hx22) (p0.mono i41).le), k45, k46, k47⟩⟩
 ·
  clear hp hq
  rintro s22 f65 w64 ⟨H61, S62, i63, k66, k67, k68, k69⟩
  refine FW.seq (FW.region ?_)
  refine FL.v (E.lss k66 k69) ?_
  refine FL.nil (FW.seq ?_)
  refine FW.condF rfl dlt_len ?_
  refine FW.exit ?_
  exact ⟨nofun, rfl, ⟨_, S62, i63⟩⟩
 ·
  clear hq
  intro e f60 w59 hD
  rcases q22 with s22 | x22
  ·
   obtain ⟨rfl, hD⟩ := hD
   obtain ⟨H56, S57, i58⟩ := hD
   replace hp := el_go hp
   refine FW.seq (FW.region ?_)
   refine FL.v (E.assign (v := Value.int .i64 (-1)) rfl) ?_
   refine FL.nil ?_
   refine FW.ret ?_
   obtain rfl := Option.some.inj hp
   exact ⟨.inr rfl, res1 rfl rfl ⟨rfl, S57.back⟩⟩
  ·
   obtain ⟨he, hL⟩ := hD
   replace hp := el_rt hp
   obtain rfl := Option.some.inj hp
   subst he
   exact hL

theorem w_slices_Contains_int_int {Ha : GH} {wa : World} (hs : Sl Ha wa) (v0 : Value) (a0 : List Int) (p0 : RSl Ha eI 1 v0 a0) (a1 : Int) {r : Bool} (hp : (PF.slices_Contains_int_int a0 a1) = some r) :
  Calls Tryz.prog 146 #[v0, Value.int .i64 a1] wa (Sc Ha wa (Value.bool r)) := by
 unfold PF.slices_Contains_int_int at hp
 have S0 := St.init hs
 refine calls_go (N := 9) (args := [v0, Value.int .i64 a1]) Tryz.func146 rfl rfl rfl ?_
 refine FW.seq (FW.region ?_)
 refine FL.v (E.assign (v := Value.bool false) rfl) ?_
 refine FL.nil (FW.seq (FW.region ?_))
 refine FL.v (E.move (v := v0) rfl) ?_
 refine FL.v (E.move (v := Value.int .i64 a1) rfl) ?_
 obtain ⟨r21, hr22, hp⟩ := bnd hp
 refine FL.call rfl rfl rfl (E.call Tryz.call194 (A2 rfl rfl)) (w_slices_Index_int_int S0.sl v0 a0 p0 a1 hr22) ?_
 rintro e w23 ⟨rfl, r24⟩
 refine ⟨_, rfl, ?_⟩
 have S25 := S0.call r24
 refine FL.v (E.geq rfl rfl) ?_
 refine FL.v (E.assign (v := Value.bool (decide (0 ≤ r21))) rfl) ?_
 refine FL.nil ?_
 refine FW.ret ?_
 obtain rfl := Option.some.inj hp
 exact ⟨.inr rfl, res1 rfl rfl ⟨rfl, S25.back⟩⟩

theorem w_impl_part_1 {Ha : GH} {wa : World} (hs : Sl Ha wa) (a0 : Int) (q0 : Addr) (b0 : List Int) (u0_0 : Value) (g0_0 : RSl Ha eI 1 u0_0 b0) (c0 : CAt Ha q0 [u0_0]) {r : Bool} (hp : (PF.impl_part_1 a0 b0) = some r) :
  Calls Tryz.prog 256 #[Value.int .i64 a0, Value.pointer (some q0)] wa (Sc Ha wa (Value.bool r)) := by
 unfold PF.impl_part_1 at hp
 have S0 := St.init hs
 refine calls_go (N := 8) (args := [Value.int .i64 a0, Value.pointer (some q0)]) Tryz.func256 rfl rfl rfl ?_
 refine FW.seq (FW.region ?_)
 refine FL.v (E.assign (v := Value.bool false) rfl) ?_
 refine FL.nil (FW.seq (FW.region ?_))
 refine FL.v (E.load rfl (run_load0 Tryz.isAgg73 (c0.now S0.sl) rfl)) ?_
 refine FL.v (E.move (v := Value.int .i64 a0) rfl) ?_
 obtain ⟨r21, hr22, hp⟩ := bnd hp
 refine FL.call rfl rfl rfl (E.call Tryz.call146 (A2 rfl rfl)) (w_slices_Contains_int_int S0.sl u0_0 b0 g0_0 a0 hr22) ?_
 rintro e w23 ⟨rfl, r24⟩
 refine ⟨_, rfl, ?_⟩
 have S25 := S0.call r24
 refine FL.v (E.not rfl) ?_
 refine FL.v (E.assign (v := Value.bool (!r21)) rfl) ?_
 refine FL.nil ?_
 refine FW.ret ?_
 obtain rfl := Option.some.inj hp
 exact ⟨.inr rfl, res1 rfl rfl ⟨rfl, S25.back⟩⟩

theorem w_impl_part {Ha : GH} {wa : World} (hs : Sl Ha wa) (v0 : Value) (a0 : List Int) (p0 : RSl Ha eI 1 v0 a0) (v1 : Value) (a1 : List Int) (p1 : RSl Ha eI 1 v1 a1) {r : Bool} (hp : (PF.impl_part a0 a1) = some r) :
  Calls Tryz.prog 232 #[v0, v1] wa (Sc Ha wa (Value.bool r)) := by
 unfold PF.impl_part at hp
 have S0 := St.init hs
 refine calls_go (N := 9) (args := [v0, v1]) Tryz.func232 rfl rfl rfl ?_
 refine FW.seq (FW.region ?_)
 obtain ⟨b21, w22, run23, S24⟩ := S0.box (P := Tryz.prog) 73 [v1] (v := v1) p1.cells (ones_cons p1.one ones_nil)
 refine FL.v (E.box rfl run23) ?_
 obtain ⟨H25, S26, i27, at28⟩ := S24.sealBox (i := 0) (l' := []) rfl rfl
 refine FL.v (E.assign (v := Value.bool false) rfl) ?_
 refine FL.nil (FW.seq (FW.region ?_))
 refine FL.v (E.move (v := v0) rfl) ?_
 refine FL.v (E.makeFunc A0 (A1 rfl)) ?_
 obtain ⟨r29, hr30, hp⟩ := bnd hp
 refine FL.call rfl rfl rfl (E.call Tryz.call197 (A2 rfl rfl)) (w_slices_ContainsFunc_int_int S26.sl v0 a0 (p0.mono i27) (Value.func (.func 256) #[] #[Value.pointer (some ⟨b21, 0, none⟩)]) (fun x0 => PF.impl_part_1 x0 a1) (fun H2 w2 hi2 hs2 x0 r hr => ⟨256, #[Value.pointer (some ⟨b21, 0, none⟩)], rfl, Tryz.call256, w_impl_part_1 hs2 x0 ⟨b21, 0, none⟩ a1 v1 ((p1.mono i27).mono hi2) (at28.mono hi2) hr⟩) hr30) ?_
 rintro e w31 ⟨rfl, r32⟩
 refine ⟨_, rfl, ?_⟩
 have S33 := S26.call r32
 refine FL.v (E.not rfl) ?_
 refine FL.v (E.assign (v := Value.bool (!r29)) rfl) ?_
 refine FL.nil ?_
 refine FW.ret ?_
 obtain rfl := Option.some.inj hp
 exact ⟨.inr rfl, res1 rfl rfl ⟨rfl, S33.back⟩⟩

theorem w_impl_isVar {Ha : GH} {wa : World} (hs : Sl Ha wa) (a0 : Int) (a1 : Int) :
  Calls Tryz.prog 233 #[Value.int .i64 a0, Value.int .i64 a1] wa (Sc Ha wa (Value.bool (PF.impl_isVar a0 a1))) := by
 obtain ⟨r, hp⟩ : ∃ r, (PF.impl_isVar a0 a1) = r := ⟨_, rfl⟩
 rw [hp]
 unfold PF.impl_isVar at hp
 have S0 := St.init hs
 refine calls_go (N := 8) (args := [Value.int .i64 a0, Value.int .i64 a1]) Tryz.func233 rfl rfl rfl ?_
 refine FW.seq (FW.region ?_)
 refine FL.v (E.assign (v := Value.bool false) rfl) ?_
 refine FL.nil (FW.seq (FW.region ?_))
 refine FL.v (E.move (v := Value.int .i64 a1) rfl) ?_
 refine FL.v (E.move (v := Value.int .i64 a0) rfl) ?_
 refine FL.call rfl rfl rfl (E.call Tryz.call162 (A3 rfl rfl rfl)) (w_impl_within S0.sl a1 1 a0) ?_
 rintro e w21 ⟨rfl, r22⟩
 refine ⟨_, rfl, ?_⟩
 have S23 := S0.call r22
 refine FL.v (E.assign (v := Value.bool (PF.impl_within a1 1 a0)) rfl) ?_
 refine FL.nil ?_
 refine FW.ret ?_
 obtain rfl := hp
 exact ⟨.inr rfl, res1 rfl rfl ⟨rfl, S23.back⟩⟩

@[reducible] def p_slices_Clone_int_int (Ha : GH) (wa : World) (r : (List Int)) : Ending → World → Prop :=
 fun e w' => ∃ H' : GH, ∃ v0 : Value, ∃ n0 : Nat, ∃ c0 : List Value, e = .returned (v0) ∧ St Ha wa H' w' [.row 3 1 v0 n0 c0] ∧ Els (up wa.heap.size H') eI 1 c0 r
theorem w_slices_Clone_int_int {Ha : GH} {wa : World} (hs : Sl Ha wa) (v0 : Value) (a0 : List Int) (p0 : RSl Ha eI 1 v0 a0) {r : (List Int)} (hp : (PF.slices_Clone_int_int a0) = some r) :
  Calls Tryz.prog 108 #[v0] wa (p_slices_Clone_int_int Ha wa r) := by
 unfold PF.slices_Clone_int_int at hp
 have S0 := St.init hs
 refine calls_go (N := 8) (args := [v0]) Tryz.func108 rfl rfl rfl ?_
 refine FW.seq (FW.region ?_)
 refine FL.v (E.assign (v := Value.slice none 0 0) rfl) ?_
 refine FL.nil (FW.seq (FW.seq (FW.region ?_)))
 refine FL.v (E.move (v := v0) rfl) ?_
 obtain ⟨nb21, run22, hn23⟩ := RSl.nilTest te73 p0
 refine FL.v (run22 _ _ _ _ _ _ _ _ _ _ _ _ rfl rfl) ?_
 refine FL.nil ?_
 rcases bcase nb21 with c24 | c24
 ·
  refine FW.condT (b := nb21) rfl c24 ?_
  rw [hn23 c24, app_nil2] at hp
  refine FW.seq (FW.region ?_)
  refine FL.v (E.assign (v := Value.slice none 0 0) rfl) ?_
  refine FL.nil ?_
  refine FW.ret ?_
  obtain rfl := Option.some.inj hp
  exact ⟨.inr rfl, res1 rfl rfl ⟨_, _, _, _, rfl, (S0.nil 3 1), Els.nil⟩⟩
 ·
  refine FW.condF (b := nb21) rfl c24 ?_
  refine FW.skip (FW.seq (FW.region ?_))
  obtain ⟨v25, w26, run27, S28⟩ := S0.buildSlice (P := Tryz.prog) te73 [] (parts := #[]) (cells := []) rfl szs_nil fc_nil ones_nil (Nat.le_of_ble_eq_true rfl)
  have els29 : Els (up wa.heap.size Ha) eI 1 [] [] := Els.nil
  refine FL.v (E.buildSlice (B0) run27) ?_
  refine FL.v (E.move (v := v0) rfl) ?_
  obtain ⟨xs30, hz31, hp⟩ := bnd hp
  obtain ⟨v32, w35, n33, cs34, run36, S37, els38⟩ := S28.appendP (P := Tryz.prog) (Inc.rfl _) te73 (i := 0) rfl (els29.mono upI) p0 hz31
  have S37 : St Ha wa Ha w35 [.row 3 1 v32 n33 cs34] := S37
  have els38 : Els (up wa.heap.size Ha) eI 1 cs34 xs30 := els38.any (fun _ _ _ _ h => h)
  refine FL.v (E.append rfl rfl run36) ?_
  refine FL.v (E.assign (v := v32) rfl) ?_
  refine FL.nil ?_
  refine FW.ret ?_
  obtain rfl := Option.some.inj hp
  exact ⟨.inr rfl, res1 rfl rfl ⟨_, _, _, _, rfl, S37, els38⟩⟩

@[reducible] def p_slices_DeleteFunc_int_int (H0 : GH) (w0 : World) (Ha : GH) (L : List MO) (r : (List Int)) : Ending → World → Prop :=
  fun e w' => ∃ H' : GH, ∃ v0r : Value, ∃ n0r : Nat, ∃ c0r : List Value, e = .returned (v0r) ∧ (St H0 w0 H' w' (.row 3 1 v0r n0r c0r :: L) ∧ Inc Ha H') ∧ Els (up w0.heap.size H') eI 1 c0r r
theorem w_slices_DeleteFunc_int_int {H0 Ha : GH} {w0 wa : World} {L : List MO} {v0 : Value} {n0 : Nat} {k0 : List Value} (S0 : St H0 w0 Ha wa (.row 3 1 v0 n0 k0 :: L)) (a0 : List Int) (p0 : Els (up w0.heap.size Ha) eI 1 k0 a0) (v1 : Value) (a1 : Int → Option Bool) (p1 : Fn_I_to_B Tryz.prog Ha v1 a1) {r : (List Int)} (hp : (PF.slices_DeleteFunc_int_int a0 a1) = some r) :
    Calls Tryz.prog 144 #[v0, v1] wa (p_slices_DeleteFunc_int_int H0 w0 Ha L r) := by
  unfold PF.slices_DeleteFunc_int_int at hp
  refine calls_go (N := 42) (args := [v0, v1]) Tryz.func144 rfl rfl rfl ?_
  refine FW.seq (FW.region ?_)
  refine FL.v (E.assign (v := Value.slice none 0 0) rfl) ?_
  refine FL.nil (FW.seq (FW.region ?_))
  refine FL.v (E.move (v := v0) rfl) ?_
  refine FL.v (E.move (v := v1) rfl) ?_
  obtain ⟨H21, S22, i23, h24, nv25⟩ := S0.sealRowU (i := 0) (l' := L) rfl p0 (by decide) rfl
  obtain ⟨r26, hr27, hp⟩ := bnd hp
  refine FL.call rfl rfl rfl (E.call Tryz.call193 (A2 rfl rfl)) (w_slices_IndexFunc_int_int S22.sl v0 a0 (h24.mono upI) v1 a1 (p1.mono i23) hr27) ?_
  rintro e w28 ⟨rfl, r29⟩
  refine ⟨_, rfl, ?_⟩
  have r29 := Run.lend i23 S0.sl r29
  have S30 := S0.call r29
  refine FL.v (E.assign (v := Value.int .i64 r26) rfl) ?_
  refine FL.nil (FW.seq (FW.seq (FW.region ?_)))
  refine FL.v (E.move (v := Value.int .i64 r26) rfl) ?_
  refine FL.v (E.eql rfl rfl) ?_
  refine FL.nil ?_
  rcases ifB hp with ⟨c31, hp⟩ | ⟨c31, hp⟩
  ·
    refine FW.condT rfl c31 ?_
    refine FW.seq (FW.region ?_)
    refine FL.v (E.move (v := v0) rfl) ?_
    refine FL.v (E.assign (v := v0) rfl) ?_
    refine FL.nil ?_
    refine FW.ret ?_
    obtain rfl := Option.some.inj hp
    exact ⟨.inr rfl, res1 rfl rfl ⟨_, _, _, _, rfl, ⟨S30, (Inc.rfl _)⟩, p0⟩⟩
  ·
    refine FW.condF rfl c31 ?_
    refine FW.skip (FW.seq (FW.seq (FW.region ?_)))
    refine FL.v (E.move (v := Value.int .i64 r26) rfl) ?_
    refine FL.v (E.add rfl rfl) ?_
    refine FL.v (E.assign (v := Value.int .i64 (wr (r26 + 1))) rfl) ?_
    refine FL.nil ?_
    obtain ⟨q32, hq, hp⟩ := bndR hp
    refine FW.block ?_
    refine FW.mono (FW.iter (S := ((List Int) × Int × Int)) (X := Empty) (fun (s32 : ((List Int) × Int × Int)) f w => ∃ H : GH, ∃ cs78 : List Value, St H0 w0 H w (.row 3 1 v0 n0 cs78 :: L) ∧ Inc Ha H ∧ Els (up w0.heap.size H) eI 1 cs78 s32.1 ∧ f 0 = v0 ∧ f 1 = v1 ∧ f 5 = Value.int .i64 s32.2.1 ∧ f 6 = Value.int .i64 s32.2.2) (fun (q : Rs ((List Int) × Int × Int) Empty) e f w => match q with | .go s32 => e = Exit.exit 0 ∧ (∃ H : GH, ∃ cs78 : List Value, St H0 w0 H w (.row 3 1 v0 n0 cs78 :: L) ∧ Inc Ha H ∧ Els (up w0.heap.size H) eI 1 cs78 s32.1 ∧ f 0 = v0 ∧ f 5 = Value.int .i64 s32.2.1) | .rt x => x.elim) hq ⟨_, _, S30, (Inc.rfl _), p0, rfl, rfl, rfl, rfl⟩ ?_) ?_
    ·
      clear hp hq
      rintro s32 f129 w128 ⟨H125, cs78, S126, i127, els79, k130, k131, k132, k133⟩ o170 hp
      refine FW.seq (FW.seq (FW.region ?_))
      refine FL.v (E.move k133) ?_
      refine FL.v (E.move k130) ?_
      refine FL.v (E.lenO te73 rfl S126 (i := 0) rfl els79 (by decide)) ?_
      refine FL.v (E.lss rfl rfl) ?_
      refine FL.nil ?_
      rcases ifB hp with ⟨c134, hp⟩ | ⟨c134, hp⟩
      ·
        refine FW.condT rfl c134 ?_
        refine FW.skip (FW.seq (FW.block (FW.seq (FW.region ?_))))
        refine FL.v (E.move k130) ?_
        refine FL.v (E.move k133) ?_
        obtain ⟨x141, hx142, hp⟩ := bnd hp
        obtain ⟨p135, cs136, pt137, l138, at139, rel140⟩ := S126.row_at (i := 0) rfl els79 (by decide) hx142
        obtain rfl := eI_open rel140
        refine FL.v (E.indexAddr te73 rfl rfl pt137) ?_
        refine FL.v (E.load rfl (run_load0 Tryz.isAgg3 at139 rfl)) ?_
        refine FL.v (E.assign (v := Value.int .i64 x141) rfl) ?_
        refine FL.nil (FW.seq (FW.region ?_))
        refine FL.v (E.move k131) ?_
        refine FL.v (E.move (v := Value.int .i64 x141) rfl) ?_
        obtain ⟨r143, hr144, hp⟩ := bnd hp
        obtain ⟨fi148, cs149, hv150, he151, hc152⟩ := (p1.mono i127) H125 w128 (Inc.rfl _) S126.sl x141 r143 hr144
        refine FL.call rfl rfl rfl (E.callV he151 (Eq.trans rfl hv150) (appA (A1 rfl) cs149)) hc152 ?_
        rintro e w145 ⟨rfl, r146⟩
        refine ⟨_, rfl, ?_⟩
        have S147 := S126.call r146
        refine FL.v (E.not rfl) ?_
        refine FL.nil ?_
        rcases ifB hp with ⟨c153, hp⟩ | ⟨c153, hp⟩
        ·
          refine FW.condT rfl c153 ?_
          refine FW.seq (FW.region ?_)
          refine FL.v (E.move k130) ?_
          refine FL.v (E.move k132) ?_
          refine FL.v (E.move (v := Value.int .i64 x141) rfl) ?_
          obtain ⟨x160, hx161, hp⟩ := bnd hp
          obtain ⟨p154, cs155, pt156, l157, at158, rel159⟩ := S147.row_at (i := 0) rfl els79 (by decide) hx161
          obtain rfl := eI_open rel159
          refine FL.v (E.indexAddr te73 rfl rfl pt156) ?_
          obtain ⟨xs165, hput166, hp⟩ := bnd hp
          obtain ⟨w162, cs168, run163, S164, els167, ce169⟩ := S147.putEls (P := Tryz.prog) (t := 3) (i := 0) rfl els79 hput166 pt156 Tryz.sizeOf3 (u := Value.int .i64 x141) (c := [Value.int .i64 x141]) rfl rfl (ones_cons rfl ones_nil) rfl
          have S164 : St H0 w0 H125 w162 (.row 3 1 v0 n0 cs168 :: L) := S164
          refine FL.act rfl rfl (E.store rfl rfl run163) ?_
          refine FL.nil (FW.region ?_)
          refine FL.v (E.move k132) ?_
          refine FL.v (E.add rfl rfl) ?_
          refine FL.v (E.assign (v := Value.int .i64 (wr (s32.2.1 + 1))) rfl) ?_
          refine FL.nil (FW.region ?_)
          refine FL.v (E.move k133) ?_
          refine FL.v (E.add rfl rfl) ?_
          refine FL.v (E.assign (v := Value.int .i64 (wr (s32.2.2 + 1))) rfl) ?_
          refine FL.nil ?_
          obtain rfl := Option.some.inj hp
          exact ⟨rfl, ⟨_, _, S164, i127, els167, k130, k131, rfl, rfl⟩⟩
        ·
          refine FW.condF rfl c153 ?_
          refine FW.skip (FW.region ?_)
          refine FL.v (E.move k133) ?_
          refine FL.v (E.add rfl rfl) ?_
          refine FL.v (E.assign (v := Value.int .i64 (wr (s32.2.2 + 1))) rfl) ?_
          refine FL.nil ?_
          obtain rfl := Option.some.inj hp
          exact ⟨rfl, ⟨_, _, S147, i127, els79, k130, k131, k132, rfl⟩⟩
      ·
        refine FW.condF rfl c134 ?_
        refine FW.exit ?_
        obtain rfl := Option.some.inj hp
        exact ⟨nofun, rfl, ⟨_, _, S126, i127, els79, k130, k132⟩⟩
    ·
      clear hq
      intro e f175 w174 hD
      rcases q32 with s32 | x32
      ·
        obtain ⟨rfl, hD⟩ := hD
        obtain ⟨H171, cs78, S172, i173, els79, k176, k177⟩ := hD
        replace hp := el_go hp
        refine FW.seq (FW.region ?_)
        refine FL.v (E.move k176) ?_
        refine FL.v (E.move k177) ?_
        obtain ⟨xs178, hc179, hp⟩ := bnd hp
        obtain ⟨v180, run181, h182⟩ := S172.tail te73 (kk := .i64) (i := 0) rfl els79 hc179
        refine FL.v (E.slice te73 rfl (congrArg some rfl) rfl rfl (run181 _)) ?_
        obtain ⟨w183, cs184, run185, S186, els187⟩ := S172.clearTail (P := Tryz.prog) te73 (i := 0) rfl els79 h182 rfl (ones_cons rfl ones_nil)
        have S186 : St H0 w0 H171 w183 (.row 3 1 v0 n0 cs184 :: L) := S186
        refine FL.val0 rfl rfl (E.clear rfl run185) ?_
        refine FL.nil (FW.seq (FW.region ?_))
        refine FL.v (E.move k176) ?_
        refine FL.v (E.move k177) ?_
        obtain ⟨xs188, hc189, hp⟩ := bnd hp
        obtain ⟨v190, n191, cs192, run193, S194, els195, nd196⟩ := S186.cutRow te73 (kk := .i64) (i := 0) rfl els187 hc189
        have S194 : St H0 w0 H171 w183 (.row 3 1 v190 n191 cs192 :: L) := S194
        refine FL.v (E.slice te73 rfl rfl (congrArg some rfl) rfl (run193 _)) ?_
        refine FL.v (E.assign (v := v190) rfl) ?_
        refine FL.nil ?_
        refine FW.ret ?_
        obtain rfl := Option.some.inj hp
        exact ⟨.inr rfl, res1 rfl rfl ⟨_, _, _, _, rfl, ⟨S194, i173⟩, els195⟩⟩
      · exact x32.elim

theorem w_impl_withoutVar_1 {Ha : GH} {wa : World} (hs : Sl Ha wa) (a0 : Int) (q0 : Addr) (b0 : Int) (c0 : CAt Ha q0 [Value.int .i64 b0]) :
  Calls Tryz.prog 260 #[Value.int .i64 a0, Value.pointer (some q0)] wa (Sc Ha wa (Value.bool (PF.impl_withoutVar_1 a0 b0))) := by
 obtain ⟨r, hp⟩ : ∃ r, (PF.impl_withoutVar_1 a0 b0) = r := ⟨_, rfl⟩
 rw [hp]
 unfold PF.impl_withoutVar_1 at hp
 have S0 := St.init hs
 refine calls_go (N := 8) (args := [Value.int .i64 a0, Value.pointer (some q0)]) Tryz.func260 rfl rfl rfl ?_
 refine FW.seq (FW.region ?_)
 refine FL.v (E.assign (v := Value.bool false) rfl) ?_
 refine FL.nil (FW.seq ?_)
 refine FW.draw (fun w' => Run wa.heap.size Ha wa Ha w') (by kernel_rfl) (by kernel_rfl) (run_drew S0.sl) ?_
 refine FD.val rfl rfl rfl (fun w' hw' => (E.move (v := Value.int .i64 a0) rfl)) ?_
 refine FD.call rfl rfl rfl (fun w' hw' => (E.call Tryz.call143 (A1 rfl))) (fun w' hw' => Calls.cls hw' (w_impl_abs (S0.call hw').sl a0)) ?_
 refine FD.val rfl rfl rfl (fun w' hw' => (E.load rfl (run_load0 Tryz.isAgg3 (c0.now (S0.call hw').sl) rfl))) ?_
 refine FD.val rfl rfl rfl (fun w' hw' => (E.eql rfl rfl)) ?_
 refine FD.val rfl rfl rfl (fun w' hw' => (E.assign (v := Value.bool ((PF.impl_abs a0) == b0)) rfl)) ?_
 refine FD.nil ?_
 intro w22 r24
 have S23 := S0.call r24
 refine FW.ret ?_
 obtain rfl := hp
 exact ⟨.inr rfl, res1 rfl rfl ⟨rfl, S23.back⟩⟩

@[reducible] def p_impl_withoutVar (Ha : GH) (wa : World) (r : (List Int)) : Ending → World → Prop :=
 fun e w' => ∃ H' : GH, ∃ v0 : Value, ∃ n0 : Nat, ∃ c0 : List Value, e = .returned (v0) ∧ St Ha wa H' w' [.row 3 1 v0 n0 c0] ∧ Els (up wa.heap.size H') eI 1 c0 r
theorem w_impl_withoutVar {Ha : GH} {wa : World} (hs : Sl Ha wa) (v0 : Value) (a0 : List Int) (p0 : RSl Ha eI 1 v0 a0) (a1 : Int) {r : (List Int)} (hp : (PF.impl_withoutVar a0 a1) = some r) :
  Calls Tryz.prog 240 #[v0, Value.int .i64 a1] wa (p_impl_withoutVar Ha wa r) := by
 unfold PF.impl_withoutVar at hp
 have S0 := St.init hs
 refine calls_go (N := 9) (args := [v0, Value.int .i64 a1]) Tryz.func240 rfl rfl rfl ?_
 refine FW.seq (FW.region ?_)
 obtain ⟨b21, w22, run23, S24⟩ := S0.box (P := Tryz.prog) 3 [Value.int .i64 a1] (v := Value.int .i64 a1) rfl (ones_cons rfl ones_nil)
 refine FL.v (E.box rfl run23) ?_
 obtain ⟨H25, S26, i27, at28⟩ := S24.sealBox (i := 0) (l' := []) rfl rfl
 refine FL.v (E.assign (v := Value.slice none 0 0) rfl) ?_
 refine FL.nil (FW.seq (FW.region ?_))
 refine FL.v (E.move (v := v0) rfl) ?_
 obtain ⟨r29, hr30, hp⟩ := bnd hp
 refine FL.call rfl rfl rfl (E.call Tryz.call108 (A1 rfl)) (w_slices_Clone_int_int S26.sl v0 a0 (p0.mono i27) hr30) ?_
 rintro e w32 ⟨H31, v35, n36, cs37, rfl, r34, els38⟩
 refine ⟨_, rfl, ?_⟩
 have els38 := els38.mono (up_le S26.size)
 have S33 := S26.join (l' := [.row 3 1 v35 n36 cs37]) r34 rfl
 refine FL.v (E.makeFunc A0 (A1 rfl)) ?_
 obtain ⟨r39, hr40, hp⟩ := bnd hp
 refine FL.call rfl rfl rfl (E.call Tryz.call144 (A2 rfl rfl)) (w_slices_DeleteFunc_int_int (L := []) S33 r29 els38 (Value.func (.func 260) #[] #[Value.pointer (some ⟨b21, 0, none⟩)]) (fun x0 => some (PF.impl_withoutVar_1 x0 a1)) (fun H2 w2 hi2 hs2 x0 r hr => ⟨260, #[Value.pointer (some ⟨b21, 0, none⟩)], rfl, Tryz.call260, by cases hr; exact w_impl_withoutVar_1 hs2 x0 ⟨b21, 0, none⟩ a1 ((at28.mono r34.run.inc).mono hi2)⟩) hr40) ?_
 rintro e w42 ⟨H41, v45, n46, cs47, rfl, ⟨S43, i44⟩, els48⟩
 refine ⟨_, rfl, ?_⟩
 have S43 : St Ha wa H41 w42 [.row 3 1 v45 n46 cs47] := S43
 refine FL.v (E.assign (v := v45) rfl) ?_
 refine FL.nil ?_
 refine FW.ret ?_
 obtain rfl := Option.some.inj hp
 exact ⟨.inr rfl, res1 rfl rfl ⟨_, _, _, _, rfl, S43, els48⟩⟩

@[reducible] def p_slices_Grow_int_int (Ha : GH) (wa : World) (r : List Int) : Ending → World → Prop :=
  fun e w' => ∃ H' : GH, ∃ v0 : Value, ∃ n0 : Nat, ∃ c0 : List Value, e = .returned (v0) ∧ St Ha wa H' w' [.row 3 1 v0 n0 c0] ∧ Els (up wa.heap.size H') eI 1 c0 r
theorem w_slices_Grow_int_int {Ha : GH} {wa : World} (hs : Sl Ha wa) (a1 : Int) {r : List Int} (hp : PF.slices_Grow_int_int a1 = some r) :
    Calls Tryz.prog 276 #[.slice none 0 0, .int .i64 a1] wa (p_slices_Grow_int_int Ha wa r) := by
  unfold PF.slices_Grow_int_int at hp
  split at hp
  · rename_i h
    cases hp
    refine (growNil (En := eI) te73 hs h.1 h.2 (fun w => Any8.slices_Grow_room (P := Tryz.prog) Tryz.grow276 none 0 0 0 w (Nat.le_refl _) (by decide) (by decide) (by decide))
      (fun n w h0 hl => ?_)).mono ?_
    · have h := Any8.slices_Grow_grow (P := Tryz.prog) Tryz.grow276 _ _ Tryz.type3 rfl (by decide) none 0 0 n [] w (Nat.le_refl _) (by omega) ?_ (by unfold lim at hl; omega) (by simp) (fun _ => rfl) (by simp)
      · refine h.mono ?_
        rintro _ _ ⟨rfl, rfl⟩
        refine ⟨by simp; rfl, ?_⟩
        simp
        rfl
      · rw [Nat.zero_add]; refine Nat.le_trans (Nat.mul_le_mul hl (show _ ≤ 4096 by decide)) (by decide)
    · rintro e w' ⟨v, n, c, rfl, h1, h2⟩
      exact ⟨_, _, _, _, rfl, h1, h2 _⟩
  · cases hp

@[reducible] def p_slices_Concat_int_int (Ha : GH) (wa : World) (r : (List Int)) : Ending → World → Prop :=
  fun e w' => ∃ H' : GH, ∃ v0 : Value, ∃ n0 : Nat, ∃ c0 : List Value, e = .returned (v0) ∧ St Ha wa H' w' [.row 3 1 v0 n0 c0] ∧ Els (up wa.heap.size H') eI 1 c0 r
theorem w_slices_Concat_int_int {Ha : GH} {wa : World} (hs : Sl Ha wa) (v0 : Value) (a0 : List (List Int)) (p0 : RSl Ha (eL eI 1) 1 v0 a0) {r : (List Int)} (hp : (PF.slices_Concat_int_int a0) = some r) :
    Calls Tryz.prog 258 #[v0] wa (p_slices_Concat_int_int Ha wa r) := by
  unfold PF.slices_Concat_int_int at hp
  have S0 := St.init hs
  refine calls_go (N := 36) (args := [v0]) Tryz.func258 rfl rfl rfl ?_
  refine FW.seq (FW.region ?_)
  refine FL.v (E.assign (v := Value.slice none 0 0) rfl) ?_
  refine FL.nil (FW.seq (FW.region ?_))
  refine FL.v (E.assign (v := Value.int .i64 0) rfl) ?_
  refine FL.nil (FW.seq (FW.seq (FW.region ?_)))
  refine FL.v (E.move (v := v0) rfl) ?_
  refine FL.v (E.lenP te22 rfl p0) ?_
  refine FL.v (E.move (v := Value.int .i64 0) rfl) ?_
  refine FL.nil ?_
  obtain ⟨q22, hq, hp⟩ := bndR hp
  refine FW.block ?_
  refine FW.mono (FW.forL (S := Int) (X := Empty) (fun (i22 : Nat) (s22 : Int) f w => ∃ H : GH, St Ha wa H w [] ∧ Inc Ha H ∧ f 11 = Value.int .i64 ((i22 : Nat) : Int) ∧ f 0 = v0 ∧ f 3 = Value.int .i64 s22 ∧ f 9 = v0 ∧ f 10 = Value.int .i64 (len a0)) (fun (q : Rs Int Empty) e f w => match q with | .go s22 => e = Exit.exit 0 ∧ (∃ H : GH, St Ha wa H w [] ∧ Inc Ha H ∧ f 0 = v0 ∧ f 3 = Value.int .i64 s22) | .rt x => x.elim) hq ⟨_, S0, (Inc.rfl _), rfl, rfl, rfl, rfl, rfl⟩ ?_ ?_) ?_
  ·
    clear hp hq
    rintro i22 y21 s22 f46 w45 ⟨H42, S43, i44, k47, k48, k49, k50, k51⟩ hx22 o61 hp
    refine FW.seq (FW.region ?_)
    refine FL.v (E.lssT k47 k51 (lss_len hx22)) ?_
    refine FL.nil (FW.seq ?_)
    refine FW.condT rfl rfl ?_
    refine FW.skip (FW.seq (FW.block (FW.seq (FW.region ?_))))
    obtain ⟨p52, cs53, pt54, l55, at56, rel57⟩ := p0.at (ix_nat hx22)
    obtain ⟨v58, rfl, h59⟩ := eL_open rel57
    refine FL.v (E.indexAddr te22 k50 k47 pt54) ?_
    refine FL.v (E.load rfl (run_load0 Tryz.isAgg73 ((at56.mono i44).now S43.sl) rfl)) ?_
    refine FL.v (E.assign (v := v58) rfl) ?_
    refine FL.nil (FW.seq (FW.region ?_))
    refine FL.v (E.move k49) ?_
    refine FL.v (E.move (v := v58) rfl) ?_
    refine FL.v (E.lenP te73 rfl h59) ?_
    refine FL.v (E.add rfl rfl) ?_
    refine FL.v (E.assign (v := Value.int .i64 (wr (s22 + (len y21)))) rfl) ?_
    refine FL.nil (FW.seq (FW.region ?_))
    refine FL.v (E.move (v := Value.int .i64 (wr (s22 + (len y21)))) rfl) ?_
    refine FL.v (E.lss rfl rfl) ?_
    refine FL.nil ?_
    rcases ifB hp with ⟨c60, hp⟩ | ⟨c60, hp⟩
    ·
      refine FW.condT rfl c60 ?_
      cases hp
    ·
      refine FW.condF rfl c60 ?_
      refine FW.skip (FW.region ?_)
      refine FL.v (E.add k47 rfl) ?_
      refine FL.v (E.move (v := Value.int .i64 (wr (((i22 : Nat) : Int) + 1))) rfl) ?_
      refine FL.nil ?_
      obtain rfl := Option.some.inj hp
      exact ⟨rfl, ⟨_, S43, i44, (nat_succ rfl (lt_of_get hx22) (p0.mono i44).le), k48, rfl, k50, k51⟩⟩
  ·
    clear hp hq
    rintro s22 f159 w158 ⟨H155, S156, i157, k160, k161, k162, k163, k164⟩
    refine FW.seq (FW.region ?_)
    refine FL.v (E.lss k160 k164) ?_
    refine FL.nil (FW.seq ?_)
    refine FW.condF rfl dlt_len ?_
    refine FW.exit ?_
    exact ⟨nofun, rfl, ⟨_, S156, i157, k161, k162⟩⟩
  ·
    clear hq
    intro e f66 w65 hD
    rcases q22 with s22 | x22
    ·
      obtain ⟨rfl, hD⟩ := hD
      obtain ⟨H62, S63, i64, k67, k68⟩ := hD
      replace hp := el_go hp
      refine FW.seq (FW.region ?_)
      refine FL.v (E.move k68) ?_
      obtain ⟨r69, hr70, hp⟩ := bnd hp
      refine FL.call rfl rfl rfl (E.call Tryz.call276 (A2 rfl rfl)) (w_slices_Grow_int_int S63.sl s22 hr70) ?_
      rintro e w72 ⟨H71, v75, n76, cs77, rfl, r74, els78⟩
      refine ⟨_, rfl, ?_⟩
      have els78 := els78.mono (up_le S63.size)
      have S73 := S63.join (l' := [.row 3 1 v75 n76 cs77]) r74 rfl
      refine FL.v (E.assign (v := v75) rfl) ?_
      refine FL.nil (FW.seq (FW.seq (FW.region ?_)))
      refine FL.v (E.move k67) ?_
      refine FL.v (E.lenP te22 rfl p0) ?_
      refine FL.v (E.move (v := Value.int .i64 0) rfl) ?_
      refine FL.nil ?_
      obtain ⟨q80, hq, hp⟩ := bndR hp
      refine FW.block ?_
      refine FW.mono (FW.forL (S := (List Int)) (X := Empty) (fun (i80 : Nat) (s80 : (List Int)) f w => ∃ H : GH, ∃ v81 : Value, ∃ n82 : Nat, ∃ cs83 : List Value, St Ha wa H w [.row 3 1 v81 n82 cs83] ∧ Inc H71 H ∧ Els (up wa.heap.size H) eI 1 cs83 s80 ∧ f 27 = Value.int .i64 ((i80 : Nat) : Int) ∧ f 6 = v81 ∧ f 25 = v0 ∧ f 26 = Value.int .i64 (len a0)) (fun (q : Rs (List Int) Empty) e f w => match q with | .go s80 => e = Exit.exit 2 ∧ (∃ H : GH, ∃ v81 : Value, ∃ n82 : Nat, ∃ cs83 : List Value, St Ha wa H w [.row 3 1 v81 n82 cs83] ∧ Inc H71 H ∧ Els (up wa.heap.size H) eI 1 cs83 s80 ∧ f 6 = v81) | .rt x => x.elim) hq ⟨_, _, _, _, S73, (Inc.rfl _), els78, rfl, rfl, rfl, rfl⟩ ?_ ?_) ?_
      ·
        clear hp hq
        rintro i80 y79 s80 f116 w115 ⟨H112, v81, n82, cs83, S113, i114, els84, k117, k118, k119, k120⟩ hx80 o139 hp
        refine FW.seq (FW.region ?_)
        refine FL.v (E.lssT k117 k120 (lss_len hx80)) ?_
        refine FL.nil (FW.seq ?_)
        refine FW.condT rfl rfl ?_
        refine FW.skip (FW.seq (FW.block (FW.seq (FW.region ?_))))
        obtain ⟨p121, cs122, pt123, l124, at125, rel126⟩ := p0.at (ix_nat hx80)
        obtain ⟨v127, rfl, h128⟩ := eL_open rel126
        refine FL.v (E.indexAddr te22 k119 k117 pt123) ?_
        refine FL.v (E.load rfl (run_load0 Tryz.isAgg73 ((at125.mono ((i64.tr r74.run.inc).tr i114)).now S113.sl) rfl)) ?_
        refine FL.v (E.assign (v := v127) rfl) ?_
        refine FL.nil (FW.region ?_)
        refine FL.v (E.move k118) ?_
        refine FL.v (E.move (v := v127) rfl) ?_
        obtain ⟨xs129, hz130, hp⟩ := bnd hp
        obtain ⟨v131, w134, n132, cs133, run135, S136, els137⟩ := S113.appendP (P := Tryz.prog) (Inc.rfl _) te73 (i := 0) rfl (els84.mono upI) (h128.mono ((i64.tr r74.run.inc).tr i114)) hz130
        have S136 : St Ha wa H112 w134 [.row 3 1 v131 n132 cs133] := S136
        have els137 : Els (up wa.heap.size H112) eI 1 cs133 xs129 := els137.any (fun _ _ _ _ h => h)
        refine FL.v (E.append rfl rfl run135) ?_
        refine FL.v (E.assign (v := v131) rfl) ?_
        refine FL.nil (FW.region ?_)
        refine FL.v (E.add k117 rfl) ?_
        refine FL.v (E.move (v := Value.int .i64 (wr (((i80 : Nat) : Int) + 1))) rfl) ?_
        refine FL.nil ?_
        obtain rfl := Option.some.inj hp
        exact ⟨rfl, ⟨_, _, _, _, S136, i114, els137, (nat_succ rfl (lt_of_get hx80) (p0.mono ((i64.tr r74.run.inc).tr i114)).le), rfl, k119, k120⟩⟩
      ·
        clear hp hq
        rintro s80 f150 w149 ⟨H146, v81, n82, cs83, S147, i148, els84, k151, k152, k153, k154⟩
        refine FW.seq (FW.region ?_)
        refine FL.v (E.lss k151 k154) ?_
        refine FL.nil (FW.seq ?_)
        refine FW.condF rfl dlt_len ?_
        refine FW.exit ?_
        exact ⟨nofun, rfl, ⟨_, _, _, _, S147, i148, els84, k152⟩⟩
      ·
        clear hq
        intro e f144 w143 hD
        rcases q80 with s80 | x80
        ·
          obtain ⟨rfl, hD⟩ := hD
          obtain ⟨H140, v81, n82, cs83, S141, i142, els84, k145⟩ := hD
          replace hp := el_go hp
          refine FW.seq (FW.region ?_)
          refine FL.v (E.move k145) ?_
          refine FL.v (E.assign (v := v81) rfl) ?_
          refine FL.nil ?_
          refine FW.ret ?_
          obtain rfl := Option.some.inj hp
          exact ⟨.inr rfl, res1 rfl rfl ⟨_, _, _, _, rfl, S141, els84⟩⟩
        · exact x80.elim
    · exact x22.elim

@[reducible] def p_slices_SortFunc_int_int (H0 : GH) (w0 : World) (Ha : GH) (L : List MO) (v0 : Value) (n0 : Nat) (r : (List Int)) : Ending → World → Prop :=
 fun e w' => ∃ H' : GH, ∃ c0k : List Value, e = .returned (Value.tuple #[]) ∧ (St H0 w0 H' w' (.row 3 1 v0 n0 c0k :: L) ∧ Inc Ha H') ∧ Els (up w0.heap.size H') eI 1 c0k r
theorem w_slices_SortFunc_int_int {H0 Ha : GH} {w0 wa : World} {L : List MO} {v0 : Value} {n0 : Nat} {k0 : List Value} (S0 : St H0 w0 Ha wa (.row 3 1 v0 n0 k0 :: L)) (a0 : List Int) (p0 : Els (up w0.heap.size Ha) eI 1 k0 a0) (v1 : Value) (a1 : Int → Int → Option Int) (p1 : Fn_I_I_to_I Tryz.prog Ha v1 a1) {r : (List Int)} (hp : (PF.slices_SortFunc_int_int a0 a1) = some r) :
  Calls Tryz.prog 274 #[v0, v1] wa (p_slices_SortFunc_int_int H0 w0 Ha L v0 n0 r) := by
 refine (St.sortF (l := .row 3 1 v0 n0 k0 :: L) (i := 0) upI S0 rfl p0 (fun H2 w2 hi hs2 c x hc d y hd r hr => by cases eI_open hc; cases eI_open hd; exact p1 H2 w2 hi hs2 x y r hr) (fun p cap fv w => AnyF.slices_SortFunc_none (P := Tryz.prog) (ρ := Tryz.sort274_ren) { Tryz.sort274 with } p cap fv w) (fun α _ enc h1 cf hO g cb blk off cap d w eg hc hH hb hs => Any.slices_SortFunc Tryz.sort274 enc h1 cf hO g cb blk off cap d w eg hc hH hb hs) hp).mono ?_
 rintro e w' ⟨rfl, c', h1, h2⟩
 exact ⟨_, _, rfl, ⟨h1, Inc.rfl _⟩, h2⟩

theorem w_cmp_isNaN_int {Ha : GH} {wa : World} (hs : Sl Ha wa) (a0 : Int) :
  Calls Tryz.prog 225 #[Value.int .i64 a0] wa (Sc Ha wa (Value.bool (PF.cmp_isNaN_int a0))) := by
 obtain ⟨r, hp⟩ : ∃ r, (PF.cmp_isNaN_int a0) = r := ⟨_, rfl⟩
 rw [hp]
 unfold PF.cmp_isNaN_int at hp
 have S0 := St.init hs
 refine calls_go (N := 6) (args := [Value.int .i64 a0]) Tryz.func225 rfl rfl rfl ?_
 refine FW.seq (FW.region ?_)
 refine FL.v (E.assign (v := Value.bool false) rfl) ?_
 refine FL.nil (FW.seq (FW.region ?_))
 refine FL.v (E.move (v := Value.int .i64 a0) rfl) ?_
 refine FL.v (E.move (v := Value.int .i64 a0) rfl) ?_
 refine FL.v (E.neq rfl rfl) ?_
 refine FL.v (E.assign (v := Value.bool (!(a0 == a0))) rfl) ?_
 refine FL.nil ?_
 refine FW.ret ?_
 obtain rfl := hp
 exact ⟨.inr rfl, res1 rfl rfl ⟨rfl, S0.back⟩⟩

theorem w_cmp_Compare_int {Ha : GH} {wa : World} (hs : Sl Ha wa) (a0 : Int) (a1 : Int) :
  Calls Tryz.prog 171 #[Value.int .i64 a0, Value.int .i64 a1] wa (Sc Ha wa (Value.int .i64 (PF.cmp_Compare_int a0 a1))) := by
 obtain ⟨r, hp⟩ : ∃ r, (PF.cmp_Compare_int a0 a1) = r := ⟨_, rfl⟩
 rw [hp]
 unfold PF.cmp_Compare_int at hp
 have S0 := St.init hs
 refine calls_go (N := 20) (args := [Value.int .i64 a0, Value.int .i64 a1]) Tryz.func171 rfl rfl rfl ?_
 refine FW.seq (FW.region ?_)
 refine FL.v (E.assign (v := Value.int .i64 0) rfl) ?_
 refine FL.nil (FW.seq (FW.region ?_))
 refine FL.v (E.move (v := Value.int .i64 a0) rfl) ?_
 refine FL.call rfl rfl rfl (E.call Tryz.call225 (A1 rfl)) (w_cmp_isNaN_int S0.sl a0) ?_
 rintro e w21 ⟨rfl, r22⟩
 refine ⟨_, rfl, ?_⟩
 have S23 := S0.call r22
 refine FL.v (E.assign (v := Value.bool (PF.cmp_isNaN_int a0)) rfl) ?_
 refine FL.nil (FW.seq (FW.region ?_))
 refine FL.v (E.move (v := Value.int .i64 a1) rfl) ?_
 refine FL.call rfl rfl rfl (E.call Tryz.call225 (A1 rfl)) (w_cmp_isNaN_int S23.sl a1) ?_
 rintro e w24 ⟨rfl, r25⟩
 refine ⟨_, rfl, ?_⟩
 have S26 := S23.call r25
 refine FL.v (E.assign (v := Value.bool (PF.cmp_isNaN_int a1)) rfl) ?_
 refine FL.nil (FW.seq (FW.seq (FW.region ?_)))
 refine FL.v (E.move (v := Value.bool (PF.cmp_isNaN_int a0)) rfl) ?_
 refine FL.nil ?_
 rcases ifT hp with ⟨c27, hp⟩ | ⟨c27, hp⟩
 ·
  refine FW.condT rfl c27 ?_
  refine FW.seq (FW.seq (FW.region ?_))
  refine FL.v (E.move (v := Value.bool (PF.cmp_isNaN_int a1)) rfl) ?_
  refine FL.nil ?_
  rcases ifT hp with ⟨c28, hp⟩ | ⟨c28, hp⟩
  ·
   refine FW.condT rfl c28 ?_
   refine FW.seq (FW.region ?_)
   refine FL.v (E.assign (v := Value.int .i64 0) rfl) ?_
   refine FL.nil ?_
   refine FW.ret ?_
   obtain rfl := hp
   exact ⟨.inr rfl, res1 rfl rfl ⟨rfl, S26.back⟩⟩
  ·
   refine FW.condF rfl c28 ?_
   refine FW.skip (FW.seq (FW.region ?_))
   refine FL.v (E.assign (v := Value.int .i64 (-1)) rfl) ?_
   refine FL.nil ?_
   refine FW.ret ?_
   obtain rfl := hp
   exact ⟨.inr rfl, res1 rfl rfl ⟨rfl, S26.back⟩⟩
 ·
  refine FW.condF rfl c27 ?_
  refine FW.skip (FW.seq (FW.seq (FW.region ?_)))
  refine FL.v (E.move (v := Value.bool (PF.cmp_isNaN_int a1)) rfl) ?_
  refine FL.nil ?_
  rcases ifT hp with ⟨c29, hp⟩ | ⟨c29, hp⟩
  ·
   refine FW.condT rfl c29 ?_
   refine FW.seq (FW.region ?_)
   refine FL.v (E.assign (v := Value.int .i64 1) rfl) ?_
   refine FL.nil ?_
   refine FW.ret ?_
   obtain rfl := hp
   exact ⟨.inr rfl, res1 rfl rfl ⟨rfl, S26.back⟩⟩
  ·
   refine FW.condF rfl c29 ?_
   refine FW.skip (FW.seq (FW.seq (FW.region ?_)))
   refine FL.v (E.move (v := Value.int .i64 a0) rfl) ?_
   refine FL.v (E.move (v := Value.int .i64 a1) rfl) ?_
   refine FL.v (E.lss rfl rfl) ?_
   refine FL.nil ?_
   rcases ifT hp with ⟨c30, hp⟩ | ⟨c30, hp⟩
   ·
    refine FW.condT rfl c30 ?_
    refine FW.seq (FW.region ?_)
    refine FL.v (E.assign (v := Value.int .i64 (-1)) rfl) ?_
    refine FL.nil ?_
    refine FW.ret ?_
    obtain rfl := hp
    exact ⟨.inr rfl, res1 rfl rfl ⟨rfl, S26.back⟩⟩
   ·
    refine FW.condF rfl c30 ?_
    refine FW.skip (FW.seq (FW.seq (FW.region ?_)))
    refine FL.v (E.move (v := Value.int .i64 a0) rfl) ?_
    refine FL.v (E.move (v := Value.int .i64 a1) rfl) ?_
    refine FL.v (E.gtr rfl rfl) ?_
    refine FL.nil ?_
    rcases ifT hp with ⟨c31, hp⟩ | ⟨c31, hp⟩
    ·
     refine FW.condT rfl c31 ?_
     refine FW.seq (FW.region ?_)
     refine FL.v (E.assign (v := Value.int .i64 1) rfl) ?_
     refine FL.nil ?_
     refine FW.ret ?_
     obtain rfl := hp
     exact ⟨.inr rfl, res1 rfl rfl ⟨rfl, S26.back⟩⟩
    ·
     refine FW.condF rfl c31 ?_
     refine FW.skip (FW.seq (FW.region ?_))
     refine FL.v (E.assign (v := Value.int .i64 0) rfl) ?_
     refine FL.nil ?_
     refine FW.ret ?_
     obtain rfl := hp
     exact ⟨.inr rfl, res1 rfl rfl ⟨rfl, S26.back⟩⟩

theorem w_cmp_Or_int {Ha : GH} {wa : World} (hs : Sl Ha wa) (v0 : Value) (a0 : List Int) (p0 : RSl Ha eI 1 v0 a0) {r : Int} (hp : (PF.cmp_Or_int a0) = some r) :
  Calls Tryz.prog 170 #[v0] wa (Sc Ha wa (Value.int .i64 r)) := by
 unfold PF.cmp_Or_int at hp
 have S0 := St.init hs
 refine calls_go (N := 18) (args := [v0]) Tryz.func170 rfl rfl rfl ?_
 refine FW.seq (FW.region ?_)
 refine FL.v (E.assign (v := Value.int .i64 0) rfl) ?_
 refine FL.nil (FW.seq (FW.region ?_))
 refine FL.v (E.assign (v := Value.int .i64 0) rfl) ?_
 refine FL.nil (FW.seq (FW.seq (FW.region ?_)))
 refine FL.v (E.move (v := v0) rfl) ?_
 refine FL.v (E.lenP te73 rfl p0) ?_
 refine FL.v (E.move (v := Value.int .i64 0) rfl) ?_
 refine FL.nil ?_
 obtain ⟨q22, hq, hp⟩ := bndR hp
 refine FW.block ?_
 refine FW.mono (FW.forL (S := Unit) (X := Int) (fun (i22 : Nat) (s22 : Unit) f w => ∃ H : GH, St Ha wa H w [] ∧ Inc Ha H ∧ f 8 = Value.int .i64 ((i22 : Nat) : Int) ∧ f 3 = Value.int .i64 0 ∧ f 6 = v0 ∧ f 7 = Value.int .i64 (len a0)) (fun q e f w => match q with | .go s22 => e = Exit.exit 0 ∧ (∃ H : GH, St Ha wa H w [] ∧ Inc Ha H ∧ f 3 = Value.int .i64 0) | .rt x => ((e = Exit.ret) ∧ (fun e f w => (e = Exit.normal ∨ e = Exit.ret) ∧ ∀ a, Fr (δ := []) 18 a f → ∃ v, (results Tryz.f170 a.tmps).run Tryz.prog w = .ok v w ∧ (Sc Ha wa (Value.int .i64 x)) (.returned v) w) e f w)) hq ⟨_, S0, (Inc.rfl _), rfl, rfl, rfl, rfl⟩ ?_ ?_) ?_
 ·
  clear hp hq
  rintro i22 y21 s22 f43 w42 ⟨H39, S40, i41, k44, k45, k46, k47⟩ hx22 o55 hp
  refine FW.seq (FW.region ?_)
  refine FL.v (E.lssT k44 k47 (lss_len hx22)) ?_
  refine FL.nil (FW.seq ?_)
  refine FW.condT rfl rfl ?_
  refine FW.skip (FW.seq (FW.block (FW.seq (FW.region ?_))))
  obtain ⟨p48, cs49, pt50, l51, at52, rel53⟩ := p0.at (ix_nat hx22)
  obtain rfl := eI_open rel53
  refine FL.v (E.indexAddr te73 k46 k44 pt50) ?_
  refine FL.v (E.load rfl (run_load0 Tryz.isAgg3 ((at52.mono i41).now S40.sl) rfl)) ?_
  refine FL.v (E.assign (v := Value.int .i64 y21) rfl) ?_
  refine FL.nil (FW.seq (FW.region ?_))
  refine FL.v (E.move (v := Value.int .i64 y21) rfl) ?_
  refine FL.v (E.move k45) ?_
  refine FL.v (E.neq rfl rfl) ?_
  refine FL.nil ?_
  rcases ifB hp with ⟨c54, hp⟩ | ⟨c54, hp⟩
  ·
   refine FW.condT rfl c54 ?_
   refine FW.seq (FW.region ?_)
   refine FL.v (E.move (v := Value.int .i64 y21) rfl) ?_
   refine FL.v (E.assign (v := Value.int .i64 y21) rfl) ?_
   refine FL.nil ?_
   refine FW.ret ?_
   obtain rfl := Option.some.inj hp
   exact ⟨nofun, rfl, ⟨.inr rfl, res1 rfl rfl ⟨rfl, S40.back⟩⟩⟩
  ·
   refine FW.condF rfl c54 ?_
   refine FW.skip (FW.region ?_)
   refine FL.v (E.add k44 rfl) ?_
   refine FL.v (E.move (v := Value.int .i64 (wr (((i22 : Nat) : Int) + 1))) rfl) ?_
   refine FL.nil ?_
   obtain rfl := Option.some.inj hp
   exact ⟨rfl, ⟨_, S40, i41, (nat_succ rfl (lt_of_get hx22) (p0.mono i41).le), k45, k46, k47⟩⟩
 ·
  clear hp hq
  rintro s22 f66 w65 ⟨H62, S63, i64, k67, k68, k69, k70⟩
  refine FW.seq (FW.region ?_)
  refine FL.v (E.lss k67 k70) ?_
  refine FL.nil (FW.seq ?_)
  refine FW.condF rfl dlt_len ?_
  refine FW.exit ?_
  exact ⟨nofun, rfl, ⟨_, S63, i64, k68⟩⟩
 ·
  clear hq
  intro e f60 w59 hD
  rcases q22 with s22 | x22
  ·
   obtain ⟨rfl, hD⟩ := hD
   obtain ⟨H56, S57, i58, k61⟩ := hD
   replace hp := el_go hp
   refine FW.seq (FW.region ?_)
   refine FL.v (E.move k61) ?_
   refine FL.v (E.assign (v := Value.int .i64 0) rfl) ?_
   refine FL.nil ?_
   refine FW.ret ?_
   obtain rfl := Option.some.inj hp
   exact ⟨.inr rfl, res1 rfl rfl ⟨rfl, S57.back⟩⟩
  ·
   obtain ⟨he, hL⟩ := hD
   replace hp := el_rt hp
   obtain rfl := Option.some.inj hp
   subst he
   exact hL

theorem w_impl_compareLiterals {Ha : GH} {wa : World} (hs : Sl Ha wa) (a0 : Int) (a1 : Int) {r : Int} (hp : (PF.impl_compareLiterals a0 a1) = some r) :
  Calls Tryz.prog 173 #[Value.int .i64 a0, Value.int .i64 a1] wa (Sc Ha wa (Value.int .i64 r)) := by
 unfold PF.impl_compareLiterals at hp
 have S0 := St.init hs
 refine calls_go (N := 15) (args := [Value.int .i64 a0, Value.int .i64 a1]) Tryz.func173 rfl rfl rfl ?_
 refine FW.seq (FW.region ?_)
 refine FL.v (E.assign (v := Value.int .i64 0) rfl) ?_
 refine FL.nil (FW.seq (FW.region ?_))
 refine FL.v (E.move (v := Value.int .i64 a0) rfl) ?_
 refine FL.call rfl rfl rfl (E.call Tryz.call143 (A1 rfl)) (w_impl_abs S0.sl a0) ?_
 rintro e w21 ⟨rfl, r22⟩
 refine ⟨_, rfl, ?_⟩
 have S23 := S0.call r22
 refine FL.v (E.move (v := Value.int .i64 a1) rfl) ?_
 refine FL.call rfl rfl rfl (E.call Tryz.call143 (A1 rfl)) (w_impl_abs S23.sl a1) ?_
 rintro e w24 ⟨rfl, r25⟩
 refine ⟨_, rfl, ?_⟩
 have S26 := S23.call r25
 refine FL.call rfl rfl rfl (E.call Tryz.call171 (A2 rfl rfl)) (w_cmp_Compare_int S26.sl (PF.impl_abs a0) (PF.impl_abs a1)) ?_
 rintro e w27 ⟨rfl, r28⟩
 refine ⟨_, rfl, ?_⟩
 have S29 := S26.call r28
 refine FL.v (E.move (v := Value.int .i64 a1) rfl) ?_
 refine FL.v (E.move (v := Value.int .i64 a0) rfl) ?_
 refine FL.call rfl rfl rfl (E.call Tryz.call171 (A2 rfl rfl)) (w_cmp_Compare_int S29.sl a1 a0) ?_
 rintro e w30 ⟨rfl, r31⟩
 refine ⟨_, rfl, ?_⟩
 have S32 := S29.call r31
 obtain ⟨v33, w34, run35, S36⟩ := S32.buildSlice (P := Tryz.prog) te73 [Value.int .i64 (PF.cmp_Compare_int (PF.impl_abs a0) (PF.impl_abs a1)), Value.int .i64 (PF.cmp_Compare_int a1 a0)] (parts := #[(0, Value.int .i64 (PF.cmp_Compare_int (PF.impl_abs a0) (PF.impl_abs a1))), (1, Value.int .i64 (PF.cmp_Compare_int a1 a0))]) (cells := [Value.int .i64 (PF.cmp_Compare_int (PF.impl_abs a0) (PF.impl_abs a1)), Value.int .i64 (PF.cmp_Compare_int a1 a0)]) rfl (szs_cons rfl (szs_cons rfl szs_nil)) (fc_cons rfl (fc_cons rfl fc_nil)) (ones_cons rfl (ones_cons rfl ones_nil)) (Nat.le_of_ble_eq_true rfl)
 have els37 : Els (up wa.heap.size Ha) eI 1 [Value.int .i64 (PF.cmp_Compare_int (PF.impl_abs a0) (PF.impl_abs a1)), Value.int .i64 (PF.cmp_Compare_int a1 a0)] [(PF.cmp_Compare_int (PF.impl_abs a0) (PF.impl_abs a1)), (PF.cmp_Compare_int a1 a0)] := (Els.snoc (H := (up wa.heap.size Ha)) (E := eI) (k := 1) (c := [Value.int .i64 (PF.cmp_Compare_int a1 a0)]) (x := (PF.cmp_Compare_int a1 a0)) (Els.snoc (H := (up wa.heap.size Ha)) (E := eI) (k := 1) (c := [Value.int .i64 (PF.cmp_Compare_int (PF.impl_abs a0) (PF.impl_abs a1))]) (x := (PF.cmp_Compare_int (PF.impl_abs a0) (PF.impl_abs a1))) Els.nil rfl rfl) rfl rfl)
 refine FL.v (E.buildSlice (B2 rfl rfl) run35) ?_
 obtain ⟨H38, S39, i40, h41, nv42⟩ := S36.sealRowU (i := 0) (l' := []) rfl els37 (by decide) rfl
 obtain ⟨r43, hr44, hp⟩ := bnd hp
 refine FL.call rfl rfl rfl (E.call Tryz.call170 (A1 rfl)) (w_cmp_Or_int S39.sl v33 [(PF.cmp_Compare_int (PF.impl_abs a0) (PF.impl_abs a1)), (PF.cmp_Compare_int a1 a0)] (h41.mono upI) hr44) ?_
 rintro e w45 ⟨rfl, r46⟩
 refine ⟨_, rfl, ?_⟩
 have r46 := Run.lend i40 S36.sl r46
 have S47 := S36.call r46
 refine FL.v (E.assign (v := Value.int .i64 r43) rfl) ?_
 refine FL.nil ?_
 refine FW.ret ?_
 obtain rfl := Option.some.inj hp
 exact ⟨.inr rfl, res1 rfl rfl ⟨rfl, S47.back⟩⟩

@[reducible] def p_slices_Compact_int_int (H0 : GH) (w0 : World) (Ha : GH) (L : List MO) (r : (List Int)) : Ending → World → Prop :=
 fun e w' => ∃ H' : GH, ∃ v0r : Value, ∃ n0r : Nat, ∃ c0r : List Value, e = .returned (v0r) ∧ (St H0 w0 H' w' (.row 3 1 v0r n0r c0r :: L) ∧ Inc Ha H') ∧ Els (up w0.heap.size H') eI 1 c0r r
theorem w_slices_Compact_int_int {H0 Ha : GH} {w0 wa : World} {L : List MO} {v0 : Value} {n0 : Nat} {k0 : List Value} (S0 : St H0 w0 Ha wa (.row 3 1 v0 n0 k0 :: L)) (a0 : List Int) (p0 : Els (up w0.heap.size Ha) eI 1 k0 a0) {r : (List Int)} (hp : (PF.slices_Compact_int_int a0) = some r) :
  Calls Tryz.prog 275 #[v0] wa (p_slices_Compact_int_int H0 w0 Ha L r) := by
 cases hp
 refine (St.compactF (l := .row 3 1 v0 n0 k0 :: L) (i := 0) S0 rfl p0 (enc := Value.int .i64) (fun _ => rfl) (fun _ _ _ h => by cases eI_open h; rfl) (fun _ _ => rfl) 0 (fun w => compact_none Tryz.comp275 w) (fun blk off cap d w hH hs hc => AnyE.slices_Compact Tryz.comp275 (Value.int .i64) (fun _ => rfl) (EqlAt.intD _ _ _) (NeqAt.intD _ _ _) 0 (fun w => Tryz.zeroValue3 w) blk off cap d w hH hs hc)).mono ?_
 rintro e w' ⟨v', n', c', rfl, h1, h2⟩
 exact ⟨_, _, _, _, rfl, ⟨h1, Inc.rfl _⟩, h2⟩

@[reducible] def p_impl_clause (Ha : GH) (wa : World) (r : ((List Int) × Bool)) : Ending → World → Prop :=
 fun e w' => ∃ H' : GH, ∃ v0 : Value, ∃ n0 : Nat, ∃ c0 : List Value, e = .returned (Value.tuple #[v0, Value.bool r.2]) ∧ St Ha wa H' w' [.row 3 1 v0 n0 c0] ∧ Els (up wa.heap.size H') eI 1 c0 r.1
theorem w_impl_clause {Ha : GH} {wa : World} (hs : Sl Ha wa) (v0 : Value) (a0 : List Int) (p0 : RSl Ha eI 1 v0 a0) {r : ((List Int) × Bool)} (hp : (PF.impl_clause a0) = some r) :
  Calls Tryz.prog 257 #[v0] wa (p_impl_clause Ha wa r) := by
 unfold PF.impl_clause at hp
 have S0 := St.init hs
 refine calls_go (N := 30) (args := [v0]) Tryz.func257 rfl rfl rfl ?_
 refine FW.seq (FW.region ?_)
 refine FL.v (E.assign (v := Value.slice none 0 0) rfl) ?_
 refine FL.v (E.assign (v := Value.bool false) rfl) ?_
 refine FL.nil (FW.seq (FW.region ?_))
 refine FL.v (E.move (v := v0) rfl) ?_
 obtain ⟨r21, hr22, hp⟩ := bnd hp
 refine FL.call rfl rfl rfl (E.call Tryz.call108 (A1 rfl)) (w_slices_Clone_int_int S0.sl v0 a0 p0 hr22) ?_
 rintro e w24 ⟨H23, v27, n28, cs29, rfl, r26, els30⟩
 refine ⟨_, rfl, ?_⟩
 have els30 := els30.mono (up_le S0.size)
 have S25 := S0.join (l' := [.row 3 1 v27 n28 cs29]) r26 rfl
 refine FL.v (E.assign (v := v27) rfl) ?_
 refine FL.nil (FW.seq (FW.region ?_))
 refine FL.v (E.move (v := v27) rfl) ?_
 obtain ⟨r31, hr32, hp⟩ := bnd hp
 refine FL.call rfl rfl rfl (E.call Tryz.call274 (A2 rfl rfl)) (w_slices_SortFunc_int_int (L := []) S25 r21 els30 (Value.func (.func 173) #[] #[]) (fun x0 x1 => PF.impl_compareLiterals x0 x1) (fun H2 w2 hi2 hs2 x0 x1 r hr => ⟨173, #[], rfl, Tryz.call173, w_impl_compareLiterals hs2 x0 x1  hr⟩) hr32) ?_
 rintro e w34 ⟨H33, cs37, rfl, ⟨S35, i36⟩, els38⟩
 refine ⟨_, rfl, ?_⟩
 have S35 : St Ha wa H33 w34 [.row 3 1 v27 n28 cs37] := S35
 refine FL.nil (FW.seq (FW.region ?_))
 refine FL.v (E.move (v := v27) rfl) ?_
 obtain ⟨r39, hr40, hp⟩ := bnd hp
 refine FL.call rfl rfl rfl (E.call Tryz.call275 (A1 rfl)) (w_slices_Compact_int_int (L := []) S35 r31 els38 hr40) ?_
 rintro e w42 ⟨H41, v45, n46, cs47, rfl, ⟨S43, i44⟩, els48⟩
 refine ⟨_, rfl, ?_⟩
 have S43 : St Ha wa H41 w42 [.row 3 1 v45 n46 cs47] := S43
 refine FL.v (E.assign (v := v45) rfl) ?_
 refine FL.nil (FW.seq (FW.seq (FW.region ?_)))
 refine FL.v (E.assign (v := Value.int .i64 1) rfl) ?_
 refine FL.nil ?_
 obtain ⟨q49, hq, hp⟩ := bndR hp
 refine FW.block ?_
 refine FW.mono (FW.iter (S := Int) (X := ((List Int) × Bool)) (fun (s49 : Int) f w => ∃ H : GH, St Ha wa H w [.row 3 1 v45 n46 cs47] ∧ Inc H41 H ∧ f 4 = v45 ∧ f 5 = Value.int .i64 s49) (fun q e f w => match q with | .go s49 => e = Exit.exit 0 ∧ (∃ H : GH, St Ha wa H w [.row 3 1 v45 n46 cs47] ∧ Inc H41 H ∧ f 4 = v45) | .rt x => ((e = Exit.ret) ∧ (fun e f w => (e = Exit.normal ∨ e = Exit.ret) ∧ ∀ a, Fr (δ := []) 30 a f → ∃ v, (results Tryz.f257 a.tmps).run Tryz.prog w = .ok v w ∧ (p_impl_clause Ha wa x) (.returned v) w) e f w)) hq ⟨_, S43, (Inc.rfl _), rfl, rfl⟩ ?_) ?_
 ·
  clear hp hq
  rintro s49 f83 w82 ⟨H79, S80, i81, k84, k85⟩ o108 hp
  refine FW.seq (FW.seq (FW.region ?_))
  refine FL.v (E.move k85) ?_
  refine FL.v (E.move k84) ?_
  refine FL.v (E.lenO te73 rfl S80 (i := 0) rfl els48 (by decide)) ?_
  refine FL.v (E.lss rfl rfl) ?_
  refine FL.nil ?_
  rcases ifB hp with ⟨c86, hp⟩ | ⟨c86, hp⟩
  ·
   refine FW.condT rfl c86 ?_
   refine FW.skip (FW.seq (FW.block (FW.seq ?_)))
   refine FW.draw (fun w' => Run w82.heap.size H79 w82 H79 w') (by kernel_rfl) (by kernel_rfl) (run_drew S80.sl) ?_
   refine FD.val rfl rfl rfl (fun w' hw' => (E.move k84)) ?_
   refine FD.val rfl rfl rfl (fun w' hw' => (E.move k85)) ?_
   obtain ⟨x94, hx95, hp⟩ := bnd hp
   obtain ⟨p88, cs89, pt90, l91, at92, rel93⟩ := S80.row_at (i := 0) rfl els48 (by decide) hx95
   obtain rfl := eI_open rel93
   refine FD.val rfl rfl rfl (fun w' hw' => (E.indexAddr te73 rfl rfl pt90)) ?_
   refine FD.val rfl rfl rfl (fun w' hw' => (E.load rfl (run_load0 Tryz.isAgg3 (at92.cls hw') rfl))) ?_
   refine FD.val rfl rfl rfl (fun w' hw' => (E.move k84)) ?_
   refine FD.val rfl rfl rfl (fun w' hw' => (E.move k85)) ?_
   refine FD.val rfl rfl rfl (fun w' hw' => (E.sub rfl rfl)) ?_
   obtain ⟨x102, hx103, hp⟩ := bnd hp
   obtain ⟨p96, cs97, pt98, l99, at100, rel101⟩ := S80.row_at (i := 0) rfl els48 (by decide) hx103
   obtain rfl := eI_open rel101
   refine FD.val rfl rfl rfl (fun w' hw' => (E.indexAddr te73 rfl rfl pt98)) ?_
   refine FD.val rfl rfl rfl (fun w' hw' => (E.load rfl (run_load0 Tryz.isAgg3 (at100.cls hw') rfl))) ?_
   refine FD.val rfl rfl rfl (fun w' hw' => (E.neg rfl)) ?_
   refine FD.val rfl rfl rfl (fun w' hw' => (E.eql rfl rfl)) ?_
   refine FD.nil ?_
   intro w104 r106
   have S105 := S80.call r106
   rcases ifB hp with ⟨c107, hp⟩ | ⟨c107, hp⟩
   ·
    refine FW.condT rfl c107 ?_
    refine FW.seq (FW.region ?_)
    refine FL.v (E.assign (v := Value.slice none 0 0) rfl) ?_
    refine FL.v (E.assign (v := Value.bool false) rfl) ?_
    refine FL.nil ?_
    refine FW.ret ?_
    obtain rfl := Option.some.inj hp
    exact ⟨nofun, rfl, ⟨.inr rfl, res2 rfl rfl rfl ⟨_, _, _, _, rfl, ((S105.nil 3 1).sel [0] (by decide) rfl), Els.nil⟩⟩⟩
   ·
    refine FW.condF rfl c107 ?_
    refine FW.skip (FW.region ?_)
    refine FL.v (E.move k85) ?_
    refine FL.v (E.add rfl rfl) ?_
    refine FL.v (E.assign (v := Value.int .i64 (wr (s49 + 1))) rfl) ?_
    refine FL.nil ?_
    obtain rfl := Option.some.inj hp
    exact ⟨rfl, ⟨_, S105, i81, k84, rfl⟩⟩
  ·
   refine FW.condF rfl c86 ?_
   refine FW.exit ?_
   obtain rfl := Option.some.inj hp
   exact ⟨nofun, rfl, ⟨_, S80, i81, k84⟩⟩
 ·
  clear hq
  intro e f113 w112 hD
  rcases q49 with s49 | x49
  ·
   obtain ⟨rfl, hD⟩ := hD
   obtain ⟨H109, S110, i111, k114⟩ := hD
   replace hp := el_go hp
   refine FW.seq (FW.region ?_)
   refine FL.v (E.move k114) ?_
   refine FL.v (E.assign (v := v45) rfl) ?_
   refine FL.v (E.assign (v := Value.bool true) rfl) ?_
   refine FL.nil ?_
   refine FW.ret ?_
   obtain rfl := Option.some.inj hp
   exact ⟨.inr rfl, res2 rfl rfl rfl ⟨_, _, _, _, rfl, S110, (els48.mono (up_mono i111))⟩⟩
  ·
   obtain ⟨he, hL⟩ := hD
   replace hp := el_rt hp
   obtain rfl := Option.some.inj hp
   subst he
   exact hL

@[reducible] def p_impl_resolve (Ha : GH) (wa : World) (r : ((List Int) × Bool)) : Ending → World → Prop :=
 fun e w' => ∃ H' : GH, ∃ v0 : Value, ∃ n0 : Nat, ∃ c0 : List Value, e = .returned (Value.tuple #[v0, Value.bool r.2]) ∧ St Ha wa H' w' [.row 3 1 v0 n0 c0] ∧ Els (up wa.heap.size H') eI 1 c0 r.1
theorem w_impl_resolve {Ha : GH} {wa : World} (hs : Sl Ha wa) (v0 : Value) (a0 : List Int) (p0 : RSl Ha eI 1 v0 a0) (v1 : Value) (a1 : List Int) (p1 : RSl Ha eI 1 v1 a1) (a2 : Int) {r : ((List Int) × Bool)} (hp : (PF.impl_resolve a0 a1 a2) = some r) :
  Calls Tryz.prog 234 #[v0, v1, Value.int .i64 a2] wa (p_impl_resolve Ha wa r) := by
 unfold PF.impl_resolve at hp
 have S0 := St.init hs
 refine calls_go (N := 30) (args := [v0, v1, Value.int .i64 a2]) Tryz.func234 rfl rfl rfl ?_
 refine FW.seq (FW.region ?_)
 refine FL.v (E.assign (v := Value.slice none 0 0) rfl) ?_
 refine FL.v (E.assign (v := Value.bool false) rfl) ?_
 refine FL.nil (FW.seq (FW.seq (FW.region ?_)))
 refine FL.v (E.move (v := v0) rfl) ?_
 refine FL.v (E.move (v := Value.int .i64 a2) rfl) ?_
 obtain ⟨r21, hr22, hp⟩ := bnd hp
 refine FL.call rfl rfl rfl (E.call Tryz.call146 (A2 rfl rfl)) (w_slices_Contains_int_int S0.sl v0 a0 p0 a2 hr22) ?_
 rintro e w23 ⟨rfl, r24⟩
 refine ⟨_, rfl, ?_⟩
 have S25 := S0.call r24
 refine FL.v (E.not rfl) ?_
 refine FL.v (E.move (v := Value.bool (!r21)) rfl) ?_
 obtain ⟨t31, hqt31, hp⟩ := bnd hp
 refine FL.cut 6 (fun f w => ∃ H : GH, St Ha wa H w [] ∧ Inc Ha H ∧ f 0 = v0 ∧ f 1 = v1 ∧ f 2 = Value.int .i64 a2 ∧ f 18 = Value.bool t31) ?_ ?_
 ·
  clear hp; have hp := hqt31; clear hqt31
  rcases ifB hp with ⟨c37, hp⟩ | ⟨c37, hp⟩
  ·
   refine FL.skip (wF_no rfl rfl rfl c37) rfl ?_
   refine FL.skip (wF_no rfl rfl rfl c37) rfl ?_
   refine FL.skip (wF_no rfl rfl rfl c37) rfl ?_
   refine FL.skip (wF_no rfl rfl rfl c37) rfl ?_
   refine FL.skip (wF_no rfl rfl rfl c37) rfl ?_
   obtain rfl := Option.some.inj hp
   refine FL.v (E.pickT rfl c37 rfl) ?_
   exact FL.nil ⟨rfl, _, S25, (Inc.rfl _), rfl, rfl, rfl, rfl⟩
  ·
   refine FL.val (wF_yes rfl rfl rfl c37) rfl rfl (E.move (v := v1) rfl) ?_
   refine FL.val (wF_yes rfl rfl rfl c37) rfl rfl (E.move (v := Value.int .i64 a2) rfl) ?_
   refine FL.val (wF_yes rfl rfl rfl c37) rfl rfl (E.neg rfl) ?_
   obtain ⟨r38, hr39, hp⟩ := bnd hp
   refine FL.call (wF_yes rfl rfl rfl c37) rfl rfl (E.call Tryz.call146 (A2 rfl rfl)) (w_slices_Contains_int_int S25.sl v1 a1 p1 (wr (-a2)) hr39) ?_
   rintro e w40 ⟨rfl, r41⟩
   refine ⟨_, rfl, ?_⟩
   have S42 := S25.call r41
   refine FL.val (wF_yes rfl rfl rfl c37) rfl rfl (E.not rfl) ?_
   obtain rfl := Option.some.inj hp
   refine FL.v (E.pickF rfl c37 rfl) ?_
   exact FL.nil ⟨rfl, _, S42, (Inc.rfl _), rfl, rfl, rfl, rfl⟩
 rintro f36 w35 ⟨H32, S33, i34, k43, k44, k45, k46⟩
 refine FL.nil ?_
 rcases ifB hp with ⟨c47, hp⟩ | ⟨c47, hp⟩
 ·
  refine FW.condT k46 c47 ?_
  refine FW.seq (FW.region ?_)
  refine FL.v (E.assign (v := Value.slice none 0 0) rfl) ?_
  refine FL.v (E.assign (v := Value.bool false) rfl) ?_
  refine FL.nil ?_
  refine FW.ret ?_
  obtain rfl := Option.some.inj hp
  exact ⟨.inr rfl, res2 rfl rfl rfl ⟨_, _, _, _, rfl, (S33.nil 3 1), Els.nil⟩⟩
 ·
  refine FW.condF k46 c47 ?_
  refine FW.skip (FW.seq (FW.region ?_))
  refine FL.v (E.move k43) ?_
  refine FL.v (E.move k45) ?_
  obtain ⟨r48, hr49, hp⟩ := bnd hp
  refine FL.call rfl rfl rfl (E.call Tryz.call240 (A2 rfl rfl)) (w_impl_withoutVar S33.sl v0 a0 (p0.mono i34) a2 hr49) ?_
  rintro e w51 ⟨H50, v54, n55, cs56, rfl, r53, els57⟩
  refine ⟨_, rfl, ?_⟩
  have els57 := els57.mono (up_le S33.size)
  have S52 := S33.join (l' := [.row 3 1 v54 n55 cs56]) r53 rfl
  refine FL.v (E.move k44) ?_
  refine FL.v (E.move k45) ?_
  obtain ⟨r58, hr59, hp⟩ := bnd hp
  refine FL.call rfl rfl rfl (E.call Tryz.call240 (A2 rfl rfl)) (w_impl_withoutVar S52.sl v1 a1 (p1.mono (i34.tr r53.run.inc)) a2 hr59) ?_
  rintro e w61 ⟨H60, v64, n65, cs66, rfl, r63, els67⟩
  refine ⟨_, rfl, ?_⟩
  have els67 := els67.mono (up_le S52.size)
  have S62 := S52.join (l' := [.row 3 1 v64 n65 cs66, .row 3 1 v54 n55 cs56]) r63 rfl
  obtain ⟨H68, S69, i70, h71, nv72⟩ := S62.sealRowU (i := 1) (l' := [.row 3 1 v64 n65 cs66]) rfl (els57.mono (up_mono r63.run.inc)) (by decide) rfl
  obtain ⟨H73, S74, i75, h76, nv77⟩ := S69.sealRowU (i := 0) (l' := []) rfl (els67.mono (up_mono i70)) (by decide) rfl
  obtain ⟨v78, w79, run80, S81⟩ := S74.buildSlice (P := Tryz.prog) te22 [v54, v64] (parts := #[(0, v54), (1, v64)]) (cells := [v54, v64]) rfl (szs_cons (cells_size h71.cells) (szs_cons (cells_size h76.cells) szs_nil)) (fc_cons h71.cells (fc_cons h76.cells fc_nil)) (ones_cons h71.one (ones_cons h76.one ones_nil)) (Nat.le_of_ble_eq_true rfl)
  have els82 : Els (up wa.heap.size H73) (eL eI 1) 1 [v54, v64] [r48, r58] := (Els.snoc (H := (up wa.heap.size H73)) (E := (eL eI 1)) (k := 1) (c := [v64]) (x := r58) (Els.snoc (H := (up wa.heap.size H73)) (E := (eL eI 1)) (k := 1) (c := [v54]) (x := r48) Els.nil rfl ⟨_, rfl, (h71.mono (up_mono i75))⟩) rfl ⟨_, rfl, h76⟩)
  refine FL.v (E.buildSlice (B2 rfl rfl) run80) ?_
  obtain ⟨H83, S84, i85, h86, nv87⟩ := S81.sealRowU (i := 0) (l' := []) rfl els82 (by decide) rfl
  obtain ⟨r88, hr89, hp⟩ := bnd hp
  refine FL.call rfl rfl rfl (E.call Tryz.call258 (A1 rfl)) (w_slices_Concat_int_int S84.sl v78 [r48, r58] (h86.mono upI) hr89) ?_
  rintro e w91 ⟨H90, v96, n97, cs98, rfl, r93, els99⟩
  refine ⟨_, rfl, ?_⟩
  obtain ⟨H94, r93, hU95⟩ := St.lendX i85 S81.sl r93
  have els99 := els99.mono (hU95.tr (up_le S81.size))
  have S92 := S81.join (l' := [.row 3 1 v96 n97 cs98, .row 73 1 v78 2 [v54, v64]]) r93 rfl
  obtain ⟨H100, S101, i102, h103, nv104⟩ := S92.sealRowU (i := 0) (l' := [.row 73 1 v78 2 [v54, v64]]) rfl els99 (by decide) rfl
  obtain ⟨r105, hr106, hp⟩ := bnd hp
  refine FL.call rfl rfl rfl (E.call Tryz.call257 (A1 rfl)) (w_impl_clause S101.sl v96 r88 (h103.mono upI) hr106) ?_
  rintro e w108 ⟨H107, v113, n114, cs115, rfl, r110, els116⟩
  refine ⟨_, rfl, ?_⟩
  obtain ⟨H111, r110, hU112⟩ := St.lendX i102 S92.sl r110
  have els116 := els116.mono (hU112.tr (up_le S92.size))
  have S109 := S92.join (l' := [.row 3 1 v113 n114 cs115, .row 3 1 v96 n97 cs98, .row 73 1 v78 2 [v54, v64]]) r110 rfl
  refine FL.v (E.extract (i := 0) rfl rfl) ?_
  refine FL.v (E.extract (i := 1) rfl rfl) ?_
  refine FL.v (E.assign (v := v113) rfl) ?_
  refine FL.v (E.assign (v := Value.bool r105.2) rfl) ?_
  refine FL.nil ?_
  refine FW.ret ?_
  obtain rfl := Option.some.inj hp
  exact ⟨.inr rfl, res2 rfl rfl rfl ⟨_, _, _, _, rfl, (S109.sel [0] (by decide) rfl), els116⟩⟩

set_option maxHeartbeats 4000000 in
theorem w_impl_correct {Ha : GH} {wa : World} (hs : Sl Ha wa) (a0 : Cnf) (v0_1 : Value) (p0_1 : RSl Ha (eL eI 1) 1 v0_1 a0.clauses) (v1 : Value) (a1 : List ResStep) (p1 : RSl Ha eResStep 4 v1 a1) (a2 : Int) {r : Bool} (hp : (PF.impl_correct a0 a1 a2) = some r) :
  Calls Tryz.prog 182 #[Value.agg #[Value.int .i64 a0.vars, v0_1], v1, Value.int .i64 a2] wa (Sc Ha wa (Value.bool r)) := by
 unfold PF.impl_correct at hp
 have S0 := St.init hs
 refine calls_go (N := 105) (args := [Value.agg #[Value.int .i64 a0.vars, v0_1], v1, Value.int .i64 a2]) Tryz.func182 rfl rfl rfl ?_
 refine FW.seq (FW.region ?_)
 obtain ⟨b21, w22, run23, S24⟩ := S0.box (P := Tryz.prog) 32 [Value.int .i64 a0.vars, v0_1] (v := Value.agg #[Value.int .i64 a0.vars, v0_1]) rfl (ones_cons rfl (ones_cons p0_1.one ones_nil))
 refine FL.v (E.box rfl run23) ?_
 obtain ⟨H25, S26, i27, at28⟩ := S24.sealBox (i := 0) (l' := []) rfl rfl
 refine FL.v (E.assign (v := Value.bool false) rfl) ?_
 refine FL.nil (FW.seq (FW.region ?_))
 refine FL.v (E.move (v := v1) rfl) ?_
 refine FL.v (E.move (v := Value.int .i64 a2) rfl) ?_
 obtain ⟨x35, hx36, hp⟩ := bnd hp
 obtain ⟨p29, cs30, pt31, l32, at33, rel34⟩ := p1.at hx36
 obtain ⟨v37, rfl, h38⟩ := eResStep_open rel34
 refine FL.v (E.indexAddr te34 rfl rfl pt31) ?_
 refine FL.v (E.load rfl (run_loadA Tryz.isAgg88 Tryz.sizeOf88 ((at33.mono i27).now S26.sl) rfl)) ?_
 obtain ⟨b39, w40, run41, S42⟩ := S26.alloc (P := Tryz.prog) 88 [Value.slice none 0 0, Value.int .i64 0, Value.int .i64 0, Value.int .i64 0] Tryz.zeroValue88 rfl (ones_cons rfl (ones_cons rfl (ones_cons rfl (ones_cons rfl ones_nil))))
 refine FL.v (E.alloc run41) ?_
 obtain ⟨w43, run44, S45⟩ := S42.store0 (P := Tryz.prog) (t := 88) (i := 0) (cs' := [v37, Value.int .i64 x35.left, Value.int .i64 x35.right, Value.int .i64 x35.pivot]) (l' := [.box b39 88 [v37, Value.int .i64 x35.left, Value.int .i64 x35.right, Value.int .i64 x35.pivot]]) (v := Value.agg #[v37, Value.int .i64 x35.left, Value.int .i64 x35.right, Value.int .i64 x35.pivot]) (c := [v37, Value.int .i64 x35.left, Value.int .i64 x35.right, Value.int .i64 x35.pivot]) rfl Tryz.sizeOf88 rfl rfl (ones_cons h38.one (ones_cons rfl (ones_cons rfl (ones_cons rfl ones_nil)))) (Nat.le_of_ble_eq_true rfl) rfl rfl
 refine FL.act rfl rfl (E.store rfl rfl run44) ?_
 obtain ⟨H46, S47, i48, at49⟩ := S45.sealBox (i := 0) (l' := []) rfl rfl
 refine FL.nil (FW.seq (FW.seq (FW.region ?_)))
 refine FL.v (E.fieldAddr tf32_0 rfl) ?_
 refine FL.v (E.load rfl (run_load1 Tryz.isAgg3 ((at28.mono i48).now S47.sl) rfl)) ?_
 refine FL.v (E.fieldAddr tf88_0 rfl) ?_
 refine FL.v (E.load rfl (run_load1 Tryz.isAgg73 (at49.now S47.sl) rfl)) ?_
 obtain ⟨r50, hr51, hp⟩ := bnd hp
 refine FL.call rfl rfl rfl (E.call Tryz.call180 (A2 rfl rfl)) (w_impl_IsClause S47.sl a0.vars v37 x35.clause (h38.mono (i27.tr i48)) hr51) ?_
 rintro e w52 ⟨rfl, r53⟩
 refine ⟨_, rfl, ?_⟩
 have S54 := S47.call r53
 refine FL.v (E.not rfl) ?_
 refine FL.nil ?_
 rcases ifB hp with ⟨c55, hp⟩ | ⟨c55, hp⟩
 ·
  refine FW.condT rfl c55 ?_
  refine FW.seq (FW.region ?_)
  refine FL.v (E.assign (v := Value.bool false) rfl) ?_
  refine FL.nil ?_
  refine FW.ret ?_
  obtain rfl := Option.some.inj hp
  exact ⟨.inr rfl, res1 rfl rfl ⟨rfl, S54.back⟩⟩
 ·
  refine FW.condF rfl c55 ?_
  refine FW.skip (FW.seq (FW.seq (FW.region ?_)))
  refine FL.v (E.fieldAddr tf88_1 rfl) ?_
  refine FL.v (E.load rfl (run_load1 Tryz.isAgg3 (at49.now S54.sl) rfl)) ?_
  refine FL.v (E.eql rfl rfl) ?_
  refine FL.nil ?_
  rcases ifB hp with ⟨c56, hp⟩ | ⟨c56, hp⟩
  ·
   refine FW.condT rfl c56 ?_
   refine FW.seq ?_
   refine FW.draw (fun w' => Run w52.heap.size H46 w52 H46 w') (by kernel_rfl) (by kernel_rfl) (run_drew S54.sl) ?_
   refine FD.val rfl rfl rfl (fun w' hw' => (E.fieldAddr tf88_3 rfl)) ?_
   refine FD.val rfl rfl rfl (fun w' hw' => (E.load rfl (run_load1 Tryz.isAgg3 (at49.now (S54.call hw').sl) rfl))) ?_
   refine FD.val rfl rfl rfl (fun w' hw' => (E.eql rfl rfl)) ?_
   refine FD.val rfl rfl rfl (fun w' hw' => (E.move (v := Value.bool (x35.pivot == 0)) rfl)) ?_
   refine FD.cut 8 (fun f => f 3 = Value.pointer (some ⟨b21, 0, none⟩) ∧ f 7 = Value.pointer (some ⟨b39, 0, none⟩) ∧ f 36 = Value.bool (bif (x35.pivot == 0) then (PF.impl_within x35.right 0 (wr ((len a0.clauses) - 1))) else false)) ?_ ?_
   ·
    rcases bcase (x35.pivot == 0) with c64 | c64
    ·
     refine FD.val (wF_yes rfl rfl rfl c64) rfl rfl (fun w' hw' => (E.fieldAddr tf88_2 rfl)) ?_
     refine FD.val (wF_yes rfl rfl rfl c64) rfl rfl (fun w' hw' => (E.load rfl (run_load1 Tryz.isAgg3 (at49.now (S54.call hw').sl) rfl))) ?_
     refine FD.val (wF_yes rfl rfl rfl c64) rfl rfl (fun w' hw' => (E.fieldAddr tf32_1 rfl)) ?_
     refine FD.val (wF_yes rfl rfl rfl c64) rfl rfl (fun w' hw' => (E.load rfl (run_load1 Tryz.isAgg22 ((at28.mono i48).now (S54.call hw').sl) rfl))) ?_
     refine FD.val (wF_yes rfl rfl rfl c64) rfl rfl (fun w' hw' => (E.lenP te22 rfl p0_1)) ?_
     refine FD.val (wF_yes rfl rfl rfl c64) rfl rfl (fun w' hw' => (E.sub rfl rfl)) ?_
     refine FD.call (wF_yes rfl rfl rfl c64) rfl rfl (fun w' hw' => (E.call Tryz.call162 (A3 rfl rfl rfl))) (fun w' hw' => Calls.cls hw' (w_impl_within (S54.call hw').sl x35.right 0 (wr ((len a0.clauses) - 1)))) ?_
     refine FD.val rfl rfl rfl (fun w' hw' => (E.pickT rfl c64 rfl)) ?_
     exact FD.nil ⟨rfl, rfl, (congrArg Value.bool (bifT c64).symm)⟩
    ·
     refine FD.skip (wF_no rfl rfl rfl c64) rfl ?_
     refine FD.skip (wF_no rfl rfl rfl c64) rfl ?_
     refine FD.skip (wF_no rfl rfl rfl c64) rfl ?_
     refine FD.skip (wF_no rfl rfl rfl c64) rfl ?_
     refine FD.skip (wF_no rfl rfl rfl c64) rfl ?_
     refine FD.skip (wF_no rfl rfl rfl c64) rfl ?_
     refine FD.skip (wF_no rfl rfl rfl c64) rfl ?_
     refine FD.val rfl rfl rfl (fun w' hw' => (E.pickF rfl c64 rfl)) ?_
     exact FD.nil ⟨rfl, rfl, (congrArg Value.bool (bifF c64).symm)⟩
   rintro f63 ⟨k65, k66, k67⟩
   refine FD.val rfl rfl rfl (fun w' hw' => (E.move k67)) ?_
   obtain ⟨t80, hqt80, hp⟩ := bnd hp
   refine FD.cut 10 (fun f => f 47 = Value.bool t80) ?_ ?_
   ·
    clear hp; have hp := hqt80; clear hqt80
    rcases ifB hp with ⟨c86, hp⟩ | ⟨c86, hp⟩
    ·
     refine FD.val (wF_yes rfl rfl rfl c86) rfl rfl (fun w' hw' => (E.fieldAddr tf32_1 k65)) ?_
     refine FD.val (wF_yes rfl rfl rfl c86) rfl rfl (fun w' hw' => (E.load rfl (run_load1 Tryz.isAgg22 ((at28.mono i48).now (S54.call hw').sl) rfl))) ?_
     refine FD.val (wF_yes rfl rfl rfl c86) rfl rfl (fun w' hw' => (E.fieldAddr tf88_2 k66)) ?_
     refine FD.val (wF_yes rfl rfl rfl c86) rfl rfl (fun w' hw' => (E.load rfl (run_load1 Tryz.isAgg3 (at49.now (S54.call hw').sl) rfl))) ?_
     obtain ⟨x93, hx94, hp⟩ := bnd hp
     obtain ⟨p87, cs88, pt89, l90, at91, rel92⟩ := p0_1.at hx94
     obtain ⟨v95, rfl, h96⟩ := eL_open rel92
     refine FD.val (wF_yes rfl rfl rfl c86) rfl rfl (fun w' hw' => (E.indexAddr te22 rfl rfl pt89)) ?_
     refine FD.val (wF_yes rfl rfl rfl c86) rfl rfl (fun w' hw' => (E.load rfl (run_load0 Tryz.isAgg73 ((at91.mono (i27.tr i48)).now (S54.call hw').sl) rfl))) ?_
     refine FD.val (wF_yes rfl rfl rfl c86) rfl rfl (fun w' hw' => (E.fieldAddr tf88_0 k66)) ?_
     refine FD.val (wF_yes rfl rfl rfl c86) rfl rfl (fun w' hw' => (E.load rfl (run_load1 Tryz.isAgg73 (at49.now (S54.call hw').sl) rfl))) ?_
     obtain ⟨r97, hr98, hp⟩ := bnd hp
     refine FD.call (wF_yes rfl rfl rfl c86) rfl rfl (fun w' hw' => (E.call Tryz.call230 (A2 rfl rfl))) (fun w' hw' => Calls.cls hw' (w_slices_Equal_int_int (S54.call hw').sl v95 x93 (h96.mono (i27.tr i48)) v37 x35.clause (h38.mono (i27.tr i48)) hr98)) ?_
     obtain rfl := Option.some.inj hp
     refine FD.val rfl rfl rfl (fun w' hw' => (E.pickT rfl c86 rfl)) ?_
     exact FD.nil rfl
    ·
     refine FD.skip (wF_no rfl rfl rfl c86) rfl ?_
     refine FD.skip (wF_no rfl rfl rfl c86) rfl ?_
     refine FD.skip (wF_no rfl rfl rfl c86) rfl ?_
     refine FD.skip (wF_no rfl rfl rfl c86) rfl ?_
     refine FD.skip (wF_no rfl rfl rfl c86) rfl ?_
     refine FD.skip (wF_no rfl rfl rfl c86) rfl ?_
     refine FD.skip (wF_no rfl rfl rfl c86) rfl ?_
     refine FD.skip (wF_no rfl rfl rfl c86) rfl ?_
     refine FD.skip (wF_no rfl rfl rfl c86) rfl ?_
     obtain rfl := Option.some.inj hp
     refine FD.val rfl rfl rfl (fun w' hw' => (E.pickF rfl c86 rfl)) ?_
     exact FD.nil rfl
   intro f85 k99
   refine FD.val rfl rfl rfl (fun w' hw' => (E.assign k99)) ?_
   refine FD.nil ?_
   intro w100 r102
   have S101 := S54.call r102
   refine FW.ret ?_
   obtain rfl := Option.some.inj hp
   exact ⟨.inr rfl, res1 rfl rfl ⟨rfl, S101.back⟩⟩
  ·
   refine FW.condF rfl c56 ?_
   refine FW.skip (FW.seq (FW.region ?_))
   refine FL.v (E.load rfl (run_loadA Tryz.isAgg32 Tryz.sizeOf32 ((at28.mono i48).now S54.sl) rfl)) ?_
   refine FL.v (E.move (v := v1) rfl) ?_
   refine FL.v (E.move (v := Value.int .i64 a2) rfl) ?_
   refine FL.v (E.fieldAddr tf88_1 rfl) ?_
   refine FL.v (E.load rfl (run_load1 Tryz.isAgg3 (at49.now S54.sl) rfl)) ?_
   obtain ⟨r103, hr104, hp⟩ := bnd hp
   refine FL.call rfl rfl rfl (E.call Tryz.call231 (A4 rfl rfl rfl rfl)) (w_impl_earlier S54.sl a0 v0_1 (p0_1.mono (i27.tr i48)) v1 a1 (p1.mono (i27.tr i48)) a2 x35.left hr104) ?_
   rintro e w106 ⟨H105, v109, rfl, r108, h110⟩
   refine ⟨_, rfl, ?_⟩
   have S107 := S54.call r108
   refine FL.v (E.move (v := Value.tuple #[v109, Value.bool r103.2]) rfl) ?_
   refine FL.v (E.extract (i := 0) rfl rfl) ?_
   refine FL.v (E.extract (i := 1) rfl rfl) ?_
   refine FL.v (E.assign (v := v109) rfl) ?_
   refine FL.v (E.assign (v := Value.bool r103.2) rfl) ?_
   refine FL.nil (FW.seq (FW.seq (FW.region ?_)))
   refine FL.v (E.move (v := Value.bool r103.2) rfl) ?_
   refine FL.v (E.not rfl) ?_
   refine FL.nil ?_
   rcases ifB hp with ⟨c111, hp⟩ | ⟨c111, hp⟩
   ·
    refine FW.condT rfl c111 ?_
    refine FW.seq (FW.region ?_)
    refine FL.v (E.assign (v := Value.bool false) rfl) ?_
    refine FL.nil ?_
    refine FW.ret ?_
    obtain rfl := Option.some.inj hp
    exact ⟨.inr rfl, res1 rfl rfl ⟨rfl, S107.back⟩⟩
   ·
    refine FW.condF rfl c111 ?_
    refine FW.skip (FW.seq (FW.seq (FW.region ?_)))
    refine FL.v (E.fieldAddr tf88_2 rfl) ?_
    refine FL.v (E.load rfl (run_load1 Tryz.isAgg3 ((at49.mono r108.inc).now S107.sl) rfl)) ?_
    refine FL.v (E.eql rfl rfl) ?_
    refine FL.nil ?_
    rcases ifB hp with ⟨c112, hp⟩ | ⟨c112, hp⟩
    ·
     refine FW.condT rfl c112 ?_
     refine FW.seq (FW.region ?_)
     refine FL.v (E.fieldAddr tf88_3 rfl) ?_
     refine FL.v (E.load rfl (run_load1 Tryz.isAgg3 ((at49.mono r108.inc).now S107.sl) rfl)) ?_
     refine FL.v (E.eql rfl rfl) ?_
     refine FL.v (E.move (v := Value.bool (x35.pivot == 0)) rfl) ?_
     obtain ⟨t118, hqt118, hp⟩ := bnd hp
     refine FL.cut 5 (fun f w => ∃ H : GH, St Ha wa H w [] ∧ Inc H105 H ∧ f 70 = Value.bool t118) ?_ ?_
     ·
      clear hp; have hp := hqt118; clear hqt118
      rcases ifB hp with ⟨c124, hp⟩ | ⟨c124, hp⟩
      ·
       refine FL.val (wF_yes rfl rfl rfl c124) rfl rfl (E.move (v := v109) rfl) ?_
       refine FL.val (wF_yes rfl rfl rfl c124) rfl rfl (E.fieldAddr tf88_0 rfl) ?_
       refine FL.val (wF_yes rfl rfl rfl c124) rfl rfl (E.load rfl (run_load1 Tryz.isAgg73 ((at49.mono r108.inc).now S107.sl) rfl)) ?_
       obtain ⟨r125, hr126, hp⟩ := bnd hp
       refine FL.call (wF_yes rfl rfl rfl c124) rfl rfl (E.call Tryz.call232 (A2 rfl rfl)) (w_impl_part S107.sl v109 r103.1 h110 v37 x35.clause (h38.mono ((i27.tr i48).tr r108.inc)) hr126) ?_
       rintro e w127 ⟨rfl, r128⟩
       refine ⟨_, rfl, ?_⟩
       have S129 := S107.call r128
       obtain rfl := Option.some.inj hp
       refine FL.v (E.pickT rfl c124 rfl) ?_
       exact FL.nil ⟨rfl, _, S129, (Inc.rfl _), rfl⟩
      ·
       refine FL.skip (wF_no rfl rfl rfl c124) rfl ?_
       refine FL.skip (wF_no rfl rfl rfl c124) rfl ?_
       refine FL.skip (wF_no rfl rfl rfl c124) rfl ?_
       refine FL.skip (wF_no rfl rfl rfl c124) rfl ?_
       obtain rfl := Option.some.inj hp
       refine FL.v (E.pickF rfl c124 rfl) ?_
       exact FL.nil ⟨rfl, _, S107, (Inc.rfl _), rfl⟩
     rintro f123 w122 ⟨H119, S120, i121, k130⟩
     refine FL.v (E.assign k130) ?_
     refine FL.nil ?_
     refine FW.ret ?_
     obtain rfl := Option.some.inj hp
     exact ⟨.inr rfl, res1 rfl rfl ⟨rfl, S120.back⟩⟩
    ·
     refine FW.condF rfl c112 ?_
     refine FW.skip (FW.seq (FW.region ?_))
     refine FL.v (E.load rfl (run_loadA Tryz.isAgg32 Tryz.sizeOf32 ((at28.mono (i48.tr r108.inc)).now S107.sl) rfl)) ?_
     refine FL.v (E.move (v := v1) rfl) ?_
     refine FL.v (E.move (v := Value.int .i64 a2) rfl) ?_
     refine FL.v (E.fieldAddr tf88_2 rfl) ?_
     refine FL.v (E.load rfl (run_load1 Tryz.isAgg3 ((at49.mono r108.inc).now S107.sl) rfl)) ?_
     obtain ⟨r131, hr132, hp⟩ := bnd hp
     refine FL.call rfl rfl rfl (E.call Tryz.call231 (A4 rfl rfl rfl rfl)) (w_impl_earlier S107.sl a0 v0_1 (p0_1.mono ((i27.tr i48).tr r108.inc)) v1 a1 (p1.mono ((i27.tr i48).tr r108.inc)) a2 x35.right hr132) ?_
     rintro e w134 ⟨H133, v137, rfl, r136, h138⟩
     refine ⟨_, rfl, ?_⟩
     have S135 := S107.call r136
     refine FL.v (E.move (v := Value.tuple #[v137, Value.bool r131.2]) rfl) ?_
     refine FL.v (E.extract (i := 0) rfl rfl) ?_
     refine FL.v (E.extract (i := 1) rfl rfl) ?_
     refine FL.v (E.assign (v := v137) rfl) ?_
     refine FL.v (E.assign (v := Value.bool r131.2) rfl) ?_
     refine FL.nil (FW.seq (FW.seq (FW.region ?_)))
     refine FL.v (E.move (v := Value.bool r131.2) rfl) ?_
     refine FL.v (E.not rfl) ?_
     refine FL.v (E.move (v := Value.bool (!r131.2)) rfl) ?_
     refine FL.cut 7 (fun f w => ∃ H : GH, St Ha wa H w [] ∧ Inc H133 H ∧ f 7 = Value.pointer (some ⟨b39, 0, none⟩) ∧ f 8 = v109 ∧ f 10 = v137 ∧ f 89 = Value.bool (bif (!r131.2) then true else (!(PF.impl_isVar a0.vars x35.pivot)))) ?_ ?_
     ·
      rcases bcase (!r131.2) with c148 | c148
      ·
       refine FL.skip (wF_no rfl rfl rfl c148) rfl ?_
       refine FL.skip (wF_no rfl rfl rfl c148) rfl ?_
       refine FL.skip (wF_no rfl rfl rfl c148) rfl ?_
       refine FL.skip (wF_no rfl rfl rfl c148) rfl ?_
       refine FL.skip (wF_no rfl rfl rfl c148) rfl ?_
       refine FL.skip (wF_no rfl rfl rfl c148) rfl ?_
       refine FL.v (E.pickT rfl c148 rfl) ?_
       exact FL.nil ⟨rfl, _, S135, (Inc.rfl _), rfl, rfl, rfl, (congrArg Value.bool (bifT c148).symm)⟩
      ·
       refine FL.val (wF_yes rfl rfl rfl c148) rfl rfl (E.fieldAddr tf32_0 rfl) ?_
       refine FL.val (wF_yes rfl rfl rfl c148) rfl rfl (E.load rfl (run_load1 Tryz.isAgg3 ((at28.mono ((i48.tr r108.inc).tr r136.inc)).now S135.sl) rfl)) ?_
       refine FL.val (wF_yes rfl rfl rfl c148) rfl rfl (E.fieldAddr tf88_3 rfl) ?_
       refine FL.val (wF_yes rfl rfl rfl c148) rfl rfl (E.load rfl (run_load1 Tryz.isAgg3 ((at49.mono (r108.inc.tr r136.inc)).now S135.sl) rfl)) ?_
       refine FL.call (wF_yes rfl rfl rfl c148) rfl rfl (E.call Tryz.call233 (A2 rfl rfl)) (w_impl_isVar S135.sl a0.vars x35.pivot) ?_
       rintro e w149 ⟨rfl, r150⟩
       refine ⟨_, rfl, ?_⟩
       have S151 := S135.call r150
       refine FL.val (wF_yes rfl rfl rfl c148) rfl rfl (E.not rfl) ?_
       refine FL.v (E.pickF rfl c148 rfl) ?_
       exact FL.nil ⟨rfl, _, S151, (Inc.rfl _), rfl, rfl, rfl, (congrArg Value.bool (bifF c148).symm)⟩
     rintro f147 w146 ⟨H143, S144, i145, k152, k153, k154, k155⟩
     refine FL.nil ?_
     rcases ifB hp with ⟨c156, hp⟩ | ⟨c156, hp⟩
     ·
      refine FW.condT k155 c156 ?_
      refine FW.seq (FW.region ?_)
      refine FL.v (E.assign (v := Value.bool false) rfl) ?_
      refine FL.nil ?_
      refine FW.ret ?_
      obtain rfl := Option.some.inj hp
      exact ⟨.inr rfl, res1 rfl rfl ⟨rfl, S144.back⟩⟩
     ·
      refine FW.condF k155 c156 ?_
      refine FW.skip (FW.seq (FW.region ?_))
      refine FL.v (E.move k153) ?_
      refine FL.v (E.move k154) ?_
      refine FL.v (E.fieldAddr tf88_3 k152) ?_
      refine FL.v (E.load rfl (run_load1 Tryz.isAgg3 ((at49.mono ((r108.inc.tr r136.inc).tr i145)).now S144.sl) rfl)) ?_
      obtain ⟨r157, hr158, hp⟩ := bnd hp
      refine FL.call rfl rfl rfl (E.call Tryz.call234 (A3 rfl rfl rfl)) (w_impl_resolve S144.sl v109 r103.1 (h110.mono (r136.inc.tr i145)) v137 r131.1 (h138.mono i145) x35.pivot hr158) ?_
      rintro e w160 ⟨H159, v163, n164, cs165, rfl, r162, els166⟩
      refine ⟨_, rfl, ?_⟩
      have els166 := els166.mono (up_le S144.size)
      have S161 := S144.join (l' := [.row 3 1 v163 n164 cs165]) r162 rfl
      refine FL.v (E.move (v := Value.tuple #[v163, Value.bool r157.2]) rfl) ?_
      refine FL.v (E.extract (i := 0) rfl rfl) ?_
      refine FL.v (E.extract (i := 1) rfl rfl) ?_
      refine FL.v (E.assign (v := v163) rfl) ?_
      refine FL.v (E.assign (v := Value.bool r157.2) rfl) ?_
      refine FL.nil (FW.seq (FW.region ?_))
      refine FL.v (E.move (v := Value.bool r157.2) rfl) ?_
      refine FL.v (E.move (v := Value.bool r157.2) rfl) ?_
      obtain ⟨t177, hqt177, hp⟩ := bnd hp
      refine FL.cut 5 (fun f w => ∃ H : GH, St Ha wa H w [.row 3 1 v163 n164 cs165] ∧ Inc H159 H ∧ f 104 = Value.bool t177) ?_ ?_
      ·
       clear hp; have hp := hqt177; clear hqt177
       rcases ifB hp with ⟨c183, hp⟩ | ⟨c183, hp⟩
       ·
        refine FL.val (wF_yes rfl rfl rfl c183) rfl rfl (E.move (v := v163) rfl) ?_
        refine FL.val (wF_yes rfl rfl rfl c183) rfl rfl (E.fieldAddr tf88_0 k152) ?_
        refine FL.val (wF_yes rfl rfl rfl c183) rfl rfl (E.load rfl (run_load1 Tryz.isAgg73 ((at49.mono (((r108.inc.tr r136.inc).tr i145).tr r162.run.inc)).now S161.sl) rfl)) ?_
        obtain ⟨H184, S185, i186, h187, nv188⟩ := S161.sealRowU (i := 0) (l' := []) rfl els166 (by decide) rfl
        obtain ⟨r189, hr190, hp⟩ := bnd hp
        refine FL.call (wF_yes rfl rfl rfl c183) rfl rfl (E.call Tryz.call230 (A2 rfl rfl)) (w_slices_Equal_int_int S185.sl v163 r157.1 (h187.mono upI) v37 x35.clause (h38.mono ((((((i27.tr i48).tr r108.inc).tr r136.inc).tr i145).tr r162.run.inc).tr i186)) hr190) ?_
        rintro e w191 ⟨rfl, r192⟩
        refine ⟨_, rfl, ?_⟩
        have r192 := Run.lend i186 S161.sl r192
        have S193 := S161.call r192
        obtain rfl := Option.some.inj hp
        refine FL.v (E.pickT rfl c183 rfl) ?_
        exact FL.nil ⟨rfl, _, S193, (Inc.rfl _), rfl⟩
       ·
        refine FL.skip (wF_no rfl rfl rfl c183) rfl ?_
        refine FL.skip (wF_no rfl rfl rfl c183) rfl ?_
        refine FL.skip (wF_no rfl rfl rfl c183) rfl ?_
        refine FL.skip (wF_no rfl rfl rfl c183) rfl ?_
        obtain rfl := Option.some.inj hp
        refine FL.v (E.pickF rfl c183 rfl) ?_
        exact FL.nil ⟨rfl, _, S161, (Inc.rfl _), rfl⟩
      rintro f182 w181 ⟨H178, S179, i180, k194⟩
      refine FL.v (E.assign k194) ?_
      refine FL.nil ?_
      refine FW.ret ?_
      obtain rfl := Option.some.inj hp
      exact ⟨.inr rfl, res1 rfl rfl ⟨rfl, S179.back⟩⟩

theorem w_impl_firstWrong {Ha : GH} {wa : World} (hs : Sl Ha wa) (a0 : Cnf) (v0_1 : Value) (p0_1 : RSl Ha (eL eI 1) 1 v0_1 a0.clauses) (v1 : Value) (a1 : List ResStep) (p1 : RSl Ha eResStep 4 v1 a1) {r : Int} (hp : (PF.impl_firstWrong a0 a1) = some r) :
  Calls Tryz.prog 121 #[Value.agg #[Value.int .i64 a0.vars, v0_1], v1] wa (Sc Ha wa (Value.int .i64 r)) := by
 unfold PF.impl_firstWrong at hp
 have S0 := St.init hs
 refine calls_go (N := 18) (args := [Value.agg #[Value.int .i64 a0.vars, v0_1], v1]) Tryz.func121 rfl rfl rfl ?_
 refine FW.seq (FW.region ?_)
 obtain ⟨b21, w22, run23, S24⟩ := S0.box (P := Tryz.prog) 32 [Value.int .i64 a0.vars, v0_1] (v := Value.agg #[Value.int .i64 a0.vars, v0_1]) rfl (ones_cons rfl (ones_cons p0_1.one ones_nil))
 refine FL.v (E.box rfl run23) ?_
 obtain ⟨H25, S26, i27, at28⟩ := S24.sealBox (i := 0) (l' := []) rfl rfl
 refine FL.v (E.assign (v := Value.int .i64 0) rfl) ?_
 refine FL.nil (FW.seq (FW.seq (FW.region ?_)))
 refine FL.v (E.move (v := v1) rfl) ?_
 refine FL.v (E.lenP te34 rfl p1) ?_
 refine FL.v (E.move (v := Value.int .i64 0) rfl) ?_
 refine FL.nil ?_
 obtain ⟨q30, hq, hp⟩ := bndR hp
 refine FW.block ?_
 refine FW.mono (FW.forL (S := Unit) (X := Int) (fun (i30 : Nat) (s30 : Unit) f w => ∃ H : GH, St Ha wa H w [] ∧ Inc H25 H ∧ f 8 = Value.int .i64 ((i30 : Nat) : Int) ∧ f 1 = v1 ∧ f 2 = Value.pointer (some ⟨b21, 0, none⟩) ∧ f 7 = Value.int .i64 (len a1)) (fun q e f w => match q with | .go s30 => e = Exit.exit 0 ∧ (∃ H : GH, St Ha wa H w [] ∧ Inc H25 H) | .rt x => ((e = Exit.ret) ∧ (fun e f w => (e = Exit.normal ∨ e = Exit.ret) ∧ ∀ a, Fr (δ := []) 18 a f → ∃ v, (results Tryz.f121 a.tmps).run Tryz.prog w = .ok v w ∧ (Sc Ha wa (Value.int .i64 x)) (.returned v) w) e f w)) hq ⟨_, S26, (Inc.rfl _), rfl, rfl, rfl, rfl⟩ ?_ ?_) ?_
 ·
  clear hp hq
  rintro i30 y29 s30 f50 w49 ⟨H46, S47, i48, k51, k52, k53, k54⟩ hx30 o61 hp
  refine FW.seq (FW.region ?_)
  refine FL.v (E.lssT k51 k54 (lss_len hx30)) ?_
  refine FL.nil (FW.seq ?_)
  refine FW.condT rfl rfl ?_
  refine FW.skip (FW.seq (FW.block (FW.seq (FW.region ?_))))
  refine FL.v (E.move k51) ?_
  refine FL.v (E.assign (v := Value.int .i64 ((i30 : Nat) : Int)) rfl) ?_
  refine FL.nil (FW.seq (FW.region ?_))
  refine FL.v (E.load k53 (run_loadA Tryz.isAgg32 Tryz.sizeOf32 ((at28.mono i48).now S47.sl) rfl)) ?_
  refine FL.v (E.move k52) ?_
  refine FL.v (E.move (v := Value.int .i64 ((i30 : Nat) : Int)) rfl) ?_
  obtain ⟨r55, hr56, hp⟩ := bnd hp
  refine FL.call rfl rfl rfl (E.call Tryz.call182 (A3 rfl rfl rfl)) (w_impl_correct S47.sl a0 v0_1 (p0_1.mono (i27.tr i48)) v1 a1 (p1.mono (i27.tr i48)) ((i30 : Nat) : Int) hr56) ?_
  rintro e w57 ⟨rfl, r58⟩
  refine ⟨_, rfl, ?_⟩
  have S59 := S47.call r58
  refine FL.v (E.not rfl) ?_
  refine FL.nil ?_
  rcases ifB hp with ⟨c60, hp⟩ | ⟨c60, hp⟩
  ·
   refine FW.condT rfl c60 ?_
   refine FW.seq (FW.region ?_)
   refine FL.v (E.move (v := Value.int .i64 ((i30 : Nat) : Int)) rfl) ?_
   refine FL.v (E.assign (v := Value.int .i64 ((i30 : Nat) : Int)) rfl) ?_
   refine FL.nil ?_
   refine FW.ret ?_
   obtain rfl := Option.some.inj hp
   exact ⟨nofun, rfl, ⟨.inr rfl, res1 rfl rfl ⟨rfl, S59.back⟩⟩⟩
  ·
   refine FW.condF rfl c60 ?_
   refine FW.skip (FW.region ?_)
   refine FL.v (E.add k51 rfl) ?_
   refine FL.v (E.move (v := Value.int .i64 (wr (((i30 : Nat) : Int) + 1))) rfl) ?_
   refine FL.nil ?_
   obtain rfl := Option.some.inj hp
   exact ⟨rfl, ⟨_, S59, i48, (nat_succ rfl (lt_of_get hx30) (p1.mono (i27.tr i48)).le), k52, k53, k54⟩⟩
 ·
  clear hp hq
  rintro s30 f71 w70 ⟨H67, S68, i69, k72, k73, k74, k75⟩
  refine FW.seq (FW.region ?_)
  refine FL.v (E.lss k72 k75) ?_
  refine FL.nil (FW.seq ?_)
  refine FW.condF rfl dlt_len ?_
  refine FW.exit ?_
  exact ⟨nofun, rfl, ⟨_, S68, i69⟩⟩
 ·
  clear hq
  intro e f66 w65 hD
  rcases q30 with s30 | x30
  ·
   obtain ⟨rfl, hD⟩ := hD
   obtain ⟨H62, S63, i64⟩ := hD
   replace hp := el_go hp
   refine FW.seq (FW.region ?_)
   refine FL.v (E.assign (v := Value.int .i64 (-1)) rfl) ?_
   refine FL.nil ?_
   refine FW.ret ?_
   obtain rfl := Option.some.inj hp
   exact ⟨.inr rfl, res1 rfl rfl ⟨rfl, S63.back⟩⟩
  ·
   obtain ⟨he, hL⟩ := hD
   replace hp := el_rt hp
   obtain rfl := Option.some.inj hp
   subst he
   exact hL

theorem w_impl_IsDerivation {Ha : GH} {wa : World} (hs : Sl Ha wa) (a0 : Cnf) (v0_1 : Value) (p0_1 : RSl Ha (eL eI 1) 1 v0_1 a0.clauses) (v1 : Value) (a1 : List ResStep) (p1 : RSl Ha eResStep 4 v1 a1) {r : Bool} (hp : (PF.impl_IsDerivation a0 a1) = some r) :
  Calls Tryz.prog 66 #[Value.agg #[Value.int .i64 a0.vars, v0_1], v1] wa (Sc Ha wa (Value.bool r)) := by
 unfold PF.impl_IsDerivation at hp
 have S0 := St.init hs
 refine calls_go (N := 18) (args := [Value.agg #[Value.int .i64 a0.vars, v0_1], v1]) Tryz.func66 rfl rfl rfl ?_
 refine FW.seq (FW.region ?_)
 obtain ⟨b21, w22, run23, S24⟩ := S0.box (P := Tryz.prog) 32 [Value.int .i64 a0.vars, v0_1] (v := Value.agg #[Value.int .i64 a0.vars, v0_1]) rfl (ones_cons rfl (ones_cons p0_1.one ones_nil))
 refine FL.v (E.box rfl run23) ?_
 obtain ⟨H25, S26, i27, at28⟩ := S24.sealBox (i := 0) (l' := []) rfl rfl
 refine FL.v (E.assign (v := Value.bool false) rfl) ?_
 refine FL.nil (FW.seq (FW.region ?_))
 refine FL.v (E.load rfl (run_loadA Tryz.isAgg32 Tryz.sizeOf32 (at28.now S26.sl) rfl)) ?_
 obtain ⟨r29, hr30, hp⟩ := bnd hp
 refine FL.call rfl rfl rfl (E.call Tryz.call120 (A1 rfl)) (w_impl_IsCnf S26.sl a0 v0_1 (p0_1.mono i27) hr30) ?_
 rintro e w31 ⟨rfl, r32⟩
 refine ⟨_, rfl, ?_⟩
 have S33 := S26.call r32
 refine FL.v (E.move (v := Value.bool r29) rfl) ?_
 refine FL.cut 4 (fun f w => ∃ H : GH, St Ha wa H w [] ∧ Inc H25 H ∧ f 1 = v1 ∧ f 2 = Value.pointer (some ⟨b21, 0, none⟩) ∧ f 11 = Value.bool (bif r29 then (decide ((len a1) ≤ 200)) else false)) ?_ ?_
 ·
  rcases bcase r29 with c40 | c40
  ·
   refine FL.val (wF_yes rfl rfl rfl c40) rfl rfl (E.move (v := v1) rfl) ?_
   refine FL.val (wF_yes rfl rfl rfl c40) rfl rfl (E.lenP te34 rfl p1) ?_
   refine FL.val (wF_yes rfl rfl rfl c40) rfl rfl (E.leq rfl rfl) ?_
   refine FL.v (E.pickT rfl c40 rfl) ?_
   exact FL.nil ⟨rfl, _, S33, (Inc.rfl _), rfl, rfl, (congrArg Value.bool (bifT c40).symm)⟩
  ·
   refine FL.skip (wF_no rfl rfl rfl c40) rfl ?_
   refine FL.skip (wF_no rfl rfl rfl c40) rfl ?_
   refine FL.skip (wF_no rfl rfl rfl c40) rfl ?_
   refine FL.v (E.pickF rfl c40 rfl) ?_
   exact FL.nil ⟨rfl, _, S33, (Inc.rfl _), rfl, rfl, (congrArg Value.bool (bifF c40).symm)⟩
 rintro f39 w38 ⟨H35, S36, i37, k41, k42, k43⟩
 refine FL.v (E.move k43) ?_
 obtain ⟨t49, hqt49, hp⟩ := bnd hp
 refine FL.cut 5 (fun f w => ∃ H : GH, St Ha wa H w [] ∧ Inc H35 H ∧ f 17 = Value.bool t49) ?_ ?_
 ·
  clear hp; have hp := hqt49; clear hqt49
  rcases ifB hp with ⟨c55, hp⟩ | ⟨c55, hp⟩
  ·
   refine FL.val (wF_yes rfl rfl rfl c55) rfl rfl (E.load k42 (run_loadA Tryz.isAgg32 Tryz.sizeOf32 ((at28.mono i37).now S36.sl) rfl)) ?_
   refine FL.val (wF_yes rfl rfl rfl c55) rfl rfl (E.move k41) ?_
   obtain ⟨r56, hr57, hp⟩ := bnd hp
   refine FL.call (wF_yes rfl rfl rfl c55) rfl rfl (E.call Tryz.call121 (A2 rfl rfl)) (w_impl_firstWrong S36.sl a0 v0_1 (p0_1.mono (i27.tr i37)) v1 a1 (p1.mono (i27.tr i37)) hr57) ?_
   rintro e w58 ⟨rfl, r59⟩
   refine ⟨_, rfl, ?_⟩
   have S60 := S36.call r59
   refine FL.val (wF_yes rfl rfl rfl c55) rfl rfl (E.lss rfl rfl) ?_
   obtain rfl := Option.some.inj hp
   refine FL.v (E.pickT rfl c55 rfl) ?_
   exact FL.nil ⟨rfl, _, S60, (Inc.rfl _), rfl⟩
  ·
   refine FL.skip (wF_no rfl rfl rfl c55) rfl ?_
   refine FL.skip (wF_no rfl rfl rfl c55) rfl ?_
   refine FL.skip (wF_no rfl rfl rfl c55) rfl ?_
   refine FL.skip (wF_no rfl rfl rfl c55) rfl ?_
   obtain rfl := Option.some.inj hp
   refine FL.v (E.pickF rfl c55 rfl) ?_
   exact FL.nil ⟨rfl, _, S36, (Inc.rfl _), rfl⟩
 rintro f54 w53 ⟨H50, S51, i52, k61⟩
 refine FL.v (E.assign k61) ?_
 refine FL.nil ?_
 refine FW.ret ?_
 obtain rfl := Option.some.inj hp
 exact ⟨.inr rfl, res1 rfl rfl ⟨rfl, S51.back⟩⟩

theorem w_impl_bitsOk {Ha : GH} {wa : World} (hs : Sl Ha wa) (a0 : Int) (a1 : Int) {r : Bool} (hp : (PF.impl_bitsOk a0 a1) = some r) :
  Calls Tryz.prog 161 #[Value.int .i64 a0, Value.int .i64 a1] wa (Sc Ha wa (Value.bool r)) := by
 unfold PF.impl_bitsOk at hp
 have S0 := St.init hs
 refine calls_go (N := 10) (args := [Value.int .i64 a0, Value.int .i64 a1]) Tryz.func161 rfl rfl rfl ?_
 refine FW.seq (FW.region ?_)
 refine FL.v (E.assign (v := Value.bool false) rfl) ?_
 refine FL.nil (FW.seq (FW.region ?_))
 refine FL.v (E.move (v := Value.int .i64 a1) rfl) ?_
 refine FL.v (E.move (v := Value.int .i64 a0) rfl) ?_
 obtain ⟨u22, z21, hp⟩ := bnd hp
 refine FL.v (E.shl rfl rfl (nn_ge z21)) ?_
 refine FL.v (E.sub rfl rfl) ?_
 refine FL.call rfl rfl rfl (E.call Tryz.call162 (A3 rfl rfl rfl)) (w_impl_within S0.sl a1 0 (wr ((shlK true 64 1 a0) - 1))) ?_
 rintro e w23 ⟨rfl, r24⟩
 refine ⟨_, rfl, ?_⟩
 have S25 := S0.call r24
 refine FL.v (E.assign (v := Value.bool (PF.impl_within a1 0 (wr ((shlK true 64 1 a0) - 1)))) rfl) ?_
 refine FL.nil ?_
 refine FW.ret ?_
 obtain rfl := Option.some.inj hp
 exact ⟨.inr rfl, res1 rfl rfl ⟨rfl, S25.back⟩⟩

theorem w_impl_ring_is {Ha : GH} {wa : World} (hs : Sl Ha wa) (a0 : ring) (v1 : Value) (a1 : List Term) (p1 : RSl Ha eTerm 2 v1 a1) {r : Bool} (hp : (PF.impl_ring_is a0 a1) = some r) :
  Calls Tryz.prog 98 #[Value.agg #[Value.int .i64 a0.p, Value.int .i64 a0.vars], v1] wa (Sc Ha wa (Value.bool r)) := by
 unfold PF.impl_ring_is at hp
 have S0 := St.init hs
 refine calls_go (N := 45) (args := [Value.agg #[Value.int .i64 a0.p, Value.int .i64 a0.vars], v1]) Tryz.func98 rfl rfl rfl ?_
 refine FW.seq (FW.region ?_)
 obtain ⟨b21, w22, run23, S24⟩ := S0.box (P := Tryz.prog) 102 [Value.int .i64 a0.p, Value.int .i64 a0.vars] (v := Value.agg #[Value.int .i64 a0.p, Value.int .i64 a0.vars]) rfl (ones_cons rfl (ones_cons rfl ones_nil))
 refine FL.v (E.box rfl run23) ?_
 obtain ⟨H25, S26, i27, at28⟩ := S24.sealBox (i := 0) (l' := []) rfl rfl
 refine FL.v (E.assign (v := Value.bool false) rfl) ?_
 refine FL.nil (FW.seq (FW.seq (FW.region ?_)))
 refine FL.v (E.move (v := v1) rfl) ?_
 refine FL.v (E.lenP te55 rfl p1) ?_
 refine FL.v (E.move (v := Value.int .i64 0) rfl) ?_
 refine FL.nil ?_
 obtain ⟨q30, hq, hp⟩ := bndR hp
 refine FW.block ?_
 refine FW.mono (FW.forL (S := Unit) (X := Bool) (fun (i30 : Nat) (s30 : Unit) f w => ∃ H : GH, St Ha wa H w [] ∧ Inc H25 H ∧ f 9 = Value.int .i64 ((i30 : Nat) : Int) ∧ f 1 = v1 ∧ f 2 = Value.pointer (some ⟨b21, 0, none⟩) ∧ f 7 = v1 ∧ f 8 = Value.int .i64 (len a1)) (fun q e f w => match q with | .go s30 => e = Exit.exit 0 ∧ (∃ H : GH, St Ha wa H w [] ∧ Inc H25 H) | .rt x => ((e = Exit.ret) ∧ (fun e f w => (e = Exit.normal ∨ e = Exit.ret) ∧ ∀ a, Fr (δ := []) 45 a f → ∃ v, (results Tryz.f98 a.tmps).run Tryz.prog w = .ok v w ∧ (Sc Ha wa (Value.bool x)) (.returned v) w) e f w)) hq ⟨_, S26, (Inc.rfl _), rfl, rfl, rfl, rfl, rfl⟩ ?_ ?_) ?_
 ·
  clear hp hq
  rintro i30 y29 s30 f157 w156 ⟨H153, S154, i155, k158, k159, k160, k161, k162⟩ hx30 o275 hp
  refine FW.seq (FW.region ?_)
  refine FL.v (E.lssT k158 k162 (lss_len hx30)) ?_
  refine FL.nil (FW.seq ?_)
  refine FW.condT rfl rfl ?_
  refine FW.skip (FW.seq (FW.block (FW.seq (FW.region ?_))))
  refine FL.v (E.move k158) ?_
  obtain ⟨p163, cs164, pt165, l166, at167, rel168⟩ := p1.at (ix_nat hx30)
  obtain rfl := eTerm_open rel168
  refine FL.v (E.indexAddr te55 k161 k158 pt165) ?_
  refine FL.v (E.load rfl (run_loadA Tryz.isAgg108 Tryz.sizeOf108 ((at167.mono (i27.tr i155)).now S154.sl) rfl)) ?_
  obtain ⟨b169, w170, run171, S172⟩ := S154.alloc (P := Tryz.prog) 108 [Value.int .i64 0, Value.int .i64 0] Tryz.zeroValue108 rfl (ones_cons rfl (ones_cons rfl ones_nil))
  refine FL.v (E.alloc run171) ?_
  refine FL.v (E.assign (v := Value.int .i64 ((i30 : Nat) : Int)) rfl) ?_
  obtain ⟨w173, run174, S175⟩ := S172.store0 (P := Tryz.prog) (t := 108) (i := 0) (cs' := [Value.int .i64 y29.mono, Value.int .i64 y29.coeff]) (l' := [.box b169 108 [Value.int .i64 y29.mono, Value.int .i64 y29.coeff]]) (v := Value.agg #[Value.int .i64 y29.mono, Value.int .i64 y29.coeff]) (c := [Value.int .i64 y29.mono, Value.int .i64 y29.coeff]) rfl Tryz.sizeOf108 rfl rfl (ones_cons rfl (ones_cons rfl ones_nil)) (Nat.le_of_ble_eq_true rfl) rfl rfl
  refine FL.act rfl rfl (E.store rfl rfl run174) ?_
  obtain ⟨H176, S177, i178, at179⟩ := S175.sealBox (i := 0) (l' := []) rfl rfl
  refine FL.nil (FW.seq ?_)
  refine FW.draw (fun w' => Run w173.heap.size H176 w173 H176 w') (by kernel_rfl) (by kernel_rfl) (run_drew S177.sl) ?_
  refine FD.val rfl rfl rfl (fun w' hw' => (E.fieldAddr tf102_1 k160)) ?_
  refine FD.val rfl rfl rfl (fun w' hw' => (E.load rfl (run_load1 Tryz.isAgg3 ((at28.mono (i155.tr i178)).now (S177.call hw').sl) rfl))) ?_
  refine FD.val rfl rfl rfl (fun w' hw' => (E.fieldAddr tf108_0 rfl)) ?_
  refine FD.val rfl rfl rfl (fun w' hw' => (E.load rfl (run_load1 Tryz.isAgg3 (at179.now (S177.call hw').sl) rfl))) ?_
  obtain ⟨r181, hr182, hp⟩ := bnd hp
  refine FD.call rfl rfl rfl (fun w' hw' => (E.call Tryz.call161 (A2 rfl rfl))) (fun w' hw' => Calls.cls hw' (w_impl_bitsOk (S177.call hw').sl a0.vars y29.mono hr182)) ?_
  refine FD.val rfl rfl rfl (fun w' hw' => (E.not rfl)) ?_
  refine FD.val rfl rfl rfl (fun w' hw' => (E.move (v := Value.bool (!r181)) rfl)) ?_
  refine FD.cut 8 (fun f => f 1 = v1 ∧ f 2 = Value.pointer (some ⟨b21, 0, none⟩) ∧ f 5 = Value.int .i64 ((i30 : Nat) : Int) ∧ f 6 = Value.pointer (some ⟨b169, 0, none⟩) ∧ f 7 = v1 ∧ f 8 = Value.int .i64 (len a1) ∧ f 9 = Value.int .i64 ((i30 : Nat) : Int) ∧ f 28 = Value.bool (bif (!r181) then true else (!(PF.impl_within y29.coeff 1 (wr (a0.p - 1)))))) ?_ ?_
  ·
   rcases bcase (!r181) with c189 | c189
   ·
    refine FD.skip (wF_no rfl rfl rfl c189) rfl ?_
    refine FD.skip (wF_no rfl rfl rfl c189) rfl ?_
    refine FD.skip (wF_no rfl rfl rfl c189) rfl ?_
    refine FD.skip (wF_no rfl rfl rfl c189) rfl ?_
    refine FD.skip (wF_no rfl rfl rfl c189) rfl ?_
    refine FD.skip (wF_no rfl rfl rfl c189) rfl ?_
    refine FD.skip (wF_no rfl rfl rfl c189) rfl ?_
    refine FD.val rfl rfl rfl (fun w' hw' => (E.pickT rfl c189 rfl)) ?_
    exact FD.nil ⟨k159, k160, rfl, rfl, k161, k162, k158, (congrArg Value.bool (bifT c189).symm)⟩
   ·
    refine FD.val (wF_yes rfl rfl rfl c189) rfl rfl (fun w' hw' => (E.fieldAddr tf108_1 rfl)) ?_
    refine FD.val (wF_yes rfl rfl rfl c189) rfl rfl (fun w' hw' => (E.load rfl (run_load1 Tryz.isAgg3 (at179.now (S177.call hw').sl) rfl))) ?_
    refine FD.val (wF_yes rfl rfl rfl c189) rfl rfl (fun w' hw' => (E.fieldAddr tf102_0 k160)) ?_
    refine FD.val (wF_yes rfl rfl rfl c189) rfl rfl (fun w' hw' => (E.load rfl (run_load1 Tryz.isAgg3 ((at28.mono (i155.tr i178)).now (S177.call hw').sl) rfl))) ?_
    refine FD.val (wF_yes rfl rfl rfl c189) rfl rfl (fun w' hw' => (E.sub rfl rfl)) ?_
    refine FD.call (wF_yes rfl rfl rfl c189) rfl rfl (fun w' hw' => (E.call Tryz.call162 (A3 rfl rfl rfl))) (fun w' hw' => Calls.cls hw' (w_impl_within (S177.call hw').sl y29.coeff 1 (wr (a0.p - 1)))) ?_
    refine FD.val (wF_yes rfl rfl rfl c189) rfl rfl (fun w' hw' => (E.not rfl)) ?_
    refine FD.val rfl rfl rfl (fun w' hw' => (E.pickF rfl c189 rfl)) ?_
    exact FD.nil ⟨k159, k160, rfl, rfl, k161, k162, k158, (congrArg Value.bool (bifF c189).symm)⟩
  rintro f188 ⟨k190, k191, k192, k193, k194, k195, k196, k197⟩
  refine FD.val rfl rfl rfl (fun w' hw' => (E.move k197)) ?_
  obtain ⟨t228, hqt228, hp⟩ := bnd hp
  refine FD.cut 14 (fun f => f 1 = v1 ∧ f 2 = Value.pointer (some ⟨b21, 0, none⟩) ∧ f 7 = v1 ∧ f 8 = Value.int .i64 (len a1) ∧ f 9 = Value.int .i64 ((i30 : Nat) : Int) ∧ f 43 = Value.bool t228) ?_ ?_
  ·
   clear hp; have hp := hqt228; clear hqt228
   rcases ifB hp with ⟨c234, hp⟩ | ⟨c234, hp⟩
   ·
    refine FD.skip (wF_no rfl rfl rfl c234) rfl ?_
    refine FD.skip (wF_no rfl rfl rfl c234) rfl ?_
    refine FD.skip (wF_no rfl rfl rfl c234) rfl ?_
    refine FD.skip (wF_undef rfl rfl rfl) rfl ?_
    refine FD.skip (wF_undef rfl rfl rfl) rfl ?_
    refine FD.skip (wF_undef rfl rfl rfl) rfl ?_
    refine FD.skip (wF_undef rfl rfl rfl) rfl ?_
    refine FD.skip (wF_undef rfl rfl rfl) rfl ?_
    refine FD.skip (wF_undef rfl rfl rfl) rfl ?_
    refine FD.skip (wF_undef rfl rfl rfl) rfl ?_
    refine FD.skip (wF_undef rfl rfl rfl) rfl ?_
    refine FD.skip (wF_undef rfl rfl rfl) rfl ?_
    refine FD.skip (wF_no rfl rfl rfl c234) rfl ?_
    obtain rfl := Option.some.inj hp
    refine FD.val rfl rfl rfl (fun w' hw' => (E.pickT rfl c234 rfl)) ?_
    exact FD.nil ⟨k190, k191, k194, k195, k196, rfl⟩
   ·
    refine FD.val (wF_yes rfl rfl rfl c234) rfl rfl (fun w' hw' => (E.move k192)) ?_
    refine FD.val (wF_yes rfl rfl rfl c234) rfl rfl (fun w' hw' => (E.gtr rfl rfl)) ?_
    refine FD.val (wF_yes rfl rfl rfl c234) rfl rfl (fun w' hw' => (E.move (v := Value.bool (decide (0 < ((i30 : Nat) : Int)))) rfl)) ?_
    obtain ⟨t243, hqt243, hp⟩ := bnd hp
    refine FD.cut 10 (fun f => f 1 = v1 ∧ f 2 = Value.pointer (some ⟨b21, 0, none⟩) ∧ f 7 = v1 ∧ f 8 = Value.int .i64 (len a1) ∧ f 9 = Value.int .i64 ((i30 : Nat) : Int) ∧ f 29 = Value.bool (bif (!r181) then true else (!(PF.impl_within y29.coeff 1 (wr (a0.p - 1))))) ∧ f 42 = Value.bool t243) ?_ ?_
    ·
     clear hp; have hp := hqt243; clear hqt243
     rcases ifB hp with ⟨c249, hp⟩ | ⟨c249, hp⟩
     ·
      refine FD.val (wF_yes rfl rfl rfl c249) rfl rfl (fun w' hw' => (E.fieldAddr tf108_0 k193)) ?_
      refine FD.val (wF_yes rfl rfl rfl c249) rfl rfl (fun w' hw' => (E.load rfl (run_load1 Tryz.isAgg3 (at179.now (S177.call hw').sl) rfl))) ?_
      refine FD.val (wF_yes rfl rfl rfl c249) rfl rfl (fun w' hw' => (E.move k190)) ?_
      refine FD.val (wF_yes rfl rfl rfl c249) rfl rfl (fun w' hw' => (E.move k192)) ?_
      refine FD.val (wF_yes rfl rfl rfl c249) rfl rfl (fun w' hw' => (E.sub rfl rfl)) ?_
      obtain ⟨x256, hx257, hp⟩ := bnd hp
      obtain ⟨p250, cs251, pt252, l253, at254, rel255⟩ := p1.at hx257
      obtain rfl := eTerm_open rel255
      refine FD.val (wF_yes rfl rfl rfl c249) rfl rfl (fun w' hw' => (E.indexAddr te55 rfl rfl pt252)) ?_
      refine FD.val (wF_yes rfl rfl rfl c249) rfl rfl (fun w' hw' => (E.fieldAddr tf108_0 rfl)) ?_
      refine FD.val (wF_yes rfl rfl rfl c249) rfl rfl (fun w' hw' => (E.load rfl (run_load1 Tryz.isAgg3 ((at254.mono ((i27.tr i155).tr i178)).now (S177.call hw').sl) rfl))) ?_
      refine FD.val (wF_yes rfl rfl rfl c249) rfl rfl (fun w' hw' => (E.leq rfl rfl)) ?_
      obtain rfl := Option.some.inj hp
      refine FD.val (wF_yes rfl rfl rfl c234) rfl rfl (fun w' hw' => (E.pickT rfl c249 rfl)) ?_
      exact FD.nil ⟨k190, k191, k194, k195, k196, rfl, rfl⟩
     ·
      refine FD.skip (wF_no rfl rfl rfl c249) rfl ?_
      refine FD.skip (wF_no rfl rfl rfl c249) rfl ?_
      refine FD.skip (wF_no rfl rfl rfl c249) rfl ?_
      refine FD.skip (wF_no rfl rfl rfl c249) rfl ?_
      refine FD.skip (wF_no rfl rfl rfl c249) rfl ?_
      refine FD.skip (wF_no rfl rfl rfl c249) rfl ?_
      refine FD.skip (wF_no rfl rfl rfl c249) rfl ?_
      refine FD.skip (wF_no rfl rfl rfl c249) rfl ?_
      refine FD.skip (wF_no rfl rfl rfl c249) rfl ?_
      obtain rfl := Option.some.inj hp
      refine FD.val (wF_yes rfl rfl rfl c234) rfl rfl (fun w' hw' => (E.pickF rfl c249 rfl)) ?_
      exact FD.nil ⟨k190, k191, k194, k195, k196, rfl, rfl⟩
    rintro f248 ⟨k258, k259, k260, k261, k262, k263, k264⟩
    obtain rfl := Option.some.inj hp
    refine FD.val rfl rfl rfl (fun w' hw' => (E.pickF k263 c234 k264)) ?_
    exact FD.nil ⟨k258, k259, k260, k261, k262, rfl⟩
  rintro f233 ⟨k265, k266, k267, k268, k269, k270⟩
  refine FD.nil ?_
  intro w271 r273
  have S272 := S177.call r273
  rcases ifB hp with ⟨c274, hp⟩ | ⟨c274, hp⟩
  ·
   refine FW.condT k270 c274 ?_
   refine FW.seq (FW.region ?_)
   refine FL.v (E.assign (v := Value.bool false) rfl) ?_
   refine FL.nil ?_
   refine FW.ret ?_
   obtain rfl := Option.some.inj hp
   exact ⟨nofun, rfl, ⟨.inr rfl, res1 rfl rfl ⟨rfl, S272.back⟩⟩⟩
  ·
   refine FW.condF k270 c274 ?_
   refine FW.skip (FW.region ?_)
   refine FL.v (E.add k269 rfl) ?_
   refine FL.v (E.move (v := Value.int .i64 (wr (((i30 : Nat) : Int) + 1))) rfl) ?_
   refine FL.nil ?_
   obtain rfl := Option.some.inj hp
   exact ⟨rfl, ⟨_, S272, (i155.tr i178), (nat_succ rfl (lt_of_get hx30) (p1.mono ((i27.tr i155).tr i178)).le), k265, k266, k267, k268⟩⟩
 ·
  clear hp hq
  rintro s30 f285 w284 ⟨H281, S282, i283, k286, k287, k288, k289, k290⟩
  refine FW.seq (FW.region ?_)
  refine FL.v (E.lss k286 k290) ?_
  refine FL.nil (FW.seq ?_)
  refine FW.condF rfl dlt_len ?_
  refine FW.exit ?_
  exact ⟨nofun, rfl, ⟨_, S282, i283⟩⟩
 ·
  clear hq
  intro e f280 w279 hD
  rcases q30 with s30 | x30
  ·
   obtain ⟨rfl, hD⟩ := hD
   obtain ⟨H276, S277, i278⟩ := hD
   replace hp := el_go hp
   refine FW.seq (FW.region ?_)
   refine FL.v (E.assign (v := Value.bool true) rfl) ?_
   refine FL.nil ?_
   refine FW.ret ?_
   obtain rfl := Option.some.inj hp
   exact ⟨.inr rfl, res1 rfl rfl ⟨rfl, S277.back⟩⟩
  ·
   obtain ⟨he, hL⟩ := hD
   replace hp := el_rt hp
   obtain rfl := Option.some.inj hp
   subst he
   exact hL

@[reducible] def p_impl_ring_dense (Ha : GH) (wa : World) (r : (List Int)) : Ending → World → Prop :=
  fun e w' => ∃ H' : GH, ∃ v0 : Value, ∃ n0 : Nat, ∃ c0 : List Value, e = .returned (v0) ∧ St Ha wa H' w' [.row 3 1 v0 n0 c0] ∧ Els (up wa.heap.size H') eI 1 c0 r
theorem w_impl_ring_dense {Ha : GH} {wa : World} (hs : Sl Ha wa) (a0 : ring) (v1 : Value) (a1 : List Term) (p1 : RSl Ha eTerm 2 v1 a1) {r : (List Int)} (hp : (PF.impl_ring_dense a0 a1) = some r) :
    Calls Tryz.prog 100 #[Value.agg #[Value.int .i64 a0.p, Value.int .i64 a0.vars], v1] wa (p_impl_ring_dense Ha wa r) := by
  unfold PF.impl_ring_dense at hp
  have S0 := St.init hs
  refine calls_go (N := 33) (args := [Value.agg #[Value.int .i64 a0.p, Value.int .i64 a0.vars], v1]) Tryz.func100 rfl rfl rfl ?_
  refine FW.seq (FW.region ?_)
  obtain ⟨b21, w22, run23, S24⟩ := S0.box (P := Tryz.prog) 102 [Value.int .i64 a0.p, Value.int .i64 a0.vars] (v := Value.agg #[Value.int .i64 a0.p, Value.int .i64 a0.vars]) rfl (ones_cons rfl (ones_cons rfl ones_nil))
  refine FL.v (E.box rfl run23) ?_
  obtain ⟨H25, S26, i27, at28⟩ := S24.sealBox (i := 0) (l' := []) rfl rfl
  refine FL.v (E.assign (v := Value.slice none 0 0) rfl) ?_
  refine FL.nil (FW.seq (FW.region ?_))
  refine FL.v (E.load rfl (run_loadA Tryz.isAgg102 Tryz.sizeOf102 (at28.now S26.sl) rfl)) ?_
  obtain ⟨r29, hr30, hp⟩ := bnd hp
  refine FL.call rfl rfl rfl (E.call Tryz.call165 (A1 rfl)) (w_impl_ring_zero S26.sl a0 hr30) ?_
  rintro e w32 ⟨H31, v35, n36, cs37, rfl, r34, els38⟩
  refine ⟨_, rfl, ?_⟩
  have els38 := els38.mono (up_le S26.size)
  have S33 := S26.join (l' := [.row 3 1 v35 n36 cs37]) r34 rfl
  refine FL.v (E.assign (v := v35) rfl) ?_
  refine FL.nil (FW.seq (FW.seq (FW.region ?_)))
  refine FL.v (E.move (v := v1) rfl) ?_
  refine FL.v (E.lenP te55 rfl p1) ?_
  refine FL.v (E.move (v := Value.int .i64 0) rfl) ?_
  refine FL.nil ?_
  obtain ⟨q40, hq, hp⟩ := bndR hp
  refine FW.block ?_
  refine FW.mono (FW.forL (S := (List Int)) (X := Empty) (fun (i40 : Nat) (s40 : (List Int)) f w => ∃ H : GH, ∃ v41 : Value, ∃ n42 : Nat, ∃ cs43 : List Value, St Ha wa H w [.row 3 1 v41 n42 cs43] ∧ Inc H31 H ∧ Els (up wa.heap.size H) eI 1 cs43 s40 ∧ f 12 = Value.int .i64 ((i40 : Nat) : Int) ∧ f 2 = Value.pointer (some ⟨b21, 0, none⟩) ∧ f 5 = v41 ∧ f 10 = v1 ∧ f 11 = Value.int .i64 (len a1)) (fun (q : Rs (List Int) Empty) e f w => match q with | .go s40 => e = Exit.exit 0 ∧ (∃ H : GH, ∃ v41 : Value, ∃ n42 : Nat, ∃ cs43 : List Value, St Ha wa H w [.row 3 1 v41 n42 cs43] ∧ Inc H31 H ∧ Els (up wa.heap.size H) eI 1 cs43 s40 ∧ f 5 = v41) | .rt x => x.elim) hq ⟨_, _, _, _, S33, (Inc.rfl _), els38, rfl, rfl, rfl, rfl, rfl⟩ ?_ ?_) ?_
  ·
    clear hp hq
    rintro i40 y39 s40 f49 w48 ⟨H45, v41, n42, cs43, S46, i47, els44, k50, k51, k52, k53, k54⟩ hx40 o121 hp
    refine FW.seq (FW.region ?_)
    refine FL.v (E.lssT k50 k54 (lss_len hx40)) ?_
    refine FL.nil (FW.seq ?_)
    refine FW.condT rfl rfl ?_
    refine FW.skip (FW.seq (FW.block (FW.seq (FW.region ?_))))
    obtain ⟨p56, cs57, pt58, l59, at60, rel61⟩ := p1.at (ix_nat hx40)
    obtain rfl := eTerm_open rel61
    refine FL.v (E.indexAddr te55 k53 k50 pt58) ?_
    refine FL.v (E.load rfl (run_loadA Tryz.isAgg108 Tryz.sizeOf108 ((at60.mono ((i27.tr r34.run.inc).tr i47)).now S46.sl) rfl)) ?_
    obtain ⟨b62, w63, run64, S65⟩ := S46.alloc (P := Tryz.prog) 108 [Value.int .i64 0, Value.int .i64 0] Tryz.zeroValue108 rfl (ones_cons rfl (ones_cons rfl ones_nil))
    refine FL.v (E.alloc run64) ?_
    obtain ⟨w66, run67, S68⟩ := S65.store0 (P := Tryz.prog) (t := 108) (i := 0) (cs' := [Value.int .i64 y39.mono, Value.int .i64 y39.coeff]) (l' := [.box b62 108 [Value.int .i64 y39.mono, Value.int .i64 y39.coeff], .row 3 1 v41 n42 cs43]) (v := Value.agg #[Value.int .i64 y39.mono, Value.int .i64 y39.coeff]) (c := [Value.int .i64 y39.mono, Value.int .i64 y39.coeff]) rfl Tryz.sizeOf108 rfl rfl (ones_cons rfl (ones_cons rfl ones_nil)) (Nat.le_of_ble_eq_true rfl) rfl rfl
    refine FL.act rfl rfl (E.store rfl rfl run67) ?_
    obtain ⟨H69, S70, i71, at72⟩ := S68.sealBox (i := 0) (l' := [.row 3 1 v41 n42 cs43]) rfl rfl
    refine FL.nil ?_
    obtain ⟨x82, hx83, hp⟩ := bnd hp
    obtain ⟨u86, z85, hp⟩ := bnd hp
    obtain ⟨x93, hx94, hp⟩ := bnd hp
    obtain ⟨xs100, hput101, hp⟩ := bnd hp
    refine FW.drawB (Sl H69) (fun f w => ∃ H : GH, ∃ v106 : Value, ∃ n107 : Nat, ∃ cs109 : List Value, St Ha wa H w [.row 3 1 v106 n107 cs109] ∧ Inc H69 H ∧ Els (up wa.heap.size H) eI 1 cs109 xs100 ∧ f 2 = Value.pointer (some ⟨b21, 0, none⟩) ∧ f 5 = v106 ∧ f 10 = v1 ∧ f 11 = Value.int .i64 (len a1) ∧ f 12 = Value.int .i64 ((i40 : Nat) : Int)) (by kernel_rfl) S70.sl ?_ ?_
    ·
      intro w73 r74
      have S75 := S70.call r74
      refine FB.t (i := 0) (bs 16 1) rfl (SP.nil S75.sl) rfl (fun w' hw' => (E.move k52)) ?_
      refine FB.t (i := 1) (bs 16 3) rfl (SP.nil S75.sl) rfl (fun w' hw' => (E.fieldAddr tf108_0 rfl)) ?_
      refine FB.t (i := 2) (bs 16 7) rfl (SP.nil S75.sl) rfl (fun w' hw' => (E.load rfl (run_load1 Tryz.isAgg3 (at72.now hw') rfl))) ?_
      refine FB.t (i := 3) (bs 16 15) rfl (SP.nil S75.sl) rfl (fun w' hw' => (E.move k52)) ?_
      refine FB.t (i := 4) (bs 16 31) rfl (SP.nil S75.sl) rfl (fun w' hw' => (E.fieldAddr tf108_0 rfl)) ?_
      refine FB.t (i := 5) (bs 16 63) rfl (SP.nil S75.sl) rfl (fun w' hw' => (E.load rfl (run_load1 Tryz.isAgg3 (at72.now hw') rfl))) ?_
      obtain ⟨p76, cs77, pt78, l79, at80, rel81, hall84⟩ := S75.row_atA (i := 0) rfl els44 (by decide) hx83
      obtain rfl := eI_open rel81
      refine FB.t (i := 6) (bs 16 127) rfl (SP.nil S75.sl) rfl (fun w' hw' => (E.indexAddr te99 rfl rfl pt78)) ?_
      refine FB.phase [15] (fun w' => WAt w' p76 [Value.int .i64 x82]) ?_
      refine FB.p (i := 7) (bs 16 255) 0 [10, 13, 14, 15] rfl (SP.on (hall84 _ _ _ 0 S75 rfl) (SP.nil S75.sl)) rfl rfl (fun w' hw' => (E.load rfl (run_load0 Tryz.isAgg3 hw' rfl))) ?_
      refine FB.t (i := 8) (bs 16 511) rfl (SP.on (hall84 _ _ _ 0 S75 rfl) (SP.nil S75.sl)) rfl (fun w' hw' => (E.fieldAddr tf108_1 rfl)) ?_
      refine FB.t (i := 9) (bs 16 1023) rfl (SP.on (hall84 _ _ _ 0 S75 rfl) (SP.nil S75.sl)) rfl (fun w' hw' => (E.load rfl (run_load1 Tryz.isAgg3 (at72.now hw') rfl))) ?_
      refine FB.t (i := 10) (bs 16 2047) rfl (SP.on (hall84 _ _ _ 0 S75 rfl) (SP.nil S75.sl)) rfl (fun w' hw' => (E.add rfl rfl)) ?_
      refine FB.t (i := 11) (bs 16 4095) rfl (SP.on (hall84 _ _ _ 0 S75 rfl) (SP.nil S75.sl)) rfl (fun w' hw' => (E.fieldAddr tf102_0 k51)) ?_
      refine FB.t (i := 12) (bs 16 8191) rfl (SP.on (hall84 _ _ _ 0 S75 rfl) (SP.nil S75.sl)) rfl (fun w' hw' => (E.load rfl (run_load1 Tryz.isAgg3 ((at28.mono ((r34.run.inc.tr i47).tr i71)).now hw') rfl))) ?_
      refine FB.t (i := 13) (bs 16 16383) rfl (SP.on (hall84 _ _ _ 0 S75 rfl) (SP.nil S75.sl)) rfl (fun w' hw' => (E.rem rfl rfl (nz_ne z85))) ?_
      obtain ⟨p87, cs88, pt89, l90, at91, rel92, hall95⟩ := S75.row_atA (i := 0) rfl els44 (by decide) hx94
      obtain rfl := eI_open rel92
      refine FB.t (i := 14) (bs 16 32767) rfl (SP.on (hall84 _ _ _ 0 S75 rfl) (SP.nil S75.sl)) rfl (fun w' hw' => (E.indexAddr te99 rfl rfl pt89)) ?_
      refine FB.all1 (i := 15) (by kernel_rfl) ?_
      ·
        obtain ⟨w96, cs104, run97, S98, els103, ce105⟩ := S75.putEls (P := Tryz.prog) (t := 3) (i := 0) rfl (els44.mono (up_mono i71)) hput101 pt89 Tryz.sizeOf3 (u := Value.int .i64 ((wr (x82 + y39.coeff)).tmod a0.p)) (c := [Value.int .i64 ((wr (x82 + y39.coeff)).tmod a0.p)]) rfl rfl (ones_cons rfl ones_nil) rfl
        have S98 : St Ha wa H69 w96 [.row 3 1 v41 n42 cs104] := S98
        refine FC.act (l' := (bs 16 65535)) rfl (by kernel_rfl) rfl rfl (E.store rfl rfl run97) ?_
        refine ⟨(SP.o (SP.nil S98.sl)), ?_⟩
        exact FB.done (by kernel_rfl) ⟨_, _, _, _, S98, (Inc.rfl _), els103, k51, k52, k53, k54, k50⟩
    ·
      rintro f115 w114 ⟨H111, v106, n107, cs109, S112, i113, els110, k116, k117, k118, k119, k120⟩
      refine FW.region ?_
      refine FL.v (E.add k120 rfl) ?_
      refine FL.v (E.move (v := Value.int .i64 (wr (((i40 : Nat) : Int) + 1))) rfl) ?_
      refine FL.nil ?_
      obtain rfl := Option.some.inj hp
      exact ⟨rfl, ⟨_, _, _, _, S112, ((i47.tr i71).tr i113), els110, (nat_succ rfl (lt_of_get hx40) (p1.mono ((((i27.tr r34.run.inc).tr i47).tr i71).tr i113)).le), k116, k117, k118, k119⟩⟩
  ·
    clear hp hq
    rintro s40 f132 w131 ⟨H128, v41, n42, cs43, S129, i130, els44, k133, k134, k135, k136, k137⟩
    refine FW.seq (FW.region ?_)
    refine FL.v (E.lss k133 k137) ?_
    refine FL.nil (FW.seq ?_)
    refine FW.condF rfl dlt_len ?_
    refine FW.exit ?_
    exact ⟨nofun, rfl, ⟨_, _, _, _, S129, i130, els44, k135⟩⟩
  ·
    clear hq
    intro e f126 w125 hD
    rcases q40 with s40 | x40
    ·
      obtain ⟨rfl, hD⟩ := hD
      obtain ⟨H122, v41, n42, cs43, S123, i124, els44, k127⟩ := hD
      replace hp := el_go hp
      refine FW.seq (FW.region ?_)
      refine FL.v (E.move k127) ?_
      refine FL.v (E.assign (v := v41) rfl) ?_
      refine FL.nil ?_
      refine FW.ret ?_
      obtain rfl := Option.some.inj hp
      exact ⟨.inr rfl, res1 rfl rfl ⟨_, _, _, _, rfl, S123, els44⟩⟩
    · exact x40.elim

@[reducible] def p_impl_algebra_polyBefore (Ha : GH) (wa : World) (r : ((List Int) × Bool)) : Ending → World → Prop :=
 fun e w' => ∃ H' : GH, ∃ v0 : Value, ∃ n0 : Nat, ∃ c0 : List Value, e = .returned (Value.tuple #[v0, Value.bool r.2]) ∧ St Ha wa H' w' [.row 3 1 v0 n0 c0] ∧ Els (up wa.heap.size H') eI 1 c0 r.1
theorem w_impl_algebra_polyBefore {Ha : GH} {wa : World} (hs : Sl Ha wa) (q0P : Addr) (a0 : algebra) (v0P_3 : Value) (v0P_4 : Value) (p0P_3 : RSl Ha (eL eI 1) 1 v0P_3 a0.f.clauses) (p0P_4 : RSl Ha (eL eI 1) 1 v0P_4 a0.q) (c0P : CAt Ha q0P [Value.int .i64 a0.ring.p, Value.int .i64 a0.ring.vars, Value.int .i64 a0.f.vars, v0P_3, v0P_4]) (v1 : Value) (a1 : List PcStep) (p1 : RSl Ha ePcStep 6 v1 a1) (a2 : Int) (a3 : Int) {r : ((List Int) × Bool)} (hp : (PF.impl_algebra_polyBefore a0 a1 a2 a3) = some r) :
  Calls Tryz.prog 259 #[Value.pointer (some q0P), v1, Value.int .i64 a2, Value.int .i64 a3] wa (p_impl_algebra_polyBefore Ha wa r) := by
 unfold PF.impl_algebra_polyBefore at hp
 have S0 := St.init hs
 refine calls_go (N := 38) (args := [Value.pointer (some q0P), v1, Value.int .i64 a2, Value.int .i64 a3]) Tryz.func259 rfl rfl rfl ?_
 refine FW.seq (FW.region ?_)
 refine FL.v (E.assign (v := Value.slice none 0 0) rfl) ?_
 refine FL.v (E.assign (v := Value.bool false) rfl) ?_
 refine FL.nil (FW.seq (FW.seq ?_))
 refine FW.draw (fun w' => Run wa.heap.size Ha wa Ha w') (by kernel_rfl) (by kernel_rfl) (run_drew S0.sl) ?_
 refine FD.val rfl rfl rfl (fun w' hw' => (E.move (v := Value.int .i64 a3) rfl)) ?_
 refine FD.val rfl rfl rfl (fun w' hw' => (E.move (v := Value.int .i64 a2) rfl)) ?_
 refine FD.val rfl rfl rfl (fun w' hw' => (E.sub rfl rfl)) ?_
 refine FD.call rfl rfl rfl (fun w' hw' => (E.call Tryz.call162 (A3 rfl rfl rfl))) (fun w' hw' => Calls.cls hw' (w_impl_within (S0.call hw').sl a3 0 (wr (a2 - 1)))) ?_
 refine FD.val rfl rfl rfl (fun w' hw' => (E.not rfl)) ?_
 refine FD.val rfl rfl rfl (fun w' hw' => (E.move (v := Value.bool (!(PF.impl_within a3 0 (wr (a2 - 1))))) rfl)) ?_
 obtain ⟨t34, hqt34, hp⟩ := bnd hp
 refine FD.cut 12 (fun f => f 0 = Value.pointer (some q0P) ∧ f 1 = v1 ∧ f 3 = Value.int .i64 a3 ∧ f 27 = Value.bool t34) ?_ ?_
 ·
  clear hp; have hp := hqt34; clear hqt34
  rcases ifB hp with ⟨c40, hp⟩ | ⟨c40, hp⟩
  ·
   refine FD.skip (wF_no rfl rfl rfl c40) rfl ?_
   refine FD.skip (wF_no rfl rfl rfl c40) rfl ?_
   refine FD.skip (wF_no rfl rfl rfl c40) rfl ?_
   refine FD.skip (wF_no rfl rfl rfl c40) rfl ?_
   refine FD.skip (wF_no rfl rfl rfl c40) rfl ?_
   refine FD.skip (wF_no rfl rfl rfl c40) rfl ?_
   refine FD.skip (wF_no rfl rfl rfl c40) rfl ?_
   refine FD.skip (wF_no rfl rfl rfl c40) rfl ?_
   refine FD.skip (wF_no rfl rfl rfl c40) rfl ?_
   refine FD.skip (wF_no rfl rfl rfl c40) rfl ?_
   refine FD.skip (wF_no rfl rfl rfl c40) rfl ?_
   obtain rfl := Option.some.inj hp
   refine FD.val rfl rfl rfl (fun w' hw' => (E.pickT rfl c40 rfl)) ?_
   exact FD.nil ⟨rfl, rfl, rfl, rfl⟩
  ·
   refine FD.val (wF_yes rfl rfl rfl c40) rfl rfl (fun w' hw' => (E.move (v := Value.pointer (some q0P)) rfl)) ?_
   refine FD.val (wF_yes rfl rfl rfl c40) rfl rfl (fun w' hw' => (E.nilCheck rfl)) ?_
   refine FD.val (wF_yes rfl rfl rfl c40) rfl rfl (fun w' hw' => (E.fieldAddr tf105_0 rfl)) ?_
   refine FD.val (wF_yes rfl rfl rfl c40) rfl rfl (fun w' hw' => (E.load rfl (run_loadA Tryz.isAgg102 Tryz.sizeOf102 ((c0P.now (S0.call hw').sl).sub (j := 0) (n := 2) (c := [Value.int .i64 a0.ring.p, Value.int .i64 a0.ring.vars]) rfl) rfl))) ?_
   refine FD.val (wF_yes rfl rfl rfl c40) rfl rfl (fun w' hw' => (E.move (v := v1) rfl)) ?_
   refine FD.val (wF_yes rfl rfl rfl c40) rfl rfl (fun w' hw' => (E.move (v := Value.int .i64 a3) rfl)) ?_
   obtain ⟨x47, hx48, hp⟩ := bnd hp
   obtain ⟨p41, cs42, pt43, l44, at45, rel46⟩ := p1.at hx48
   obtain ⟨v49, rfl, h50⟩ := ePcStep_open rel46
   refine FD.val (wF_yes rfl rfl rfl c40) rfl rfl (fun w' hw' => (E.indexAddr te36 rfl rfl pt43)) ?_
   refine FD.val (wF_yes rfl rfl rfl c40) rfl rfl (fun w' hw' => (E.fieldAddr tf90_1 rfl)) ?_
   refine FD.val (wF_yes rfl rfl rfl c40) rfl rfl (fun w' hw' => (E.load rfl (run_load1 Tryz.isAgg55 (at45.now (S0.call hw').sl) rfl))) ?_
   obtain ⟨r51, hr52, hp⟩ := bnd hp
   refine FD.call (wF_yes rfl rfl rfl c40) rfl rfl (fun w' hw' => (E.call Tryz.call98 (A2 rfl rfl))) (fun w' hw' => Calls.cls hw' (w_impl_ring_is (S0.call hw').sl a0.ring v49 x47.poly h50 hr52)) ?_
   refine FD.val (wF_yes rfl rfl rfl c40) rfl rfl (fun w' hw' => (E.not rfl)) ?_
   obtain rfl := Option.some.inj hp
   refine FD.val rfl rfl rfl (fun w' hw' => (E.pickF rfl c40 rfl)) ?_
   exact FD.nil ⟨rfl, rfl, rfl, rfl⟩
 rintro f39 ⟨k53, k54, k55, k56⟩
 refine FD.nil ?_
 intro w57 r59
 have S58 := S0.call r59
 rcases ifB hp with ⟨c60, hp⟩ | ⟨c60, hp⟩
 ·
  refine FW.condT k56 c60 ?_
  refine FW.seq (FW.region ?_)
  refine FL.v (E.assign (v := Value.slice none 0 0) rfl) ?_
  refine FL.v (E.assign (v := Value.bool false) rfl) ?_
  refine FL.nil ?_
  refine FW.ret ?_
  obtain rfl := Option.some.inj hp
  exact ⟨.inr rfl, res2 rfl rfl rfl ⟨_, _, _, _, rfl, (S58.nil 3 1), Els.nil⟩⟩
 ·
  refine FW.condF k56 c60 ?_
  refine FW.skip (FW.seq ?_)
  obtain ⟨x27, hx28, hp⟩ := bnd hp
  obtain ⟨r31, hr32, hp⟩ := bnd hp
  refine FW.drawB (Sl Ha) (fun f w => ∃ H : GH, ∃ v68 : Value, ∃ n69 : Nat, ∃ cs70 : List Value, St Ha wa H w [.row 3 1 v68 n69 cs70] ∧ Inc Ha H ∧ Els (up wa.heap.size H) eI 1 cs70 r31 ∧ f 8 = v68 ∧ f 9 = Value.bool true) (by kernel_rfl) S58.sl ?_ ?_
  ·
   intro w61 r62
   have S63 := S58.call r62
   refine FB.t (i := 0) (bs 12 1) rfl (SP.nil S63.sl) rfl (fun w' hw' => (E.move k53)) ?_
   refine FB.t (i := 1) (bs 12 3) rfl (SP.nil S63.sl) rfl (fun w' hw' => (E.nilCheck rfl)) ?_
   refine FB.t (i := 2) (bs 12 7) rfl (SP.nil S63.sl) rfl (fun w' hw' => (E.fieldAddr tf105_0 rfl)) ?_
   refine FB.t (i := 3) (bs 12 15) rfl (SP.nil S63.sl) rfl (fun w' hw' => (E.load rfl (run_loadA Tryz.isAgg102 Tryz.sizeOf102 ((c0P.now hw').sub (j := 0) (n := 2) (c := [Value.int .i64 a0.ring.p, Value.int .i64 a0.ring.vars]) rfl) rfl))) ?_
   refine FB.t (i := 4) (bs 12 31) rfl (SP.nil S63.sl) rfl (fun w' hw' => (E.move k54)) ?_
   refine FB.t (i := 5) (bs 12 63) rfl (SP.nil S63.sl) rfl (fun w' hw' => (E.move k55)) ?_
   obtain ⟨p21, cs22, pt23, l24, at25, rel26⟩ := p1.at hx28
   obtain ⟨v29, rfl, h30⟩ := ePcStep_open rel26
   refine FB.t (i := 6) (bs 12 127) rfl (SP.nil S63.sl) rfl (fun w' hw' => (E.indexAddr te36 rfl rfl pt23)) ?_
   refine FB.t (i := 7) (bs 12 255) rfl (SP.nil S63.sl) rfl (fun w' hw' => (E.fieldAddr tf90_1 rfl)) ?_
   refine FB.t (i := 8) (bs 12 511) rfl (SP.nil S63.sl) rfl (fun w' hw' => (E.load rfl (run_load1 Tryz.isAgg55 (at25.now hw') rfl))) ?_
   refine FB.all1 (i := 9) (by kernel_rfl) ?_
   ·
    refine FC.call (l' := (bs 12 1023)) rfl (by kernel_rfl) rfl rfl rfl (E.call Tryz.call100 (A2 rfl rfl)) (w_impl_ring_dense S63.sl a0.ring v29 x27.poly h30 hr32) ?_
    rintro e w35 ⟨H33, v64, n65, cs66, rfl, r38, els67⟩
    refine ⟨_, rfl, ?_⟩
    have els67 := els67.mono (up_le S63.size)
    have S37 := S63.join (l' := [.row 3 1 v64 n65 cs66]) r38 rfl
    refine ⟨(SP.nil (Sl.of_inc r38.run.inc S37.sl)), ?_⟩
    refine FB.t (i := 10) (bs 12 2047) rfl (SP.nil (Sl.of_inc r38.run.inc S37.sl)) rfl (fun w' hw' => (E.assign (v := v64) rfl)) ?_
    refine FB.t (i := 11) (bs 12 4095) rfl (SP.nil (Sl.of_inc r38.run.inc S37.sl)) rfl (fun w' hw' => (E.assign (v := Value.bool true) rfl)) ?_
    exact FB.done (by kernel_rfl) ⟨_, _, _, _, S37, r38.run.inc, els67, rfl, rfl⟩
  ·
   rintro f76 w75 ⟨H72, v68, n69, cs70, S73, i74, els71, k77, k78⟩
   refine FW.ret ?_
   obtain rfl := Option.some.inj hp
   exact ⟨.inr rfl, res2 rfl k77 k78 ⟨_, _, _, _, rfl, S73, els71⟩⟩

@[reducible] def p_impl_algebra_pcDue (Ha : GH) (wa : World) (r : ((List Int) × Bool)) : Ending → World → Prop :=
 fun e w' => ∃ H' : GH, ∃ v0 : Value, e = .returned (Value.tuple #[v0, Value.bool r.2]) ∧ Run wa.heap.size Ha wa H' w' ∧ RSl H' eI 1 v0 r.1
set_option maxHeartbeats 4000000 in
theorem w_impl_algebra_pcDue {Ha : GH} {wa : World} (hs : Sl Ha wa) (q0P : Addr) (a0 : algebra) (v0P_3 : Value) (v0P_4 : Value) (p0P_3 : RSl Ha (eL eI 1) 1 v0P_3 a0.f.clauses) (p0P_4 : RSl Ha (eL eI 1) 1 v0P_4 a0.q) (c0P : CAt Ha q0P [Value.int .i64 a0.ring.p, Value.int .i64 a0.ring.vars, Value.int .i64 a0.f.vars, v0P_3, v0P_4]) (v1 : Value) (a1 : List PcStep) (p1 : RSl Ha ePcStep 6 v1 a1) (a2 : Int) {r : ((List Int) × Bool)} (hp : (PF.impl_algebra_pcDue a0 a1 a2) = some r) :
  Calls Tryz.prog 235 #[Value.pointer (some q0P), v1, Value.int .i64 a2] wa (p_impl_algebra_pcDue Ha wa r) := by
 unfold PF.impl_algebra_pcDue at hp
 have S0 := St.init hs
 refine calls_go (N := 166) (args := [Value.pointer (some q0P), v1, Value.int .i64 a2]) Tryz.func235 rfl rfl rfl ?_
 refine FW.seq (FW.region ?_)
 refine FL.v (E.assign (v := Value.slice none 0 0) rfl) ?_
 refine FL.v (E.assign (v := Value.bool false) rfl) ?_
 refine FL.nil (FW.seq (FW.region ?_))
 refine FL.v (E.move (v := v1) rfl) ?_
 refine FL.v (E.move (v := Value.int .i64 a2) rfl) ?_
 obtain ⟨x27, hx28, hp⟩ := bnd hp
 obtain ⟨p21, cs22, pt23, l24, at25, rel26⟩ := p1.at hx28
 obtain ⟨v29, rfl, h30⟩ := ePcStep_open rel26
 refine FL.v (E.indexAddr te36 rfl rfl pt23) ?_
 refine FL.v (E.load rfl (run_loadA Tryz.isAgg90 Tryz.sizeOf90 (at25.now S0.sl) rfl)) ?_
 obtain ⟨b31, w32, run33, S34⟩ := S0.alloc (P := Tryz.prog) 90 [Value.int .i64 0, Value.slice none 0 0, Value.int .i64 0, Value.int .i64 0, Value.int .i64 0, Value.int .i64 0] Tryz.zeroValue90 rfl (ones_cons rfl (ones_cons rfl (ones_cons rfl (ones_cons rfl (ones_cons rfl (ones_cons rfl ones_nil))))))
 refine FL.v (E.alloc run33) ?_
 obtain ⟨w35, run36, S37⟩ := S34.store0 (P := Tryz.prog) (t := 90) (i := 0) (cs' := [Value.int .i64 x27.kind, v29, Value.int .i64 x27.a, Value.int .i64 x27.b, Value.int .i64 x27.x, Value.int .i64 x27.y]) (l' := [.box b31 90 [Value.int .i64 x27.kind, v29, Value.int .i64 x27.a, Value.int .i64 x27.b, Value.int .i64 x27.x, Value.int .i64 x27.y]]) (v := Value.agg #[Value.int .i64 x27.kind, v29, Value.int .i64 x27.a, Value.int .i64 x27.b, Value.int .i64 x27.x, Value.int .i64 x27.y]) (c := [Value.int .i64 x27.kind, v29, Value.int .i64 x27.a, Value.int .i64 x27.b, Value.int .i64 x27.x, Value.int .i64 x27.y]) rfl Tryz.sizeOf90 rfl rfl (ones_cons rfl (ones_cons h30.one (ones_cons rfl (ones_cons rfl (ones_cons rfl (ones_cons rfl ones_nil)))))) (Nat.le_of_ble_eq_true rfl) rfl rfl
 refine FL.act rfl rfl (E.store rfl rfl run36) ?_
 obtain ⟨H38, S39, i40, at41⟩ := S37.sealBox (i := 0) (l' := []) rfl rfl
 refine FL.nil (FW.seq (FW.region ?_))
 refine FL.v (E.move (v := Value.pointer (some q0P)) rfl) ?_
 refine FL.v (E.move (v := v1) rfl) ?_
 refine FL.v (E.move (v := Value.int .i64 a2) rfl) ?_
 refine FL.v (E.fieldAddr tf90_2 rfl) ?_
 refine FL.v (E.load rfl (run_load1 Tryz.isAgg3 (at41.now S39.sl) rfl)) ?_
 obtain ⟨r42, hr43, hp⟩ := bnd hp
 refine FL.call rfl rfl rfl (E.call Tryz.call259 (A4 rfl rfl rfl rfl)) (w_impl_algebra_polyBefore S39.sl q0P a0 v0P_3 v0P_4 (p0P_3.mono i40) (p0P_4.mono i40) (c0P.mono i40) v1 a1 (p1.mono i40) a2 x27.a hr43) ?_
 rintro e w45 ⟨H44, v48, n49, cs50, rfl, r47, els51⟩
 refine ⟨_, rfl, ?_⟩
 have els51 := els51.mono (up_le S39.size)
 have S46 := S39.join (l' := [.row 3 1 v48 n49 cs50]) r47 rfl
 refine FL.v (E.move (v := Value.tuple #[v48, Value.bool r42.2]) rfl) ?_
 refine FL.v (E.extract (i := 0) rfl rfl) ?_
 refine FL.v (E.extract (i := 1) rfl rfl) ?_
 refine FL.v (E.assign (v := v48) rfl) ?_
 refine FL.v (E.assign (v := Value.bool r42.2) rfl) ?_
 refine FL.nil (FW.seq (FW.region ?_))
 refine FL.v (E.move (v := Value.pointer (some q0P)) rfl) ?_
 refine FL.v (E.move (v := v1) rfl) ?_
 refine FL.v (E.move (v := Value.int .i64 a2) rfl) ?_
 refine FL.v (E.fieldAddr tf90_3 rfl) ?_
 refine FL.v (E.load rfl (run_load1 Tryz.isAgg3 ((at41.mono r47.run.inc).now S46.sl) rfl)) ?_
 obtain ⟨r52, hr53, hp⟩ := bnd hp
 refine FL.call rfl rfl rfl (E.call Tryz.call259 (A4 rfl rfl rfl rfl)) (w_impl_algebra_polyBefore S46.sl q0P a0 v0P_3 v0P_4 (p0P_3.mono (i40.tr r47.run.inc)) (p0P_4.mono (i40.tr r47.run.inc)) (c0P.mono (i40.tr r47.run.inc)) v1 a1 (p1.mono (i40.tr r47.run.inc)) a2 x27.b hr53) ?_
 rintro e w55 ⟨H54, v58, n59, cs60, rfl, r57, els61⟩
 refine ⟨_, rfl, ?_⟩
 have els61 := els61.mono (up_le S46.size)
 have S56 := S46.join (l' := [.row 3 1 v58 n59 cs60, .row 3 1 v48 n49 cs50]) r57 rfl
 refine FL.v (E.move (v := Value.tuple #[v58, Value.bool r52.2]) rfl) ?_
 refine FL.v (E.extract (i := 0) rfl rfl) ?_
 refine FL.v (E.extract (i := 1) rfl rfl) ?_
 refine FL.v (E.assign (v := v58) rfl) ?_
 refine FL.v (E.assign (v := Value.bool r52.2) rfl) ?_
 refine FL.nil (FW.seq (FW.block (FW.seq ?_)))
 refine FW.draw (fun w' => Run w55.heap.size H54 w55 H54 w') (by kernel_rfl) (by kernel_rfl) (run_drew S56.sl) ?_
 refine FD.val rfl rfl rfl (fun w' hw' => (E.fieldAddr tf90_0 rfl)) ?_
 refine FD.val rfl rfl rfl (fun w' hw' => (E.load rfl (run_load1 Tryz.isAgg3 ((at41.mono (r47.run.inc.tr r57.run.inc)).now (S56.call hw').sl) rfl))) ?_
 refine FD.val rfl rfl rfl (fun w' hw' => (E.eql rfl rfl)) ?_
 refine FD.val rfl rfl rfl (fun w' hw' => (E.move (v := Value.bool (x27.kind == 1)) rfl)) ?_
 refine FD.cut 10 (fun f => f 0 = Value.pointer (some q0P) ∧ f 8 = Value.pointer (some ⟨b31, 0, none⟩) ∧ f 9 = v48 ∧ f 10 = Value.bool r42.2 ∧ f 11 = v58 ∧ f 12 = Value.bool r52.2 ∧ f 49 = Value.bool (bif (x27.kind == 1) then (PF.impl_within x27.a 0 (wr ((len a0.q) - 1))) else false)) ?_ ?_
 ·
  rcases bcase (x27.kind == 1) with c69 | c69
  ·
   refine FD.val (wF_yes rfl rfl rfl c69) rfl rfl (fun w' hw' => (E.fieldAddr tf90_2 rfl)) ?_
   refine FD.val (wF_yes rfl rfl rfl c69) rfl rfl (fun w' hw' => (E.load rfl (run_load1 Tryz.isAgg3 ((at41.mono (r47.run.inc.tr r57.run.inc)).now (S56.call hw').sl) rfl))) ?_
   refine FD.val (wF_yes rfl rfl rfl c69) rfl rfl (fun w' hw' => (E.move (v := Value.pointer (some q0P)) rfl)) ?_
   refine FD.val (wF_yes rfl rfl rfl c69) rfl rfl (fun w' hw' => (E.nilCheck rfl)) ?_
   refine FD.val (wF_yes rfl rfl rfl c69) rfl rfl (fun w' hw' => (E.fieldAddr tf105_2 rfl)) ?_
   refine FD.val (wF_yes rfl rfl rfl c69) rfl rfl (fun w' hw' => (E.load rfl (run_load1 Tryz.isAgg103 ((c0P.mono ((i40.tr r47.run.inc).tr r57.run.inc)).now (S56.call hw').sl) rfl))) ?_
   refine FD.val (wF_yes rfl rfl rfl c69) rfl rfl (fun w' hw' => (E.lenP te103 rfl p0P_4)) ?_
   refine FD.val (wF_yes rfl rfl rfl c69) rfl rfl (fun w' hw' => (E.sub rfl rfl)) ?_
   refine FD.call (wF_yes rfl rfl rfl c69) rfl rfl (fun w' hw' => (E.call Tryz.call162 (A3 rfl rfl rfl))) (fun w' hw' => Calls.cls hw' (w_impl_within (S56.call hw').sl x27.a 0 (wr ((len a0.q) - 1)))) ?_
   refine FD.val rfl rfl rfl (fun w' hw' => (E.pickT rfl c69 rfl)) ?_
   exact FD.nil ⟨rfl, rfl, rfl, rfl, rfl, rfl, (congrArg Value.bool (bifT c69).symm)⟩
  ·
   refine FD.skip (wF_no rfl rfl rfl c69) rfl ?_
   refine FD.skip (wF_no rfl rfl rfl c69) rfl ?_
   refine FD.skip (wF_no rfl rfl rfl c69) rfl ?_
   refine FD.skip (wF_no rfl rfl rfl c69) rfl ?_
   refine FD.skip (wF_no rfl rfl rfl c69) rfl ?_
   refine FD.skip (wF_no rfl rfl rfl c69) rfl ?_
   refine FD.skip (wF_no rfl rfl rfl c69) rfl ?_
   refine FD.skip (wF_no rfl rfl rfl c69) rfl ?_
   refine FD.skip (wF_no rfl rfl rfl c69) rfl ?_
   refine FD.val rfl rfl rfl (fun w' hw' => (E.pickF rfl c69 rfl)) ?_
   exact FD.nil ⟨rfl, rfl, rfl, rfl, rfl, rfl, (congrArg Value.bool (bifF c69).symm)⟩
 rintro f68 ⟨k70, k71, k72, k73, k74, k75, k76⟩
 refine FD.val rfl rfl rfl (fun w' hw' => (E.move k76)) ?_
 refine FD.cut 4 (fun f => f 0 = Value.pointer (some q0P) ∧ f 8 = Value.pointer (some ⟨b31, 0, none⟩) ∧ f 9 = v48 ∧ f 10 = Value.bool r42.2 ∧ f 11 = v58 ∧ f 12 = Value.bool r52.2 ∧ f 54 = Value.bool (bif (bif (x27.kind == 1) then (PF.impl_within x27.a 0 (wr ((len a0.q) - 1))) else false) then (x27.b == 0) else false)) ?_ ?_
 ·
  rcases bcase (bif (x27.kind == 1) then (PF.impl_within x27.a 0 (wr ((len a0.q) - 1))) else false) with c83 | c83
  ·
   refine FD.val (wF_yes rfl rfl rfl c83) rfl rfl (fun w' hw' => (E.fieldAddr tf90_3 k71)) ?_
   refine FD.val (wF_yes rfl rfl rfl c83) rfl rfl (fun w' hw' => (E.load rfl (run_load1 Tryz.isAgg3 ((at41.mono (r47.run.inc.tr r57.run.inc)).now (S56.call hw').sl) rfl))) ?_
   refine FD.val (wF_yes rfl rfl rfl c83) rfl rfl (fun w' hw' => (E.eql rfl rfl)) ?_
   refine FD.val rfl rfl rfl (fun w' hw' => (E.pickT rfl c83 rfl)) ?_
   exact FD.nil ⟨k70, k71, k72, k73, k74, k75, (congrArg Value.bool (bifT c83).symm)⟩
  ·
   refine FD.skip (wF_no rfl rfl rfl c83) rfl ?_
   refine FD.skip (wF_no rfl rfl rfl c83) rfl ?_
   refine FD.skip (wF_no rfl rfl rfl c83) rfl ?_
   refine FD.val rfl rfl rfl (fun w' hw' => (E.pickF rfl c83 rfl)) ?_
   exact FD.nil ⟨k70, k71, k72, k73, k74, k75, (congrArg Value.bool (bifF c83).symm)⟩
 rintro f82 ⟨k84, k85, k86, k87, k88, k89, k90⟩
 refine FD.val rfl rfl rfl (fun w' hw' => (E.move k90)) ?_
 refine FD.cut 4 (fun f => f 0 = Value.pointer (some q0P) ∧ f 8 = Value.pointer (some ⟨b31, 0, none⟩) ∧ f 9 = v48 ∧ f 10 = Value.bool r42.2 ∧ f 11 = v58 ∧ f 12 = Value.bool r52.2 ∧ f 59 = Value.bool (bif (bif (bif (x27.kind == 1) then (PF.impl_within x27.a 0 (wr ((len a0.q) - 1))) else false) then (x27.b == 0) else false) then (x27.x == 0) else false)) ?_ ?_
 ·
  rcases bcase (bif (bif (x27.kind == 1) then (PF.impl_within x27.a 0 (wr ((len a0.q) - 1))) else false) then (x27.b == 0) else false) with c97 | c97
  ·
   refine FD.val (wF_yes rfl rfl rfl c97) rfl rfl (fun w' hw' => (E.fieldAddr tf90_4 k85)) ?_
   refine FD.val (wF_yes rfl rfl rfl c97) rfl rfl (fun w' hw' => (E.load rfl (run_load1 Tryz.isAgg3 ((at41.mono (r47.run.inc.tr r57.run.inc)).now (S56.call hw').sl) rfl))) ?_
   refine FD.val (wF_yes rfl rfl rfl c97) rfl rfl (fun w' hw' => (E.eql rfl rfl)) ?_
   refine FD.val rfl rfl rfl (fun w' hw' => (E.pickT rfl c97 rfl)) ?_
   exact FD.nil ⟨k84, k85, k86, k87, k88, k89, (congrArg Value.bool (bifT c97).symm)⟩
  ·
   refine FD.skip (wF_no rfl rfl rfl c97) rfl ?_
   refine FD.skip (wF_no rfl rfl rfl c97) rfl ?_
   refine FD.skip (wF_no rfl rfl rfl c97) rfl ?_
   refine FD.val rfl rfl rfl (fun w' hw' => (E.pickF rfl c97 rfl)) ?_
   exact FD.nil ⟨k84, k85, k86, k87, k88, k89, (congrArg Value.bool (bifF c97).symm)⟩
 rintro f96 ⟨k98, k99, k100, k101, k102, k103, k104⟩
 refine FD.val rfl rfl rfl (fun w' hw' => (E.move k104)) ?_
 refine FD.cut 4 (fun f => f 0 = Value.pointer (some q0P) ∧ f 8 = Value.pointer (some ⟨b31, 0, none⟩) ∧ f 9 = v48 ∧ f 10 = Value.bool r42.2 ∧ f 11 = v58 ∧ f 12 = Value.bool r52.2 ∧ f 64 = Value.bool (bif (bif (bif (bif (x27.kind == 1) then (PF.impl_within x27.a 0 (wr ((len a0.q) - 1))) else false) then (x27.b == 0) else false) then (x27.x == 0) else false) then (x27.y == 0) else false)) ?_ ?_
 ·
  rcases bcase (bif (bif (bif (x27.kind == 1) then (PF.impl_within x27.a 0 (wr ((len a0.q) - 1))) else false) then (x27.b == 0) else false) then (x27.x == 0) else false) with c111 | c111
  ·
   refine FD.val (wF_yes rfl rfl rfl c111) rfl rfl (fun w' hw' => (E.fieldAddr tf90_5 k99)) ?_
   refine FD.val (wF_yes rfl rfl rfl c111) rfl rfl (fun w' hw' => (E.load rfl (run_load1 Tryz.isAgg3 ((at41.mono (r47.run.inc.tr r57.run.inc)).now (S56.call hw').sl) rfl))) ?_
   refine FD.val (wF_yes rfl rfl rfl c111) rfl rfl (fun w' hw' => (E.eql rfl rfl)) ?_
   refine FD.val rfl rfl rfl (fun w' hw' => (E.pickT rfl c111 rfl)) ?_
   exact FD.nil ⟨k98, k99, k100, k101, k102, k103, (congrArg Value.bool (bifT c111).symm)⟩
  ·
   refine FD.skip (wF_no rfl rfl rfl c111) rfl ?_
   refine FD.skip (wF_no rfl rfl rfl c111) rfl ?_
   refine FD.skip (wF_no rfl rfl rfl c111) rfl ?_
   refine FD.val rfl rfl rfl (fun w' hw' => (E.pickF rfl c111 rfl)) ?_
   exact FD.nil ⟨k98, k99, k100, k101, k102, k103, (congrArg Value.bool (bifF c111).symm)⟩
 rintro f110 ⟨k112, k113, k114, k115, k116, k117, k118⟩
 refine FD.val rfl rfl rfl (fun w' hw' => (E.assign k118)) ?_
 refine FD.nil ?_
 intro w119 r121
 have S120 := S56.call r121
 rcases ifB hp with ⟨c122, hp⟩ | ⟨c122, hp⟩
 ·
  refine FW.condT rfl c122 ?_
  refine FW.seq ?_
  refine FW.draw (fun w' => Run w119.heap.size H54 w119 H54 w') (by kernel_rfl) (by kernel_rfl) (run_drew S120.sl) ?_
  refine FD.val rfl rfl rfl (fun w' hw' => (E.move k112)) ?_
  refine FD.val rfl rfl rfl (fun w' hw' => (E.nilCheck rfl)) ?_
  refine FD.val rfl rfl rfl (fun w' hw' => (E.fieldAddr tf105_2 rfl)) ?_
  refine FD.val rfl rfl rfl (fun w' hw' => (E.load rfl (run_load1 Tryz.isAgg103 ((c0P.mono ((i40.tr r47.run.inc).tr r57.run.inc)).now (S120.call hw').sl) rfl))) ?_
  refine FD.val rfl rfl rfl (fun w' hw' => (E.fieldAddr tf90_2 k113)) ?_
  refine FD.val rfl rfl rfl (fun w' hw' => (E.load rfl (run_load1 Tryz.isAgg3 ((at41.mono (r47.run.inc.tr r57.run.inc)).now (S120.call hw').sl) rfl))) ?_
  obtain ⟨x130, hx131, hp⟩ := bnd hp
  obtain ⟨p124, cs125, pt126, l127, at128, rel129⟩ := p0P_4.at hx131
  obtain ⟨v132, rfl, h133⟩ := eL_open rel129
  refine FD.val rfl rfl rfl (fun w' hw' => (E.indexAddr te103 rfl rfl pt126)) ?_
  refine FD.val rfl rfl rfl (fun w' hw' => (E.load rfl (run_load0 Tryz.isAgg99 ((at128.mono ((i40.tr r47.run.inc).tr r57.run.inc)).now (S120.call hw').sl) rfl))) ?_
  refine FD.val rfl rfl rfl (fun w' hw' => (E.assign (v := v132) rfl)) ?_
  refine FD.val rfl rfl rfl (fun w' hw' => (E.assign (v := Value.bool true) rfl)) ?_
  refine FD.nil ?_
  intro w134 r136
  have S135 := S120.call r136
  refine FW.ret ?_
  obtain rfl := Option.some.inj hp
  exact ⟨.inr rfl, res2 rfl rfl rfl ⟨_, _, rfl, S135.run, (h133.mono ((i40.tr r47.run.inc).tr r57.run.inc))⟩⟩
 ·
  refine FW.condF rfl c122 ?_
  refine FW.seq ?_
  refine FW.draw (fun w' => Run w119.heap.size H54 w119 H54 w') (by kernel_rfl) (by kernel_rfl) (run_drew S120.sl) ?_
  refine FD.val rfl rfl rfl (fun w' hw' => (E.fieldAddr tf90_0 k113)) ?_
  refine FD.val rfl rfl rfl (fun w' hw' => (E.load rfl (run_load1 Tryz.isAgg3 ((at41.mono (r47.run.inc.tr r57.run.inc)).now (S120.call hw').sl) rfl))) ?_
  refine FD.val rfl rfl rfl (fun w' hw' => (E.eql rfl rfl)) ?_
  refine FD.val rfl rfl rfl (fun w' hw' => (E.move (v := Value.bool (x27.kind == 2)) rfl)) ?_
  refine FD.cut 2 (fun f => f 0 = Value.pointer (some q0P) ∧ f 8 = Value.pointer (some ⟨b31, 0, none⟩) ∧ f 9 = v48 ∧ f 10 = Value.bool r42.2 ∧ f 11 = v58 ∧ f 12 = Value.bool r52.2 ∧ f 79 = Value.bool (bif (x27.kind == 2) then r42.2 else false)) ?_ ?_
  ·
   rcases bcase (x27.kind == 2) with c144 | c144
   ·
    refine FD.val (wF_yes rfl rfl rfl c144) rfl rfl (fun w' hw' => (E.move k115)) ?_
    refine FD.val rfl rfl rfl (fun w' hw' => (E.pickT rfl c144 rfl)) ?_
    exact FD.nil ⟨k112, k113, k114, k115, k116, k117, (congrArg Value.bool (bifT c144).symm)⟩
   ·
    refine FD.skip (wF_no rfl rfl rfl c144) rfl ?_
    refine FD.val rfl rfl rfl (fun w' hw' => (E.pickF rfl c144 rfl)) ?_
    exact FD.nil ⟨k112, k113, k114, k115, k116, k117, (congrArg Value.bool (bifF c144).symm)⟩
  rintro f143 ⟨k145, k146, k147, k148, k149, k150, k151⟩
  refine FD.val rfl rfl rfl (fun w' hw' => (E.move k151)) ?_
  refine FD.cut 2 (fun f => f 0 = Value.pointer (some q0P) ∧ f 8 = Value.pointer (some ⟨b31, 0, none⟩) ∧ f 9 = v48 ∧ f 10 = Value.bool r42.2 ∧ f 11 = v58 ∧ f 82 = Value.bool (bif (bif (x27.kind == 2) then r42.2 else false) then r52.2 else false)) ?_ ?_
  ·
   rcases bcase (bif (x27.kind == 2) then r42.2 else false) with c158 | c158
   ·
    refine FD.val (wF_yes rfl rfl rfl c158) rfl rfl (fun w' hw' => (E.move k150)) ?_
    refine FD.val rfl rfl rfl (fun w' hw' => (E.pickT rfl c158 rfl)) ?_
    exact FD.nil ⟨k145, k146, k147, k148, k149, (congrArg Value.bool (bifT c158).symm)⟩
   ·
    refine FD.skip (wF_no rfl rfl rfl c158) rfl ?_
    refine FD.val rfl rfl rfl (fun w' hw' => (E.pickF rfl c158 rfl)) ?_
    exact FD.nil ⟨k145, k146, k147, k148, k149, (congrArg Value.bool (bifF c158).symm)⟩
  rintro f157 ⟨k159, k160, k161, k162, k163, k164⟩
  refine FD.val rfl rfl rfl (fun w' hw' => (E.move k164)) ?_
  refine FD.cut 10 (fun f => f 0 = Value.pointer (some q0P) ∧ f 8 = Value.pointer (some ⟨b31, 0, none⟩) ∧ f 9 = v48 ∧ f 10 = Value.bool r42.2 ∧ f 11 = v58 ∧ f 93 = Value.bool (bif (bif (bif (x27.kind == 2) then r42.2 else false) then r52.2 else false) then (PF.impl_within x27.x 0 (wr (a0.ring.p - 1))) else false)) ?_ ?_
  ·
   rcases bcase (bif (bif (x27.kind == 2) then r42.2 else false) then r52.2 else false) with c171 | c171
   ·
    refine FD.val (wF_yes rfl rfl rfl c171) rfl rfl (fun w' hw' => (E.fieldAddr tf90_4 k160)) ?_
    refine FD.val (wF_yes rfl rfl rfl c171) rfl rfl (fun w' hw' => (E.load rfl (run_load1 Tryz.isAgg3 ((at41.mono (r47.run.inc.tr r57.run.inc)).now (S120.call hw').sl) rfl))) ?_
    refine FD.val (wF_yes rfl rfl rfl c171) rfl rfl (fun w' hw' => (E.move k159)) ?_
    refine FD.val (wF_yes rfl rfl rfl c171) rfl rfl (fun w' hw' => (E.nilCheck rfl)) ?_
    refine FD.val (wF_yes rfl rfl rfl c171) rfl rfl (fun w' hw' => (E.fieldAddr tf105_0 rfl)) ?_
    refine FD.val (wF_yes rfl rfl rfl c171) rfl rfl (fun w' hw' => (E.fieldAddrN tf102_0 rfl rfl)) ?_
    refine FD.val (wF_yes rfl rfl rfl c171) rfl rfl (fun w' hw' => (E.load rfl (run_load1 Tryz.isAgg3 ((c0P.mono ((i40.tr r47.run.inc).tr r57.run.inc)).now (S120.call hw').sl) rfl))) ?_
    refine FD.val (wF_yes rfl rfl rfl c171) rfl rfl (fun w' hw' => (E.sub rfl rfl)) ?_
    refine FD.call (wF_yes rfl rfl rfl c171) rfl rfl (fun w' hw' => (E.call Tryz.call162 (A3 rfl rfl rfl))) (fun w' hw' => Calls.cls hw' (w_impl_within (S120.call hw').sl x27.x 0 (wr (a0.ring.p - 1)))) ?_
    refine FD.val rfl rfl rfl (fun w' hw' => (E.pickT rfl c171 rfl)) ?_
    exact FD.nil ⟨k159, k160, k161, k162, k163, (congrArg Value.bool (bifT c171).symm)⟩
   ·
    refine FD.skip (wF_no rfl rfl rfl c171) rfl ?_
    refine FD.skip (wF_no rfl rfl rfl c171) rfl ?_
    refine FD.skip (wF_no rfl rfl rfl c171) rfl ?_
    refine FD.skip (wF_no rfl rfl rfl c171) rfl ?_
    refine FD.skip (wF_no rfl rfl rfl c171) rfl ?_
    refine FD.skip (wF_no rfl rfl rfl c171) rfl ?_
    refine FD.skip (wF_no rfl rfl rfl c171) rfl ?_
    refine FD.skip (wF_no rfl rfl rfl c171) rfl ?_
    refine FD.skip (wF_no rfl rfl rfl c171) rfl ?_
    refine FD.val rfl rfl rfl (fun w' hw' => (E.pickF rfl c171 rfl)) ?_
    exact FD.nil ⟨k159, k160, k161, k162, k163, (congrArg Value.bool (bifF c171).symm)⟩
  rintro f170 ⟨k172, k173, k174, k175, k176, k177⟩
  refine FD.val rfl rfl rfl (fun w' hw' => (E.move k177)) ?_
  refine FD.cut 10 (fun f => f 0 = Value.pointer (some q0P) ∧ f 8 = Value.pointer (some ⟨b31, 0, none⟩) ∧ f 9 = v48 ∧ f 10 = Value.bool r42.2 ∧ f 11 = v58 ∧ f 104 = Value.bool (bif (bif (bif (bif (x27.kind == 2) then r42.2 else false) then r52.2 else false) then (PF.impl_within x27.x 0 (wr (a0.ring.p - 1))) else false) then (PF.impl_within x27.y 0 (wr (a0.ring.p - 1))) else false)) ?_ ?_
  ·
   rcases bcase (bif (bif (bif (x27.kind == 2) then r42.2 else false) then r52.2 else false) then (PF.impl_within x27.x 0 (wr (a0.ring.p - 1))) else false) with c184 | c184
   ·
    refine FD.val (wF_yes rfl rfl rfl c184) rfl rfl (fun w' hw' => (E.fieldAddr tf90_5 k173)) ?_
    refine FD.val (wF_yes rfl rfl rfl c184) rfl rfl (fun w' hw' => (E.load rfl (run_load1 Tryz.isAgg3 ((at41.mono (r47.run.inc.tr r57.run.inc)).now (S120.call hw').sl) rfl))) ?_
    refine FD.val (wF_yes rfl rfl rfl c184) rfl rfl (fun w' hw' => (E.move k172)) ?_
    refine FD.val (wF_yes rfl rfl rfl c184) rfl rfl (fun w' hw' => (E.nilCheck rfl)) ?_
    refine FD.val (wF_yes rfl rfl rfl c184) rfl rfl (fun w' hw' => (E.fieldAddr tf105_0 rfl)) ?_
    refine FD.val (wF_yes rfl rfl rfl c184) rfl rfl (fun w' hw' => (E.fieldAddrN tf102_0 rfl rfl)) ?_
    refine FD.val (wF_yes rfl rfl rfl c184) rfl rfl (fun w' hw' => (E.load rfl (run_load1 Tryz.isAgg3 ((c0P.mono ((i40.tr r47.run.inc).tr r57.run.inc)).now (S120.call hw').sl) rfl))) ?_
    refine FD.val (wF_yes rfl rfl rfl c184) rfl rfl (fun w' hw' => (E.sub rfl rfl)) ?_
    refine FD.call (wF_yes rfl rfl rfl c184) rfl rfl (fun w' hw' => (E.call Tryz.call162 (A3 rfl rfl rfl))) (fun w' hw' => Calls.cls hw' (w_impl_within (S120.call hw').sl x27.y 0 (wr (a0.ring.p - 1)))) ?_
    refine FD.val rfl rfl rfl (fun w' hw' => (E.pickT rfl c184 rfl)) ?_
    exact FD.nil ⟨k172, k173, k174, k175, k176, (congrArg Value.bool (bifT c184).symm)⟩
   ·
    refine FD.skip (wF_no rfl rfl rfl c184) rfl ?_
    refine FD.skip (wF_no rfl rfl rfl c184) rfl ?_
    refine FD.skip (wF_no rfl rfl rfl c184) rfl ?_
    refine FD.skip (wF_no rfl rfl rfl c184) rfl ?_
    refine FD.skip (wF_no rfl rfl rfl c184) rfl ?_
    refine FD.skip (wF_no rfl rfl rfl c184) rfl ?_
    refine FD.skip (wF_no rfl rfl rfl c184) rfl ?_
    refine FD.skip (wF_no rfl rfl rfl c184) rfl ?_
    refine FD.skip (wF_no rfl rfl rfl c184) rfl ?_
    refine FD.val rfl rfl rfl (fun w' hw' => (E.pickF rfl c184 rfl)) ?_
    exact FD.nil ⟨k172, k173, k174, k175, k176, (congrArg Value.bool (bifF c184).symm)⟩
  rintro f183 ⟨k185, k186, k187, k188, k189, k190⟩
  refine FD.val rfl rfl rfl (fun w' hw' => (E.assign k190)) ?_
  refine FD.nil ?_
  intro w191 r193
  have S192 := S120.call r193
  rcases ifB hp with ⟨c194, hp⟩ | ⟨c194, hp⟩
  ·
   refine FW.condT rfl c194 ?_
   refine FW.seq ?_
   obtain ⟨r62, hr63, hp⟩ := bnd hp
   obtain ⟨r123, hr137, hp⟩ := bnd hp
   obtain ⟨r198, hr199, hp⟩ := bnd hp
   refine FW.drawB (Sl H54) (fun f w => ∃ H : GH, ∃ v210 : Value, ∃ n211 : Nat, ∃ cs212 : List Value, St Ha wa H w [.row 3 1 v210 n211 cs212] ∧ Inc H54 H ∧ Els (up wa.heap.size H) eI 1 cs212 r198 ∧ f 6 = v210 ∧ f 7 = Value.bool true) (by kernel_rfl) S192.sl ?_ ?_
   ·
    intro w195 r196
    have S197 := S192.call r196
    refine FB.t (i := 0) (bs 23 1) rfl (SP.nil S197.sl) rfl (fun w' hw' => (E.move k185)) ?_
    refine FB.t (i := 1) (bs 23 3) rfl (SP.nil S197.sl) rfl (fun w' hw' => (E.nilCheck rfl)) ?_
    refine FB.t (i := 2) (bs 23 7) rfl (SP.nil S197.sl) rfl (fun w' hw' => (E.fieldAddr tf105_0 rfl)) ?_
    refine FB.t (i := 3) (bs 23 15) rfl (SP.nil S197.sl) rfl (fun w' hw' => (E.load rfl (run_loadA Tryz.isAgg102 Tryz.sizeOf102 (((c0P.mono ((i40.tr r47.run.inc).tr r57.run.inc)).now hw').sub (j := 0) (n := 2) (c := [Value.int .i64 a0.ring.p, Value.int .i64 a0.ring.vars]) rfl) rfl))) ?_
    refine FB.t (i := 4) (bs 23 31) rfl (SP.nil S197.sl) rfl (fun w' hw' => (E.move k185)) ?_
    refine FB.t (i := 5) (bs 23 63) rfl (SP.nil S197.sl) rfl (fun w' hw' => (E.nilCheck rfl)) ?_
    refine FB.t (i := 6) (bs 23 127) rfl (SP.nil S197.sl) rfl (fun w' hw' => (E.fieldAddr tf105_0 rfl)) ?_
    refine FB.t (i := 7) (bs 23 255) rfl (SP.nil S197.sl) rfl (fun w' hw' => (E.load rfl (run_loadA Tryz.isAgg102 Tryz.sizeOf102 (((c0P.mono ((i40.tr r47.run.inc).tr r57.run.inc)).now hw').sub (j := 0) (n := 2) (c := [Value.int .i64 a0.ring.p, Value.int .i64 a0.ring.vars]) rfl) rfl))) ?_
    refine FB.t (i := 8) (bs 23 511) rfl (SP.nil S197.sl) rfl (fun w' hw' => (E.move k185)) ?_
    refine FB.t (i := 9) (bs 23 1023) rfl (SP.nil S197.sl) rfl (fun w' hw' => (E.nilCheck rfl)) ?_
    refine FB.t (i := 10) (bs 23 2047) rfl (SP.nil S197.sl) rfl (fun w' hw' => (E.fieldAddr tf105_0 rfl)) ?_
    refine FB.t (i := 11) (bs 23 4095) rfl (SP.nil S197.sl) rfl (fun w' hw' => (E.load rfl (run_loadA Tryz.isAgg102 Tryz.sizeOf102 (((c0P.mono ((i40.tr r47.run.inc).tr r57.run.inc)).now hw').sub (j := 0) (n := 2) (c := [Value.int .i64 a0.ring.p, Value.int .i64 a0.ring.vars]) rfl) rfl))) ?_
    refine FB.t (i := 13) (bs 23 12287) rfl (SP.nil S197.sl) rfl (fun w' hw' => (E.move k187)) ?_
    refine FB.t (i := 14) (bs 23 28671) rfl (SP.nil S197.sl) rfl (fun w' hw' => (E.fieldAddr tf90_4 k186)) ?_
    refine FB.t (i := 15) (bs 23 61439) rfl (SP.nil S197.sl) rfl (fun w' hw' => (E.load rfl (run_load1 Tryz.isAgg3 ((at41.mono (r47.run.inc.tr r57.run.inc)).now hw') rfl))) ?_
    refine FB.t (i := 17) (bs 23 192511) rfl (SP.nil S197.sl) rfl (fun w' hw' => (E.move k189)) ?_
    refine FB.t (i := 18) (bs 23 454655) rfl (SP.nil S197.sl) rfl (fun w' hw' => (E.fieldAddr tf90_5 k186)) ?_
    refine FB.t (i := 19) (bs 23 978943) rfl (SP.nil S197.sl) rfl (fun w' hw' => (E.load rfl (run_load1 Tryz.isAgg3 ((at41.mono (r47.run.inc.tr r57.run.inc)).now hw') rfl))) ?_
    refine FB.all1 (i := 12) (by kernel_rfl) ?_
    ·
     refine FC.call (l' := (bs 23 983039)) rfl (by kernel_rfl) rfl rfl rfl (E.call Tryz.call165 (A1 rfl)) (w_impl_ring_zero S197.sl a0.ring hr63) ?_
     rintro e w65 ⟨H64, v77, n78, cs79, rfl, r67, els80⟩
     refine ⟨_, rfl, ?_⟩
     have els80 := els80.mono (up_le S197.size)
     have S66 := S197.join (l' := [.row 3 1 v77 n78 cs79, .row 3 1 v58 n59 cs60, .row 3 1 v48 n49 cs50]) r67 rfl
     refine ⟨(SP.nil (Sl.of_inc r67.run.inc S66.sl)), ?_⟩
     refine FB.all1 (i := 16) (by kernel_rfl) ?_
     ·
      obtain ⟨H81, S91, i92, h93, nv94⟩ := S66.sealRowU (i := 0) (l' := [.row 3 1 v58 n59 cs60, .row 3 1 v48 n49 cs50]) rfl els80 (by decide) rfl
      obtain ⟨H95, S106, i107, h108, nv109⟩ := S91.sealRowU (i := 1) (l' := [.row 3 1 v58 n59 cs60]) rfl (els51.mono (up_mono ((r57.run.inc.tr r67.run.inc).tr i92))) (by decide) rfl
      refine FC.call (l' := (bs 23 1048575)) rfl (by kernel_rfl) rfl rfl rfl (E.call Tryz.call164 (A4 rfl rfl rfl rfl)) (w_impl_ring_plus S106.sl a0.ring v77 r62 (h93.mono (upI.tr i107)) v48 r42.1 (h108.mono upI) x27.x hr137) ?_
      rintro e w139 ⟨H138, v153, n154, cs155, rfl, r141, els156⟩
      refine ⟨_, rfl, ?_⟩
      obtain ⟨H142, r141, hU152⟩ := St.lendX (i92.tr i107) S66.sl r141
      have els156 := els156.mono (hU152.tr (up_le S66.size))
      have S140 := S66.join (l' := [.row 3 1 v153 n154 cs155, .row 3 1 v77 n78 cs79, .row 3 1 v58 n59 cs60, .row 3 1 v48 n49 cs50]) r141 rfl
      refine ⟨(SP.nil (Sl.of_inc (r67.run.inc.tr r141.run.inc) S140.sl)), ?_⟩
      refine FB.all1 (i := 20) (by kernel_rfl) ?_
      ·
       obtain ⟨H165, S166, i167, h168, nv169⟩ := S140.sealRowU (i := 0) (l' := [.row 3 1 v77 n78 cs79, .row 3 1 v58 n59 cs60, .row 3 1 v48 n49 cs50]) rfl els156 (by decide) rfl
       obtain ⟨H178, S179, i180, h181, nv182⟩ := S166.sealRowU (i := 1) (l' := [.row 3 1 v77 n78 cs79, .row 3 1 v48 n49 cs50]) rfl (els61.mono (up_mono ((r67.run.inc.tr r141.run.inc).tr i167))) (by decide) rfl
       refine FC.call (l' := (bs 23 2097151)) rfl (by kernel_rfl) rfl rfl rfl (E.call Tryz.call164 (A4 rfl rfl rfl rfl)) (w_impl_ring_plus S179.sl a0.ring v153 r123 (h168.mono (upI.tr i180)) v58 r52.1 (h181.mono upI) x27.y hr199) ?_
       rintro e w201 ⟨H200, v206, n207, cs208, rfl, r203, els209⟩
       refine ⟨_, rfl, ?_⟩
       obtain ⟨H204, r203, hU205⟩ := St.lendX (i167.tr i180) S140.sl r203
       have els209 := els209.mono (hU205.tr (up_le S140.size))
       have S202 := S140.join (l' := [.row 3 1 v206 n207 cs208, .row 3 1 v153 n154 cs155, .row 3 1 v77 n78 cs79, .row 3 1 v58 n59 cs60, .row 3 1 v48 n49 cs50]) r203 rfl
       refine ⟨(SP.nil (Sl.of_inc ((r67.run.inc.tr r141.run.inc).tr r203.run.inc) S202.sl)), ?_⟩
       refine FB.t (i := 21) (bs 23 4194303) rfl (SP.nil (Sl.of_inc ((r67.run.inc.tr r141.run.inc).tr r203.run.inc) S202.sl)) rfl (fun w' hw' => (E.assign (v := v206) rfl)) ?_
       refine FB.t (i := 22) (bs 23 8388607) rfl (SP.nil (Sl.of_inc ((r67.run.inc.tr r141.run.inc).tr r203.run.inc) S202.sl)) rfl (fun w' hw' => (E.assign (v := Value.bool true) rfl)) ?_
       exact FB.done (by kernel_rfl) ⟨_, _, _, _, (S202.sel [0] (by decide) rfl), ((r67.run.inc.tr r141.run.inc).tr r203.run.inc), els209, rfl, rfl⟩
   ·
    rintro f218 w217 ⟨H214, v210, n211, cs212, S215, i216, els213, k219, k220⟩
    refine FW.ret ?_
    obtain ⟨H221, S222, i223, h224, nv225⟩ := S215.sealRowU (i := 0) (l' := []) rfl els213 (by decide) rfl
    obtain rfl := Option.some.inj hp
    exact ⟨.inr rfl, res2 rfl k219 k220 ⟨_, _, rfl, S222.run, (h224.mono upI)⟩⟩
  ·
   refine FW.condF rfl c194 ?_
   refine FW.seq ?_
   refine FW.draw (fun w' => Run w191.heap.size H54 w191 H54 w') (by kernel_rfl) (by kernel_rfl) (run_drew S192.sl) ?_
   refine FD.val rfl rfl rfl (fun w' hw' => (E.fieldAddr tf90_0 k186)) ?_
   refine FD.val rfl rfl rfl (fun w' hw' => (E.load rfl (run_load1 Tryz.isAgg3 ((at41.mono (r47.run.inc.tr r57.run.inc)).now (S192.call hw').sl) rfl))) ?_
   refine FD.val rfl rfl rfl (fun w' hw' => (E.eql rfl rfl)) ?_
   refine FD.val rfl rfl rfl (fun w' hw' => (E.move (v := Value.bool (x27.kind == 3)) rfl)) ?_
   refine FD.cut 2 (fun f => f 0 = Value.pointer (some q0P) ∧ f 8 = Value.pointer (some ⟨b31, 0, none⟩) ∧ f 9 = v48 ∧ f 132 = Value.bool (bif (x27.kind == 3) then r42.2 else false)) ?_ ?_
   ·
    rcases bcase (x27.kind == 3) with c227 | c227
    ·
     refine FD.val (wF_yes rfl rfl rfl c227) rfl rfl (fun w' hw' => (E.move k188)) ?_
     refine FD.val rfl rfl rfl (fun w' hw' => (E.pickT rfl c227 rfl)) ?_
     exact FD.nil ⟨k185, k186, k187, (congrArg Value.bool (bifT c227).symm)⟩
    ·
     refine FD.skip (wF_no rfl rfl rfl c227) rfl ?_
     refine FD.val rfl rfl rfl (fun w' hw' => (E.pickF rfl c227 rfl)) ?_
     exact FD.nil ⟨k185, k186, k187, (congrArg Value.bool (bifF c227).symm)⟩
   rintro f226 ⟨k228, k229, k230, k231⟩
   refine FD.val rfl rfl rfl (fun w' hw' => (E.move k231)) ?_
   refine FD.cut 4 (fun f => f 0 = Value.pointer (some q0P) ∧ f 8 = Value.pointer (some ⟨b31, 0, none⟩) ∧ f 9 = v48 ∧ f 137 = Value.bool (bif (bif (x27.kind == 3) then r42.2 else false) then (x27.b == 0) else false)) ?_ ?_
   ·
    rcases bcase (bif (x27.kind == 3) then r42.2 else false) with c233 | c233
    ·
     refine FD.val (wF_yes rfl rfl rfl c233) rfl rfl (fun w' hw' => (E.fieldAddr tf90_3 k229)) ?_
     refine FD.val (wF_yes rfl rfl rfl c233) rfl rfl (fun w' hw' => (E.load rfl (run_load1 Tryz.isAgg3 ((at41.mono (r47.run.inc.tr r57.run.inc)).now (S192.call hw').sl) rfl))) ?_
     refine FD.val (wF_yes rfl rfl rfl c233) rfl rfl (fun w' hw' => (E.eql rfl rfl)) ?_
     refine FD.val rfl rfl rfl (fun w' hw' => (E.pickT rfl c233 rfl)) ?_
     exact FD.nil ⟨k228, k229, k230, (congrArg Value.bool (bifT c233).symm)⟩
    ·
     refine FD.skip (wF_no rfl rfl rfl c233) rfl ?_
     refine FD.skip (wF_no rfl rfl rfl c233) rfl ?_
     refine FD.skip (wF_no rfl rfl rfl c233) rfl ?_
     refine FD.val rfl rfl rfl (fun w' hw' => (E.pickF rfl c233 rfl)) ?_
     exact FD.nil ⟨k228, k229, k230, (congrArg Value.bool (bifF c233).symm)⟩
   rintro f232 ⟨k234, k235, k236, k237⟩
   refine FD.val rfl rfl rfl (fun w' hw' => (E.move k237)) ?_
   refine FD.cut 9 (fun f => f 0 = Value.pointer (some q0P) ∧ f 8 = Value.pointer (some ⟨b31, 0, none⟩) ∧ f 9 = v48 ∧ f 147 = Value.bool (bif (bif (bif (x27.kind == 3) then r42.2 else false) then (x27.b == 0) else false) then (PF.impl_isVar a0.ring.vars x27.x) else false)) ?_ ?_
   ·
    rcases bcase (bif (bif (x27.kind == 3) then r42.2 else false) then (x27.b == 0) else false) with c239 | c239
    ·
     refine FD.val (wF_yes rfl rfl rfl c239) rfl rfl (fun w' hw' => (E.move k234)) ?_
     refine FD.val (wF_yes rfl rfl rfl c239) rfl rfl (fun w' hw' => (E.nilCheck rfl)) ?_
     refine FD.val (wF_yes rfl rfl rfl c239) rfl rfl (fun w' hw' => (E.fieldAddr tf105_0 rfl)) ?_
     refine FD.val (wF_yes rfl rfl rfl c239) rfl rfl (fun w' hw' => (E.fieldAddrN tf102_1 rfl rfl)) ?_
     refine FD.val (wF_yes rfl rfl rfl c239) rfl rfl (fun w' hw' => (E.load rfl (run_load1 Tryz.isAgg3 ((c0P.mono ((i40.tr r47.run.inc).tr r57.run.inc)).now (S192.call hw').sl) rfl))) ?_
     refine FD.val (wF_yes rfl rfl rfl c239) rfl rfl (fun w' hw' => (E.fieldAddr tf90_4 k235)) ?_
     refine FD.val (wF_yes rfl rfl rfl c239) rfl rfl (fun w' hw' => (E.load rfl (run_load1 Tryz.isAgg3 ((at41.mono (r47.run.inc.tr r57.run.inc)).now (S192.call hw').sl) rfl))) ?_
     refine FD.call (wF_yes rfl rfl rfl c239) rfl rfl (fun w' hw' => (E.call Tryz.call233 (A2 rfl rfl))) (fun w' hw' => Calls.cls hw' (w_impl_isVar (S192.call hw').sl a0.ring.vars x27.x)) ?_
     refine FD.val rfl rfl rfl (fun w' hw' => (E.pickT rfl c239 rfl)) ?_
     exact FD.nil ⟨k234, k235, k236, (congrArg Value.bool (bifT c239).symm)⟩
    ·
     refine FD.skip (wF_no rfl rfl rfl c239) rfl ?_
     refine FD.skip (wF_no rfl rfl rfl c239) rfl ?_
     refine FD.skip (wF_no rfl rfl rfl c239) rfl ?_
     refine FD.skip (wF_no rfl rfl rfl c239) rfl ?_
     refine FD.skip (wF_no rfl rfl rfl c239) rfl ?_
     refine FD.skip (wF_no rfl rfl rfl c239) rfl ?_
     refine FD.skip (wF_no rfl rfl rfl c239) rfl ?_
     refine FD.skip (wF_no rfl rfl rfl c239) rfl ?_
     refine FD.val rfl rfl rfl (fun w' hw' => (E.pickF rfl c239 rfl)) ?_
     exact FD.nil ⟨k234, k235, k236, (congrArg Value.bool (bifF c239).symm)⟩
   rintro f238 ⟨k240, k241, k242, k243⟩
   refine FD.val rfl rfl rfl (fun w' hw' => (E.move k243)) ?_
   refine FD.cut 4 (fun f => f 0 = Value.pointer (some q0P) ∧ f 8 = Value.pointer (some ⟨b31, 0, none⟩) ∧ f 9 = v48 ∧ f 152 = Value.bool (bif (bif (bif (bif (x27.kind == 3) then r42.2 else false) then (x27.b == 0) else false) then (PF.impl_isVar a0.ring.vars x27.x) else false) then (x27.y == 0) else false)) ?_ ?_
   ·
    rcases bcase (bif (bif (bif (x27.kind == 3) then r42.2 else false) then (x27.b == 0) else false) then (PF.impl_isVar a0.ring.vars x27.x) else false) with c245 | c245
    ·
     refine FD.val (wF_yes rfl rfl rfl c245) rfl rfl (fun w' hw' => (E.fieldAddr tf90_5 k241)) ?_
     refine FD.val (wF_yes rfl rfl rfl c245) rfl rfl (fun w' hw' => (E.load rfl (run_load1 Tryz.isAgg3 ((at41.mono (r47.run.inc.tr r57.run.inc)).now (S192.call hw').sl) rfl))) ?_
     refine FD.val (wF_yes rfl rfl rfl c245) rfl rfl (fun w' hw' => (E.eql rfl rfl)) ?_
     refine FD.val rfl rfl rfl (fun w' hw' => (E.pickT rfl c245 rfl)) ?_
     exact FD.nil ⟨k240, k241, k242, (congrArg Value.bool (bifT c245).symm)⟩
    ·
     refine FD.skip (wF_no rfl rfl rfl c245) rfl ?_
     refine FD.skip (wF_no rfl rfl rfl c245) rfl ?_
     refine FD.skip (wF_no rfl rfl rfl c245) rfl ?_
     refine FD.val rfl rfl rfl (fun w' hw' => (E.pickF rfl c245 rfl)) ?_
     exact FD.nil ⟨k240, k241, k242, (congrArg Value.bool (bifF c245).symm)⟩
   rintro f244 ⟨k246, k247, k248, k249⟩
   refine FD.val rfl rfl rfl (fun w' hw' => (E.assign k249)) ?_
   refine FD.nil ?_
   intro w250 r252
   have S251 := S192.call r252
   rcases ifB hp with ⟨c253, hp⟩ | ⟨c253, hp⟩
   ·
    refine FW.condT rfl c253 ?_
    refine FW.seq ?_
    obtain ⟨r257, hr258, hp⟩ := bnd hp
    obtain ⟨r277, hr278, hp⟩ := bnd hp
    refine FW.drawB (Sl H54) (fun f w => ∃ H : GH, ∃ v289 : Value, ∃ n290 : Nat, ∃ cs291 : List Value, St Ha wa H w [.row 3 1 v289 n290 cs291] ∧ Inc H54 H ∧ Els (up wa.heap.size H) eI 1 cs291 r277 ∧ f 6 = v289 ∧ f 7 = Value.bool true) (by kernel_rfl) S251.sl ?_ ?_
    ·
     intro w254 r255
     have S256 := S251.call r255
     refine FB.t (i := 0) (bs 15 1) rfl (SP.nil S256.sl) rfl (fun w' hw' => (E.move k246)) ?_
     refine FB.t (i := 1) (bs 15 3) rfl (SP.nil S256.sl) rfl (fun w' hw' => (E.nilCheck rfl)) ?_
     refine FB.t (i := 2) (bs 15 7) rfl (SP.nil S256.sl) rfl (fun w' hw' => (E.fieldAddr tf105_0 rfl)) ?_
     refine FB.t (i := 3) (bs 15 15) rfl (SP.nil S256.sl) rfl (fun w' hw' => (E.load rfl (run_loadA Tryz.isAgg102 Tryz.sizeOf102 (((c0P.mono ((i40.tr r47.run.inc).tr r57.run.inc)).now hw').sub (j := 0) (n := 2) (c := [Value.int .i64 a0.ring.p, Value.int .i64 a0.ring.vars]) rfl) rfl))) ?_
     refine FB.t (i := 4) (bs 15 31) rfl (SP.nil S256.sl) rfl (fun w' hw' => (E.move k248)) ?_
     refine FB.t (i := 5) (bs 15 63) rfl (SP.nil S256.sl) rfl (fun w' hw' => (E.move k246)) ?_
     refine FB.t (i := 6) (bs 15 127) rfl (SP.nil S256.sl) rfl (fun w' hw' => (E.nilCheck rfl)) ?_
     refine FB.t (i := 7) (bs 15 255) rfl (SP.nil S256.sl) rfl (fun w' hw' => (E.fieldAddr tf105_0 rfl)) ?_
     refine FB.t (i := 8) (bs 15 511) rfl (SP.nil S256.sl) rfl (fun w' hw' => (E.load rfl (run_loadA Tryz.isAgg102 Tryz.sizeOf102 (((c0P.mono ((i40.tr r47.run.inc).tr r57.run.inc)).now hw').sub (j := 0) (n := 2) (c := [Value.int .i64 a0.ring.p, Value.int .i64 a0.ring.vars]) rfl) rfl))) ?_
     refine FB.t (i := 9) (bs 15 1023) rfl (SP.nil S256.sl) rfl (fun w' hw' => (E.fieldAddr tf90_4 k247)) ?_
     refine FB.t (i := 10) (bs 15 2047) rfl (SP.nil S256.sl) rfl (fun w' hw' => (E.load rfl (run_load1 Tryz.isAgg3 ((at41.mono (r47.run.inc.tr r57.run.inc)).now hw') rfl))) ?_
     refine FB.all1 (i := 11) (by kernel_rfl) ?_
     ·
      refine FC.call (l' := (bs 15 4095)) rfl (by kernel_rfl) rfl rfl rfl (E.call Tryz.call125 (A2 rfl rfl)) (w_impl_ring_literal S256.sl a0.ring x27.x hr258) ?_
      rintro e w260 ⟨H259, v263, n264, cs265, rfl, r262, els266⟩
      refine ⟨_, rfl, ?_⟩
      have els266 := els266.mono (up_le S256.size)
      have S261 := S256.join (l' := [.row 3 1 v263 n264 cs265, .row 3 1 v58 n59 cs60, .row 3 1 v48 n49 cs50]) r262 rfl
      refine ⟨(SP.nil (Sl.of_inc r262.run.inc S261.sl)), ?_⟩
      refine FB.all1 (i := 12) (by kernel_rfl) ?_
      ·
       obtain ⟨H267, S268, i269, h270, nv271⟩ := S261.sealRowU (i := 2) (l' := [.row 3 1 v263 n264 cs265, .row 3 1 v58 n59 cs60]) rfl (els51.mono (up_mono (r57.run.inc.tr r262.run.inc))) (by decide) rfl
       obtain ⟨H272, S273, i274, h275, nv276⟩ := S268.sealRowU (i := 0) (l' := [.row 3 1 v58 n59 cs60]) rfl (els266.mono (up_mono i269)) (by decide) rfl
       refine FC.call (l' := (bs 15 8191)) rfl (by kernel_rfl) rfl rfl rfl (E.call Tryz.call124 (A3 rfl rfl rfl)) (w_impl_ring_times S273.sl a0.ring v48 r42.1 (h270.mono (upI.tr i274)) v263 r257 (h275.mono upI) hr278) ?_
       rintro e w280 ⟨H279, v285, n286, cs287, rfl, r282, els288⟩
       refine ⟨_, rfl, ?_⟩
       obtain ⟨H283, r282, hU284⟩ := St.lendX (i269.tr i274) S261.sl r282
       have els288 := els288.mono (hU284.tr (up_le S261.size))
       have S281 := S261.join (l' := [.row 3 1 v285 n286 cs287, .row 3 1 v263 n264 cs265, .row 3 1 v58 n59 cs60, .row 3 1 v48 n49 cs50]) r282 rfl
       refine ⟨(SP.nil (Sl.of_inc (r262.run.inc.tr r282.run.inc) S281.sl)), ?_⟩
       refine FB.t (i := 13) (bs 15 16383) rfl (SP.nil (Sl.of_inc (r262.run.inc.tr r282.run.inc) S281.sl)) rfl (fun w' hw' => (E.assign (v := v285) rfl)) ?_
       refine FB.t (i := 14) (bs 15 32767) rfl (SP.nil (Sl.of_inc (r262.run.inc.tr r282.run.inc) S281.sl)) rfl (fun w' hw' => (E.assign (v := Value.bool true) rfl)) ?_
       exact FB.done (by kernel_rfl) ⟨_, _, _, _, (S281.sel [0] (by decide) rfl), (r262.run.inc.tr r282.run.inc), els288, rfl, rfl⟩
    ·
     rintro f297 w296 ⟨H293, v289, n290, cs291, S294, i295, els292, k298, k299⟩
     refine FW.ret ?_
     obtain ⟨H300, S301, i302, h303, nv304⟩ := S294.sealRowU (i := 0) (l' := []) rfl els292 (by decide) rfl
     obtain rfl := Option.some.inj hp
     exact ⟨.inr rfl, res2 rfl k298 k299 ⟨_, _, rfl, S301.run, (h303.mono upI)⟩⟩
   ·
    refine FW.condF rfl c253 ?_
    refine FW.skip (FW.seq (FW.region ?_))
    refine FL.v (E.assign (v := Value.slice none 0 0) rfl) ?_
    refine FL.v (E.assign (v := Value.bool false) rfl) ?_
    refine FL.nil ?_
    refine FW.ret ?_
    obtain rfl := Option.some.inj hp
    exact ⟨.inr rfl, res2 rfl rfl rfl ⟨_, _, rfl, S251.run, (RSl.nil _ _ _)⟩⟩

theorem w_slices_Equal_impl_dense_int {Ha : GH} {wa : World} (hs : Sl Ha wa) (v0 : Value) (a0 : List Int) (p0 : RSl Ha eI 1 v0 a0) (v1 : Value) (a1 : List Int) (p1 : RSl Ha eI 1 v1 a1) {r : Bool} (hp : (PF.slices_Equal_impl_dense_int a0 a1) = some r) :
  Calls Tryz.prog 236 #[v0, v1] wa (Sc Ha wa (Value.bool r)) := by
 unfold PF.slices_Equal_impl_dense_int at hp
 have S0 := St.init hs
 refine calls_go (N := 26) (args := [v0, v1]) Tryz.func236 rfl rfl rfl ?_
 refine FW.seq (FW.region ?_)
 refine FL.v (E.assign (v := Value.bool false) rfl) ?_
 refine FL.nil (FW.seq (FW.seq (FW.region ?_)))
 refine FL.v (E.move (v := v0) rfl) ?_
 refine FL.v (E.lenP te99 rfl p0) ?_
 refine FL.v (E.move (v := v1) rfl) ?_
 refine FL.v (E.lenP te99 rfl p1) ?_
 refine FL.v (E.neq rfl rfl) ?_
 refine FL.nil ?_
 rcases ifB hp with ⟨c21, hp⟩ | ⟨c21, hp⟩
 ·
  refine FW.condT rfl c21 ?_
  refine FW.seq (FW.region ?_)
  refine FL.v (E.assign (v := Value.bool false) rfl) ?_
  refine FL.nil ?_
  refine FW.ret ?_
  obtain rfl := Option.some.inj hp
  exact ⟨.inr rfl, res1 rfl rfl ⟨rfl, S0.back⟩⟩
 ·
  refine FW.condF rfl c21 ?_
  refine FW.skip (FW.seq (FW.seq (FW.region ?_)))
  refine FL.v (E.move (v := v0) rfl) ?_
  refine FL.v (E.lenP te99 rfl p0) ?_
  refine FL.v (E.move (v := Value.int .i64 0) rfl) ?_
  refine FL.nil ?_
  obtain ⟨q23, hq, hp⟩ := bndR hp
  refine FW.block ?_
  refine FW.mono (FW.forL (S := Unit) (X := Bool) (fun (i23 : Nat) (s23 : Unit) f w => ∃ H : GH, St Ha wa H w [] ∧ Inc Ha H ∧ f 13 = Value.int .i64 ((i23 : Nat) : Int) ∧ f 0 = v0 ∧ f 1 = v1 ∧ f 12 = Value.int .i64 (len a0)) (fun q e f w => match q with | .go s23 => e = Exit.exit 0 ∧ (∃ H : GH, St Ha wa H w [] ∧ Inc Ha H) | .rt x => ((e = Exit.ret) ∧ (fun e f w => (e = Exit.normal ∨ e = Exit.ret) ∧ ∀ a, Fr (δ := []) 26 a f → ∃ v, (results Tryz.f236 a.tmps).run Tryz.prog w = .ok v w ∧ (Sc Ha wa (Value.bool x)) (.returned v) w) e f w)) hq ⟨_, S0, (Inc.rfl _), rfl, rfl, rfl, rfl⟩ ?_ ?_) ?_
  ·
   clear hp hq
   rintro i23 y22 s23 f56 w55 ⟨H52, S53, i54, k57, k58, k59, k60⟩ hx23 o80 hp
   refine FW.seq (FW.region ?_)
   refine FL.v (E.lssT k57 k60 (lss_len hx23)) ?_
   refine FL.nil (FW.seq ?_)
   refine FW.condT rfl rfl ?_
   refine FW.skip (FW.seq (FW.block (FW.seq (FW.region ?_))))
   refine FL.v (E.move k57) ?_
   refine FL.v (E.assign (v := Value.int .i64 ((i23 : Nat) : Int)) rfl) ?_
   refine FL.nil (FW.seq ?_)
   refine FW.draw (fun w' => Run w55.heap.size H52 w55 H52 w') (by kernel_rfl) (by kernel_rfl) (run_drew S53.sl) ?_
   refine FD.val rfl rfl rfl (fun w' hw' => (E.move k58)) ?_
   refine FD.val rfl rfl rfl (fun w' hw' => (E.move (v := Value.int .i64 ((i23 : Nat) : Int)) rfl)) ?_
   obtain ⟨p62, cs63, pt64, l65, at66, rel67⟩ := p0.at (ix_nat hx23)
   obtain rfl := eI_open rel67
   refine FD.val rfl rfl rfl (fun w' hw' => (E.indexAddr te99 rfl rfl pt64)) ?_
   refine FD.val rfl rfl rfl (fun w' hw' => (E.load rfl (run_load0 Tryz.isAgg3 ((at66.mono i54).now (S53.call hw').sl) rfl))) ?_
   refine FD.val rfl rfl rfl (fun w' hw' => (E.move k59)) ?_
   refine FD.val rfl rfl rfl (fun w' hw' => (E.move (v := Value.int .i64 ((i23 : Nat) : Int)) rfl)) ?_
   obtain ⟨x74, hx75, hp⟩ := bnd hp
   obtain ⟨p68, cs69, pt70, l71, at72, rel73⟩ := p1.at hx75
   obtain rfl := eI_open rel73
   refine FD.val rfl rfl rfl (fun w' hw' => (E.indexAddr te99 rfl rfl pt70)) ?_
   refine FD.val rfl rfl rfl (fun w' hw' => (E.load rfl (run_load0 Tryz.isAgg3 ((at72.mono i54).now (S53.call hw').sl) rfl))) ?_
   refine FD.val rfl rfl rfl (fun w' hw' => (E.neq rfl rfl)) ?_
   refine FD.nil ?_
   intro w76 r78
   have S77 := S53.call r78
   rcases ifB hp with ⟨c79, hp⟩ | ⟨c79, hp⟩
   ·
    refine FW.condT rfl c79 ?_
    refine FW.seq (FW.region ?_)
    refine FL.v (E.assign (v := Value.bool false) rfl) ?_
    refine FL.nil ?_
    refine FW.ret ?_
    obtain rfl := Option.some.inj hp
    exact ⟨nofun, rfl, ⟨.inr rfl, res1 rfl rfl ⟨rfl, S77.back⟩⟩⟩
   ·
    refine FW.condF rfl c79 ?_
    refine FW.skip (FW.region ?_)
    refine FL.v (E.add k57 rfl) ?_
    refine FL.v (E.move (v := Value.int .i64 (wr (((i23 : Nat) : Int) + 1))) rfl) ?_
    refine FL.nil ?_
    obtain rfl := Option.some.inj hp
    exact ⟨rfl, ⟨_, S77, i54, (nat_succ rfl (lt_of_get hx23) (p0.mono i54).le), k58, k59, k60⟩⟩
  ·
   clear hp hq
   rintro s23 f90 w89 ⟨H86, S87, i88, k91, k92, k93, k94⟩
   refine FW.seq (FW.region ?_)
   refine FL.v (E.lss k91 k94) ?_
   refine FL.nil (FW.seq ?_)
   refine FW.condF rfl dlt_len ?_
   refine FW.exit ?_
   exact ⟨nofun, rfl, ⟨_, S87, i88⟩⟩
  ·
   clear hq
   intro e f85 w84 hD
   rcases q23 with s23 | x23
   ·
    obtain ⟨rfl, hD⟩ := hD
    obtain ⟨H81, S82, i83⟩ := hD
    replace hp := el_go hp
    refine FW.seq (FW.region ?_)
    refine FL.v (E.assign (v := Value.bool true) rfl) ?_
    refine FL.nil ?_
    refine FW.ret ?_
    obtain rfl := Option.some.inj hp
    exact ⟨.inr rfl, res1 rfl rfl ⟨rfl, S82.back⟩⟩
   ·
    obtain ⟨he, hL⟩ := hD
    replace hp := el_rt hp
    obtain rfl := Option.some.inj hp
    subst he
    exact hL

theorem w_impl_algebra_pcCorrect {Ha : GH} {wa : World} (hs : Sl Ha wa) (q0P : Addr) (a0 : algebra) (v0P_3 : Value) (v0P_4 : Value) (p0P_3 : RSl Ha (eL eI 1) 1 v0P_3 a0.f.clauses) (p0P_4 : RSl Ha (eL eI 1) 1 v0P_4 a0.q) (c0P : CAt Ha q0P [Value.int .i64 a0.ring.p, Value.int .i64 a0.ring.vars, Value.int .i64 a0.f.vars, v0P_3, v0P_4]) (v1 : Value) (a1 : List PcStep) (p1 : RSl Ha ePcStep 6 v1 a1) (a2 : Int) {r : Bool} (hp : (PF.impl_algebra_pcCorrect a0 a1 a2) = some r) :
  Calls Tryz.prog 183 #[Value.pointer (some q0P), v1, Value.int .i64 a2] wa (Sc Ha wa (Value.bool r)) := by
 unfold PF.impl_algebra_pcCorrect at hp
 have S0 := St.init hs
 refine calls_go (N := 43) (args := [Value.pointer (some q0P), v1, Value.int .i64 a2]) Tryz.func183 rfl rfl rfl ?_
 refine FW.seq (FW.region ?_)
 refine FL.v (E.assign (v := Value.bool false) rfl) ?_
 refine FL.nil (FW.seq (FW.region ?_))
 refine FL.v (E.move (v := Value.pointer (some q0P)) rfl) ?_
 refine FL.v (E.move (v := v1) rfl) ?_
 refine FL.v (E.move (v := Value.int .i64 a2) rfl) ?_
 obtain ⟨r21, hr22, hp⟩ := bnd hp
 refine FL.call rfl rfl rfl (E.call Tryz.call235 (A3 rfl rfl rfl)) (w_impl_algebra_pcDue S0.sl q0P a0 v0P_3 v0P_4 p0P_3 p0P_4 c0P v1 a1 p1 a2 hr22) ?_
 rintro e w24 ⟨H23, v27, rfl, r26, h28⟩
 refine ⟨_, rfl, ?_⟩
 have S25 := S0.call r26
 refine FL.v (E.move (v := Value.tuple #[v27, Value.bool r21.2]) rfl) ?_
 refine FL.v (E.extract (i := 0) rfl rfl) ?_
 refine FL.v (E.extract (i := 1) rfl rfl) ?_
 refine FL.v (E.assign (v := v27) rfl) ?_
 refine FL.v (E.assign (v := Value.bool r21.2) rfl) ?_
 refine FL.nil (FW.seq ?_)
 obtain ⟨t28_12, hqt28_12, hp⟩ := bnd hp
 obtain ⟨t28_26, hqt28_26, hp⟩ := bnd hp
 refine FW.drawB (Sl H23) (fun f w => ∃ H : GH, St Ha wa H w [] ∧ Inc H23 H ∧ f 6 = Value.bool t28_26) (by kernel_rfl) S25.sl ?_ ?_
 ·
  intro w29 r30
  have S31 := S25.call r30
  refine FB.t (i := 0) (bs 28 1) rfl (SP.nil S31.sl) rfl (fun w' hw' => (E.move (v := Value.bool r21.2) rfl)) ?_
  refine FB.t (i := 1) (bs 28 3) rfl (SP.nil S31.sl) rfl (fun w' hw' => (E.move (v := Value.bool r21.2) rfl)) ?_
  rcases ifB hqt28_12 with ⟨hc28_1, hqt28_12⟩ | ⟨hc28_1, hqt28_12⟩
  ·
   obtain ⟨x39, hx40, hqt28_12⟩ := bnd hqt28_12
   obtain ⟨r43, hr44, hqt28_12⟩ := bnd hqt28_12
   refine FB.t (i := 2) (bs 28 7) rfl (SP.nil S31.sl) (wF_yes rfl rfl rfl hc28_1) (fun w' hw' => (E.move (v := Value.pointer (some q0P)) rfl)) ?_
   refine FB.t (i := 3) (bs 28 15) rfl (SP.nil S31.sl) (wF_yes rfl rfl rfl hc28_1) (fun w' hw' => (E.nilCheck rfl)) ?_
   refine FB.t (i := 4) (bs 28 31) rfl (SP.nil S31.sl) (wF_yes rfl rfl rfl hc28_1) (fun w' hw' => (E.fieldAddr tf105_0 rfl)) ?_
   refine FB.t (i := 5) (bs 28 63) rfl (SP.nil S31.sl) (wF_yes rfl rfl rfl hc28_1) (fun w' hw' => (E.load rfl (run_loadA Tryz.isAgg102 Tryz.sizeOf102 (((c0P.mono r26.inc).now hw').sub (j := 0) (n := 2) (c := [Value.int .i64 a0.ring.p, Value.int .i64 a0.ring.vars]) rfl) rfl))) ?_
   refine FB.t (i := 6) (bs 28 127) rfl (SP.nil S31.sl) (wF_yes rfl rfl rfl hc28_1) (fun w' hw' => (E.move (v := v1) rfl)) ?_
   refine FB.t (i := 7) (bs 28 255) rfl (SP.nil S31.sl) (wF_yes rfl rfl rfl hc28_1) (fun w' hw' => (E.move (v := Value.int .i64 a2) rfl)) ?_
   obtain ⟨p32, cs33, pt34, l35, at37, rel38⟩ := p1.at hx40
   obtain ⟨v41, rfl, h42⟩ := ePcStep_open rel38
   refine FB.t (i := 8) (bs 28 511) rfl (SP.nil S31.sl) (wF_yes rfl rfl rfl hc28_1) (fun w' hw' => (E.indexAddr te36 rfl rfl pt34)) ?_
   refine FB.t (i := 9) (bs 28 1023) rfl (SP.nil S31.sl) (wF_yes rfl rfl rfl hc28_1) (fun w' hw' => (E.fieldAddr tf90_1 rfl)) ?_
   refine FB.t (i := 10) (bs 28 2047) rfl (SP.nil S31.sl) (wF_yes rfl rfl rfl hc28_1) (fun w' hw' => (E.load rfl (run_load1 Tryz.isAgg55 ((at37.mono r26.inc).now hw') rfl))) ?_
   refine FB.all1 (i := 11) (by kernel_rfl) ?_
   ·
    refine FC.call (l' := (bs 28 4095)) rfl (by kernel_rfl) (wF_yes rfl rfl rfl hc28_1) rfl rfl (E.call Tryz.call98 (A2 rfl rfl)) (w_impl_ring_is S31.sl a0.ring v41 x39.poly (h42.mono r26.inc) hr44) ?_
    rintro e w45 ⟨rfl, r46⟩
    refine ⟨_, rfl, ?_⟩
    have S47 := S31.call r46
    refine ⟨(SP.nil S47.sl), ?_⟩
    refine FB.t (i := 12) (bs 28 8191) rfl (SP.nil S47.sl) rfl (fun w' hw' => (E.asB (E.pickT rfl hc28_1 rfl) (Option.some.inj hqt28_12))) ?_
    refine FB.t (i := 13) (bs 28 16383) rfl (SP.nil S47.sl) rfl (fun w' hw' => (E.move (v := Value.bool t28_12) rfl)) ?_
    rcases ifB hqt28_26 with ⟨hc28_13, hqt28_26⟩ | ⟨hc28_13, hqt28_26⟩
    ·
     obtain ⟨x54, hx55, hqt28_26⟩ := bnd hqt28_26
     obtain ⟨r58, hr59, hqt28_26⟩ := bnd hqt28_26
     obtain ⟨r73, hr74, hqt28_26⟩ := bnd hqt28_26
     refine FB.t (i := 14) (bs 28 32767) rfl (SP.nil S47.sl) (wF_yes rfl rfl rfl hc28_13) (fun w' hw' => (E.move (v := v27) rfl)) ?_
     refine FB.t (i := 15) (bs 28 65535) rfl (SP.nil S47.sl) (wF_yes rfl rfl rfl hc28_13) (fun w' hw' => (E.move (v := Value.pointer (some q0P)) rfl)) ?_
     refine FB.t (i := 16) (bs 28 131071) rfl (SP.nil S47.sl) (wF_yes rfl rfl rfl hc28_13) (fun w' hw' => (E.nilCheck rfl)) ?_
     refine FB.t (i := 17) (bs 28 262143) rfl (SP.nil S47.sl) (wF_yes rfl rfl rfl hc28_13) (fun w' hw' => (E.fieldAddr tf105_0 rfl)) ?_
     refine FB.t (i := 18) (bs 28 524287) rfl (SP.nil S47.sl) (wF_yes rfl rfl rfl hc28_13) (fun w' hw' => (E.load rfl (run_loadA Tryz.isAgg102 Tryz.sizeOf102 (((c0P.mono r26.inc).now hw').sub (j := 0) (n := 2) (c := [Value.int .i64 a0.ring.p, Value.int .i64 a0.ring.vars]) rfl) rfl))) ?_
     refine FB.t (i := 19) (bs 28 1048575) rfl (SP.nil S47.sl) (wF_yes rfl rfl rfl hc28_13) (fun w' hw' => (E.move (v := v1) rfl)) ?_
     refine FB.t (i := 20) (bs 28 2097151) rfl (SP.nil S47.sl) (wF_yes rfl rfl rfl hc28_13) (fun w' hw' => (E.move (v := Value.int .i64 a2) rfl)) ?_
     obtain ⟨p48, cs49, pt50, l51, at52, rel53⟩ := p1.at hx55
     obtain ⟨v56, rfl, h57⟩ := ePcStep_open rel53
     refine FB.t (i := 21) (bs 28 4194303) rfl (SP.nil S47.sl) (wF_yes rfl rfl rfl hc28_13) (fun w' hw' => (E.indexAddr te36 rfl rfl pt50)) ?_
     refine FB.t (i := 22) (bs 28 8388607) rfl (SP.nil S47.sl) (wF_yes rfl rfl rfl hc28_13) (fun w' hw' => (E.fieldAddr tf90_1 rfl)) ?_
     refine FB.t (i := 23) (bs 28 16777215) rfl (SP.nil S47.sl) (wF_yes rfl rfl rfl hc28_13) (fun w' hw' => (E.load rfl (run_load1 Tryz.isAgg55 ((at52.mono r26.inc).now hw') rfl))) ?_
     refine FB.all1 (i := 24) (by kernel_rfl) ?_
     ·
      refine FC.call (l' := (bs 28 33554431)) rfl (by kernel_rfl) (wF_yes rfl rfl rfl hc28_13) rfl rfl (E.call Tryz.call100 (A2 rfl rfl)) (w_impl_ring_dense S47.sl a0.ring v56 x54.poly (h57.mono r26.inc) hr59) ?_
      rintro e w61 ⟨H60, v64, n65, cs66, rfl, r63, els67⟩
      refine ⟨_, rfl, ?_⟩
      have els67 := els67.mono (up_le S47.size)
      have S62 := S47.join (l' := [.row 3 1 v64 n65 cs66]) r63 rfl
      refine ⟨(SP.nil (Sl.of_inc r63.run.inc S62.sl)), ?_⟩
      refine FB.all1 (i := 25) (by kernel_rfl) ?_
      ·
       obtain ⟨H68, S69, i70, h71, nv72⟩ := S62.sealRowU (i := 0) (l' := []) rfl els67 (by decide) rfl
       refine FC.call (l' := (bs 28 67108863)) rfl (by kernel_rfl) (wF_yes rfl rfl rfl hc28_13) rfl rfl (E.call Tryz.call236 (A2 rfl rfl)) (w_slices_Equal_impl_dense_int S69.sl v27 r21.1 (h28.mono (r63.run.inc.tr i70)) v64 r58 (h71.mono upI) hr74) ?_
       rintro e w75 ⟨rfl, r76⟩
       refine ⟨_, rfl, ?_⟩
       have r76 := Run.lend i70 S62.sl r76
       have S77 := S62.call r76
       refine ⟨(SP.nil (Sl.of_inc r63.run.inc S77.sl)), ?_⟩
       refine FB.t (i := 26) (bs 28 134217727) rfl (SP.nil (Sl.of_inc r63.run.inc S77.sl)) rfl (fun w' hw' => (E.asB (E.pickT rfl hc28_13 rfl) (Option.some.inj hqt28_26))) ?_
       refine FB.t (i := 27) (bs 28 268435455) rfl (SP.nil (Sl.of_inc r63.run.inc S77.sl)) rfl (fun w' hw' => (E.assign (v := Value.bool t28_26) rfl)) ?_
       exact FB.done (by kernel_rfl) ⟨_, (S77.sel [] (by decide) rfl), r63.run.inc, rfl⟩
    ·
     refine FB.skip (i := 14) (l' := (bs 28 32767)) rfl (by kernel_rfl) (by kernel_rfl) (by kernel_rfl) (by kernel_rfl) (by kernel_rfl) (SP.nil S47.sl) (wF_no rfl rfl rfl hc28_13) rfl rfl ?_
     refine FB.skip (i := 15) (l' := (bs 28 65535)) rfl (by kernel_rfl) (by kernel_rfl) (by kernel_rfl) (by kernel_rfl) (by kernel_rfl) (SP.nil S47.sl) (wF_no rfl rfl rfl hc28_13) rfl rfl ?_
     refine FB.skip (i := 16) (l' := (bs 28 131071)) rfl (by kernel_rfl) (by kernel_rfl) (by kernel_rfl) (by kernel_rfl) (by kernel_rfl) (SP.nil S47.sl) (wF_no rfl rfl rfl hc28_13) rfl rfl ?_
     refine FB.skip (i := 17) (l' := (bs 28 262143)) rfl (by kernel_rfl) (by kernel_rfl) (by kernel_rfl) (by kernel_rfl) (by kernel_rfl) (SP.nil S47.sl) (wF_no rfl rfl rfl hc28_13) rfl rfl ?_
     refine FB.skip (i := 18) (l' := (bs 28 524287)) rfl (by kernel_rfl) (by kernel_rfl) (by kernel_rfl) (by kernel_rfl) (by kernel_rfl) (SP.nil S47.sl) (wF_no rfl rfl rfl hc28_13) rfl rfl ?_
     refine FB.skip (i := 19) (l' := (bs 28 1048575)) rfl (by kernel_rfl) (by kernel_rfl) (by kernel_rfl) (by kernel_rfl) (by kernel_rfl) (SP.nil S47.sl) (wF_no rfl rfl rfl hc28_13) rfl rfl ?_
     refine FB.skip (i := 20) (l' := (bs 28 2097151)) rfl (by kernel_rfl) (by kernel_rfl) (by kernel_rfl) (by kernel_rfl) (by kernel_rfl) (SP.nil S47.sl) (wF_no rfl rfl rfl hc28_13) rfl rfl ?_
     refine FB.skip (i := 21) (l' := (bs 28 4194303)) rfl (by kernel_rfl) (by kernel_rfl) (by kernel_rfl) (by kernel_rfl) (by kernel_rfl) (SP.nil S47.sl) (wF_no rfl rfl rfl hc28_13) rfl rfl ?_
     refine FB.skip (i := 22) (l' := (bs 28 8388607)) rfl (by kernel_rfl) (by kernel_rfl) (by kernel_rfl) (by kernel_rfl) (by kernel_rfl) (SP.nil S47.sl) (wF_no rfl rfl rfl hc28_13) rfl rfl ?_
     refine FB.skip (i := 23) (l' := (bs 28 16777215)) rfl (by kernel_rfl) (by kernel_rfl) (by kernel_rfl) (by kernel_rfl) (by kernel_rfl) (SP.nil S47.sl) (wF_no rfl rfl rfl hc28_13) rfl rfl ?_
     refine FB.skip (i := 24) (l' := (bs 28 33554431)) rfl (by kernel_rfl) (by kernel_rfl) (by kernel_rfl) (by kernel_rfl) (by kernel_rfl) (SP.nil S47.sl) (wF_no rfl rfl rfl hc28_13) rfl rfl ?_
     refine FB.skip (i := 25) (l' := (bs 28 67108863)) rfl (by kernel_rfl) (by kernel_rfl) (by kernel_rfl) (by kernel_rfl) (by kernel_rfl) (SP.nil S47.sl) (wF_no rfl rfl rfl hc28_13) rfl rfl ?_
     refine FB.t (i := 26) (bs 28 134217727) rfl (SP.nil S47.sl) rfl (fun w' hw' => (E.asB (E.pickF rfl hc28_13 rfl) (Option.some.inj hqt28_26))) ?_
     refine FB.t (i := 27) (bs 28 268435455) rfl (SP.nil S47.sl) rfl (fun w' hw' => (E.assign (v := Value.bool t28_26) rfl)) ?_
     exact FB.done (by kernel_rfl) ⟨_, S47, (Inc.rfl _), rfl⟩
  ·
   refine FB.skip (i := 2) (l' := (bs 28 7)) rfl (by kernel_rfl) (by kernel_rfl) (by kernel_rfl) (by kernel_rfl) (by kernel_rfl) (SP.nil S31.sl) (wF_no rfl rfl rfl hc28_1) rfl rfl ?_
   refine FB.skip (i := 3) (l' := (bs 28 15)) rfl (by kernel_rfl) (by kernel_rfl) (by kernel_rfl) (by kernel_rfl) (by kernel_rfl) (SP.nil S31.sl) (wF_no rfl rfl rfl hc28_1) rfl rfl ?_
   refine FB.skip (i := 4) (l' := (bs 28 31)) rfl (by kernel_rfl) (by kernel_rfl) (by kernel_rfl) (by kernel_rfl) (by kernel_rfl) (SP.nil S31.sl) (wF_no rfl rfl rfl hc28_1) rfl rfl ?_
   refine FB.skip (i := 5) (l' := (bs 28 63)) rfl (by kernel_rfl) (by kernel_rfl) (by kernel_rfl) (by kernel_rfl) (by kernel_rfl) (SP.nil S31.sl) (wF_no rfl rfl rfl hc28_1) rfl rfl ?_
   refine FB.skip (i := 6) (l' := (bs 28 127)) rfl (by kernel_rfl) (by kernel_rfl) (by kernel_rfl) (by kernel_rfl) (by kernel_rfl) (SP.nil S31.sl) (wF_no rfl rfl rfl hc28_1) rfl rfl ?_
   refine FB.skip (i := 7) (l' := (bs 28 255)) rfl (by kernel_rfl) (by kernel_rfl) (by kernel_rfl) (by kernel_rfl) (by kernel_rfl) (SP.nil S31.sl) (wF_no rfl rfl rfl hc28_1) rfl rfl ?_
   refine FB.skip (i := 8) (l' := (bs 28 511)) rfl (by kernel_rfl) (by kernel_rfl) (by kernel_rfl) (by kernel_rfl) (by kernel_rfl) (SP.nil S31.sl) (wF_no rfl rfl rfl hc28_1) rfl rfl ?_
   refine FB.skip (i := 9) (l' := (bs 28 1023)) rfl (by kernel_rfl) (by kernel_rfl) (by kernel_rfl) (by kernel_rfl) (by kernel_rfl) (SP.nil S31.sl) (wF_no rfl rfl rfl hc28_1) rfl rfl ?_
   refine FB.skip (i := 10) (l' := (bs 28 2047)) rfl (by kernel_rfl) (by kernel_rfl) (by kernel_rfl) (by kernel_rfl) (by kernel_rfl) (SP.nil S31.sl) (wF_no rfl rfl rfl hc28_1) rfl rfl ?_
   refine FB.skip (i := 11) (l' := (bs 28 4095)) rfl (by kernel_rfl) (by kernel_rfl) (by kernel_rfl) (by kernel_rfl) (by kernel_rfl) (SP.nil S31.sl) (wF_no rfl rfl rfl hc28_1) rfl rfl ?_
   refine FB.t (i := 12) (bs 28 8191) rfl (SP.nil S31.sl) rfl (fun w' hw' => (E.asB (E.pickF rfl hc28_1 rfl) (Option.some.inj hqt28_12))) ?_
   refine FB.t (i := 13) (bs 28 16383) rfl (SP.nil S31.sl) rfl (fun w' hw' => (E.move (v := Value.bool t28_12) rfl)) ?_
   rcases ifB hqt28_26 with ⟨hc28_13, hqt28_26⟩ | ⟨hc28_13, hqt28_26⟩
   ·
    obtain ⟨x54, hx55, hqt28_26⟩ := bnd hqt28_26
    obtain ⟨r58, hr59, hqt28_26⟩ := bnd hqt28_26
    obtain ⟨r73, hr74, hqt28_26⟩ := bnd hqt28_26
    refine FB.t (i := 14) (bs 28 32767) rfl (SP.nil S31.sl) (wF_yes rfl rfl rfl hc28_13) (fun w' hw' => (E.move (v := v27) rfl)) ?_
    refine FB.t (i := 15) (bs 28 65535) rfl (SP.nil S31.sl) (wF_yes rfl rfl rfl hc28_13) (fun w' hw' => (E.move (v := Value.pointer (some q0P)) rfl)) ?_
    refine FB.t (i := 16) (bs 28 131071) rfl (SP.nil S31.sl) (wF_yes rfl rfl rfl hc28_13) (fun w' hw' => (E.nilCheck rfl)) ?_
    refine FB.t (i := 17) (bs 28 262143) rfl (SP.nil S31.sl) (wF_yes rfl rfl rfl hc28_13) (fun w' hw' => (E.fieldAddr tf105_0 rfl)) ?_
    refine FB.t (i := 18) (bs 28 524287) rfl (SP.nil S31.sl) (wF_yes rfl rfl rfl hc28_13) (fun w' hw' => (E.load rfl (run_loadA Tryz.isAgg102 Tryz.sizeOf102 (((c0P.mono r26.inc).now hw').sub (j := 0) (n := 2) (c := [Value.int .i64 a0.ring.p, Value.int .i64 a0.ring.vars]) rfl) rfl))) ?_
    refine FB.t (i := 19) (bs 28 1048575) rfl (SP.nil S31.sl) (wF_yes rfl rfl rfl hc28_13) (fun w' hw' => (E.move (v := v1) rfl)) ?_
    refine FB.t (i := 20) (bs 28 2097151) rfl (SP.nil S31.sl) (wF_yes rfl rfl rfl hc28_13) (fun w' hw' => (E.move (v := Value.int .i64 a2) rfl)) ?_
    obtain ⟨p48, cs49, pt50, l51, at52, rel53⟩ := p1.at hx55
    obtain ⟨v56, rfl, h57⟩ := ePcStep_open rel53
    refine FB.t (i := 21) (bs 28 4194303) rfl (SP.nil S31.sl) (wF_yes rfl rfl rfl hc28_13) (fun w' hw' => (E.indexAddr te36 rfl rfl pt50)) ?_
    refine FB.t (i := 22) (bs 28 8388607) rfl (SP.nil S31.sl) (wF_yes rfl rfl rfl hc28_13) (fun w' hw' => (E.fieldAddr tf90_1 rfl)) ?_
    refine FB.t (i := 23) (bs 28 16777215) rfl (SP.nil S31.sl) (wF_yes rfl rfl rfl hc28_13) (fun w' hw' => (E.load rfl (run_load1 Tryz.isAgg55 ((at52.mono r26.inc).now hw') rfl))) ?_
    refine FB.all1 (i := 24) (by kernel_rfl) ?_
    ·
     refine FC.call (l' := (bs 28 33554431)) rfl (by kernel_rfl) (wF_yes rfl rfl rfl hc28_13) rfl rfl (E.call Tryz.call100 (A2 rfl rfl)) (w_impl_ring_dense S31.sl a0.ring v56 x54.poly (h57.mono r26.inc) hr59) ?_
     rintro e w61 ⟨H60, v64, n65, cs66, rfl, r63, els67⟩
     refine ⟨_, rfl, ?_⟩
     have els67 := els67.mono (up_le S31.size)
     have S62 := S31.join (l' := [.row 3 1 v64 n65 cs66]) r63 rfl
     refine ⟨(SP.nil (Sl.of_inc r63.run.inc S62.sl)), ?_⟩
     refine FB.all1 (i := 25) (by kernel_rfl) ?_
     ·
      obtain ⟨H68, S69, i70, h71, nv72⟩ := S62.sealRowU (i := 0) (l' := []) rfl els67 (by decide) rfl
      refine FC.call (l' := (bs 28 67108863)) rfl (by kernel_rfl) (wF_yes rfl rfl rfl hc28_13) rfl rfl (E.call Tryz.call236 (A2 rfl rfl)) (w_slices_Equal_impl_dense_int S69.sl v27 r21.1 (h28.mono (r63.run.inc.tr i70)) v64 r58 (h71.mono upI) hr74) ?_
      rintro e w75 ⟨rfl, r76⟩
      refine ⟨_, rfl, ?_⟩
      have r76 := Run.lend i70 S62.sl r76
      have S77 := S62.call r76
      refine ⟨(SP.nil (Sl.of_inc r63.run.inc S77.sl)), ?_⟩
      refine FB.t (i := 26) (bs 28 134217727) rfl (SP.nil (Sl.of_inc r63.run.inc S77.sl)) rfl (fun w' hw' => (E.asB (E.pickT rfl hc28_13 rfl) (Option.some.inj hqt28_26))) ?_
      refine FB.t (i := 27) (bs 28 268435455) rfl (SP.nil (Sl.of_inc r63.run.inc S77.sl)) rfl (fun w' hw' => (E.assign (v := Value.bool t28_26) rfl)) ?_
      exact FB.done (by kernel_rfl) ⟨_, (S77.sel [] (by decide) rfl), r63.run.inc, rfl⟩
   ·
    refine FB.skip (i := 14) (l' := (bs 28 32767)) rfl (by kernel_rfl) (by kernel_rfl) (by kernel_rfl) (by kernel_rfl) (by kernel_rfl) (SP.nil S31.sl) (wF_no rfl rfl rfl hc28_13) rfl rfl ?_
    refine FB.skip (i := 15) (l' := (bs 28 65535)) rfl (by kernel_rfl) (by kernel_rfl) (by kernel_rfl) (by kernel_rfl) (by kernel_rfl) (SP.nil S31.sl) (wF_no rfl rfl rfl hc28_13) rfl rfl ?_
    refine FB.skip (i := 16) (l' := (bs 28 131071)) rfl (by kernel_rfl) (by kernel_rfl) (by kernel_rfl) (by kernel_rfl) (by kernel_rfl) (SP.nil S31.sl) (wF_no rfl rfl rfl hc28_13) rfl rfl ?_
    refine FB.skip (i := 17) (l' := (bs 28 262143)) rfl (by kernel_rfl) (by kernel_rfl) (by kernel_rfl) (by kernel_rfl) (by kernel_rfl) (SP.nil S31.sl) (wF_no rfl rfl rfl hc28_13) rfl rfl ?_
    refine FB.skip (i := 18) (l' := (bs 28 524287)) rfl (by kernel_rfl) (by kernel_rfl) (by kernel_rfl) (by kernel_rfl) (by kernel_rfl) (SP.nil S31.sl) (wF_no rfl rfl rfl hc28_13) rfl rfl ?_
    refine FB.skip (i := 19) (l' := (bs 28 1048575)) rfl (by kernel_rfl) (by kernel_rfl) (by kernel_rfl) (by kernel_rfl) (by kernel_rfl) (SP.nil S31.sl) (wF_no rfl rfl rfl hc28_13) rfl rfl ?_
    refine FB.skip (i := 20) (l' := (bs 28 2097151)) rfl (by kernel_rfl) (by kernel_rfl) (by kernel_rfl) (by kernel_rfl) (by kernel_rfl) (SP.nil S31.sl) (wF_no rfl rfl rfl hc28_13) rfl rfl ?_
    refine FB.skip (i := 21) (l' := (bs 28 4194303)) rfl (by kernel_rfl) (by kernel_rfl) (by kernel_rfl) (by kernel_rfl) (by kernel_rfl) (SP.nil S31.sl) (wF_no rfl rfl rfl hc28_13) rfl rfl ?_
    refine FB.skip (i := 22) (l' := (bs 28 8388607)) rfl (by kernel_rfl) (by kernel_rfl) (by kernel_rfl) (by kernel_rfl) (by kernel_rfl) (SP.nil S31.sl) (wF_no rfl rfl rfl hc28_13) rfl rfl ?_
    refine FB.skip (i := 23) (l' := (bs 28 16777215)) rfl (by kernel_rfl) (by kernel_rfl) (by kernel_rfl) (by kernel_rfl) (by kernel_rfl) (SP.nil S31.sl) (wF_no rfl rfl rfl hc28_13) rfl rfl ?_
    refine FB.skip (i := 24) (l' := (bs 28 33554431)) rfl (by kernel_rfl) (by kernel_rfl) (by kernel_rfl) (by kernel_rfl) (by kernel_rfl) (SP.nil S31.sl) (wF_no rfl rfl rfl hc28_13) rfl rfl ?_
    refine FB.skip (i := 25) (l' := (bs 28 67108863)) rfl (by kernel_rfl) (by kernel_rfl) (by kernel_rfl) (by kernel_rfl) (by kernel_rfl) (SP.nil S31.sl) (wF_no rfl rfl rfl hc28_13) rfl rfl ?_
    refine FB.t (i := 26) (bs 28 134217727) rfl (SP.nil S31.sl) rfl (fun w' hw' => (E.asB (E.pickF rfl hc28_13 rfl) (Option.some.inj hqt28_26))) ?_
    refine FB.t (i := 27) (bs 28 268435455) rfl (SP.nil S31.sl) rfl (fun w' hw' => (E.assign (v := Value.bool t28_26) rfl)) ?_
    exact FB.done (by kernel_rfl) ⟨_, S31, (Inc.rfl _), rfl⟩
 ·
  rintro f82 w81 ⟨H78, S79, i80, k83⟩
  refine FW.ret ?_
  obtain rfl := Option.some.inj hp
  exact ⟨.inr rfl, res1 rfl k83 ⟨rfl, S79.back⟩⟩

theorem w_impl_algebra_firstWrongPc {Ha : GH} {wa : World} (hs : Sl Ha wa) (q0P : Addr) (a0 : algebra) (v0P_3 : Value) (v0P_4 : Value) (p0P_3 : RSl Ha (eL eI 1) 1 v0P_3 a0.f.clauses) (p0P_4 : RSl Ha (eL eI 1) 1 v0P_4 a0.q) (c0P : CAt Ha q0P [Value.int .i64 a0.ring.p, Value.int .i64 a0.ring.vars, Value.int .i64 a0.f.vars, v0P_3, v0P_4]) (v1 : Value) (a1 : List PcStep) (p1 : RSl Ha ePcStep 6 v1 a1) {r : Int} (hp : (PF.impl_algebra_firstWrongPc a0 a1) = some r) :
  Calls Tryz.prog 122 #[Value.pointer (some q0P), v1] wa (Sc Ha wa (Value.int .i64 r)) := by
 unfold PF.impl_algebra_firstWrongPc at hp
 have S0 := St.init hs
 refine calls_go (N := 18) (args := [Value.pointer (some q0P), v1]) Tryz.func122 rfl rfl rfl ?_
 refine FW.seq (FW.region ?_)
 refine FL.v (E.assign (v := Value.int .i64 0) rfl) ?_
 refine FL.nil (FW.seq (FW.seq (FW.region ?_)))
 refine FL.v (E.move (v := v1) rfl) ?_
 refine FL.v (E.lenP te36 rfl p1) ?_
 refine FL.v (E.move (v := Value.int .i64 0) rfl) ?_
 refine FL.nil ?_
 obtain ⟨q22, hq, hp⟩ := bndR hp
 refine FW.block ?_
 refine FW.mono (FW.forL (S := Unit) (X := Int) (fun (i22 : Nat) (s22 : Unit) f w => ∃ H : GH, St Ha wa H w [] ∧ Inc Ha H ∧ f 8 = Value.int .i64 ((i22 : Nat) : Int) ∧ f 0 = Value.pointer (some q0P) ∧ f 1 = v1 ∧ f 7 = Value.int .i64 (len a1)) (fun q e f w => match q with | .go s22 => e = Exit.exit 0 ∧ (∃ H : GH, St Ha wa H w [] ∧ Inc Ha H) | .rt x => ((e = Exit.ret) ∧ (fun e f w => (e = Exit.normal ∨ e = Exit.ret) ∧ ∀ a, Fr (δ := []) 18 a f → ∃ v, (results Tryz.f122 a.tmps).run Tryz.prog w = .ok v w ∧ (Sc Ha wa (Value.int .i64 x)) (.returned v) w) e f w)) hq ⟨_, S0, (Inc.rfl _), rfl, rfl, rfl, rfl⟩ ?_ ?_) ?_
 ·
  clear hp hq
  rintro i22 y21 s22 f42 w41 ⟨H38, S39, i40, k43, k44, k45, k46⟩ hx22 o53 hp
  refine FW.seq (FW.region ?_)
  refine FL.v (E.lssT k43 k46 (lss_len hx22)) ?_
  refine FL.nil (FW.seq ?_)
  refine FW.condT rfl rfl ?_
  refine FW.skip (FW.seq (FW.block (FW.seq (FW.region ?_))))
  refine FL.v (E.move k43) ?_
  refine FL.v (E.assign (v := Value.int .i64 ((i22 : Nat) : Int)) rfl) ?_
  refine FL.nil (FW.seq (FW.region ?_))
  refine FL.v (E.move k44) ?_
  refine FL.v (E.move k45) ?_
  refine FL.v (E.move (v := Value.int .i64 ((i22 : Nat) : Int)) rfl) ?_
  obtain ⟨r47, hr48, hp⟩ := bnd hp
  refine FL.call rfl rfl rfl (E.call Tryz.call183 (A3 rfl rfl rfl)) (w_impl_algebra_pcCorrect S39.sl q0P a0 v0P_3 v0P_4 (p0P_3.mono i40) (p0P_4.mono i40) (c0P.mono i40) v1 a1 (p1.mono i40) ((i22 : Nat) : Int) hr48) ?_
  rintro e w49 ⟨rfl, r50⟩
  refine ⟨_, rfl, ?_⟩
  have S51 := S39.call r50
  refine FL.v (E.not rfl) ?_
  refine FL.nil ?_
  rcases ifB hp with ⟨c52, hp⟩ | ⟨c52, hp⟩
  ·
   refine FW.condT rfl c52 ?_
   refine FW.seq (FW.region ?_)
   refine FL.v (E.move (v := Value.int .i64 ((i22 : Nat) : Int)) rfl) ?_
   refine FL.v (E.assign (v := Value.int .i64 ((i22 : Nat) : Int)) rfl) ?_
   refine FL.nil ?_
   refine FW.ret ?_
   obtain rfl := Option.some.inj hp
   exact ⟨nofun, rfl, ⟨.inr rfl, res1 rfl rfl ⟨rfl, S51.back⟩⟩⟩
  ·
   refine FW.condF rfl c52 ?_
   refine FW.skip (FW.region ?_)
   refine FL.v (E.add k43 rfl) ?_
   refine FL.v (E.move (v := Value.int .i64 (wr (((i22 : Nat) : Int) + 1))) rfl) ?_
   refine FL.nil ?_
   obtain rfl := Option.some.inj hp
   exact ⟨rfl, ⟨_, S51, i40, (nat_succ rfl (lt_of_get hx22) (p1.mono i40).le), k44, k45, k46⟩⟩
 ·
  clear hp hq
  rintro s22 f63 w62 ⟨H59, S60, i61, k64, k65, k66, k67⟩
  refine FW.seq (FW.region ?_)
  refine FL.v (E.lss k64 k67) ?_
  refine FL.nil (FW.seq ?_)
  refine FW.condF rfl dlt_len ?_
  refine FW.exit ?_
  exact ⟨nofun, rfl, ⟨_, S60, i61⟩⟩
 ·
  clear hq
  intro e f58 w57 hD
  rcases q22 with s22 | x22
  ·
   obtain ⟨rfl, hD⟩ := hD
   obtain ⟨H54, S55, i56⟩ := hD
   replace hp := el_go hp
   refine FW.seq (FW.region ?_)
   refine FL.v (E.assign (v := Value.int .i64 (-1)) rfl) ?_
   refine FL.nil ?_
   refine FW.ret ?_
   obtain rfl := Option.some.inj hp
   exact ⟨.inr rfl, res1 rfl rfl ⟨rfl, S55.back⟩⟩
  ·
   obtain ⟨he, hL⟩ := hD
   replace hp := el_rt hp
   obtain rfl := Option.some.inj hp
   subst he
   exact hL

theorem w_impl_algebra_pcDerivation {Ha : GH} {wa : World} (hs : Sl Ha wa) (q0P : Addr) (a0 : algebra) (v0P_3 : Value) (v0P_4 : Value) (p0P_3 : RSl Ha (eL eI 1) 1 v0P_3 a0.f.clauses) (p0P_4 : RSl Ha (eL eI 1) 1 v0P_4 a0.q) (c0P : CAt Ha q0P [Value.int .i64 a0.ring.p, Value.int .i64 a0.ring.vars, Value.int .i64 a0.f.vars, v0P_3, v0P_4]) (v1 : Value) (a1 : List PcStep) (p1 : RSl Ha ePcStep 6 v1 a1) {r : Bool} (hp : (PF.impl_algebra_pcDerivation a0 a1) = some r) :
  Calls Tryz.prog 67 #[Value.pointer (some q0P), v1] wa (Sc Ha wa (Value.bool r)) := by
 unfold PF.impl_algebra_pcDerivation at hp
 have S0 := St.init hs
 refine calls_go (N := 14) (args := [Value.pointer (some q0P), v1]) Tryz.func67 rfl rfl rfl ?_
 refine FW.seq (FW.region ?_)
 refine FL.v (E.assign (v := Value.bool false) rfl) ?_
 refine FL.nil (FW.seq (FW.region ?_))
 refine FL.v (E.move (v := v1) rfl) ?_
 refine FL.v (E.lenP te36 rfl p1) ?_
 refine FL.v (E.leq rfl rfl) ?_
 refine FL.v (E.move (v := Value.bool (decide ((len a1) ≤ 300))) rfl) ?_
 obtain ⟨t26, hqt26, hp⟩ := bnd hp
 refine FL.cut 5 (fun f w => ∃ H : GH, St Ha wa H w [] ∧ Inc Ha H ∧ f 13 = Value.bool t26) ?_ ?_
 ·
  clear hp; have hp := hqt26; clear hqt26
  rcases ifB hp with ⟨c32, hp⟩ | ⟨c32, hp⟩
  ·
   refine FL.val (wF_yes rfl rfl rfl c32) rfl rfl (E.move (v := Value.pointer (some q0P)) rfl) ?_
   refine FL.val (wF_yes rfl rfl rfl c32) rfl rfl (E.move (v := v1) rfl) ?_
   obtain ⟨r33, hr34, hp⟩ := bnd hp
   refine FL.call (wF_yes rfl rfl rfl c32) rfl rfl (E.call Tryz.call122 (A2 rfl rfl)) (w_impl_algebra_firstWrongPc S0.sl q0P a0 v0P_3 v0P_4 p0P_3 p0P_4 c0P v1 a1 p1 hr34) ?_
   rintro e w35 ⟨rfl, r36⟩
   refine ⟨_, rfl, ?_⟩
   have S37 := S0.call r36
   refine FL.val (wF_yes rfl rfl rfl c32) rfl rfl (E.lss rfl rfl) ?_
   obtain rfl := Option.some.inj hp
   refine FL.v (E.pickT rfl c32 rfl) ?_
   exact FL.nil ⟨rfl, _, S37, (Inc.rfl _), rfl⟩
  ·
   refine FL.skip (wF_no rfl rfl rfl c32) rfl ?_
   refine FL.skip (wF_no rfl rfl rfl c32) rfl ?_
   refine FL.skip (wF_no rfl rfl rfl c32) rfl ?_
   refine FL.skip (wF_no rfl rfl rfl c32) rfl ?_
   obtain rfl := Option.some.inj hp
   refine FL.v (E.pickF rfl c32 rfl) ?_
   exact FL.nil ⟨rfl, _, S0, (Inc.rfl _), rfl⟩
 rintro f31 w30 ⟨H27, S28, i29, k38⟩
 refine FL.v (E.assign k38) ?_
 refine FL.nil ?_
 refine FW.ret ?_
 obtain rfl := Option.some.inj hp
 exact ⟨.inr rfl, res1 rfl rfl ⟨rfl, S28.back⟩⟩

@[reducible] def p_impl_dense_terms (Ha : GH) (wa : World) (r : (List Term)) : Ending → World → Prop :=
  fun e w' => ∃ H' : GH, ∃ v0 : Value, ∃ n0 : Nat, ∃ c0 : List Value, e = .returned (v0) ∧ St Ha wa H' w' [.row 108 2 v0 n0 c0] ∧ Els (up wa.heap.size H') eTerm 2 c0 r
theorem w_impl_dense_terms {Ha : GH} {wa : World} (hs : Sl Ha wa) (v0 : Value) (a0 : List Int) (p0 : RSl Ha eI 1 v0 a0) {r : (List Term)} (hp : (PF.impl_dense_terms a0) = some r) :
    Calls Tryz.prog 69 #[v0] wa (p_impl_dense_terms Ha wa r) := by
  unfold PF.impl_dense_terms at hp
  have S0 := St.init hs
  refine calls_go (N := 23) (args := [v0]) Tryz.func69 rfl rfl rfl ?_
  refine FW.seq (FW.region ?_)
  refine FL.v (E.assign (v := Value.slice none 0 0) rfl) ?_
  refine FL.nil (FW.seq (FW.region ?_))
  refine FL.v (E.assign (v := Value.slice none 0 0) rfl) ?_
  refine FL.nil (FW.seq (FW.seq (FW.region ?_)))
  refine FL.v (E.move (v := v0) rfl) ?_
  refine FL.v (E.lenP te99 rfl p0) ?_
  refine FL.v (E.move (v := Value.int .i64 0) rfl) ?_
  refine FL.nil ?_
  obtain ⟨q22, hq, hp⟩ := bndR hp
  refine FW.block ?_
  refine FW.mono (FW.forL (S := (List Term)) (X := Empty) (fun (i22 : Nat) (s22 : (List Term)) f w => ∃ H : GH, ∃ v23 : Value, ∃ n24 : Nat, ∃ cs25 : List Value, St Ha wa H w [.row 108 2 v23 n24 cs25] ∧ Inc Ha H ∧ Els (up wa.heap.size H) eTerm 2 cs25 s22 ∧ f 8 = Value.int .i64 ((i22 : Nat) : Int) ∧ f 3 = v23 ∧ f 6 = v0 ∧ f 7 = Value.int .i64 (len a0)) (fun (q : Rs (List Term) Empty) e f w => match q with | .go s22 => e = Exit.exit 0 ∧ (∃ H : GH, ∃ v23 : Value, ∃ n24 : Nat, ∃ cs25 : List Value, St Ha wa H w [.row 108 2 v23 n24 cs25] ∧ Inc Ha H ∧ Els (up wa.heap.size H) eTerm 2 cs25 s22 ∧ f 3 = v23) | .rt x => x.elim) hq ⟨_, _, _, _, (S0.nil 108 2), (Inc.rfl _), Els.nil, rfl, rfl, rfl, rfl⟩ ?_ ?_) ?_
  ·
    clear hp hq
    rintro i22 y21 s22 f63 w62 ⟨H59, v23, n24, cs25, S60, i61, els26, k64, k65, k66, k67⟩ hx22 o91 hp
    refine FW.seq (FW.region ?_)
    refine FL.v (E.lssT k64 k67 (lss_len hx22)) ?_
    refine FL.nil (FW.seq ?_)
    refine FW.condT rfl rfl ?_
    refine FW.skip (FW.seq (FW.block (FW.seq (FW.region ?_))))
    refine FL.v (E.move k64) ?_
    obtain ⟨p68, cs69, pt70, l71, at72, rel73⟩ := p0.at (ix_nat hx22)
    obtain rfl := eI_open rel73
    refine FL.v (E.indexAddr te99 k66 k64 pt70) ?_
    refine FL.v (E.load rfl (run_load0 Tryz.isAgg3 ((at72.mono i61).now S60.sl) rfl)) ?_
    refine FL.v (E.assign (v := Value.int .i64 ((i22 : Nat) : Int)) rfl) ?_
    refine FL.v (E.assign (v := Value.int .i64 y21) rfl) ?_
    refine FL.nil (FW.seq (FW.region ?_))
    refine FL.v (E.move (v := Value.int .i64 y21) rfl) ?_
    refine FL.v (E.neq rfl rfl) ?_
    refine FL.nil ?_
    rcases ifB hp with ⟨c74, hp⟩ | ⟨c74, hp⟩
    ·
      refine FW.condT rfl c74 ?_
      refine FW.region ?_
      refine FL.v (E.move k65) ?_
      refine FL.v (E.move (v := Value.int .i64 ((i22 : Nat) : Int)) rfl) ?_
      refine FL.v (E.move (v := Value.int .i64 y21) rfl) ?_
      refine FL.v (E.build (B2 rfl rfl) (run_build _ 108 #[(0, Value.int .i64 ((i22 : Nat) : Int)), (1, Value.int .i64 y21)] #[Value.int .i64 ((i22 : Nat) : Int), Value.int .i64 y21] (by rfl))) ?_
      obtain ⟨v75, w76, run77, S78⟩ := S60.buildSlice (P := Tryz.prog) te55 [Value.agg #[Value.int .i64 ((i22 : Nat) : Int), Value.int .i64 y21]] (parts := #[(0, Value.agg #[Value.int .i64 ((i22 : Nat) : Int), Value.int .i64 y21])]) (cells := [Value.int .i64 ((i22 : Nat) : Int), Value.int .i64 y21]) rfl (szs_cons rfl szs_nil) (fc_cons rfl fc_nil) (ones_cons rfl (ones_cons rfl ones_nil)) (Nat.le_of_ble_eq_true rfl)
      have els79 : Els (up wa.heap.size H59) eTerm 2 [Value.int .i64 ((i22 : Nat) : Int), Value.int .i64 y21] [(Term.mk ((i22 : Nat) : Int) y21)] := (Els.snoc (H := (up wa.heap.size H59)) (E := eTerm) (k := 2) (c := [Value.int .i64 ((i22 : Nat) : Int), Value.int .i64 y21]) (x := (Term.mk ((i22 : Nat) : Int) y21)) Els.nil rfl rfl)
      refine FL.v (E.buildSlice (B1 rfl) run77) ?_
      obtain ⟨xs80, hz81, hp⟩ := bnd hp
      obtain ⟨v82, w85, n83, cs84, run86, S87, els88, ce89⟩ := S78.appendO (P := Tryz.prog) te55 (i := 1) (j := 0) rfl els26 rfl els79 hz81
      have S87 : St Ha wa H59 w85 [.row 108 2 v75 1 [Value.int .i64 ((i22 : Nat) : Int), Value.int .i64 y21], .row 108 2 v82 n83 cs84] := S87
      have S90 : St Ha wa H59 w85 [.row 108 2 v82 n83 cs84] := S87.drop 0
      refine FL.v (E.append rfl rfl run86) ?_
      refine FL.v (E.assign (v := v82) rfl) ?_
      refine FL.nil (FW.region ?_)
      refine FL.v (E.add k64 rfl) ?_
      refine FL.v (E.move (v := Value.int .i64 (wr (((i22 : Nat) : Int) + 1))) rfl) ?_
      refine FL.nil ?_
      obtain rfl := Option.some.inj hp
      exact ⟨rfl, ⟨_, _, _, _, S90, i61, els88, (nat_succ rfl (lt_of_get hx22) (p0.mono i61).le), rfl, k66, k67⟩⟩
    ·
      refine FW.condF rfl c74 ?_
      refine FW.skip (FW.region ?_)
      refine FL.v (E.add k64 rfl) ?_
      refine FL.v (E.move (v := Value.int .i64 (wr (((i22 : Nat) : Int) + 1))) rfl) ?_
      refine FL.nil ?_
      obtain rfl := Option.some.inj hp
      exact ⟨rfl, ⟨_, _, _, _, S60, i61, els26, (nat_succ rfl (lt_of_get hx22) (p0.mono i61).le), k65, k66, k67⟩⟩
  ·
    clear hp hq
    rintro s22 f102 w101 ⟨H98, v23, n24, cs25, S99, i100, els26, k103, k104, k105, k106⟩
    refine FW.seq (FW.region ?_)
    refine FL.v (E.lss k103 k106) ?_
    refine FL.nil (FW.seq ?_)
    refine FW.condF rfl dlt_len ?_
    refine FW.exit ?_
    exact ⟨nofun, rfl, ⟨_, _, _, _, S99, i100, els26, k104⟩⟩
  ·
    clear hq
    intro e f96 w95 hD
    rcases q22 with s22 | x22
    ·
      obtain ⟨rfl, hD⟩ := hD
      obtain ⟨H92, v23, n24, cs25, S93, i94, els26, k97⟩ := hD
      replace hp := el_go hp
      refine FW.seq (FW.region ?_)
      refine FL.v (E.move k97) ?_
      refine FL.v (E.assign (v := v23) rfl) ?_
      refine FL.nil ?_
      refine FW.ret ?_
      obtain rfl := Option.some.inj hp
      exact ⟨.inr rfl, res1 rfl rfl ⟨_, _, _, _, rfl, S93, els26⟩⟩
    · exact x22.elim

theorem w_slices_Equal_impl_Term_impl_Term {Ha : GH} {wa : World} (hs : Sl Ha wa) (v0 : Value) (a0 : List Term) (p0 : RSl Ha eTerm 2 v0 a0) (v1 : Value) (a1 : List Term) (p1 : RSl Ha eTerm 2 v1 a1) {r : Bool} (hp : (PF.slices_Equal_impl_Term_impl_Term a0 a1) = some r) :
  Calls Tryz.prog 70 #[v0, v1] wa (Sc Ha wa (Value.bool r)) := by
 unfold PF.slices_Equal_impl_Term_impl_Term at hp
 have S0 := St.init hs
 refine calls_go (N := 26) (args := [v0, v1]) Tryz.func70 rfl rfl rfl ?_
 refine FW.seq (FW.region ?_)
 refine FL.v (E.assign (v := Value.bool false) rfl) ?_
 refine FL.nil (FW.seq (FW.seq (FW.region ?_)))
 refine FL.v (E.move (v := v0) rfl) ?_
 refine FL.v (E.lenP te55 rfl p0) ?_
 refine FL.v (E.move (v := v1) rfl) ?_
 refine FL.v (E.lenP te55 rfl p1) ?_
 refine FL.v (E.neq rfl rfl) ?_
 refine FL.nil ?_
 rcases ifB hp with ⟨c21, hp⟩ | ⟨c21, hp⟩
 ·
  refine FW.condT rfl c21 ?_
  refine FW.seq (FW.region ?_)
  refine FL.v (E.assign (v := Value.bool false) rfl) ?_
  refine FL.nil ?_
  refine FW.ret ?_
  obtain rfl := Option.some.inj hp
  exact ⟨.inr rfl, res1 rfl rfl ⟨rfl, S0.back⟩⟩
 ·
  refine FW.condF rfl c21 ?_
  refine FW.skip (FW.seq (FW.seq (FW.region ?_)))
  refine FL.v (E.move (v := v0) rfl) ?_
  refine FL.v (E.lenP te55 rfl p0) ?_
  refine FL.v (E.move (v := Value.int .i64 0) rfl) ?_
  refine FL.nil ?_
  obtain ⟨q23, hq, hp⟩ := bndR hp
  refine FW.block ?_
  refine FW.mono (FW.forL (S := Unit) (X := Bool) (fun (i23 : Nat) (s23 : Unit) f w => ∃ H : GH, St Ha wa H w [] ∧ Inc Ha H ∧ f 13 = Value.int .i64 ((i23 : Nat) : Int) ∧ f 0 = v0 ∧ f 1 = v1 ∧ f 12 = Value.int .i64 (len a0)) (fun q e f w => match q with | .go s23 => e = Exit.exit 0 ∧ (∃ H : GH, St Ha wa H w [] ∧ Inc Ha H) | .rt x => ((e = Exit.ret) ∧ (fun e f w => (e = Exit.normal ∨ e = Exit.ret) ∧ ∀ a, Fr (δ := []) 26 a f → ∃ v, (results Tryz.f70 a.tmps).run Tryz.prog w = .ok v w ∧ (Sc Ha wa (Value.bool x)) (.returned v) w) e f w)) hq ⟨_, S0, (Inc.rfl _), rfl, rfl, rfl, rfl⟩ ?_ ?_) ?_
  ·
   clear hp hq
   rintro i23 y22 s23 f56 w55 ⟨H52, S53, i54, k57, k58, k59, k60⟩ hx23 o80 hp
   refine FW.seq (FW.region ?_)
   refine FL.v (E.lssT k57 k60 (lss_len hx23)) ?_
   refine FL.nil (FW.seq ?_)
   refine FW.condT rfl rfl ?_
   refine FW.skip (FW.seq (FW.block (FW.seq (FW.region ?_))))
   refine FL.v (E.move k57) ?_
   refine FL.v (E.assign (v := Value.int .i64 ((i23 : Nat) : Int)) rfl) ?_
   refine FL.nil (FW.seq ?_)
   refine FW.draw (fun w' => Run w55.heap.size H52 w55 H52 w') (by kernel_rfl) (by kernel_rfl) (run_drew S53.sl) ?_
   refine FD.val rfl rfl rfl (fun w' hw' => (E.move k58)) ?_
   refine FD.val rfl rfl rfl (fun w' hw' => (E.move (v := Value.int .i64 ((i23 : Nat) : Int)) rfl)) ?_
   obtain ⟨p62, cs63, pt64, l65, at66, rel67⟩ := p0.at (ix_nat hx23)
   obtain rfl := eTerm_open rel67
   refine FD.val rfl rfl rfl (fun w' hw' => (E.indexAddr te55 rfl rfl pt64)) ?_
   refine FD.val rfl rfl rfl (fun w' hw' => (E.load rfl (run_loadA Tryz.isAgg108 Tryz.sizeOf108 ((at66.mono i54).now (S53.call hw').sl) rfl))) ?_
   refine FD.val rfl rfl rfl (fun w' hw' => (E.move k59)) ?_
   refine FD.val rfl rfl rfl (fun w' hw' => (E.move (v := Value.int .i64 ((i23 : Nat) : Int)) rfl)) ?_
   obtain ⟨x74, hx75, hp⟩ := bnd hp
   obtain ⟨p68, cs69, pt70, l71, at72, rel73⟩ := p1.at hx75
   obtain rfl := eTerm_open rel73
   refine FD.val rfl rfl rfl (fun w' hw' => (E.indexAddr te55 rfl rfl pt70)) ?_
   refine FD.val rfl rfl rfl (fun w' hw' => (E.load rfl (run_loadA Tryz.isAgg108 Tryz.sizeOf108 ((at72.mono i54).now (S53.call hw').sl) rfl))) ?_
   refine FD.val rfl rfl rfl (fun w' hw' => (E.neqA sg108 (sq108 y22.mono y22.coeff x74.mono x74.coeff) rfl rfl)) ?_
   refine FD.nil ?_
   intro w76 r78
   have S77 := S53.call r78
   rcases ifB hp with ⟨c79, hp⟩ | ⟨c79, hp⟩
   ·
    refine FW.condT rfl c79 ?_
    refine FW.seq (FW.region ?_)
    refine FL.v (E.assign (v := Value.bool false) rfl) ?_
    refine FL.nil ?_
    refine FW.ret ?_
    obtain rfl := Option.some.inj hp
    exact ⟨nofun, rfl, ⟨.inr rfl, res1 rfl rfl ⟨rfl, S77.back⟩⟩⟩
   ·
    refine FW.condF rfl c79 ?_
    refine FW.skip (FW.region ?_)
    refine FL.v (E.add k57 rfl) ?_
    refine FL.v (E.move (v := Value.int .i64 (wr (((i23 : Nat) : Int) + 1))) rfl) ?_
    refine FL.nil ?_
    obtain rfl := Option.some.inj hp
    exact ⟨rfl, ⟨_, S77, i54, (nat_succ rfl (lt_of_get hx23) (p0.mono i54).le), k58, k59, k60⟩⟩
  ·
   clear hp hq
   rintro s23 f90 w89 ⟨H86, S87, i88, k91, k92, k93, k94⟩
   refine FW.seq (FW.region ?_)
   refine FL.v (E.lss k91 k94) ?_
   refine FL.nil (FW.seq ?_)
   refine FW.condF rfl dlt_len ?_
   refine FW.exit ?_
   exact ⟨nofun, rfl, ⟨_, S87, i88⟩⟩
  ·
   clear hq
   intro e f85 w84 hD
   rcases q23 with s23 | x23
   ·
    obtain ⟨rfl, hD⟩ := hD
    obtain ⟨H81, S82, i83⟩ := hD
    replace hp := el_go hp
    refine FW.seq (FW.region ?_)
    refine FL.v (E.assign (v := Value.bool true) rfl) ?_
    refine FL.nil ?_
    refine FW.ret ?_
    obtain rfl := Option.some.inj hp
    exact ⟨.inr rfl, res1 rfl rfl ⟨rfl, S82.back⟩⟩
   ·
    obtain ⟨he, hL⟩ := hD
    replace hp := el_rt hp
    obtain rfl := Option.some.inj hp
    subst he
    exact hL

set_option maxHeartbeats 4000000 in
theorem w_impl_IsTranslationOf {Ha : GH} {wa : World} (hs : Sl Ha wa) (a0 : Int) (a1 : Cnf) (v1_1 : Value) (p1_1 : RSl Ha (eL eI 1) 1 v1_1 a1.clauses) (v2 : Value) (a2 : List ResStep) (p2 : RSl Ha eResStep 4 v2 a2) (v3 : Value) (a3 : List PcStep) (p3 : RSl Ha ePcStep 6 v3 a3) {r : (Bool × Bool)} (hp : (PF.impl_IsTranslationOf a0 a1 a2 a3) = some r) :
    Calls Tryz.prog 18 #[Value.int .i64 a0, Value.agg #[Value.int .i64 a1.vars, v1_1], v2, v3] wa (Sc Ha wa (Value.tuple #[Value.bool r.1, Value.bool r.2])) := by
  unfold PF.impl_IsTranslationOf at hp
  have S0 := St.init hs
  refine calls_go (N := 69) (args := [Value.int .i64 a0, Value.agg #[Value.int .i64 a1.vars, v1_1], v2, v3]) Tryz.func18 rfl rfl rfl ?_
  refine FW.seq (FW.region ?_)
  obtain ⟨b21, w22, run23, S24⟩ := S0.box (P := Tryz.prog) 32 [Value.int .i64 a1.vars, v1_1] (v := Value.agg #[Value.int .i64 a1.vars, v1_1]) rfl (ones_cons rfl (ones_cons p1_1.one ones_nil))
  refine FL.v (E.box rfl run23) ?_
  obtain ⟨H25, S26, i27, at28⟩ := S24.sealBox (i := 0) (l' := []) rfl rfl
  refine FL.v (E.assign (v := Value.bool false) rfl) ?_
  refine FL.v (E.assign (v := Value.bool false) rfl) ?_
  refine FL.nil (FW.seq (FW.region ?_))
  refine FL.v (E.move (v := Value.int .i64 a0) rfl) ?_
  refine FL.v (E.load rfl (run_loadA Tryz.isAgg32 Tryz.sizeOf32 (at28.now S26.sl) rfl)) ?_
  obtain ⟨r29, hr30, hp⟩ := bnd hp
  refine FL.call rfl rfl rfl (E.call Tryz.call65 (A2 rfl rfl)) (w_impl_algebraOf S26.sl a0 a1 v1_1 (p1_1.mono i27) hr30) ?_
  rintro e w32 ⟨H31, v35, rfl, r34, h36⟩
  refine ⟨_, rfl, ?_⟩
  have S33 := S26.call r34
  refine FL.v (E.move (v := Value.tuple #[v35, Value.bool r29.2]) rfl) ?_
  refine FL.v (E.extract (i := 0) rfl rfl) ?_
  refine FL.v (E.extract (i := 1) rfl rfl) ?_
  refine FL.v (E.assign (v := v35) rfl) ?_
  refine FL.v (E.assign (v := Value.bool r29.2) rfl) ?_
  refine FL.nil (FW.seq (FW.seq (FW.region ?_)))
  refine FL.v (E.move (v := Value.bool r29.2) rfl) ?_
  refine FL.v (E.not rfl) ?_
  refine FL.v (E.move (v := Value.bool (!r29.2)) rfl) ?_
  obtain ⟨t42, hqt42, hp⟩ := bnd hp
  refine FL.cut 5 (fun f w => ∃ H : GH, St Ha wa H w [] ∧ Inc H31 H ∧ f 2 = v2 ∧ f 3 = v3 ∧ f 10 = v35 ∧ f 29 = Value.bool t42) ?_ ?_
  ·
    clear hp; have hp := hqt42; clear hqt42
    rcases ifB hp with ⟨c48, hp⟩ | ⟨c48, hp⟩
    ·
      refine FL.skip (wF_no rfl rfl rfl c48) rfl ?_
      refine FL.skip (wF_no rfl rfl rfl c48) rfl ?_
      refine FL.skip (wF_no rfl rfl rfl c48) rfl ?_
      refine FL.skip (wF_no rfl rfl rfl c48) rfl ?_
      obtain rfl := Option.some.inj hp
      refine FL.v (E.pickT rfl c48 rfl) ?_
      exact FL.nil ⟨rfl, _, S33, (Inc.rfl _), rfl, rfl, rfl, rfl⟩
    ·
      refine FL.val (wF_yes rfl rfl rfl c48) rfl rfl (E.load rfl (run_loadA Tryz.isAgg32 Tryz.sizeOf32 ((at28.mono r34.inc).now S33.sl) rfl)) ?_
      refine FL.val (wF_yes rfl rfl rfl c48) rfl rfl (E.move (v := v2) rfl) ?_
      obtain ⟨r49, hr50, hp⟩ := bnd hp
      refine FL.call (wF_yes rfl rfl rfl c48) rfl rfl (E.call Tryz.call66 (A2 rfl rfl)) (w_impl_IsDerivation S33.sl a1 v1_1 (p1_1.mono (i27.tr r34.inc)) v2 a2 (p2.mono (i27.tr r34.inc)) hr50) ?_
      rintro e w51 ⟨rfl, r52⟩
      refine ⟨_, rfl, ?_⟩
      have S53 := S33.call r52
      refine FL.val (wF_yes rfl rfl rfl c48) rfl rfl (E.not rfl) ?_
      obtain rfl := Option.some.inj hp
      refine FL.v (E.pickF rfl c48 rfl) ?_
      exact FL.nil ⟨rfl, _, S53, (Inc.rfl _), rfl, rfl, rfl, rfl⟩
  rintro f47 w46 ⟨H43, S44, i45, k54, k55, k56, k57⟩
  refine FL.nil ?_
  rcases ifB hp with ⟨c58, hp⟩ | ⟨c58, hp⟩
  ·
    refine FW.condT k57 c58 ?_
    refine FW.seq (FW.region ?_)
    refine FL.v (E.assign (v := Value.bool false) rfl) ?_
    refine FL.v (E.assign (v := Value.bool false) rfl) ?_
    refine FL.nil ?_
    refine FW.ret ?_
    obtain rfl := Option.some.inj hp
    exact ⟨.inr rfl, res2 rfl rfl rfl ⟨rfl, S44.back⟩⟩
  ·
    refine FW.condF k57 c58 ?_
    refine FW.skip (FW.seq (FW.seq ?_))
    obtain ⟨y59, hy60, hp⟩ := bnd hp
    rw [hy60] at h36
    obtain ⟨q61, rfl, v62, v64, h63, ⟨c67, ns66⟩, at69⟩ := h36
    have h65 := ns66.rsl
    have nv68 : New H25 [v64] := New.of_up S26.sl h65.dom
    have h65 := h65.mono (up_le S26.size)
    have ns66 := ns66.mono (up_le S26.size)
    refine FW.region ?_
    refine FL.v (E.move k56) ?_
    refine FL.v (E.move k55) ?_
    obtain ⟨r70, hr71, hp⟩ := bnd hp
    refine FL.call rfl rfl rfl (E.call Tryz.call67 (A2 rfl rfl)) (w_impl_algebra_pcDerivation S44.sl q61 y59 v62 v64 (h63.mono i45) (h65.mono (upI.tr i45)) (at69.mono i45) v3 a3 (p3.mono ((i27.tr r34.inc).tr i45)) hr71) ?_
    rintro e w72 ⟨rfl, r73⟩
    refine ⟨_, rfl, ?_⟩
    have S74 := S44.call r73
    refine FL.v (E.not rfl) ?_
    refine FL.nil ?_
    rcases ifB hp with ⟨c75, hp⟩ | ⟨c75, hp⟩
    ·
      refine FW.condT rfl c75 ?_
      refine FW.seq (FW.region ?_)
      refine FL.v (E.assign (v := Value.bool false) rfl) ?_
      refine FL.v (E.assign (v := Value.bool true) rfl) ?_
      refine FL.nil ?_
      refine FW.ret ?_
      obtain rfl := Option.some.inj hp
      exact ⟨.inr rfl, res2 rfl rfl rfl ⟨rfl, S74.back⟩⟩
    ·
      refine FW.condF rfl c75 ?_
      refine FW.skip (FW.seq (FW.region ?_))
      refine FL.v (E.assign (v := Value.int .i64 0) rfl) ?_
      refine FL.nil (FW.seq (FW.seq (FW.region ?_)))
      refine FL.v (E.move k54) ?_
      refine FL.v (E.lenP te34 rfl p2) ?_
      refine FL.v (E.move (v := Value.int .i64 0) rfl) ?_
      refine FL.nil ?_
      obtain ⟨q77, hq, hp⟩ := bndR hp
      refine FW.block ?_
      refine FW.mono (FW.forL (S := Int) (X := (Bool × Bool)) (fun (i77 : Nat) (s77 : Int) f w => ∃ H : GH, St Ha wa H w [] ∧ Inc H43 H ∧ f 36 = Value.int .i64 ((i77 : Nat) : Int) ∧ f 3 = v3 ∧ f 10 = Value.pointer (some q61) ∧ f 12 = Value.int .i64 s77 ∧ f 34 = v2 ∧ f 35 = Value.int .i64 (len a2)) (fun q e f w => match q with | .go s77 => e = Exit.exit 0 ∧ (∃ H : GH, St Ha wa H w [] ∧ Inc H43 H) | .rt x => ((e = Exit.ret) ∧ (fun e f w => (e = Exit.normal ∨ e = Exit.ret) ∧ ∀ a, Fr (δ := []) 69 a f → ∃ v, (results Tryz.f18 a.tmps).run Tryz.prog w = .ok v w ∧ (Sc Ha wa (Value.tuple #[Value.bool x.1, Value.bool x.2])) (.returned v) w) e f w)) hq ⟨_, S74, (Inc.rfl _), rfl, k55, k56, rfl, rfl, rfl⟩ ?_ ?_) ?_
      ·
        clear hp hq
        rintro i77 y76 s77 f41 w40 ⟨H37, S38, i39, k78, k79, k80, k81, k82, k83⟩ hx77 o214 hp
        refine FW.seq (FW.region ?_)
        refine FL.v (E.lssT k78 k83 (lss_len hx77)) ?_
        refine FL.nil (FW.seq ?_)
        refine FW.condT rfl rfl ?_
        refine FW.skip (FW.seq (FW.block (FW.seq (FW.region ?_))))
        obtain ⟨p84, cs85, pt86, l87, at89, rel91⟩ := p2.at (ix_nat hx77)
        obtain ⟨v92, rfl, h93⟩ := eResStep_open rel91
        refine FL.v (E.indexAddr te34 k82 k78 pt86) ?_
        refine FL.v (E.load rfl (run_loadA Tryz.isAgg88 Tryz.sizeOf88 ((at89.mono (((i27.tr r34.inc).tr i45).tr i39)).now S38.sl) rfl)) ?_
        obtain ⟨b94, w95, run96, S97⟩ := S38.alloc (P := Tryz.prog) 88 [Value.slice none 0 0, Value.int .i64 0, Value.int .i64 0, Value.int .i64 0] Tryz.zeroValue88 rfl (ones_cons rfl (ones_cons rfl (ones_cons rfl (ones_cons rfl ones_nil))))
        refine FL.v (E.alloc run96) ?_
        obtain ⟨w98, run99, S100⟩ := S97.store0 (P := Tryz.prog) (t := 88) (i := 0) (cs' := [v92, Value.int .i64 y76.left, Value.int .i64 y76.right, Value.int .i64 y76.pivot]) (l' := [.box b94 88 [v92, Value.int .i64 y76.left, Value.int .i64 y76.right, Value.int .i64 y76.pivot]]) (v := Value.agg #[v92, Value.int .i64 y76.left, Value.int .i64 y76.right, Value.int .i64 y76.pivot]) (c := [v92, Value.int .i64 y76.left, Value.int .i64 y76.right, Value.int .i64 y76.pivot]) rfl Tryz.sizeOf88 rfl rfl (ones_cons h93.one (ones_cons rfl (ones_cons rfl (ones_cons rfl ones_nil)))) (Nat.le_of_ble_eq_true rfl) rfl rfl
        refine FL.act rfl rfl (E.store rfl rfl run99) ?_
        obtain ⟨H101, S102, i103, at104⟩ := S100.sealBox (i := 0) (l' := []) rfl rfl
        refine FL.nil (FW.seq ?_)
        obtain ⟨r109, hr110, hp⟩ := bnd hp
        obtain ⟨r124, hr125, hp⟩ := bnd hp
        refine FW.drawB (Sl H101) (fun f w => ∃ H : GH, ∃ v136 : Value, ∃ n137 : Nat, ∃ cs138 : List Value, St Ha wa H w [.row 108 2 v136 n137 cs138] ∧ Inc H101 H ∧ Els (up wa.heap.size H) eTerm 2 cs138 r124 ∧ f 3 = v3 ∧ f 10 = Value.pointer (some q61) ∧ f 12 = Value.int .i64 s77 ∧ f 15 = v136 ∧ f 34 = v2 ∧ f 35 = Value.int .i64 (len a2) ∧ f 36 = Value.int .i64 ((i77 : Nat) : Int)) (by kernel_rfl) S102.sl ?_ ?_
        ·
          intro w106 r107
          have S108 := S102.call r107
          refine FB.t (i := 0) (bs 9 1) rfl (SP.nil S108.sl) rfl (fun w' hw' => (E.move k80)) ?_
          refine FB.t (i := 1) (bs 9 3) rfl (SP.nil S108.sl) rfl (fun w' hw' => (E.nilCheck rfl)) ?_
          refine FB.t (i := 2) (bs 9 7) rfl (SP.nil S108.sl) rfl (fun w' hw' => (E.fieldAddr tf105_0 rfl)) ?_
          refine FB.t (i := 3) (bs 9 15) rfl (SP.nil S108.sl) rfl (fun w' hw' => (E.load rfl (run_loadA Tryz.isAgg102 Tryz.sizeOf102 (((at69.mono ((i45.tr i39).tr i103)).now hw').sub (j := 0) (n := 2) (c := [Value.int .i64 y59.ring.p, Value.int .i64 y59.ring.vars]) rfl) rfl))) ?_
          refine FB.t (i := 4) (bs 9 31) rfl (SP.nil S108.sl) rfl (fun w' hw' => (E.fieldAddr tf88_0 rfl)) ?_
          refine FB.t (i := 5) (bs 9 63) rfl (SP.nil S108.sl) rfl (fun w' hw' => (E.load rfl (run_load1 Tryz.isAgg73 (at104.now hw') rfl))) ?_
          refine FB.all1 (i := 6) (by kernel_rfl) ?_
          ·
            refine FC.call (l' := (bs 9 127)) rfl (by kernel_rfl) rfl rfl rfl (E.call Tryz.call68 (A2 rfl rfl)) (w_impl_ring_clause S108.sl y59.ring v92 y76.clause (h93.mono ((((i27.tr r34.inc).tr i45).tr i39).tr i103)) hr110) ?_
            rintro e w112 ⟨H111, v115, n116, cs117, rfl, r114, els118⟩
            refine ⟨_, rfl, ?_⟩
            have els118 := els118.mono (up_le S108.size)
            have S113 := S108.join (l' := [.row 3 1 v115 n116 cs117]) r114 rfl
            refine ⟨(SP.nil (Sl.of_inc r114.run.inc S113.sl)), ?_⟩
            refine FB.all1 (i := 7) (by kernel_rfl) ?_
            ·
              obtain ⟨H119, S120, i121, h122, nv123⟩ := S113.sealRowU (i := 0) (l' := []) rfl els118 (by decide) rfl
              refine FC.call (l' := (bs 9 255)) rfl (by kernel_rfl) rfl rfl rfl (E.call Tryz.call69 (A1 rfl)) (w_impl_dense_terms S120.sl v115 r109 (h122.mono upI) hr125) ?_
              rintro e w127 ⟨H126, v132, n133, cs134, rfl, r129, els135⟩
              refine ⟨_, rfl, ?_⟩
              obtain ⟨H130, r129, hU131⟩ := St.lendX i121 S113.sl r129
              have els135 := els135.mono (hU131.tr (up_le S113.size))
              have S128 := S113.join (l' := [.row 108 2 v132 n133 cs134, .row 3 1 v115 n116 cs117]) r129 rfl
              refine ⟨(SP.nil (Sl.of_inc (r114.run.inc.tr r129.run.inc) S128.sl)), ?_⟩
              refine FB.t (i := 8) (bs 9 511) rfl (SP.nil (Sl.of_inc (r114.run.inc.tr r129.run.inc) S128.sl)) rfl (fun w' hw' => (E.assign (v := v132) rfl)) ?_
              exact FB.done (by kernel_rfl) ⟨_, _, _, _, (S128.sel [0] (by decide) rfl), (r114.run.inc.tr r129.run.inc), els135, k79, k80, k81, rfl, k82, k83, k78⟩
        ·
          rintro f144 w143 ⟨H140, v136, n137, cs138, S141, i142, els139, k145, k146, k147, k148, k149, k150, k151⟩
          refine FW.seq ?_
          obtain ⟨q152, hq, hp⟩ := bndR hp
          refine FW.block ?_
          refine FW.mono (FW.iter (S := Int) (X := Empty) (fun (s152 : Int) f w => ∃ H : GH, St Ha wa H w [.row 108 2 v136 n137 cs138] ∧ Inc H140 H ∧ f 3 = v3 ∧ f 10 = Value.pointer (some q61) ∧ f 12 = Value.int .i64 s152 ∧ f 15 = v136 ∧ f 34 = v2 ∧ f 35 = Value.int .i64 (len a2) ∧ f 36 = Value.int .i64 ((i77 : Nat) : Int)) (fun (q : Rs Int Empty) e f w => match q with | .go s152 => e = Exit.exit 2 ∧ (∃ H : GH, St Ha wa H w [.row 108 2 v136 n137 cs138] ∧ Inc H140 H ∧ f 3 = v3 ∧ f 10 = Value.pointer (some q61) ∧ f 12 = Value.int .i64 s152 ∧ f 34 = v2 ∧ f 35 = Value.int .i64 (len a2) ∧ f 36 = Value.int .i64 ((i77 : Nat) : Int)) | .rt x => x.elim) hq ⟨_, S141, (Inc.rfl _), k145, k146, k147, k148, k149, k150, k151⟩ ?_) ?_
          ·
            clear hp hq
            rintro s152 f157 w156 ⟨H153, S154, i155, k158, k159, k160, k161, k162, k163, k164⟩ o201 hp
            refine FW.seq (FW.seq (FW.region ?_))
            refine FL.v (E.move k160) ?_
            refine FL.v (E.move k158) ?_
            refine FL.v (E.lenP te36 rfl p3) ?_
            refine FL.v (E.lss rfl rfl) ?_
            refine FL.v (E.move (v := Value.bool (decide (s152 < (len a3)))) rfl) ?_
            obtain ⟨t165, hqt165, hp⟩ := bnd hp
            refine FL.cut 9 (fun f w => ∃ H : GH, St Ha wa H w [.row 108 2 v136 n137 cs138] ∧ Inc H153 H ∧ f 3 = v3 ∧ f 10 = Value.pointer (some q61) ∧ f 12 = Value.int .i64 s152 ∧ f 15 = v136 ∧ f 34 = v2 ∧ f 35 = Value.int .i64 (len a2) ∧ f 36 = Value.int .i64 ((i77 : Nat) : Int) ∧ f 61 = Value.bool t165) ?_ ?_
            ·
              clear hp; have hp := hqt165; clear hqt165
              rcases ifB hp with ⟨c171, hp⟩ | ⟨c171, hp⟩
              ·
                refine FL.val (wF_yes rfl rfl rfl c171) rfl rfl (E.move k158) ?_
                refine FL.val (wF_yes rfl rfl rfl c171) rfl rfl (E.move k160) ?_
                obtain ⟨x178, hx179, hp⟩ := bnd hp
                obtain ⟨p172, cs173, pt174, l175, at176, rel177⟩ := p3.at hx179
                obtain ⟨v180, rfl, h181⟩ := ePcStep_open rel177
                refine FL.val (wF_yes rfl rfl rfl c171) rfl rfl (E.indexAddr te36 rfl rfl pt174) ?_
                refine FL.val (wF_yes rfl rfl rfl c171) rfl rfl (E.fieldAddr tf90_1 rfl) ?_
                refine FL.val (wF_yes rfl rfl rfl c171) rfl rfl (E.load rfl (run_load1 Tryz.isAgg55 ((at176.mono ((((((i27.tr r34.inc).tr i45).tr i39).tr i103).tr i142).tr i155)).now S154.sl) rfl)) ?_
                refine FL.val (wF_yes rfl rfl rfl c171) rfl rfl (E.move k161) ?_
                obtain ⟨H182, S183, i184, h185, nv186⟩ := S154.sealRowU (i := 0) (l' := []) rfl (els139.mono (up_mono i155)) (by decide) rfl
                obtain ⟨r187, hr188, hp⟩ := bnd hp
                refine FL.call (wF_yes rfl rfl rfl c171) rfl rfl (E.call Tryz.call70 (A2 rfl rfl)) (w_slices_Equal_impl_Term_impl_Term S183.sl v180 x178.poly (h181.mono (((((((i27.tr r34.inc).tr i45).tr i39).tr i103).tr i142).tr i155).tr i184)) v136 r124 (h185.mono upI) hr188) ?_
                rintro e w189 ⟨rfl, r190⟩
                refine ⟨_, rfl, ?_⟩
                have r190 := Run.lend i184 S154.sl r190
                have S191 := S154.call r190
                refine FL.val (wF_yes rfl rfl rfl c171) rfl rfl (E.not rfl) ?_
                obtain rfl := Option.some.inj hp
                refine FL.v (E.pickT rfl c171 rfl) ?_
                exact FL.nil ⟨rfl, _, S191, (Inc.rfl _), k158, k159, k160, k161, k162, k163, k164, rfl⟩
              ·
                refine FL.skip (wF_no rfl rfl rfl c171) rfl ?_
                refine FL.skip (wF_no rfl rfl rfl c171) rfl ?_
                refine FL.skip (wF_no rfl rfl rfl c171) rfl ?_
                refine FL.skip (wF_no rfl rfl rfl c171) rfl ?_
                refine FL.skip (wF_no rfl rfl rfl c171) rfl ?_
                refine FL.skip (wF_no rfl rfl rfl c171) rfl ?_
                refine FL.skip (wF_no rfl rfl rfl c171) rfl ?_
                refine FL.skip (wF_no rfl rfl rfl c171) rfl ?_
                obtain rfl := Option.some.inj hp
                refine FL.v (E.pickF rfl c171 rfl) ?_
                exact FL.nil ⟨rfl, _, S154, (Inc.rfl _), k158, k159, k160, k161, k162, k163, k164, rfl⟩
            rintro f170 w169 ⟨H166, S167, i168, k192, k193, k194, k195, k196, k197, k198, k199⟩
            refine FL.nil ?_
            rcases ifB hp with ⟨c200, hp⟩ | ⟨c200, hp⟩
            ·
              refine FW.condT k199 c200 ?_
              refine FW.skip (FW.block (FW.region ?_))
              refine FL.v (E.move k194) ?_
              refine FL.v (E.add rfl rfl) ?_
              refine FL.v (E.assign (v := Value.int .i64 (wr (s152 + 1))) rfl) ?_
              refine FL.nil ?_
              obtain rfl := Option.some.inj hp
              exact ⟨rfl, ⟨_, S167, (i155.tr i168), k192, k193, rfl, k195, k196, k197, k198⟩⟩
            ·
              refine FW.condF k199 c200 ?_
              refine FW.exit ?_
              obtain rfl := Option.some.inj hp
              exact ⟨nofun, rfl, ⟨_, S167, (i155.tr i168), k192, k193, k194, k196, k197, k198⟩⟩
          ·
            clear hq
            intro e f206 w205 hD
            rcases q152 with s152 | x152
            ·
              obtain ⟨rfl, hD⟩ := hD
              obtain ⟨H202, S203, i204, k207, k208, k209, k210, k211, k212⟩ := hD
              replace hp := el_go hp
              refine FW.seq (FW.region ?_)
              refine FL.v (E.move k209) ?_
              refine FL.v (E.move k207) ?_
              refine FL.v (E.lenP te36 rfl p3) ?_
              refine FL.v (E.eql rfl rfl) ?_
              refine FL.nil ?_
              rcases ifB hp with ⟨c213, hp⟩ | ⟨c213, hp⟩
              ·
                refine FW.condT rfl c213 ?_
                refine FW.seq (FW.region ?_)
                refine FL.v (E.assign (v := Value.bool false) rfl) ?_
                refine FL.v (E.assign (v := Value.bool true) rfl) ?_
                refine FL.nil ?_
                refine FW.ret ?_
                obtain rfl := Option.some.inj hp
                exact ⟨nofun, rfl, ⟨.inr rfl, res2 rfl rfl rfl ⟨rfl, S203.back⟩⟩⟩
              ·
                refine FW.condF rfl c213 ?_
                refine FW.skip (FW.region ?_)
                refine FL.v (E.add k212 rfl) ?_
                refine FL.v (E.move (v := Value.int .i64 (wr (((i77 : Nat) : Int) + 1))) rfl) ?_
                refine FL.nil ?_
                obtain rfl := Option.some.inj hp
                exact ⟨rfl, ⟨_, (S203.sel [] (by decide) rfl), (((i39.tr i103).tr i142).tr i204), (nat_succ rfl (lt_of_get hx77) (p2.mono ((((((i27.tr r34.inc).tr i45).tr i39).tr i103).tr i142).tr i204)).le), k207, k208, k209, k210, k211⟩⟩
            · exact x152.elim
      ·
        clear hp hq
        rintro s77 f224 w223 ⟨H220, S221, i222, k225, k226, k227, k228, k229, k230⟩
        refine FW.seq (FW.region ?_)
        refine FL.v (E.lss k225 k230) ?_
        refine FL.nil (FW.seq ?_)
        refine FW.condF rfl dlt_len ?_
        refine FW.exit ?_
        exact ⟨nofun, rfl, ⟨_, S221, i222⟩⟩
      ·
        clear hq
        intro e f219 w218 hD
        rcases q77 with s77 | x77
        ·
          obtain ⟨rfl, hD⟩ := hD
          obtain ⟨H215, S216, i217⟩ := hD
          replace hp := el_go hp
          refine FW.seq (FW.region ?_)
          refine FL.v (E.assign (v := Value.bool true) rfl) ?_
          refine FL.v (E.assign (v := Value.bool true) rfl) ?_
          refine FL.nil ?_
          refine FW.ret ?_
          obtain rfl := Option.some.inj hp
          exact ⟨.inr rfl, res2 rfl rfl rfl ⟨rfl, S216.back⟩⟩
        ·
          obtain ⟨he, hL⟩ := hD
          replace hp := el_rt hp
          obtain rfl := Option.some.inj hp
          subst he
          exact hL

theorem w_laws_eqIntS {Ha : GH} {wa : World} (hs : Sl Ha wa) (v0 : Value) (a0 : List Int) (p0 : RSl Ha eI 1 v0 a0) (v1 : Value) (a1 : List Int) (p1 : RSl Ha eI 1 v1 a1) {r : Bool} (hp : (PF.laws_eqIntS a0 a1) = some r) :
  Calls Tryz.prog 52 #[v0, v1] wa (Sc Ha wa (Value.bool r)) := by
 unfold PF.laws_eqIntS at hp
 have S0 := St.init hs
 refine calls_go (N := 26) (args := [v0, v1]) Tryz.func52 rfl rfl rfl ?_
 refine FW.seq (FW.region ?_)
 refine FL.v (E.assign (v := Value.bool false) rfl) ?_
 refine FL.nil (FW.seq (FW.seq (FW.region ?_)))
 refine FL.v (E.move (v := v0) rfl) ?_
 refine FL.v (E.lenP te73 rfl p0) ?_
 refine FL.v (E.move (v := v1) rfl) ?_
 refine FL.v (E.lenP te73 rfl p1) ?_
 refine FL.v (E.neq rfl rfl) ?_
 refine FL.nil ?_
 rcases ifB hp with ⟨c21, hp⟩ | ⟨c21, hp⟩
 ·
  refine FW.condT rfl c21 ?_
  refine FW.seq (FW.region ?_)
  refine FL.v (E.assign (v := Value.bool false) rfl) ?_
  refine FL.nil ?_
  refine FW.ret ?_
  obtain rfl := Option.some.inj hp
  exact ⟨.inr rfl, res1 rfl rfl ⟨rfl, S0.back⟩⟩
 ·
  refine FW.condF rfl c21 ?_
  refine FW.skip (FW.seq (FW.seq (FW.region ?_)))
  refine FL.v (E.assign (v := Value.int .i64 0) rfl) ?_
  refine FL.nil ?_
  obtain ⟨q23, hq, hp⟩ := bndR hp
  refine FW.block ?_
  refine FW.mono (FW.forL (S := Unit) (X := Bool) (fun (i23 : Nat) (s23 : Unit) f w => ∃ H : GH, St Ha wa H w [] ∧ Inc Ha H ∧ f 5 = Value.int .i64 ((i23 : Nat) : Int) ∧ f 0 = v0 ∧ f 1 = v1) (fun q e f w => match q with | .go s23 => e = Exit.exit 0 ∧ (∃ H : GH, St Ha wa H w [] ∧ Inc Ha H) | .rt x => ((e = Exit.ret) ∧ (fun e f w => (e = Exit.normal ∨ e = Exit.ret) ∧ ∀ a, Fr (δ := []) 26 a f → ∃ v, (results Tryz.f52 a.tmps).run Tryz.prog w = .ok v w ∧ (Sc Ha wa (Value.bool x)) (.returned v) w) e f w)) hq ⟨_, S0, (Inc.rfl _), rfl, rfl, rfl⟩ ?_ ?_) ?_
  ·
   clear hp hq
   rintro i23 y22 s23 f55 w54 ⟨H51, S52, i53, k56, k57, k58⟩ hx23 o78 hp
   refine FW.seq (FW.seq (FW.region ?_))
   refine FL.v (E.move k56) ?_
   refine FL.v (E.move k57) ?_
   refine FL.v (E.lenP te73 rfl p0) ?_
   refine FL.v (E.lssT rfl rfl (lss_len hx23)) ?_
   refine FL.nil ?_
   refine FW.condT rfl rfl ?_
   refine FW.skip (FW.seq (FW.block (FW.seq ?_)))
   refine FW.draw (fun w' => Run w54.heap.size H51 w54 H51 w') (by kernel_rfl) (by kernel_rfl) (run_drew S52.sl) ?_
   refine FD.val rfl rfl rfl (fun w' hw' => (E.move k57)) ?_
   refine FD.val rfl rfl rfl (fun w' hw' => (E.move k56)) ?_
   obtain ⟨p60, cs61, pt62, l63, at64, rel65⟩ := p0.at (ix_nat hx23)
   obtain rfl := eI_open rel65
   refine FD.val rfl rfl rfl (fun w' hw' => (E.indexAddr te73 rfl rfl pt62)) ?_
   refine FD.val rfl rfl rfl (fun w' hw' => (E.load rfl (run_load0 Tryz.isAgg3 ((at64.mono i53).now (S52.call hw').sl) rfl))) ?_
   refine FD.val rfl rfl rfl (fun w' hw' => (E.move k58)) ?_
   refine FD.val rfl rfl rfl (fun w' hw' => (E.move k56)) ?_
   obtain ⟨x72, hx73, hp⟩ := bnd hp
   obtain ⟨p66, cs67, pt68, l69, at70, rel71⟩ := p1.at hx73
   obtain rfl := eI_open rel71
   refine FD.val rfl rfl rfl (fun w' hw' => (E.indexAddr te73 rfl rfl pt68)) ?_
   refine FD.val rfl rfl rfl (fun w' hw' => (E.load rfl (run_load0 Tryz.isAgg3 ((at70.mono i53).now (S52.call hw').sl) rfl))) ?_
   refine FD.val rfl rfl rfl (fun w' hw' => (E.neq rfl rfl)) ?_
   refine FD.nil ?_
   intro w74 r76
   have S75 := S52.call r76
   rcases ifB hp with ⟨c77, hp⟩ | ⟨c77, hp⟩
   ·
    refine FW.condT rfl c77 ?_
    refine FW.seq (FW.region ?_)
    refine FL.v (E.assign (v := Value.bool false) rfl) ?_
    refine FL.nil ?_
    refine FW.ret ?_
    obtain rfl := Option.some.inj hp
    exact ⟨nofun, rfl, ⟨.inr rfl, res1 rfl rfl ⟨rfl, S75.back⟩⟩⟩
   ·
    refine FW.condF rfl c77 ?_
    refine FW.skip (FW.region ?_)
    refine FL.v (E.move k56) ?_
    refine FL.v (E.add rfl rfl) ?_
    refine FL.v (E.assign (v := Value.int .i64 (wr (((i23 : Nat) : Int) + 1))) rfl) ?_
    refine FL.nil ?_
    obtain rfl := Option.some.inj hp
    exact ⟨rfl, ⟨_, S75, i53, (nat_succ rfl (lt_of_get hx23) (p0.mono i53).le), k57, k58⟩⟩
  ·
   clear hp hq
   rintro s23 f88 w87 ⟨H84, S85, i86, k89, k90, k91⟩
   refine FW.seq (FW.seq (FW.region ?_))
   refine FL.v (E.move k89) ?_
   refine FL.v (E.move k90) ?_
   refine FL.v (E.lenP te73 rfl p0) ?_
   refine FL.v (E.lss rfl rfl) ?_
   refine FL.nil ?_
   refine FW.condF rfl dlt_len ?_
   refine FW.exit ?_
   exact ⟨nofun, rfl, ⟨_, S85, i86⟩⟩
  ·
   clear hq
   intro e f83 w82 hD
   rcases q23 with s23 | x23
   ·
    obtain ⟨rfl, hD⟩ := hD
    obtain ⟨H79, S80, i81⟩ := hD
    replace hp := el_go hp
    refine FW.seq (FW.region ?_)
    refine FL.v (E.assign (v := Value.bool true) rfl) ?_
    refine FL.nil ?_
    refine FW.ret ?_
    obtain rfl := Option.some.inj hp
    exact ⟨.inr rfl, res1 rfl rfl ⟨rfl, S80.back⟩⟩
   ·
    obtain ⟨he, hL⟩ := hD
    replace hp := el_rt hp
    obtain rfl := Option.some.inj hp
    subst he
    exact hL

theorem w_laws_eqIntSS {Ha : GH} {wa : World} (hs : Sl Ha wa) (v0 : Value) (a0 : List (List Int)) (p0 : RSl Ha (eL eI 1) 1 v0 a0) (v1 : Value) (a1 : List (List Int)) (p1 : RSl Ha (eL eI 1) 1 v1 a1) {r : Bool} (hp : (PF.laws_eqIntSS a0 a1) = some r) :
  Calls Tryz.prog 47 #[v0, v1] wa (Sc Ha wa (Value.bool r)) := by
 unfold PF.laws_eqIntSS at hp
 have S0 := St.init hs
 refine calls_go (N := 27) (args := [v0, v1]) Tryz.func47 rfl rfl rfl ?_
 refine FW.seq (FW.region ?_)
 refine FL.v (E.assign (v := Value.bool false) rfl) ?_
 refine FL.nil (FW.seq (FW.seq (FW.region ?_)))
 refine FL.v (E.move (v := v0) rfl) ?_
 refine FL.v (E.lenP te22 rfl p0) ?_
 refine FL.v (E.move (v := v1) rfl) ?_
 refine FL.v (E.lenP te22 rfl p1) ?_
 refine FL.v (E.neq rfl rfl) ?_
 refine FL.nil ?_
 rcases ifB hp with ⟨c21, hp⟩ | ⟨c21, hp⟩
 ·
  refine FW.condT rfl c21 ?_
  refine FW.seq (FW.region ?_)
  refine FL.v (E.assign (v := Value.bool false) rfl) ?_
  refine FL.nil ?_
  refine FW.ret ?_
  obtain rfl := Option.some.inj hp
  exact ⟨.inr rfl, res1 rfl rfl ⟨rfl, S0.back⟩⟩
 ·
  refine FW.condF rfl c21 ?_
  refine FW.skip (FW.seq (FW.seq (FW.region ?_)))
  refine FL.v (E.assign (v := Value.int .i64 0) rfl) ?_
  refine FL.nil ?_
  obtain ⟨q23, hq, hp⟩ := bndR hp
  refine FW.block ?_
  refine FW.mono (FW.forL (S := Unit) (X := Bool) (fun (i23 : Nat) (s23 : Unit) f w => ∃ H : GH, St Ha wa H w [] ∧ Inc Ha H ∧ f 5 = Value.int .i64 ((i23 : Nat) : Int) ∧ f 0 = v0 ∧ f 1 = v1) (fun q e f w => match q with | .go s23 => e = Exit.exit 0 ∧ (∃ H : GH, St Ha wa H w [] ∧ Inc Ha H) | .rt x => ((e = Exit.ret) ∧ (fun e f w => (e = Exit.normal ∨ e = Exit.ret) ∧ ∀ a, Fr (δ := []) 27 a f → ∃ v, (results Tryz.f47 a.tmps).run Tryz.prog w = .ok v w ∧ (Sc Ha wa (Value.bool x)) (.returned v) w) e f w)) hq ⟨_, S0, (Inc.rfl _), rfl, rfl, rfl⟩ ?_ ?_) ?_
  ·
   clear hp hq
   rintro i23 y22 s23 f61 w60 ⟨H57, S58, i59, k62, k63, k64⟩ hx23 o90 hp
   refine FW.seq (FW.seq (FW.region ?_))
   refine FL.v (E.move k62) ?_
   refine FL.v (E.move k63) ?_
   refine FL.v (E.lenP te22 rfl p0) ?_
   refine FL.v (E.lssT rfl rfl (lss_len hx23)) ?_
   refine FL.nil ?_
   refine FW.condT rfl rfl ?_
   refine FW.skip (FW.seq (FW.block (FW.seq ?_)))
   refine FW.draw (fun w' => Run w60.heap.size H57 w60 H57 w') (by kernel_rfl) (by kernel_rfl) (run_drew S58.sl) ?_
   refine FD.val rfl rfl rfl (fun w' hw' => (E.move k63)) ?_
   refine FD.val rfl rfl rfl (fun w' hw' => (E.move k62)) ?_
   obtain ⟨p66, cs67, pt68, l69, at70, rel71⟩ := p0.at (ix_nat hx23)
   obtain ⟨v72, rfl, h73⟩ := eL_open rel71
   refine FD.val rfl rfl rfl (fun w' hw' => (E.indexAddr te22 rfl rfl pt68)) ?_
   refine FD.val rfl rfl rfl (fun w' hw' => (E.load rfl (run_load0 Tryz.isAgg73 ((at70.mono i59).now (S58.call hw').sl) rfl))) ?_
   refine FD.val rfl rfl rfl (fun w' hw' => (E.move k64)) ?_
   refine FD.val rfl rfl rfl (fun w' hw' => (E.move k62)) ?_
   obtain ⟨x80, hx81, hp⟩ := bnd hp
   obtain ⟨p74, cs75, pt76, l77, at78, rel79⟩ := p1.at hx81
   obtain ⟨v82, rfl, h83⟩ := eL_open rel79
   refine FD.val rfl rfl rfl (fun w' hw' => (E.indexAddr te22 rfl rfl pt76)) ?_
   refine FD.val rfl rfl rfl (fun w' hw' => (E.load rfl (run_load0 Tryz.isAgg73 ((at78.mono i59).now (S58.call hw').sl) rfl))) ?_
   obtain ⟨r84, hr85, hp⟩ := bnd hp
   refine FD.call rfl rfl rfl (fun w' hw' => (E.call Tryz.call52 (A2 rfl rfl))) (fun w' hw' => Calls.cls hw' (w_laws_eqIntS (S58.call hw').sl v72 y22 (h73.mono i59) v82 x80 (h83.mono i59) hr85)) ?_
   refine FD.val rfl rfl rfl (fun w' hw' => (E.not rfl)) ?_
   refine FD.nil ?_
   intro w86 r88
   have S87 := S58.call r88
   rcases ifB hp with ⟨c89, hp⟩ | ⟨c89, hp⟩
   ·
    refine FW.condT rfl c89 ?_
    refine FW.seq (FW.region ?_)
    refine FL.v (E.assign (v := Value.bool false) rfl) ?_
    refine FL.nil ?_
    refine FW.ret ?_
    obtain rfl := Option.some.inj hp
    exact ⟨nofun, rfl, ⟨.inr rfl, res1 rfl rfl ⟨rfl, S87.back⟩⟩⟩
   ·
    refine FW.condF rfl c89 ?_
    refine FW.skip (FW.region ?_)
    refine FL.v (E.move k62) ?_
    refine FL.v (E.add rfl rfl) ?_
    refine FL.v (E.assign (v := Value.int .i64 (wr (((i23 : Nat) : Int) + 1))) rfl) ?_
    refine FL.nil ?_
    obtain rfl := Option.some.inj hp
    exact ⟨rfl, ⟨_, S87, i59, (nat_succ rfl (lt_of_get hx23) (p0.mono i59).le), k63, k64⟩⟩
  ·
   clear hp hq
   rintro s23 f100 w99 ⟨H96, S97, i98, k101, k102, k103⟩
   refine FW.seq (FW.seq (FW.region ?_))
   refine FL.v (E.move k101) ?_
   refine FL.v (E.move k102) ?_
   refine FL.v (E.lenP te22 rfl p0) ?_
   refine FL.v (E.lss rfl rfl) ?_
   refine FL.nil ?_
   refine FW.condF rfl dlt_len ?_
   refine FW.exit ?_
   exact ⟨nofun, rfl, ⟨_, S97, i98⟩⟩
  ·
   clear hq
   intro e f95 w94 hD
   rcases q23 with s23 | x23
   ·
    obtain ⟨rfl, hD⟩ := hD
    obtain ⟨H91, S92, i93⟩ := hD
    replace hp := el_go hp
    refine FW.seq (FW.region ?_)
    refine FL.v (E.assign (v := Value.bool true) rfl) ?_
    refine FL.nil ?_
    refine FW.ret ?_
    obtain rfl := Option.some.inj hp
    exact ⟨.inr rfl, res1 rfl rfl ⟨rfl, S92.back⟩⟩
   ·
    obtain ⟨he, hL⟩ := hD
    replace hp := el_rt hp
    obtain rfl := Option.some.inj hp
    subst he
    exact hL

theorem w_laws_eqCnf {Ha : GH} {wa : World} (hs : Sl Ha wa) (a0 : Cnf) (v0_1 : Value) (p0_1 : RSl Ha (eL eI 1) 1 v0_1 a0.clauses) (a1 : Cnf) (v1_1 : Value) (p1_1 : RSl Ha (eL eI 1) 1 v1_1 a1.clauses) {r : Bool} (hp : (PF.laws_eqCnf a0 a1) = some r) :
  Calls Tryz.prog 19 #[Value.agg #[Value.int .i64 a0.vars, v0_1], Value.agg #[Value.int .i64 a1.vars, v1_1]] wa (Sc Ha wa (Value.bool r)) := by
 unfold PF.laws_eqCnf at hp
 have S0 := St.init hs
 refine calls_go (N := 16) (args := [Value.agg #[Value.int .i64 a0.vars, v0_1], Value.agg #[Value.int .i64 a1.vars, v1_1]]) Tryz.func19 rfl rfl rfl ?_
 refine FW.seq (FW.region ?_)
 obtain ⟨b21, w22, run23, S24⟩ := S0.box (P := Tryz.prog) 32 [Value.int .i64 a0.vars, v0_1] (v := Value.agg #[Value.int .i64 a0.vars, v0_1]) rfl (ones_cons rfl (ones_cons p0_1.one ones_nil))
 refine FL.v (E.box rfl run23) ?_
 obtain ⟨H25, S26, i27, at28⟩ := S24.sealBox (i := 0) (l' := []) rfl rfl
 obtain ⟨b29, w30, run31, S32⟩ := S26.box (P := Tryz.prog) 32 [Value.int .i64 a1.vars, v1_1] (v := Value.agg #[Value.int .i64 a1.vars, v1_1]) rfl (ones_cons rfl (ones_cons p1_1.one ones_nil))
 refine FL.v (E.box rfl run31) ?_
 obtain ⟨H33, S34, i35, at36⟩ := S32.sealBox (i := 0) (l' := []) rfl rfl
 refine FL.v (E.assign (v := Value.bool false) rfl) ?_
 refine FL.nil (FW.seq (FW.seq (FW.region ?_)))
 refine FL.v (E.fieldAddr tf32_0 rfl) ?_
 refine FL.v (E.load rfl (run_load1 Tryz.isAgg3 ((at28.mono i35).now S34.sl) rfl)) ?_
 refine FL.v (E.fieldAddr tf32_0 rfl) ?_
 refine FL.v (E.load rfl (run_load1 Tryz.isAgg3 (at36.now S34.sl) rfl)) ?_
 refine FL.v (E.neq rfl rfl) ?_
 refine FL.nil ?_
 rcases ifB hp with ⟨c37, hp⟩ | ⟨c37, hp⟩
 ·
  refine FW.condT rfl c37 ?_
  refine FW.seq (FW.region ?_)
  refine FL.v (E.assign (v := Value.bool false) rfl) ?_
  refine FL.nil ?_
  refine FW.ret ?_
  obtain rfl := Option.some.inj hp
  exact ⟨.inr rfl, res1 rfl rfl ⟨rfl, S34.back⟩⟩
 ·
  refine FW.condF rfl c37 ?_
  refine FW.skip (FW.seq (FW.seq (FW.region ?_)))
  refine FL.v (E.fieldAddr tf32_1 rfl) ?_
  refine FL.v (E.load rfl (run_load1 Tryz.isAgg22 ((at28.mono i35).now S34.sl) rfl)) ?_
  refine FL.v (E.fieldAddr tf32_1 rfl) ?_
  refine FL.v (E.load rfl (run_load1 Tryz.isAgg22 (at36.now S34.sl) rfl)) ?_
  obtain ⟨r38, hr39, hp⟩ := bnd hp
  refine FL.call rfl rfl rfl (E.call Tryz.call47 (A2 rfl rfl)) (w_laws_eqIntSS S34.sl v0_1 a0.clauses (p0_1.mono (i27.tr i35)) v1_1 a1.clauses (p1_1.mono (i27.tr i35)) hr39) ?_
  rintro e w40 ⟨rfl, r41⟩
  refine ⟨_, rfl, ?_⟩
  have S42 := S34.call r41
  refine FL.v (E.not rfl) ?_
  refine FL.nil ?_
  rcases ifB hp with ⟨c43, hp⟩ | ⟨c43, hp⟩
  ·
   refine FW.condT rfl c43 ?_
   refine FW.seq (FW.region ?_)
   refine FL.v (E.assign (v := Value.bool false) rfl) ?_
   refine FL.nil ?_
   refine FW.ret ?_
   obtain rfl := Option.some.inj hp
   exact ⟨.inr rfl, res1 rfl rfl ⟨rfl, S42.back⟩⟩
  ·
   refine FW.condF rfl c43 ?_
   refine FW.skip (FW.seq (FW.region ?_))
   refine FL.v (E.assign (v := Value.bool true) rfl) ?_
   refine FL.nil ?_
   refine FW.ret ?_
   obtain rfl := Option.some.inj hp
   exact ⟨.inr rfl, res1 rfl rfl ⟨rfl, S42.back⟩⟩

end Go.Proofs
