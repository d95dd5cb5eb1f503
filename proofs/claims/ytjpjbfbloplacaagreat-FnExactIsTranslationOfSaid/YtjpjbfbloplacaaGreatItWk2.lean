/- Part of the walks and plain laws behind the claim: it proves helpers, under no condition beyond their own. -/
import Derived.Test.YtjpjbfbloplacaaGreatItWk1
set_option linter.unusedVariables false
set_option maxRecDepth 100000
namespace Go.Proofs
open Go.Mr Go.Pu Go.PF Go.RowKit

@[reducible] def p_spec_l20Times (Ha : GH) (wa : World) (r : (List Term)) : Ending → World → Prop :=
 fun e w' => ∃ H' : GH, ∃ v0 : Value, ∃ n0 : Nat, ∃ c0 : List Value, e = .returned (v0) ∧ St Ha wa H' w' [.row 108 2 v0 n0 c0] ∧ Els (up wa.heap.size H') eTerm 2 c0 r
theorem w_spec_l20Times {Ha : GH} {wa : World} (hs : Sl Ha wa) (a0 : Int) (a1 : Int) (v2 : Value) (a2 : List Term) (p2 : RSl Ha eTerm 2 v2 a2) (a3 : Int) {r : (List Term)} (hp : (PF.spec_l20Times a0 a1 a2 a3) = some r) :
  Calls Tryz.prog 158 #[Value.int .i64 a0, Value.int .i64 a1, v2, Value.int .i64 a3] wa (p_spec_l20Times Ha wa r) := by
 unfold PF.spec_l20Times at hp
 have S0 := St.init hs
 refine calls_go (N := 18) (args := [Value.int .i64 a0, Value.int .i64 a1, v2, Value.int .i64 a3]) Tryz.func158 rfl rfl rfl ?_
 refine FW.seq (FW.region ?_)
 refine FL.v (E.assign (v := Value.slice none 0 0) rfl) ?_
 refine FL.nil (FW.seq (FW.region ?_))
 refine FL.v (E.move (v := Value.int .i64 a0) rfl) ?_
 refine FL.v (E.move (v := Value.int .i64 a1) rfl) ?_
 refine FL.v (E.move (v := v2) rfl) ?_
 refine FL.v (E.move (v := Value.int .i64 a3) rfl) ?_
 refine FL.v (E.sub rfl rfl) ?_
 obtain ⟨u22, z21, hp⟩ := bnd hp
 refine FL.v (E.shl rfl rfl (nn_ge z21)) ?_
 refine FL.v (E.build (B2 rfl rfl) (run_build _ 108 #[(0, Value.int .i64 (shlK true 64 1 (wr (a3 - 1)))), (1, Value.int .i64 1)] #[Value.int .i64 (shlK true 64 1 (wr (a3 - 1))), Value.int .i64 1] (by rfl))) ?_
 obtain ⟨v23, w24, run25, S26⟩ := S0.buildSlice (P := Tryz.prog) te55 [Value.agg #[Value.int .i64 (shlK true 64 1 (wr (a3 - 1))), Value.int .i64 1]] (parts := #[(0, Value.agg #[Value.int .i64 (shlK true 64 1 (wr (a3 - 1))), Value.int .i64 1])]) (cells := [Value.int .i64 (shlK true 64 1 (wr (a3 - 1))), Value.int .i64 1]) rfl (szs_cons rfl szs_nil) (fc_cons rfl fc_nil) (ones_cons rfl (ones_cons rfl ones_nil)) (Nat.le_of_ble_eq_true rfl)
 have els27 : Els (up wa.heap.size Ha) eTerm 2 [Value.int .i64 (shlK true 64 1 (wr (a3 - 1))), Value.int .i64 1] [(Term.mk (shlK true 64 1 (wr (a3 - 1))) 1)] := (Els.snoc (H := (up wa.heap.size Ha)) (E := eTerm) (k := 2) (c := [Value.int .i64 (shlK true 64 1 (wr (a3 - 1))), Value.int .i64 1]) (x := (Term.mk (shlK true 64 1 (wr (a3 - 1))) 1)) Els.nil rfl rfl)
 refine FL.v (E.buildSlice (B1 rfl) run25) ?_
 obtain ⟨H28, S29, i30, h31, nv32⟩ := S26.sealRowU (i := 0) (l' := []) rfl els27 (by decide) rfl
 obtain ⟨r33, hr34, hp⟩ := bnd hp
 refine FL.call rfl rfl rfl (E.call Tryz.call117 (A4 rfl rfl rfl rfl)) (w_spec_l18Mul S29.sl a0 a1 v2 a2 (p2.mono i30) v23 [(Term.mk (shlK true 64 1 (wr (a3 - 1))) 1)] (h31.mono upI) hr34) ?_
 rintro e w36 ⟨H35, v41, n42, cs43, rfl, r38, els44⟩
 refine ⟨_, rfl, ?_⟩
 obtain ⟨H39, r38, hU40⟩ := St.lendX i30 S26.sl r38
 have els44 := els44.mono (hU40.tr (up_le S26.size))
 have S37 := S26.join (l' := [.row 108 2 v41 n42 cs43, .row 108 2 v23 1 [Value.int .i64 (shlK true 64 1 (wr (a3 - 1))), Value.int .i64 1]]) r38 rfl
 refine FL.v (E.assign (v := v41) rfl) ?_
 refine FL.nil ?_
 refine FW.ret ?_
 obtain rfl := Option.some.inj hp
 exact ⟨.inr rfl, res1 rfl rfl ⟨_, _, _, _, rfl, (S37.sel [0] (by decide) rfl), els44⟩⟩

@[reducible] def p_spec_l18Dense (Ha : GH) (wa : World) (r : (List Int)) : Ending → World → Prop :=
  fun e w' => ∃ H' : GH, ∃ v0 : Value, ∃ n0 : Nat, ∃ c0 : List Value, e = .returned (v0) ∧ St Ha wa H' w' [.row 3 1 v0 n0 c0] ∧ Els (up wa.heap.size H') eI 1 c0 r
theorem w_spec_l18Dense {Ha : GH} {wa : World} (hs : Sl Ha wa) (a0 : Int) (v1 : Value) (a1 : List Term) (p1 : RSl Ha eTerm 2 v1 a1) {r : (List Int)} (hp : (PF.spec_l18Dense a0 a1) = some r) :
    Calls Tryz.prog 204 #[Value.int .i64 a0, v1] wa (p_spec_l18Dense Ha wa r) := by
  unfold PF.spec_l18Dense at hp
  have S0 := St.init hs
  refine calls_go (N := 29) (args := [Value.int .i64 a0, v1]) Tryz.func204 rfl rfl rfl ?_
  refine FW.seq (FW.region ?_)
  refine FL.v (E.assign (v := Value.slice none 0 0) rfl) ?_
  refine FL.nil (FW.seq (FW.region ?_))
  refine FL.v (E.move (v := Value.int .i64 a0) rfl) ?_
  obtain ⟨u22, z21, hp⟩ := bnd hp
  refine FL.v (E.shl rfl rfl (nn_ge z21)) ?_
  obtain ⟨xs23, hm24, hp⟩ := bnd hp
  obtain ⟨v25, w26, n30, cs31, run27, S28, els29, hbl32⟩ := S0.makeEls (P := Tryz.prog) te73 (G := (up wa.heap.size Ha)) (En := eI) (x0 := (0 : Int)) hm24 rfl (ones_cons rfl ones_nil) .i64 .i64
  refine FL.v (E.makeSlice rfl rfl run27) ?_
  refine FL.v (E.assign (v := v25) rfl) ?_
  refine FL.nil (FW.seq (FW.seq (FW.region ?_)))
  refine FL.v (E.assign (v := Value.int .i64 0) rfl) ?_
  refine FL.nil ?_
  obtain ⟨q34, hq, hp⟩ := bndR hp
  refine FW.block ?_
  refine FW.mono (FW.forL (S := (List Int)) (X := Empty) (fun (i34 : Nat) (s34 : (List Int)) f w => ∃ H : GH, ∃ v35 : Value, ∃ n36 : Nat, ∃ cs37 : List Value, St Ha wa H w [.row 3 1 v35 n36 cs37] ∧ Inc Ha H ∧ Els (up wa.heap.size H) eI 1 cs37 s34 ∧ f 6 = Value.int .i64 ((i34 : Nat) : Int) ∧ f 1 = v1 ∧ f 5 = v35) (fun (q : Rs (List Int) Empty) e f w => match q with | .go s34 => e = Exit.exit 0 ∧ (∃ H : GH, ∃ v35 : Value, ∃ n36 : Nat, ∃ cs37 : List Value, St Ha wa H w [.row 3 1 v35 n36 cs37] ∧ Inc Ha H ∧ Els (up wa.heap.size H) eI 1 cs37 s34 ∧ f 5 = v35) | .rt x => x.elim) hq ⟨_, _, _, _, S28, (Inc.rfl _), els29, rfl, rfl, rfl⟩ ?_ ?_) ?_
  ·
    clear hp hq
    rintro i34 y33 s34 f43 w42 ⟨H39, v35, n36, cs37, S40, i41, els38, k44, k45, k46⟩ hx34 o93 hp
    refine FW.seq (FW.seq (FW.region ?_))
    refine FL.v (E.move k44) ?_
    refine FL.v (E.move k45) ?_
    refine FL.v (E.lenP te55 rfl p1) ?_
    refine FL.v (E.lssT rfl rfl (lss_len hx34)) ?_
    refine FL.nil ?_
    refine FW.condT rfl rfl ?_
    refine FW.skip (FW.seq (FW.block ?_))
    obtain ⟨x69, hx70, hp⟩ := bnd hp
    obtain ⟨xs76, hput77, hp⟩ := bnd hp
    refine FW.drawB (Sl H39) (fun f w => ∃ H : GH, ∃ v81 : Value, ∃ n82 : Nat, ∃ cs83 : List Value, St Ha wa H w [.row 3 1 v81 n82 cs83] ∧ Inc H39 H ∧ Els (up wa.heap.size H) eI 1 cs83 xs76 ∧ f 1 = v1 ∧ f 5 = v81 ∧ f 6 = Value.int .i64 ((i34 : Nat) : Int)) (by kernel_rfl) S40.sl ?_ ?_
    ·
      intro w47 r48
      have S49 := S40.call r48
      refine FB.t (i := 0) (bs 13 1) rfl (SP.nil S49.sl) rfl (fun w' hw' => (E.move k46)) ?_
      refine FB.t (i := 1) (bs 13 3) rfl (SP.nil S49.sl) rfl (fun w' hw' => (E.move k45)) ?_
      refine FB.t (i := 2) (bs 13 7) rfl (SP.nil S49.sl) rfl (fun w' hw' => (E.move k44)) ?_
      obtain ⟨p50, cs51, pt52, l53, at54, rel56⟩ := p1.at (ix_nat hx34)
      obtain rfl := eTerm_open rel56
      refine FB.t (i := 3) (bs 13 15) rfl (SP.nil S49.sl) rfl (fun w' hw' => (E.indexAddr te55 rfl rfl pt52)) ?_
      refine FB.t (i := 4) (bs 13 31) rfl (SP.nil S49.sl) rfl (fun w' hw' => (E.fieldAddr tf108_0 rfl)) ?_
      refine FB.t (i := 5) (bs 13 63) rfl (SP.nil S49.sl) rfl (fun w' hw' => (E.load rfl (run_load1 Tryz.isAgg3 ((at54.mono i41).now hw') rfl))) ?_
      refine FB.t (i := 6) (bs 13 127) rfl (SP.nil S49.sl) rfl (fun w' hw' => (E.move k45)) ?_
      refine FB.t (i := 7) (bs 13 255) rfl (SP.nil S49.sl) rfl (fun w' hw' => (E.move k44)) ?_
      obtain ⟨p57, cs58, pt59, l60, at61, rel62⟩ := p1.at (ix_nat hx34)
      obtain rfl := eTerm_open rel62
      refine FB.t (i := 8) (bs 13 511) rfl (SP.nil S49.sl) rfl (fun w' hw' => (E.indexAddr te55 rfl rfl pt59)) ?_
      refine FB.t (i := 9) (bs 13 1023) rfl (SP.nil S49.sl) rfl (fun w' hw' => (E.fieldAddr tf108_1 rfl)) ?_
      refine FB.t (i := 10) (bs 13 2047) rfl (SP.nil S49.sl) rfl (fun w' hw' => (E.load rfl (run_load1 Tryz.isAgg3 ((at61.mono i41).now hw') rfl))) ?_
      obtain ⟨p63, cs64, pt65, l66, at67, rel68, hall71⟩ := S49.row_atA (i := 0) rfl els38 (by decide) hx70
      obtain rfl := eI_open rel68
      refine FB.t (i := 11) (bs 13 4095) rfl (SP.nil S49.sl) rfl (fun w' hw' => (E.indexAddr te73 rfl rfl pt65)) ?_
      refine FB.all1 (i := 12) (by kernel_rfl) ?_
      ·
        obtain ⟨w72, cs79, run74, S75, els78, ce80⟩ := S49.putEls (P := Tryz.prog) (t := 3) (i := 0) rfl els38 hput77 pt65 Tryz.sizeOf3 (u := Value.int .i64 y33.coeff) (c := [Value.int .i64 y33.coeff]) rfl rfl (ones_cons rfl ones_nil) rfl
        have S75 : St Ha wa H39 w72 [.row 3 1 v35 n36 cs79] := S75
        refine FC.act (l' := (bs 13 8191)) rfl (by kernel_rfl) rfl rfl (E.store rfl rfl run74) ?_
        refine ⟨(SP.nil S75.sl), ?_⟩
        exact FB.done (by kernel_rfl) ⟨_, _, _, _, S75, (Inc.rfl _), els78, k45, k46, k44⟩
    ·
      rintro f89 w88 ⟨H85, v81, n82, cs83, S86, i87, els84, k90, k91, k92⟩
      refine FW.region ?_
      refine FL.v (E.move k92) ?_
      refine FL.v (E.add rfl rfl) ?_
      refine FL.v (E.assign (v := Value.int .i64 (wr (((i34 : Nat) : Int) + 1))) rfl) ?_
      refine FL.nil ?_
      obtain rfl := Option.some.inj hp
      exact ⟨rfl, ⟨_, _, _, _, S86, (i41.tr i87), els84, (nat_succ rfl (lt_of_get hx34) (p1.mono (i41.tr i87)).le), k90, k91⟩⟩
  ·
    clear hp hq
    rintro s34 f104 w103 ⟨H100, v35, n36, cs37, S101, i102, els38, k105, k106, k107⟩
    refine FW.seq (FW.seq (FW.region ?_))
    refine FL.v (E.move k105) ?_
    refine FL.v (E.move k106) ?_
    refine FL.v (E.lenP te55 rfl p1) ?_
    refine FL.v (E.lss rfl rfl) ?_
    refine FL.nil ?_
    refine FW.condF rfl dlt_len ?_
    refine FW.exit ?_
    exact ⟨nofun, rfl, ⟨_, _, _, _, S101, i102, els38, k107⟩⟩
  ·
    clear hq
    intro e f98 w97 hD
    rcases q34 with s34 | x34
    ·
      obtain ⟨rfl, hD⟩ := hD
      obtain ⟨H94, v35, n36, cs37, S95, i96, els38, k99⟩ := hD
      replace hp := el_go hp
      refine FW.seq (FW.region ?_)
      refine FL.v (E.move k99) ?_
      refine FL.v (E.assign (v := v35) rfl) ?_
      refine FL.nil ?_
      refine FW.ret ?_
      obtain rfl := Option.some.inj hp
      exact ⟨.inr rfl, res1 rfl rfl ⟨_, _, _, _, rfl, S95, els38⟩⟩
    · exact x34.elim

@[reducible] def p_spec_l18Add (Ha : GH) (wa : World) (r : (List Term)) : Ending → World → Prop :=
  fun e w' => ∃ H' : GH, ∃ v0 : Value, ∃ n0 : Nat, ∃ c0 : List Value, e = .returned (v0) ∧ St Ha wa H' w' [.row 108 2 v0 n0 c0] ∧ Els (up wa.heap.size H') eTerm 2 c0 r
theorem w_spec_l18Add {Ha : GH} {wa : World} (hs : Sl Ha wa) (a0 : Int) (a1 : Int) (v2 : Value) (a2 : List Term) (p2 : RSl Ha eTerm 2 v2 a2) (v3 : Value) (a3 : List Term) (p3 : RSl Ha eTerm 2 v3 a3) (a4 : Int) {r : (List Term)} (hp : (PF.spec_l18Add a0 a1 a2 a3 a4) = some r) :
    Calls Tryz.prog 156 #[Value.int .i64 a0, Value.int .i64 a1, v2, v3, Value.int .i64 a4] wa (p_spec_l18Add Ha wa r) := by
  unfold PF.spec_l18Add at hp
  have S0 := St.init hs
  refine calls_go (N := 43) (args := [Value.int .i64 a0, Value.int .i64 a1, v2, v3, Value.int .i64 a4]) Tryz.func156 rfl rfl rfl ?_
  refine FW.seq (FW.region ?_)
  refine FL.v (E.assign (v := Value.slice none 0 0) rfl) ?_
  refine FL.nil (FW.seq (FW.region ?_))
  refine FL.v (E.move (v := Value.int .i64 a1) rfl) ?_
  refine FL.v (E.move (v := v2) rfl) ?_
  obtain ⟨r21, hr22, hp⟩ := bnd hp
  refine FL.call rfl rfl rfl (E.call Tryz.call204 (A2 rfl rfl)) (w_spec_l18Dense S0.sl a1 v2 a2 p2 hr22) ?_
  rintro e w24 ⟨H23, v27, n28, cs29, rfl, r26, els30⟩
  refine ⟨_, rfl, ?_⟩
  have els30 := els30.mono (up_le S0.size)
  have S25 := S0.join (l' := [.row 3 1 v27 n28 cs29]) r26 rfl
  refine FL.v (E.move (v := Value.int .i64 a1) rfl) ?_
  refine FL.v (E.move (v := v3) rfl) ?_
  obtain ⟨r31, hr32, hp⟩ := bnd hp
  refine FL.call rfl rfl rfl (E.call Tryz.call204 (A2 rfl rfl)) (w_spec_l18Dense S25.sl a1 v3 a3 (p3.mono r26.run.inc) hr32) ?_
  rintro e w34 ⟨H33, v37, n38, cs39, rfl, r36, els40⟩
  refine ⟨_, rfl, ?_⟩
  have els40 := els40.mono (up_le S25.size)
  have S35 := S25.join (l' := [.row 3 1 v37 n38 cs39, .row 3 1 v27 n28 cs29]) r36 rfl
  refine FL.v (E.assign (v := v27) rfl) ?_
  refine FL.v (E.assign (v := v37) rfl) ?_
  refine FL.nil (FW.seq (FW.seq (FW.region ?_)))
  refine FL.v (E.assign (v := Value.int .i64 0) rfl) ?_
  refine FL.nil ?_
  obtain ⟨q41, hq, hp⟩ := bndR hp
  refine FW.block ?_
  refine FW.mono (FW.iter (S := ((List Int) × Int)) (X := Empty) (fun (s41 : ((List Int) × Int)) f w => ∃ H : GH, ∃ v42 : Value, ∃ n43 : Nat, ∃ cs44 : List Value, St Ha wa H w [.row 3 1 v37 n38 cs39, .row 3 1 v42 n43 cs44] ∧ Inc H33 H ∧ Els (up wa.heap.size H) eI 1 cs44 s41.1 ∧ f 0 = Value.int .i64 a0 ∧ f 4 = Value.int .i64 a4 ∧ f 11 = v42 ∧ f 12 = v37 ∧ f 13 = Value.int .i64 s41.2) (fun (q : Rs ((List Int) × Int) Empty) e f w => match q with | .go s41 => e = Exit.exit 0 ∧ (∃ H : GH, ∃ v42 : Value, ∃ n43 : Nat, ∃ cs44 : List Value, St Ha wa H w [.row 3 1 v37 n38 cs39, .row 3 1 v42 n43 cs44] ∧ Inc H33 H ∧ Els (up wa.heap.size H) eI 1 cs44 s41.1 ∧ f 0 = Value.int .i64 a0 ∧ f 11 = v42) | .rt x => x.elim) hq ⟨_, _, _, _, S35, (Inc.rfl _), (els30.mono (up_mono r36.run.inc)), rfl, rfl, rfl, rfl, rfl⟩ ?_) ?_
  ·
    clear hp hq
    rintro s41 f50 w49 ⟨H46, v42, n43, cs44, S47, i48, els45, k51, k52, k53, k54, k55⟩ o110 hp
    refine FW.seq (FW.seq (FW.region ?_))
    refine FL.v (E.move k55) ?_
    refine FL.v (E.move k53) ?_
    refine FL.v (E.lenO te73 rfl S47 (i := 1) rfl els45 (by decide)) ?_
    refine FL.v (E.lss rfl rfl) ?_
    refine FL.nil ?_
    rcases ifB hp with ⟨c56, hp⟩ | ⟨c56, hp⟩
    ·
      refine FW.condT rfl c56 ?_
      refine FW.skip (FW.seq (FW.block ?_))
      obtain ⟨x66, hx67, hp⟩ := bnd hp
      obtain ⟨x76, hx77, hp⟩ := bnd hp
      obtain ⟨x85, hx86, hp⟩ := bnd hp
      obtain ⟨xs91, hput92, hp⟩ := bnd hp
      refine FW.drawB (SX Ha wa H46 [.row 3 1 v37 n38 cs39]) (fun f w => ∃ H : GH, ∃ v96 : Value, ∃ n97 : Nat, ∃ cs98 : List Value, St Ha wa H w [.row 3 1 v37 n38 cs39, .row 3 1 v96 n97 cs98] ∧ Inc H46 H ∧ Els (up wa.heap.size H) eI 1 cs98 xs91 ∧ f 0 = Value.int .i64 a0 ∧ f 4 = Value.int .i64 a4 ∧ f 11 = v96 ∧ f 12 = v37 ∧ f 13 = Value.int .i64 s41.2) (by kernel_rfl) S47.sl ?_ ?_
      ·
        intro w57 r58
        have S59 := S47.call r58
        refine FB.t (i := 0) (bs 15 1) rfl (SP.nil ⟨_, (S59.sel [0] (by decide) rfl), (Inc.rfl _)⟩) rfl (fun w' hw' => (E.move k53)) ?_
        refine FB.t (i := 1) (bs 15 3) rfl (SP.nil ⟨_, (S59.sel [0] (by decide) rfl), (Inc.rfl _)⟩) rfl (fun w' hw' => (E.move k55)) ?_
        refine FB.t (i := 2) (bs 15 7) rfl (SP.nil ⟨_, (S59.sel [0] (by decide) rfl), (Inc.rfl _)⟩) rfl (fun w' hw' => (E.move k53)) ?_
        refine FB.t (i := 3) (bs 15 15) rfl (SP.nil ⟨_, (S59.sel [0] (by decide) rfl), (Inc.rfl _)⟩) rfl (fun w' hw' => (E.move k55)) ?_
        obtain ⟨p60, cs61, pt62, l63, at64, rel65, hall68⟩ := S59.row_atA (i := 1) rfl els45 (by decide) hx67
        obtain rfl := eI_open rel65
        refine FB.t (i := 4) (bs 15 31) rfl (SP.nil ⟨_, (S59.sel [0] (by decide) rfl), (Inc.rfl _)⟩) rfl (fun w' hw' => (E.indexAddr te73 rfl rfl pt62)) ?_
        refine FB.phase [14] (fun w' => WAt w' p60 [Value.int .i64 x66]) ?_
        refine FB.p (i := 5) (bs 15 63) 0 [12, 13, 14] rfl (SP.on (hall68 _ _ _ 1 S59 rfl) (SP.nil ⟨_, (S59.sel [0] (by decide) rfl), (Inc.rfl _)⟩)) rfl rfl (fun w' hw' => (E.load rfl (run_load0 Tryz.isAgg3 hw' rfl))) ?_
        refine FB.t (i := 6) (bs 15 127) rfl (SP.on (hall68 _ _ _ 1 S59 rfl) (SP.nil ⟨_, (S59.sel [0] (by decide) rfl), (Inc.rfl _)⟩)) rfl (fun w' hw' => (E.move k52)) ?_
        refine FB.t (i := 7) (bs 15 255) rfl (SP.on (hall68 _ _ _ 1 S59 rfl) (SP.nil ⟨_, (S59.sel [0] (by decide) rfl), (Inc.rfl _)⟩)) rfl (fun w' hw' => (E.move k54)) ?_
        refine FB.t (i := 8) (bs 15 511) rfl (SP.on (hall68 _ _ _ 1 S59 rfl) (SP.nil ⟨_, (S59.sel [0] (by decide) rfl), (Inc.rfl _)⟩)) rfl (fun w' hw' => (E.move k55)) ?_
        obtain ⟨p69, cs70, pt71, l72, at74, rel75, hall78⟩ := S59.row_atA (i := 0) rfl els40 (by decide) hx77
        obtain rfl := eI_open rel75
        refine FB.t (i := 9) (bs 15 1023) rfl (SP.on (hall68 _ _ _ 1 S59 rfl) (SP.nil ⟨_, (S59.sel [0] (by decide) rfl), (Inc.rfl _)⟩)) rfl (fun w' hw' => (E.indexAddr te73 rfl rfl pt71)) ?_
        refine FB.t (i := 10) (bs 15 2047) rfl (SP.on (hall68 _ _ _ 1 S59 rfl) (SP.nil ⟨_, (S59.sel [0] (by decide) rfl), (Inc.rfl _)⟩)) rfl (fun w' hw' => (E.load rfl (run_load0 Tryz.isAgg3 (hw'.use fun _ st => hall78 _ _ _ 0 st rfl) rfl))) ?_
        refine FB.t (i := 11) (bs 15 4095) rfl (SP.on (hall68 _ _ _ 1 S59 rfl) (SP.nil ⟨_, (S59.sel [0] (by decide) rfl), (Inc.rfl _)⟩)) rfl (fun w' hw' => (E.mul rfl rfl)) ?_
        refine FB.t (i := 12) (bs 15 8191) rfl (SP.on (hall68 _ _ _ 1 S59 rfl) (SP.nil ⟨_, (S59.sel [0] (by decide) rfl), (Inc.rfl _)⟩)) rfl (fun w' hw' => (E.add rfl rfl)) ?_
        obtain ⟨p79, cs80, pt81, l82, at83, rel84, hall87⟩ := S59.row_atA (i := 1) rfl els45 (by decide) hx86
        obtain rfl := eI_open rel84
        refine FB.t (i := 13) (bs 15 16383) rfl (SP.on (hall68 _ _ _ 1 S59 rfl) (SP.nil ⟨_, (S59.sel [0] (by decide) rfl), (Inc.rfl _)⟩)) rfl (fun w' hw' => (E.indexAddr te73 rfl rfl pt81)) ?_
        refine FB.all1 (i := 14) (by kernel_rfl) ?_
        ·
          obtain ⟨w88, cs94, run89, S90, els93, ce95⟩ := S59.putEls (P := Tryz.prog) (t := 3) (i := 1) rfl els45 hput92 pt81 Tryz.sizeOf3 (u := Value.int .i64 (wr (x66 + (wr (a4 * x76))))) (c := [Value.int .i64 (wr (x66 + (wr (a4 * x76))))]) rfl rfl (ones_cons rfl ones_nil) rfl
          have S90 : St Ha wa H46 w88 [.row 3 1 v37 n38 cs39, .row 3 1 v42 n43 cs94] := S90
          refine FC.act (l' := (bs 15 32767)) rfl (by kernel_rfl) rfl rfl (E.store rfl rfl run89) ?_
          refine ⟨(SP.o (SP.nil ⟨_, (S90.sel [0] (by decide) rfl), (Inc.rfl _)⟩)), ?_⟩
          exact FB.done (by kernel_rfl) ⟨_, _, _, _, S90, (Inc.rfl _), els93, k51, k52, k53, k54, k55⟩
      ·
        rintro f104 w103 ⟨H100, v96, n97, cs98, S101, i102, els99, k105, k106, k107, k108, k109⟩
        refine FW.region ?_
        refine FL.v (E.move k109) ?_
        refine FL.v (E.add rfl rfl) ?_
        refine FL.v (E.assign (v := Value.int .i64 (wr (s41.2 + 1))) rfl) ?_
        refine FL.nil ?_
        obtain rfl := Option.some.inj hp
        exact ⟨rfl, ⟨_, _, _, _, S101, (i48.tr i102), els99, k105, k106, k107, k108, rfl⟩⟩
    ·
      refine FW.condF rfl c56 ?_
      refine FW.exit ?_
      obtain rfl := Option.some.inj hp
      exact ⟨nofun, rfl, ⟨_, _, _, _, S47, i48, els45, k51, k53⟩⟩
  ·
    clear hq
    intro e f115 w114 hD
    rcases q41 with s41 | x41
    ·
      obtain ⟨rfl, hD⟩ := hD
      obtain ⟨H111, v42, n43, cs44, S112, i113, els45, k116, k117⟩ := hD
      replace hp := el_go hp
      refine FW.seq (FW.region ?_)
      refine FL.v (E.move k116) ?_
      refine FL.v (E.move k117) ?_
      obtain ⟨H118, S119, i120, h121, nv122⟩ := S112.sealRowU (i := 1) (l' := [.row 3 1 v37 n38 cs39]) rfl els45 (by decide) rfl
      obtain ⟨r123, hr124, hp⟩ := bnd hp
      refine FL.call rfl rfl rfl (E.call Tryz.call179 (A2 rfl rfl)) (w_spec_l18Sparse S119.sl a0 v42 s41.1 (h121.mono upI) hr124) ?_
      rintro e w126 ⟨H125, v131, n132, cs133, rfl, r128, els134⟩
      refine ⟨_, rfl, ?_⟩
      obtain ⟨H129, r128, hU130⟩ := St.lendX i120 S112.sl r128
      have els134 := els134.mono (hU130.tr (up_le S112.size))
      have S127 := S112.join (l' := [.row 108 2 v131 n132 cs133, .row 3 1 v37 n38 cs39, .row 3 1 v42 n43 cs44]) r128 rfl
      refine FL.v (E.assign (v := v131) rfl) ?_
      refine FL.nil ?_
      refine FW.ret ?_
      obtain rfl := Option.some.inj hp
      exact ⟨.inr rfl, res1 rfl rfl ⟨_, _, _, _, rfl, (S127.sel [0] (by decide) rfl), els134⟩⟩
    · exact x41.elim

@[reducible] def p_spec_l20Sum (Ha : GH) (wa : World) (r : (List Term)) : Ending → World → Prop :=
 fun e w' => ∃ H' : GH, ∃ v0 : Value, ∃ n0 : Nat, ∃ c0 : List Value, e = .returned (v0) ∧ St Ha wa H' w' [.row 108 2 v0 n0 c0] ∧ Els (up wa.heap.size H') eTerm 2 c0 r
theorem w_spec_l20Sum {Ha : GH} {wa : World} (hs : Sl Ha wa) (a0 : Int) (a1 : Int) (v2 : Value) (a2 : List Term) (p2 : RSl Ha eTerm 2 v2 a2) (a3 : Int) (v4 : Value) (a4 : List Term) (p4 : RSl Ha eTerm 2 v4 a4) (a5 : Int) {r : (List Term)} (hp : (PF.spec_l20Sum a0 a1 a2 a3 a4 a5) = some r) :
  Calls Tryz.prog 185 #[Value.int .i64 a0, Value.int .i64 a1, v2, Value.int .i64 a3, v4, Value.int .i64 a5] wa (p_spec_l20Sum Ha wa r) := by
 unfold PF.spec_l20Sum at hp
 have S0 := St.init hs
 refine calls_go (N := 24) (args := [Value.int .i64 a0, Value.int .i64 a1, v2, Value.int .i64 a3, v4, Value.int .i64 a5]) Tryz.func185 rfl rfl rfl ?_
 refine FW.seq (FW.region ?_)
 refine FL.v (E.assign (v := Value.slice none 0 0) rfl) ?_
 refine FL.nil (FW.seq (FW.region ?_))
 refine FL.v (E.move (v := Value.int .i64 a0) rfl) ?_
 refine FL.v (E.move (v := Value.int .i64 a1) rfl) ?_
 refine FL.v (E.move (v := Value.int .i64 a0) rfl) ?_
 refine FL.v (E.move (v := Value.int .i64 a1) rfl) ?_
 obtain ⟨v21, w22, run23, S24⟩ := S0.buildSlice (P := Tryz.prog) te55 [] (parts := #[]) (cells := []) rfl szs_nil fc_nil ones_nil (Nat.le_of_ble_eq_true rfl)
 have els25 : Els (up wa.heap.size Ha) eTerm 2 [] [] := Els.nil
 refine FL.v (E.buildSlice (B0) run23) ?_
 refine FL.v (E.move (v := v2) rfl) ?_
 refine FL.v (E.move (v := Value.int .i64 a3) rfl) ?_
 obtain ⟨H26, S27, i28, h29, nv30⟩ := S24.sealRowU (i := 0) (l' := []) rfl els25 (by decide) rfl
 obtain ⟨r31, hr32, hp⟩ := bnd hp
 refine FL.call rfl rfl rfl (E.call Tryz.call156 (A5 rfl rfl rfl rfl rfl)) (w_spec_l18Add S27.sl a0 a1 v21 [] (h29.mono upI) v2 a2 (p2.mono i28) a3 hr32) ?_
 rintro e w34 ⟨H33, v39, n40, cs41, rfl, r36, els42⟩
 refine ⟨_, rfl, ?_⟩
 obtain ⟨H37, r36, hU38⟩ := St.lendX i28 S24.sl r36
 have els42 := els42.mono (hU38.tr (up_le S24.size))
 have S35 := S24.join (l' := [.row 108 2 v39 n40 cs41, .row 108 2 v21 0 []]) r36 rfl
 refine FL.v (E.move (v := v4) rfl) ?_
 refine FL.v (E.move (v := Value.int .i64 a5) rfl) ?_
 obtain ⟨H43, S44, i45, h46, nv47⟩ := S35.sealRowU (i := 0) (l' := [.row 108 2 v21 0 []]) rfl els42 (by decide) rfl
 obtain ⟨r48, hr49, hp⟩ := bnd hp
 refine FL.call rfl rfl rfl (E.call Tryz.call156 (A5 rfl rfl rfl rfl rfl)) (w_spec_l18Add S44.sl a0 a1 v39 r31 (h46.mono upI) v4 a4 (p4.mono (r36.run.inc.tr i45)) a5 hr49) ?_
 rintro e w51 ⟨H50, v56, n57, cs58, rfl, r53, els59⟩
 refine ⟨_, rfl, ?_⟩
 obtain ⟨H54, r53, hU55⟩ := St.lendX i45 S35.sl r53
 have els59 := els59.mono (hU55.tr (up_le S35.size))
 have S52 := S35.join (l' := [.row 108 2 v56 n57 cs58, .row 108 2 v39 n40 cs41, .row 108 2 v21 0 []]) r53 rfl
 refine FL.v (E.assign (v := v56) rfl) ?_
 refine FL.nil ?_
 refine FW.ret ?_
 obtain rfl := Option.some.inj hp
 exact ⟨.inr rfl, res1 rfl rfl ⟨_, _, _, _, rfl, (S52.sel [0] (by decide) rfl), els59⟩⟩

set_option maxHeartbeats 4000000 in
theorem w_spec_l20Correct {Ha : GH} {wa : World} (hs : Sl Ha wa) (a0 : Int) (a1 : Cnf) (v1_1 : Value) (p1_1 : RSl Ha (eL eI 1) 1 v1_1 a1.clauses) (v2 : Value) (a2 : List PcStep) (p2 : RSl Ha ePcStep 6 v2 a2) (a3 : Int) {r : Bool} (hp : (PF.spec_l20Correct a0 a1 a2 a3) = some r) :
  Calls Tryz.prog 178 #[Value.int .i64 a0, Value.agg #[Value.int .i64 a1.vars, v1_1], v2, Value.int .i64 a3] wa (Sc Ha wa (Value.bool r)) := by
 unfold PF.spec_l20Correct at hp
 have S0 := St.init hs
 refine calls_go (N := 161) (args := [Value.int .i64 a0, Value.agg #[Value.int .i64 a1.vars, v1_1], v2, Value.int .i64 a3]) Tryz.func178 rfl rfl rfl ?_
 refine FW.seq (FW.region ?_)
 obtain ⟨b21, w22, run23, S24⟩ := S0.box (P := Tryz.prog) 32 [Value.int .i64 a1.vars, v1_1] (v := Value.agg #[Value.int .i64 a1.vars, v1_1]) rfl (ones_cons rfl (ones_cons p1_1.one ones_nil))
 refine FL.v (E.box rfl run23) ?_
 obtain ⟨H25, S26, i27, at28⟩ := S24.sealBox (i := 0) (l' := []) rfl rfl
 refine FL.v (E.assign (v := Value.bool false) rfl) ?_
 refine FL.nil (FW.seq (FW.region ?_))
 refine FL.v (E.move (v := v2) rfl) ?_
 refine FL.v (E.move (v := Value.int .i64 a3) rfl) ?_
 obtain ⟨x35, hx36, hp⟩ := bnd hp
 obtain ⟨p29, cs30, pt31, l32, at33, rel34⟩ := p2.at hx36
 obtain ⟨v37, rfl, h38⟩ := ePcStep_open rel34
 refine FL.v (E.indexAddr te36 rfl rfl pt31) ?_
 refine FL.v (E.load rfl (run_loadA Tryz.isAgg90 Tryz.sizeOf90 ((at33.mono i27).now S26.sl) rfl)) ?_
 obtain ⟨b39, w40, run41, S42⟩ := S26.alloc (P := Tryz.prog) 90 [Value.int .i64 0, Value.slice none 0 0, Value.int .i64 0, Value.int .i64 0, Value.int .i64 0, Value.int .i64 0] Tryz.zeroValue90 rfl (ones_cons rfl (ones_cons rfl (ones_cons rfl (ones_cons rfl (ones_cons rfl (ones_cons rfl ones_nil))))))
 refine FL.v (E.alloc run41) ?_
 obtain ⟨w43, run44, S45⟩ := S42.store0 (P := Tryz.prog) (t := 90) (i := 0) (cs' := [Value.int .i64 x35.kind, v37, Value.int .i64 x35.a, Value.int .i64 x35.b, Value.int .i64 x35.x, Value.int .i64 x35.y]) (l' := [.box b39 90 [Value.int .i64 x35.kind, v37, Value.int .i64 x35.a, Value.int .i64 x35.b, Value.int .i64 x35.x, Value.int .i64 x35.y]]) (v := Value.agg #[Value.int .i64 x35.kind, v37, Value.int .i64 x35.a, Value.int .i64 x35.b, Value.int .i64 x35.x, Value.int .i64 x35.y]) (c := [Value.int .i64 x35.kind, v37, Value.int .i64 x35.a, Value.int .i64 x35.b, Value.int .i64 x35.x, Value.int .i64 x35.y]) rfl Tryz.sizeOf90 rfl rfl (ones_cons rfl (ones_cons h38.one (ones_cons rfl (ones_cons rfl (ones_cons rfl (ones_cons rfl ones_nil)))))) (Nat.le_of_ble_eq_true rfl) rfl rfl
 refine FL.act rfl rfl (E.store rfl rfl run44) ?_
 obtain ⟨H46, S47, i48, at49⟩ := S45.sealBox (i := 0) (l' := []) rfl rfl
 refine FL.nil (FW.seq (FW.seq (FW.region ?_)))
 refine FL.v (E.move (v := Value.int .i64 a0) rfl) ?_
 refine FL.v (E.fieldAddr tf32_0 rfl) ?_
 refine FL.v (E.load rfl (run_load1 Tryz.isAgg3 ((at28.mono i48).now S47.sl) rfl)) ?_
 refine FL.v (E.fieldAddr tf90_1 rfl) ?_
 refine FL.v (E.load rfl (run_load1 Tryz.isAgg55 (at49.now S47.sl) rfl)) ?_
 obtain ⟨r50, hr51, hp⟩ := bnd hp
 refine FL.call rfl rfl rfl (E.call Tryz.call92 (A3 rfl rfl rfl)) (w_spec_l18Good S47.sl a0 a1.vars v37 x35.poly (h38.mono (i27.tr i48)) hr51) ?_
 rintro e w52 ⟨rfl, r53⟩
 refine ⟨_, rfl, ?_⟩
 have S54 := S47.call r53
 refine FL.v (E.not rfl) ?_
 refine FL.nil ?_
 rcases ifB hp with ⟨c55, hp⟩ | ⟨c55, hp⟩
 ·
  refine FW.condT rfl c55 ?_
  refine FW.seq (FW.region ?_)
  refine FL.v (E.assign (v := Value.bool false) rfl) ?_
  refine FL.nil ?_
  refine FW.ret ?_
  obtain rfl := Option.some.inj hp
  exact ⟨.inr rfl, res1 rfl rfl ⟨rfl, S54.back⟩⟩
 ·
  refine FW.condF rfl c55 ?_
  refine FW.skip (FW.seq (FW.seq (FW.region ?_)))
  refine FL.v (E.fieldAddr tf90_0 rfl) ?_
  refine FL.v (E.load rfl (run_load1 Tryz.isAgg3 (at49.now S54.sl) rfl)) ?_
  refine FL.v (E.eql rfl rfl) ?_
  refine FL.nil ?_
  rcases ifB hp with ⟨c56, hp⟩ | ⟨c56, hp⟩
  ·
   refine FW.condT rfl c56 ?_
   refine FW.seq ?_
   obtain ⟨t56_36, hqt56_36, hp⟩ := bnd hp
   refine FW.drawB (Sl H46) (fun f w => ∃ H : GH, St Ha wa H w [] ∧ Inc H46 H ∧ f 8 = Value.bool t56_36) (by kernel_rfl) S54.sl ?_ ?_
   ·
    intro w57 r58
    have S59 := S54.call r58
    refine FB.t (i := 0) (bs 38 1) rfl (SP.nil S59.sl) rfl (fun w' hw' => (E.fieldAddr tf90_3 rfl)) ?_
    refine FB.t (i := 1) (bs 38 3) rfl (SP.nil S59.sl) rfl (fun w' hw' => (E.load rfl (run_load1 Tryz.isAgg3 (at49.now hw') rfl))) ?_
    refine FB.t (i := 2) (bs 38 7) rfl (SP.nil S59.sl) rfl (fun w' hw' => (E.eql rfl rfl)) ?_
    refine FB.t (i := 3) (bs 38 15) rfl (SP.nil S59.sl) rfl (fun w' hw' => (E.move (v := Value.bool (x35.b == 0)) rfl)) ?_
    rcases bcase (x35.b == 0) with hc56_3 | hc56_3
    ·
     refine FB.t (i := 4) (bs 38 31) rfl (SP.nil S59.sl) (wF_yes rfl rfl rfl hc56_3) (fun w' hw' => (E.fieldAddr tf90_4 rfl)) ?_
     refine FB.t (i := 5) (bs 38 63) rfl (SP.nil S59.sl) (wF_yes rfl rfl rfl hc56_3) (fun w' hw' => (E.load rfl (run_load1 Tryz.isAgg3 (at49.now hw') rfl))) ?_
     refine FB.t (i := 6) (bs 38 127) rfl (SP.nil S59.sl) (wF_yes rfl rfl rfl hc56_3) (fun w' hw' => (E.eql rfl rfl)) ?_
     refine FB.t (i := 7) (bs 38 255) rfl (SP.nil S59.sl) rfl (fun w' hw' => (E.asB (b := (bif (x35.b == 0) then (x35.x == 0) else false)) (E.pickT rfl hc56_3 rfl) (bifT hc56_3).symm)) ?_
     refine FB.t (i := 8) (bs 38 511) rfl (SP.nil S59.sl) rfl (fun w' hw' => (E.move (v := Value.bool (bif (x35.b == 0) then (x35.x == 0) else false)) rfl)) ?_
     rcases bcase (bif (x35.b == 0) then (x35.x == 0) else false) with hc56_8 | hc56_8
     ·
      refine FB.t (i := 9) (bs 38 1023) rfl (SP.nil S59.sl) (wF_yes rfl rfl rfl hc56_8) (fun w' hw' => (E.fieldAddr tf90_5 rfl)) ?_
      refine FB.t (i := 10) (bs 38 2047) rfl (SP.nil S59.sl) (wF_yes rfl rfl rfl hc56_8) (fun w' hw' => (E.load rfl (run_load1 Tryz.isAgg3 (at49.now hw') rfl))) ?_
      refine FB.t (i := 11) (bs 38 4095) rfl (SP.nil S59.sl) (wF_yes rfl rfl rfl hc56_8) (fun w' hw' => (E.eql rfl rfl)) ?_
      refine FB.t (i := 12) (bs 38 8191) rfl (SP.nil S59.sl) rfl (fun w' hw' => (E.asB (b := (bif (bif (x35.b == 0) then (x35.x == 0) else false) then (x35.y == 0) else false)) (E.pickT rfl hc56_8 rfl) (bifT hc56_8).symm)) ?_
      refine FB.t (i := 13) (bs 38 16383) rfl (SP.nil S59.sl) rfl (fun w' hw' => (E.move (v := Value.bool (bif (bif (x35.b == 0) then (x35.x == 0) else false) then (x35.y == 0) else false)) rfl)) ?_
      rcases bcase (bif (bif (x35.b == 0) then (x35.x == 0) else false) then (x35.y == 0) else false) with hc56_13 | hc56_13
      ·
       refine FB.t (i := 14) (bs 38 32767) rfl (SP.nil S59.sl) (wF_yes rfl rfl rfl hc56_13) (fun w' hw' => (E.fieldAddr tf90_2 rfl)) ?_
       refine FB.t (i := 15) (bs 38 65535) rfl (SP.nil S59.sl) (wF_yes rfl rfl rfl hc56_13) (fun w' hw' => (E.load rfl (run_load1 Tryz.isAgg3 (at49.now hw') rfl))) ?_
       refine FB.t (i := 16) (bs 38 131071) rfl (SP.nil S59.sl) (wF_yes rfl rfl rfl hc56_13) (fun w' hw' => (E.fieldAddr tf32_1 rfl)) ?_
       refine FB.t (i := 17) (bs 38 262143) rfl (SP.nil S59.sl) (wF_yes rfl rfl rfl hc56_13) (fun w' hw' => (E.load rfl (run_load1 Tryz.isAgg22 ((at28.mono i48).now hw') rfl))) ?_
       refine FB.t (i := 18) (bs 38 524287) rfl (SP.nil S59.sl) (wF_yes rfl rfl rfl hc56_13) (fun w' hw' => (E.lenP te22 rfl p1_1)) ?_
       refine FB.t (i := 19) (bs 38 1048575) rfl (SP.nil S59.sl) (wF_yes rfl rfl rfl hc56_13) (fun w' hw' => (E.sub rfl rfl)) ?_
       refine FB.all1 (i := 20) (by kernel_rfl) ?_
       ·
        refine FC.call (l' := (bs 38 2097151)) rfl (by kernel_rfl) (wF_yes rfl rfl rfl hc56_13) rfl rfl (E.call Tryz.call153 (A3 rfl rfl rfl)) (w_spec_l1In S59.sl x35.a 0 (wr ((len a1.clauses) - 1))) ?_
        rintro e w60 ⟨rfl, r61⟩
        refine ⟨_, rfl, ?_⟩
        have S62 := S59.call r61
        refine ⟨(SP.nil S62.sl), ?_⟩
        refine FB.t (i := 21) (bs 38 4194303) rfl (SP.nil S62.sl) rfl (fun w' hw' => (E.asB (b := (bif (bif (bif (x35.b == 0) then (x35.x == 0) else false) then (x35.y == 0) else false) then (PF.spec_l1In x35.a 0 (wr ((len a1.clauses) - 1))) else false)) (E.pickT rfl hc56_13 rfl) (bifT hc56_13).symm)) ?_
        refine FB.t (i := 22) (bs 38 8388607) rfl (SP.nil S62.sl) rfl (fun w' hw' => (E.move (v := Value.bool (bif (bif (bif (x35.b == 0) then (x35.x == 0) else false) then (x35.y == 0) else false) then (PF.spec_l1In x35.a 0 (wr ((len a1.clauses) - 1))) else false)) rfl)) ?_
        rcases ifB hqt56_36 with ⟨hc56_22, hqt56_36⟩ | ⟨hc56_22, hqt56_36⟩
        ·
         obtain ⟨x69, hx70, hqt56_36⟩ := bnd hqt56_36
         obtain ⟨r73, hr74, hqt56_36⟩ := bnd hqt56_36
         obtain ⟨r88, hr89, hqt56_36⟩ := bnd hqt56_36
         refine FB.t (i := 23) (bs 38 16777215) rfl (SP.nil S62.sl) (wF_yes rfl rfl rfl hc56_22) (fun w' hw' => (E.fieldAddr tf90_1 rfl)) ?_
         refine FB.t (i := 24) (bs 38 33554431) rfl (SP.nil S62.sl) (wF_yes rfl rfl rfl hc56_22) (fun w' hw' => (E.load rfl (run_load1 Tryz.isAgg55 (at49.now hw') rfl))) ?_
         refine FB.t (i := 25) (bs 38 67108863) rfl (SP.nil S62.sl) (wF_yes rfl rfl rfl hc56_22) (fun w' hw' => (E.move (v := Value.int .i64 a0) rfl)) ?_
         refine FB.t (i := 26) (bs 38 134217727) rfl (SP.nil S62.sl) (wF_yes rfl rfl rfl hc56_22) (fun w' hw' => (E.fieldAddr tf32_0 rfl)) ?_
         refine FB.t (i := 27) (bs 38 268435455) rfl (SP.nil S62.sl) (wF_yes rfl rfl rfl hc56_22) (fun w' hw' => (E.load rfl (run_load1 Tryz.isAgg3 ((at28.mono i48).now hw') rfl))) ?_
         refine FB.t (i := 28) (bs 38 536870911) rfl (SP.nil S62.sl) (wF_yes rfl rfl rfl hc56_22) (fun w' hw' => (E.fieldAddr tf32_1 rfl)) ?_
         refine FB.t (i := 29) (bs 38 1073741823) rfl (SP.nil S62.sl) (wF_yes rfl rfl rfl hc56_22) (fun w' hw' => (E.load rfl (run_load1 Tryz.isAgg22 ((at28.mono i48).now hw') rfl))) ?_
         refine FB.t (i := 30) (bs 38 2147483647) rfl (SP.nil S62.sl) (wF_yes rfl rfl rfl hc56_22) (fun w' hw' => (E.fieldAddr tf90_2 rfl)) ?_
         refine FB.t (i := 31) (bs 38 4294967295) rfl (SP.nil S62.sl) (wF_yes rfl rfl rfl hc56_22) (fun w' hw' => (E.load rfl (run_load1 Tryz.isAgg3 (at49.now hw') rfl))) ?_
         obtain ⟨p63, cs64, pt65, l66, at67, rel68⟩ := p1_1.at hx70
         obtain ⟨v71, rfl, h72⟩ := eL_open rel68
         refine FB.t (i := 32) (bs 38 8589934591) rfl (SP.nil S62.sl) (wF_yes rfl rfl rfl hc56_22) (fun w' hw' => (E.indexAddr te22 rfl rfl pt65)) ?_
         refine FB.t (i := 33) (bs 38 17179869183) rfl (SP.nil S62.sl) (wF_yes rfl rfl rfl hc56_22) (fun w' hw' => (E.load rfl (run_load0 Tryz.isAgg73 ((at67.mono (i27.tr i48)).now hw') rfl))) ?_
         refine FB.all1 (i := 34) (by kernel_rfl) ?_
         ·
          refine FC.call (l' := (bs 38 34359738367)) rfl (by kernel_rfl) (wF_yes rfl rfl rfl hc56_22) rfl rfl (E.call Tryz.call60 (A3 rfl rfl rfl)) (w_spec_l18Clause S62.sl a0 a1.vars v71 x69 (h72.mono (i27.tr i48)) hr74) ?_
          rintro e w76 ⟨H75, v79, n80, cs81, rfl, r78, els82⟩
          refine ⟨_, rfl, ?_⟩
          have els82 := els82.mono (up_le S62.size)
          have S77 := S62.join (l' := [.row 108 2 v79 n80 cs81]) r78 rfl
          refine ⟨(SP.nil (Sl.of_inc r78.run.inc S77.sl)), ?_⟩
          refine FB.all1 (i := 35) (by kernel_rfl) ?_
          ·
           obtain ⟨H83, S84, i85, h86, nv87⟩ := S77.sealRowU (i := 0) (l' := []) rfl els82 (by decide) rfl
           refine FC.call (l' := (bs 38 68719476735)) rfl (by kernel_rfl) (wF_yes rfl rfl rfl hc56_22) rfl rfl (E.call Tryz.call61 (A2 rfl rfl)) (w_spec_l20Same S84.sl v37 x35.poly (h38.mono (((i27.tr i48).tr r78.run.inc).tr i85)) v79 r73 (h86.mono upI) hr89) ?_
           rintro e w91 ⟨rfl, r92⟩
           refine ⟨_, rfl, ?_⟩
           have r92 := Run.lend i85 S77.sl r92
           have S93 := S77.call r92
           refine ⟨(SP.nil (Sl.of_inc r78.run.inc S93.sl)), ?_⟩
           refine FB.t (i := 36) (bs 38 137438953471) rfl (SP.nil (Sl.of_inc r78.run.inc S93.sl)) rfl (fun w' hw' => (E.asB (E.pickT rfl hc56_22 rfl) (Option.some.inj hqt56_36))) ?_
           refine FB.t (i := 37) (bs 38 274877906943) rfl (SP.nil (Sl.of_inc r78.run.inc S93.sl)) rfl (fun w' hw' => (E.assign (v := Value.bool t56_36) rfl)) ?_
           exact FB.done (by kernel_rfl) ⟨_, (S93.sel [] (by decide) rfl), r78.run.inc, rfl⟩
        ·
         refine FB.skip (i := 23) (l' := (bs 38 16777215)) rfl (by kernel_rfl) (by kernel_rfl) (by kernel_rfl) (by kernel_rfl) (by kernel_rfl) (SP.nil S62.sl) (wF_no rfl rfl rfl hc56_22) rfl rfl ?_
         refine FB.skip (i := 24) (l' := (bs 38 33554431)) rfl (by kernel_rfl) (by kernel_rfl) (by kernel_rfl) (by kernel_rfl) (by kernel_rfl) (SP.nil S62.sl) (wF_no rfl rfl rfl hc56_22) rfl rfl ?_
         refine FB.skip (i := 25) (l' := (bs 38 67108863)) rfl (by kernel_rfl) (by kernel_rfl) (by kernel_rfl) (by kernel_rfl) (by kernel_rfl) (SP.nil S62.sl) (wF_no rfl rfl rfl hc56_22) rfl rfl ?_
         refine FB.skip (i := 26) (l' := (bs 38 134217727)) rfl (by kernel_rfl) (by kernel_rfl) (by kernel_rfl) (by kernel_rfl) (by kernel_rfl) (SP.nil S62.sl) (wF_no rfl rfl rfl hc56_22) rfl rfl ?_
         refine FB.skip (i := 27) (l' := (bs 38 268435455)) rfl (by kernel_rfl) (by kernel_rfl) (by kernel_rfl) (by kernel_rfl) (by kernel_rfl) (SP.nil S62.sl) (wF_no rfl rfl rfl hc56_22) rfl rfl ?_
         refine FB.skip (i := 28) (l' := (bs 38 536870911)) rfl (by kernel_rfl) (by kernel_rfl) (by kernel_rfl) (by kernel_rfl) (by kernel_rfl) (SP.nil S62.sl) (wF_no rfl rfl rfl hc56_22) rfl rfl ?_
         refine FB.skip (i := 29) (l' := (bs 38 1073741823)) rfl (by kernel_rfl) (by kernel_rfl) (by kernel_rfl) (by kernel_rfl) (by kernel_rfl) (SP.nil S62.sl) (wF_no rfl rfl rfl hc56_22) rfl rfl ?_
         refine FB.skip (i := 30) (l' := (bs 38 2147483647)) rfl (by kernel_rfl) (by kernel_rfl) (by kernel_rfl) (by kernel_rfl) (by kernel_rfl) (SP.nil S62.sl) (wF_no rfl rfl rfl hc56_22) rfl rfl ?_
         refine FB.skip (i := 31) (l' := (bs 38 4294967295)) rfl (by kernel_rfl) (by kernel_rfl) (by kernel_rfl) (by kernel_rfl) (by kernel_rfl) (SP.nil S62.sl) (wF_no rfl rfl rfl hc56_22) rfl rfl ?_
         refine FB.skip (i := 32) (l' := (bs 38 8589934591)) rfl (by kernel_rfl) (by kernel_rfl) (by kernel_rfl) (by kernel_rfl) (by kernel_rfl) (SP.nil S62.sl) (wF_no rfl rfl rfl hc56_22) rfl rfl ?_
         refine FB.skip (i := 33) (l' := (bs 38 17179869183)) rfl (by kernel_rfl) (by kernel_rfl) (by kernel_rfl) (by kernel_rfl) (by kernel_rfl) (SP.nil S62.sl) (wF_no rfl rfl rfl hc56_22) rfl rfl ?_
         refine FB.skip (i := 34) (l' := (bs 38 34359738367)) rfl (by kernel_rfl) (by kernel_rfl) (by kernel_rfl) (by kernel_rfl) (by kernel_rfl) (SP.nil S62.sl) (wF_no rfl rfl rfl hc56_22) rfl rfl ?_
         refine FB.skip (i := 35) (l' := (bs 38 68719476735)) rfl (by kernel_rfl) (by kernel_rfl) (by kernel_rfl) (by kernel_rfl) (by kernel_rfl) (SP.nil S62.sl) (wF_no rfl rfl rfl hc56_22) rfl rfl ?_
         refine FB.t (i := 36) (bs 38 137438953471) rfl (SP.nil S62.sl) rfl (fun w' hw' => (E.asB (E.pickF rfl hc56_22 rfl) (Option.some.inj hqt56_36))) ?_
         refine FB.t (i := 37) (bs 38 274877906943) rfl (SP.nil S62.sl) rfl (fun w' hw' => (E.assign (v := Value.bool t56_36) rfl)) ?_
         exact FB.done (by kernel_rfl) ⟨_, S62, (Inc.rfl _), rfl⟩
      ·
       refine FB.skip (i := 14) (l' := (bs 38 32767)) rfl (by kernel_rfl) (by kernel_rfl) (by kernel_rfl) (by kernel_rfl) (by kernel_rfl) (SP.nil S59.sl) (wF_no rfl rfl rfl hc56_13) rfl rfl ?_
       refine FB.skip (i := 15) (l' := (bs 38 65535)) rfl (by kernel_rfl) (by kernel_rfl) (by kernel_rfl) (by kernel_rfl) (by kernel_rfl) (SP.nil S59.sl) (wF_no rfl rfl rfl hc56_13) rfl rfl ?_
       refine FB.skip (i := 16) (l' := (bs 38 131071)) rfl (by kernel_rfl) (by kernel_rfl) (by kernel_rfl) (by kernel_rfl) (by kernel_rfl) (SP.nil S59.sl) (wF_no rfl rfl rfl hc56_13) rfl rfl ?_
       refine FB.skip (i := 17) (l' := (bs 38 262143)) rfl (by kernel_rfl) (by kernel_rfl) (by kernel_rfl) (by kernel_rfl) (by kernel_rfl) (SP.nil S59.sl) (wF_no rfl rfl rfl hc56_13) rfl rfl ?_
       refine FB.skip (i := 18) (l' := (bs 38 524287)) rfl (by kernel_rfl) (by kernel_rfl) (by kernel_rfl) (by kernel_rfl) (by kernel_rfl) (SP.nil S59.sl) (wF_no rfl rfl rfl hc56_13) rfl rfl ?_
       refine FB.skip (i := 19) (l' := (bs 38 1048575)) rfl (by kernel_rfl) (by kernel_rfl) (by kernel_rfl) (by kernel_rfl) (by kernel_rfl) (SP.nil S59.sl) (wF_no rfl rfl rfl hc56_13) rfl rfl ?_
       refine FB.skip (i := 20) (l' := (bs 38 2097151)) rfl (by kernel_rfl) (by kernel_rfl) (by kernel_rfl) (by kernel_rfl) (by kernel_rfl) (SP.nil S59.sl) (wF_no rfl rfl rfl hc56_13) rfl rfl ?_
       refine FB.t (i := 21) (bs 38 4194303) rfl (SP.nil S59.sl) rfl (fun w' hw' => (E.asB (b := (bif (bif (bif (x35.b == 0) then (x35.x == 0) else false) then (x35.y == 0) else false) then (PF.spec_l1In x35.a 0 (wr ((len a1.clauses) - 1))) else false)) (E.pickF rfl hc56_13 rfl) (bifF hc56_13).symm)) ?_
       refine FB.t (i := 22) (bs 38 8388607) rfl (SP.nil S59.sl) rfl (fun w' hw' => (E.move (v := Value.bool (bif (bif (bif (x35.b == 0) then (x35.x == 0) else false) then (x35.y == 0) else false) then (PF.spec_l1In x35.a 0 (wr ((len a1.clauses) - 1))) else false)) rfl)) ?_
       rcases ifB hqt56_36 with ⟨hc56_22, hqt56_36⟩ | ⟨hc56_22, hqt56_36⟩
       ·
        obtain ⟨x69, hx70, hqt56_36⟩ := bnd hqt56_36
        obtain ⟨r73, hr74, hqt56_36⟩ := bnd hqt56_36
        obtain ⟨r88, hr89, hqt56_36⟩ := bnd hqt56_36
        refine FB.t (i := 23) (bs 38 16777215) rfl (SP.nil S59.sl) (wF_yes rfl rfl rfl hc56_22) (fun w' hw' => (E.fieldAddr tf90_1 rfl)) ?_
        refine FB.t (i := 24) (bs 38 33554431) rfl (SP.nil S59.sl) (wF_yes rfl rfl rfl hc56_22) (fun w' hw' => (E.load rfl (run_load1 Tryz.isAgg55 (at49.now hw') rfl))) ?_
        refine FB.t (i := 25) (bs 38 67108863) rfl (SP.nil S59.sl) (wF_yes rfl rfl rfl hc56_22) (fun w' hw' => (E.move (v := Value.int .i64 a0) rfl)) ?_
        refine FB.t (i := 26) (bs 38 134217727) rfl (SP.nil S59.sl) (wF_yes rfl rfl rfl hc56_22) (fun w' hw' => (E.fieldAddr tf32_0 rfl)) ?_
        refine FB.t (i := 27) (bs 38 268435455) rfl (SP.nil S59.sl) (wF_yes rfl rfl rfl hc56_22) (fun w' hw' => (E.load rfl (run_load1 Tryz.isAgg3 ((at28.mono i48).now hw') rfl))) ?_
        refine FB.t (i := 28) (bs 38 536870911) rfl (SP.nil S59.sl) (wF_yes rfl rfl rfl hc56_22) (fun w' hw' => (E.fieldAddr tf32_1 rfl)) ?_
        refine FB.t (i := 29) (bs 38 1073741823) rfl (SP.nil S59.sl) (wF_yes rfl rfl rfl hc56_22) (fun w' hw' => (E.load rfl (run_load1 Tryz.isAgg22 ((at28.mono i48).now hw') rfl))) ?_
        refine FB.t (i := 30) (bs 38 2147483647) rfl (SP.nil S59.sl) (wF_yes rfl rfl rfl hc56_22) (fun w' hw' => (E.fieldAddr tf90_2 rfl)) ?_
        refine FB.t (i := 31) (bs 38 4294967295) rfl (SP.nil S59.sl) (wF_yes rfl rfl rfl hc56_22) (fun w' hw' => (E.load rfl (run_load1 Tryz.isAgg3 (at49.now hw') rfl))) ?_
        obtain ⟨p63, cs64, pt65, l66, at67, rel68⟩ := p1_1.at hx70
        obtain ⟨v71, rfl, h72⟩ := eL_open rel68
        refine FB.t (i := 32) (bs 38 8589934591) rfl (SP.nil S59.sl) (wF_yes rfl rfl rfl hc56_22) (fun w' hw' => (E.indexAddr te22 rfl rfl pt65)) ?_
        refine FB.t (i := 33) (bs 38 17179869183) rfl (SP.nil S59.sl) (wF_yes rfl rfl rfl hc56_22) (fun w' hw' => (E.load rfl (run_load0 Tryz.isAgg73 ((at67.mono (i27.tr i48)).now hw') rfl))) ?_
        refine FB.all1 (i := 34) (by kernel_rfl) ?_
        ·
         refine FC.call (l' := (bs 38 34359738367)) rfl (by kernel_rfl) (wF_yes rfl rfl rfl hc56_22) rfl rfl (E.call Tryz.call60 (A3 rfl rfl rfl)) (w_spec_l18Clause S59.sl a0 a1.vars v71 x69 (h72.mono (i27.tr i48)) hr74) ?_
         rintro e w76 ⟨H75, v79, n80, cs81, rfl, r78, els82⟩
         refine ⟨_, rfl, ?_⟩
         have els82 := els82.mono (up_le S59.size)
         have S77 := S59.join (l' := [.row 108 2 v79 n80 cs81]) r78 rfl
         refine ⟨(SP.nil (Sl.of_inc r78.run.inc S77.sl)), ?_⟩
         refine FB.all1 (i := 35) (by kernel_rfl) ?_
         ·
          obtain ⟨H83, S84, i85, h86, nv87⟩ := S77.sealRowU (i := 0) (l' := []) rfl els82 (by decide) rfl
          refine FC.call (l' := (bs 38 68719476735)) rfl (by kernel_rfl) (wF_yes rfl rfl rfl hc56_22) rfl rfl (E.call Tryz.call61 (A2 rfl rfl)) (w_spec_l20Same S84.sl v37 x35.poly (h38.mono (((i27.tr i48).tr r78.run.inc).tr i85)) v79 r73 (h86.mono upI) hr89) ?_
          rintro e w91 ⟨rfl, r92⟩
          refine ⟨_, rfl, ?_⟩
          have r92 := Run.lend i85 S77.sl r92
          have S93 := S77.call r92
          refine ⟨(SP.nil (Sl.of_inc r78.run.inc S93.sl)), ?_⟩
          refine FB.t (i := 36) (bs 38 137438953471) rfl (SP.nil (Sl.of_inc r78.run.inc S93.sl)) rfl (fun w' hw' => (E.asB (E.pickT rfl hc56_22 rfl) (Option.some.inj hqt56_36))) ?_
          refine FB.t (i := 37) (bs 38 274877906943) rfl (SP.nil (Sl.of_inc r78.run.inc S93.sl)) rfl (fun w' hw' => (E.assign (v := Value.bool t56_36) rfl)) ?_
          exact FB.done (by kernel_rfl) ⟨_, (S93.sel [] (by decide) rfl), r78.run.inc, rfl⟩
       ·
        refine FB.skip (i := 23) (l' := (bs 38 16777215)) rfl (by kernel_rfl) (by kernel_rfl) (by kernel_rfl) (by kernel_rfl) (by kernel_rfl) (SP.nil S59.sl) (wF_no rfl rfl rfl hc56_22) rfl rfl ?_
        refine FB.skip (i := 24) (l' := (bs 38 33554431)) rfl (by kernel_rfl) (by kernel_rfl) (by kernel_rfl) (by kernel_rfl) (by kernel_rfl) (SP.nil S59.sl) (wF_no rfl rfl rfl hc56_22) rfl rfl ?_
        refine FB.skip (i := 25) (l' := (bs 38 67108863)) rfl (by kernel_rfl) (by kernel_rfl) (by kernel_rfl) (by kernel_rfl) (by kernel_rfl) (SP.nil S59.sl) (wF_no rfl rfl rfl hc56_22) rfl rfl ?_
        refine FB.skip (i := 26) (l' := (bs 38 134217727)) rfl (by kernel_rfl) (by kernel_rfl) (by kernel_rfl) (by kernel_rfl) (by kernel_rfl) (SP.nil S59.sl) (wF_no rfl rfl rfl hc56_22) rfl rfl ?_
        refine FB.skip (i := 27) (l' := (bs 38 268435455)) rfl (by kernel_rfl) (by kernel_rfl) (by kernel_rfl) (by kernel_rfl) (by kernel_rfl) (SP.nil S59.sl) (wF_no rfl rfl rfl hc56_22) rfl rfl ?_
        refine FB.skip (i := 28) (l' := (bs 38 536870911)) rfl (by kernel_rfl) (by kernel_rfl) (by kernel_rfl) (by kernel_rfl) (by kernel_rfl) (SP.nil S59.sl) (wF_no rfl rfl rfl hc56_22) rfl rfl ?_
        refine FB.skip (i := 29) (l' := (bs 38 1073741823)) rfl (by kernel_rfl) (by kernel_rfl) (by kernel_rfl) (by kernel_rfl) (by kernel_rfl) (SP.nil S59.sl) (wF_no rfl rfl rfl hc56_22) rfl rfl ?_
        refine FB.skip (i := 30) (l' := (bs 38 2147483647)) rfl (by kernel_rfl) (by kernel_rfl) (by kernel_rfl) (by kernel_rfl) (by kernel_rfl) (SP.nil S59.sl) (wF_no rfl rfl rfl hc56_22) rfl rfl ?_
        refine FB.skip (i := 31) (l' := (bs 38 4294967295)) rfl (by kernel_rfl) (by kernel_rfl) (by kernel_rfl) (by kernel_rfl) (by kernel_rfl) (SP.nil S59.sl) (wF_no rfl rfl rfl hc56_22) rfl rfl ?_
        refine FB.skip (i := 32) (l' := (bs 38 8589934591)) rfl (by kernel_rfl) (by kernel_rfl) (by kernel_rfl) (by kernel_rfl) (by kernel_rfl) (SP.nil S59.sl) (wF_no rfl rfl rfl hc56_22) rfl rfl ?_
        refine FB.skip (i := 33) (l' := (bs 38 17179869183)) rfl (by kernel_rfl) (by kernel_rfl) (by kernel_rfl) (by kernel_rfl) (by kernel_rfl) (SP.nil S59.sl) (wF_no rfl rfl rfl hc56_22) rfl rfl ?_
        refine FB.skip (i := 34) (l' := (bs 38 34359738367)) rfl (by kernel_rfl) (by kernel_rfl) (by kernel_rfl) (by kernel_rfl) (by kernel_rfl) (SP.nil S59.sl) (wF_no rfl rfl rfl hc56_22) rfl rfl ?_
        refine FB.skip (i := 35) (l' := (bs 38 68719476735)) rfl (by kernel_rfl) (by kernel_rfl) (by kernel_rfl) (by kernel_rfl) (by kernel_rfl) (SP.nil S59.sl) (wF_no rfl rfl rfl hc56_22) rfl rfl ?_
        refine FB.t (i := 36) (bs 38 137438953471) rfl (SP.nil S59.sl) rfl (fun w' hw' => (E.asB (E.pickF rfl hc56_22 rfl) (Option.some.inj hqt56_36))) ?_
        refine FB.t (i := 37) (bs 38 274877906943) rfl (SP.nil S59.sl) rfl (fun w' hw' => (E.assign (v := Value.bool t56_36) rfl)) ?_
        exact FB.done (by kernel_rfl) ⟨_, S59, (Inc.rfl _), rfl⟩
     ·
      refine FB.skip (i := 9) (l' := (bs 38 1023)) rfl (by kernel_rfl) (by kernel_rfl) (by kernel_rfl) (by kernel_rfl) (by kernel_rfl) (SP.nil S59.sl) (wF_no rfl rfl rfl hc56_8) rfl rfl ?_
      refine FB.skip (i := 10) (l' := (bs 38 2047)) rfl (by kernel_rfl) (by kernel_rfl) (by kernel_rfl) (by kernel_rfl) (by kernel_rfl) (SP.nil S59.sl) (wF_no rfl rfl rfl hc56_8) rfl rfl ?_
      refine FB.skip (i := 11) (l' := (bs 38 4095)) rfl (by kernel_rfl) (by kernel_rfl) (by kernel_rfl) (by kernel_rfl) (by kernel_rfl) (SP.nil S59.sl) (wF_no rfl rfl rfl hc56_8) rfl rfl ?_
      refine FB.t (i := 12) (bs 38 8191) rfl (SP.nil S59.sl) rfl (fun w' hw' => (E.asB (b := (bif (bif (x35.b == 0) then (x35.x == 0) else false) then (x35.y == 0) else false)) (E.pickF rfl hc56_8 rfl) (bifF hc56_8).symm)) ?_
      refine FB.t (i := 13) (bs 38 16383) rfl (SP.nil S59.sl) rfl (fun w' hw' => (E.move (v := Value.bool (bif (bif (x35.b == 0) then (x35.x == 0) else false) then (x35.y == 0) else false)) rfl)) ?_
      rcases bcase (bif (bif (x35.b == 0) then (x35.x == 0) else false) then (x35.y == 0) else false) with hc56_13 | hc56_13
      ·
       refine FB.t (i := 14) (bs 38 32767) rfl (SP.nil S59.sl) (wF_yes rfl rfl rfl hc56_13) (fun w' hw' => (E.fieldAddr tf90_2 rfl)) ?_
       refine FB.t (i := 15) (bs 38 65535) rfl (SP.nil S59.sl) (wF_yes rfl rfl rfl hc56_13) (fun w' hw' => (E.load rfl (run_load1 Tryz.isAgg3 (at49.now hw') rfl))) ?_
       refine FB.t (i := 16) (bs 38 131071) rfl (SP.nil S59.sl) (wF_yes rfl rfl rfl hc56_13) (fun w' hw' => (E.fieldAddr tf32_1 rfl)) ?_
       refine FB.t (i := 17) (bs 38 262143) rfl (SP.nil S59.sl) (wF_yes rfl rfl rfl hc56_13) (fun w' hw' => (E.load rfl (run_load1 Tryz.isAgg22 ((at28.mono i48).now hw') rfl))) ?_
       refine FB.t (i := 18) (bs 38 524287) rfl (SP.nil S59.sl) (wF_yes rfl rfl rfl hc56_13) (fun w' hw' => (E.lenP te22 rfl p1_1)) ?_
       refine FB.t (i := 19) (bs 38 1048575) rfl (SP.nil S59.sl) (wF_yes rfl rfl rfl hc56_13) (fun w' hw' => (E.sub rfl rfl)) ?_
       refine FB.all1 (i := 20) (by kernel_rfl) ?_
       ·
        refine FC.call (l' := (bs 38 2097151)) rfl (by kernel_rfl) (wF_yes rfl rfl rfl hc56_13) rfl rfl (E.call Tryz.call153 (A3 rfl rfl rfl)) (w_spec_l1In S59.sl x35.a 0 (wr ((len a1.clauses) - 1))) ?_
        rintro e w60 ⟨rfl, r61⟩
        refine ⟨_, rfl, ?_⟩
        have S62 := S59.call r61
        refine ⟨(SP.nil S62.sl), ?_⟩
        refine FB.t (i := 21) (bs 38 4194303) rfl (SP.nil S62.sl) rfl (fun w' hw' => (E.asB (b := (bif (bif (bif (x35.b == 0) then (x35.x == 0) else false) then (x35.y == 0) else false) then (PF.spec_l1In x35.a 0 (wr ((len a1.clauses) - 1))) else false)) (E.pickT rfl hc56_13 rfl) (bifT hc56_13).symm)) ?_
        refine FB.t (i := 22) (bs 38 8388607) rfl (SP.nil S62.sl) rfl (fun w' hw' => (E.move (v := Value.bool (bif (bif (bif (x35.b == 0) then (x35.x == 0) else false) then (x35.y == 0) else false) then (PF.spec_l1In x35.a 0 (wr ((len a1.clauses) - 1))) else false)) rfl)) ?_
        rcases ifB hqt56_36 with ⟨hc56_22, hqt56_36⟩ | ⟨hc56_22, hqt56_36⟩
        ·
         obtain ⟨x69, hx70, hqt56_36⟩ := bnd hqt56_36
         obtain ⟨r73, hr74, hqt56_36⟩ := bnd hqt56_36
         obtain ⟨r88, hr89, hqt56_36⟩ := bnd hqt56_36
         refine FB.t (i := 23) (bs 38 16777215) rfl (SP.nil S62.sl) (wF_yes rfl rfl rfl hc56_22) (fun w' hw' => (E.fieldAddr tf90_1 rfl)) ?_
         refine FB.t (i := 24) (bs 38 33554431) rfl (SP.nil S62.sl) (wF_yes rfl rfl rfl hc56_22) (fun w' hw' => (E.load rfl (run_load1 Tryz.isAgg55 (at49.now hw') rfl))) ?_
         refine FB.t (i := 25) (bs 38 67108863) rfl (SP.nil S62.sl) (wF_yes rfl rfl rfl hc56_22) (fun w' hw' => (E.move (v := Value.int .i64 a0) rfl)) ?_
         refine FB.t (i := 26) (bs 38 134217727) rfl (SP.nil S62.sl) (wF_yes rfl rfl rfl hc56_22) (fun w' hw' => (E.fieldAddr tf32_0 rfl)) ?_
         refine FB.t (i := 27) (bs 38 268435455) rfl (SP.nil S62.sl) (wF_yes rfl rfl rfl hc56_22) (fun w' hw' => (E.load rfl (run_load1 Tryz.isAgg3 ((at28.mono i48).now hw') rfl))) ?_
         refine FB.t (i := 28) (bs 38 536870911) rfl (SP.nil S62.sl) (wF_yes rfl rfl rfl hc56_22) (fun w' hw' => (E.fieldAddr tf32_1 rfl)) ?_
         refine FB.t (i := 29) (bs 38 1073741823) rfl (SP.nil S62.sl) (wF_yes rfl rfl rfl hc56_22) (fun w' hw' => (E.load rfl (run_load1 Tryz.isAgg22 ((at28.mono i48).now hw') rfl))) ?_
         refine FB.t (i := 30) (bs 38 2147483647) rfl (SP.nil S62.sl) (wF_yes rfl rfl rfl hc56_22) (fun w' hw' => (E.fieldAddr tf90_2 rfl)) ?_
         refine FB.t (i := 31) (bs 38 4294967295) rfl (SP.nil S62.sl) (wF_yes rfl rfl rfl hc56_22) (fun w' hw' => (E.load rfl (run_load1 Tryz.isAgg3 (at49.now hw') rfl))) ?_
         obtain ⟨p63, cs64, pt65, l66, at67, rel68⟩ := p1_1.at hx70
         obtain ⟨v71, rfl, h72⟩ := eL_open rel68
         refine FB.t (i := 32) (bs 38 8589934591) rfl (SP.nil S62.sl) (wF_yes rfl rfl rfl hc56_22) (fun w' hw' => (E.indexAddr te22 rfl rfl pt65)) ?_
         refine FB.t (i := 33) (bs 38 17179869183) rfl (SP.nil S62.sl) (wF_yes rfl rfl rfl hc56_22) (fun w' hw' => (E.load rfl (run_load0 Tryz.isAgg73 ((at67.mono (i27.tr i48)).now hw') rfl))) ?_
         refine FB.all1 (i := 34) (by kernel_rfl) ?_
         ·
          refine FC.call (l' := (bs 38 34359738367)) rfl (by kernel_rfl) (wF_yes rfl rfl rfl hc56_22) rfl rfl (E.call Tryz.call60 (A3 rfl rfl rfl)) (w_spec_l18Clause S62.sl a0 a1.vars v71 x69 (h72.mono (i27.tr i48)) hr74) ?_
          rintro e w76 ⟨H75, v79, n80, cs81, rfl, r78, els82⟩
          refine ⟨_, rfl, ?_⟩
          have els82 := els82.mono (up_le S62.size)
          have S77 := S62.join (l' := [.row 108 2 v79 n80 cs81]) r78 rfl
          refine ⟨(SP.nil (Sl.of_inc r78.run.inc S77.sl)), ?_⟩
          refine FB.all1 (i := 35) (by kernel_rfl) ?_
          ·
           obtain ⟨H83, S84, i85, h86, nv87⟩ := S77.sealRowU (i := 0) (l' := []) rfl els82 (by decide) rfl
           refine FC.call (l' := (bs 38 68719476735)) rfl (by kernel_rfl) (wF_yes rfl rfl rfl hc56_22) rfl rfl (E.call Tryz.call61 (A2 rfl rfl)) (w_spec_l20Same S84.sl v37 x35.poly (h38.mono (((i27.tr i48).tr r78.run.inc).tr i85)) v79 r73 (h86.mono upI) hr89) ?_
           rintro e w91 ⟨rfl, r92⟩
           refine ⟨_, rfl, ?_⟩
           have r92 := Run.lend i85 S77.sl r92
           have S93 := S77.call r92
           refine ⟨(SP.nil (Sl.of_inc r78.run.inc S93.sl)), ?_⟩
           refine FB.t (i := 36) (bs 38 137438953471) rfl (SP.nil (Sl.of_inc r78.run.inc S93.sl)) rfl (fun w' hw' => (E.asB (E.pickT rfl hc56_22 rfl) (Option.some.inj hqt56_36))) ?_
           refine FB.t (i := 37) (bs 38 274877906943) rfl (SP.nil (Sl.of_inc r78.run.inc S93.sl)) rfl (fun w' hw' => (E.assign (v := Value.bool t56_36) rfl)) ?_
           exact FB.done (by kernel_rfl) ⟨_, (S93.sel [] (by decide) rfl), r78.run.inc, rfl⟩
        ·
         refine FB.skip (i := 23) (l' := (bs 38 16777215)) rfl (by kernel_rfl) (by kernel_rfl) (by kernel_rfl) (by kernel_rfl) (by kernel_rfl) (SP.nil S62.sl) (wF_no rfl rfl rfl hc56_22) rfl rfl ?_
         refine FB.skip (i := 24) (l' := (bs 38 33554431)) rfl (by kernel_rfl) (by kernel_rfl) (by kernel_rfl) (by kernel_rfl) (by kernel_rfl) (SP.nil S62.sl) (wF_no rfl rfl rfl hc56_22) rfl rfl ?_
         refine FB.skip (i := 25) (l' := (bs 38 67108863)) rfl (by kernel_rfl) (by kernel_rfl) (by kernel_rfl) (by kernel_rfl) (by kernel_rfl) (SP.nil S62.sl) (wF_no rfl rfl rfl hc56_22) rfl rfl ?_
         refine FB.skip (i := 26) (l' := (bs 38 134217727)) rfl (by kernel_rfl) (by kernel_rfl) (by kernel_rfl) (by kernel_rfl) (by kernel_rfl) (SP.nil S62.sl) (wF_no rfl rfl rfl hc56_22) rfl rfl ?_
         refine FB.skip (i := 27) (l' := (bs 38 268435455)) rfl (by kernel_rfl) (by kernel_rfl) (by kernel_rfl) (by kernel_rfl) (by kernel_rfl) (SP.nil S62.sl) (wF_no rfl rfl rfl hc56_22) rfl rfl ?_
         refine FB.skip (i := 28) (l' := (bs 38 536870911)) rfl (by kernel_rfl) (by kernel_rfl) (by kernel_rfl) (by kernel_rfl) (by kernel_rfl) (SP.nil S62.sl) (wF_no rfl rfl rfl hc56_22) rfl rfl ?_
         refine FB.skip (i := 29) (l' := (bs 38 1073741823)) rfl (by kernel_rfl) (by kernel_rfl) (by kernel_rfl) (by kernel_rfl) (by kernel_rfl) (SP.nil S62.sl) (wF_no rfl rfl rfl hc56_22) rfl rfl ?_
         refine FB.skip (i := 30) (l' := (bs 38 2147483647)) rfl (by kernel_rfl) (by kernel_rfl) (by kernel_rfl) (by kernel_rfl) (by kernel_rfl) (SP.nil S62.sl) (wF_no rfl rfl rfl hc56_22) rfl rfl ?_
         refine FB.skip (i := 31) (l' := (bs 38 4294967295)) rfl (by kernel_rfl) (by kernel_rfl) (by kernel_rfl) (by kernel_rfl) (by kernel_rfl) (SP.nil S62.sl) (wF_no rfl rfl rfl hc56_22) rfl rfl ?_
         refine FB.skip (i := 32) (l' := (bs 38 8589934591)) rfl (by kernel_rfl) (by kernel_rfl) (by kernel_rfl) (by kernel_rfl) (by kernel_rfl) (SP.nil S62.sl) (wF_no rfl rfl rfl hc56_22) rfl rfl ?_
         refine FB.skip (i := 33) (l' := (bs 38 17179869183)) rfl (by kernel_rfl) (by kernel_rfl) (by kernel_rfl) (by kernel_rfl) (by kernel_rfl) (SP.nil S62.sl) (wF_no rfl rfl rfl hc56_22) rfl rfl ?_
         refine FB.skip (i := 34) (l' := (bs 38 34359738367)) rfl (by kernel_rfl) (by kernel_rfl) (by kernel_rfl) (by kernel_rfl) (by kernel_rfl) (SP.nil S62.sl) (wF_no rfl rfl rfl hc56_22) rfl rfl ?_
         refine FB.skip (i := 35) (l' := (bs 38 68719476735)) rfl (by kernel_rfl) (by kernel_rfl) (by kernel_rfl) (by kernel_rfl) (by kernel_rfl) (SP.nil S62.sl) (wF_no rfl rfl rfl hc56_22) rfl rfl ?_
         refine FB.t (i := 36) (bs 38 137438953471) rfl (SP.nil S62.sl) rfl (fun w' hw' => (E.asB (E.pickF rfl hc56_22 rfl) (Option.some.inj hqt56_36))) ?_
         refine FB.t (i := 37) (bs 38 274877906943) rfl (SP.nil S62.sl) rfl (fun w' hw' => (E.assign (v := Value.bool t56_36) rfl)) ?_
         exact FB.done (by kernel_rfl) ⟨_, S62, (Inc.rfl _), rfl⟩
      ·
       refine FB.skip (i := 14) (l' := (bs 38 32767)) rfl (by kernel_rfl) (by kernel_rfl) (by kernel_rfl) (by kernel_rfl) (by kernel_rfl) (SP.nil S59.sl) (wF_no rfl rfl rfl hc56_13) rfl rfl ?_
       refine FB.skip (i := 15) (l' := (bs 38 65535)) rfl (by kernel_rfl) (by kernel_rfl) (by kernel_rfl) (by kernel_rfl) (by kernel_rfl) (SP.nil S59.sl) (wF_no rfl rfl rfl hc56_13) rfl rfl ?_
       refine FB.skip (i := 16) (l' := (bs 38 131071)) rfl (by kernel_rfl) (by kernel_rfl) (by kernel_rfl) (by kernel_rfl) (by kernel_rfl) (SP.nil S59.sl) (wF_no rfl rfl rfl hc56_13) rfl rfl ?_
       refine FB.skip (i := 17) (l' := (bs 38 262143)) rfl (by kernel_rfl) (by kernel_rfl) (by kernel_rfl) (by kernel_rfl) (by kernel_rfl) (SP.nil S59.sl) (wF_no rfl rfl rfl hc56_13) rfl rfl ?_
       refine FB.skip (i := 18) (l' := (bs 38 524287)) rfl (by kernel_rfl) (by kernel_rfl) (by kernel_rfl) (by kernel_rfl) (by kernel_rfl) (SP.nil S59.sl) (wF_no rfl rfl rfl hc56_13) rfl rfl ?_
       refine FB.skip (i := 19) (l' := (bs 38 1048575)) rfl (by kernel_rfl) (by kernel_rfl) (by kernel_rfl) (by kernel_rfl) (by kernel_rfl) (SP.nil S59.sl) (wF_no rfl rfl rfl hc56_13) rfl rfl ?_
       refine FB.skip (i := 20) (l' := (bs 38 2097151)) rfl (by kernel_rfl) (by kernel_rfl) (by kernel_rfl) (by kernel_rfl) (by kernel_rfl) (SP.nil S59.sl) (wF_no rfl rfl rfl hc56_13) rfl rfl ?_
       refine FB.t (i := 21) (bs 38 4194303) rfl (SP.nil S59.sl) rfl (fun w' hw' => (E.asB (b := (bif (bif (bif (x35.b == 0) then (x35.x == 0) else false) then (x35.y == 0) else false) then (PF.spec_l1In x35.a 0 (wr ((len a1.clauses) - 1))) else false)) (E.pickF rfl hc56_13 rfl) (bifF hc56_13).symm)) ?_
       refine FB.t (i := 22) (bs 38 8388607) rfl (SP.nil S59.sl) rfl (fun w' hw' => (E.move (v := Value.bool (bif (bif (bif (x35.b == 0) then (x35.x == 0) else false) then (x35.y == 0) else false) then (PF.spec_l1In x35.a 0 (wr ((len a1.clauses) - 1))) else false)) rfl)) ?_
       rcases ifB hqt56_36 with ⟨hc56_22, hqt56_36⟩ | ⟨hc56_22, hqt56_36⟩
       ·
        obtain ⟨x69, hx70, hqt56_36⟩ := bnd hqt56_36
        obtain ⟨r73, hr74, hqt56_36⟩ := bnd hqt56_36
        obtain ⟨r88, hr89, hqt56_36⟩ := bnd hqt56_36
        refine FB.t (i := 23) (bs 38 16777215) rfl (SP.nil S59.sl) (wF_yes rfl rfl rfl hc56_22) (fun w' hw' => (E.fieldAddr tf90_1 rfl)) ?_
        refine FB.t (i := 24) (bs 38 33554431) rfl (SP.nil S59.sl) (wF_yes rfl rfl rfl hc56_22) (fun w' hw' => (E.load rfl (run_load1 Tryz.isAgg55 (at49.now hw') rfl))) ?_
        refine FB.t (i := 25) (bs 38 67108863) rfl (SP.nil S59.sl) (wF_yes rfl rfl rfl hc56_22) (fun w' hw' => (E.move (v := Value.int .i64 a0) rfl)) ?_
        refine FB.t (i := 26) (bs 38 134217727) rfl (SP.nil S59.sl) (wF_yes rfl rfl rfl hc56_22) (fun w' hw' => (E.fieldAddr tf32_0 rfl)) ?_
        refine FB.t (i := 27) (bs 38 268435455) rfl (SP.nil S59.sl) (wF_yes rfl rfl rfl hc56_22) (fun w' hw' => (E.load rfl (run_load1 Tryz.isAgg3 ((at28.mono i48).now hw') rfl))) ?_
        refine FB.t (i := 28) (bs 38 536870911) rfl (SP.nil S59.sl) (wF_yes rfl rfl rfl hc56_22) (fun w' hw' => (E.fieldAddr tf32_1 rfl)) ?_
        refine FB.t (i := 29) (bs 38 1073741823) rfl (SP.nil S59.sl) (wF_yes rfl rfl rfl hc56_22) (fun w' hw' => (E.load rfl (run_load1 Tryz.isAgg22 ((at28.mono i48).now hw') rfl))) ?_
        refine FB.t (i := 30) (bs 38 2147483647) rfl (SP.nil S59.sl) (wF_yes rfl rfl rfl hc56_22) (fun w' hw' => (E.fieldAddr tf90_2 rfl)) ?_
        refine FB.t (i := 31) (bs 38 4294967295) rfl (SP.nil S59.sl) (wF_yes rfl rfl rfl hc56_22) (fun w' hw' => (E.load rfl (run_load1 Tryz.isAgg3 (at49.now hw') rfl))) ?_
        obtain ⟨p63, cs64, pt65, l66, at67, rel68⟩ := p1_1.at hx70
        obtain ⟨v71, rfl, h72⟩ := eL_open rel68
        refine FB.t (i := 32) (bs 38 8589934591) rfl (SP.nil S59.sl) (wF_yes rfl rfl rfl hc56_22) (fun w' hw' => (E.indexAddr te22 rfl rfl pt65)) ?_
        refine FB.t (i := 33) (bs 38 17179869183) rfl (SP.nil S59.sl) (wF_yes rfl rfl rfl hc56_22) (fun w' hw' => (E.load rfl (run_load0 Tryz.isAgg73 ((at67.mono (i27.tr i48)).now hw') rfl))) ?_
        refine FB.all1 (i := 34) (by kernel_rfl) ?_
        ·
         refine FC.call (l' := (bs 38 34359738367)) rfl (by kernel_rfl) (wF_yes rfl rfl rfl hc56_22) rfl rfl (E.call Tryz.call60 (A3 rfl rfl rfl)) (w_spec_l18Clause S59.sl a0 a1.vars v71 x69 (h72.mono (i27.tr i48)) hr74) ?_
         rintro e w76 ⟨H75, v79, n80, cs81, rfl, r78, els82⟩
         refine ⟨_, rfl, ?_⟩
         have els82 := els82.mono (up_le S59.size)
         have S77 := S59.join (l' := [.row 108 2 v79 n80 cs81]) r78 rfl
         refine ⟨(SP.nil (Sl.of_inc r78.run.inc S77.sl)), ?_⟩
         refine FB.all1 (i := 35) (by kernel_rfl) ?_
         ·
          obtain ⟨H83, S84, i85, h86, nv87⟩ := S77.sealRowU (i := 0) (l' := []) rfl els82 (by decide) rfl
          refine FC.call (l' := (bs 38 68719476735)) rfl (by kernel_rfl) (wF_yes rfl rfl rfl hc56_22) rfl rfl (E.call Tryz.call61 (A2 rfl rfl)) (w_spec_l20Same S84.sl v37 x35.poly (h38.mono (((i27.tr i48).tr r78.run.inc).tr i85)) v79 r73 (h86.mono upI) hr89) ?_
          rintro e w91 ⟨rfl, r92⟩
          refine ⟨_, rfl, ?_⟩
          have r92 := Run.lend i85 S77.sl r92
          have S93 := S77.call r92
          refine ⟨(SP.nil (Sl.of_inc r78.run.inc S93.sl)), ?_⟩
          refine FB.t (i := 36) (bs 38 137438953471) rfl (SP.nil (Sl.of_inc r78.run.inc S93.sl)) rfl (fun w' hw' => (E.asB (E.pickT rfl hc56_22 rfl) (Option.some.inj hqt56_36))) ?_
          refine FB.t (i := 37) (bs 38 274877906943) rfl (SP.nil (Sl.of_inc r78.run.inc S93.sl)) rfl (fun w' hw' => (E.assign (v := Value.bool t56_36) rfl)) ?_
          exact FB.done (by kernel_rfl) ⟨_, (S93.sel [] (by decide) rfl), r78.run.inc, rfl⟩
       ·
        refine FB.skip (i := 23) (l' := (bs 38 16777215)) rfl (by kernel_rfl) (by kernel_rfl) (by kernel_rfl) (by kernel_rfl) (by kernel_rfl) (SP.nil S59.sl) (wF_no rfl rfl rfl hc56_22) rfl rfl ?_
        refine FB.skip (i := 24) (l' := (bs 38 33554431)) rfl (by kernel_rfl) (by kernel_rfl) (by kernel_rfl) (by kernel_rfl) (by kernel_rfl) (SP.nil S59.sl) (wF_no rfl rfl rfl hc56_22) rfl rfl ?_
        refine FB.skip (i := 25) (l' := (bs 38 67108863)) rfl (by kernel_rfl) (by kernel_rfl) (by kernel_rfl) (by kernel_rfl) (by kernel_rfl) (SP.nil S59.sl) (wF_no rfl rfl rfl hc56_22) rfl rfl ?_
        refine FB.skip (i := 26) (l' := (bs 38 134217727)) rfl (by kernel_rfl) (by kernel_rfl) (by kernel_rfl) (by kernel_rfl) (by kernel_rfl) (SP.nil S59.sl) (wF_no rfl rfl rfl hc56_22) rfl rfl ?_
        refine FB.skip (i := 27) (l' := (bs 38 268435455)) rfl (by kernel_rfl) (by kernel_rfl) (by kernel_rfl) (by kernel_rfl) (by kernel_rfl) (SP.nil S59.sl) (wF_no rfl rfl rfl hc56_22) rfl rfl ?_
        refine FB.skip (i := 28) (l' := (bs 38 536870911)) rfl (by kernel_rfl) (by kernel_rfl) (by kernel_rfl) (by kernel_rfl) (by kernel_rfl) (SP.nil S59.sl) (wF_no rfl rfl rfl hc56_22) rfl rfl ?_
        refine FB.skip (i := 29) (l' := (bs 38 1073741823)) rfl (by kernel_rfl) (by kernel_rfl) (by kernel_rfl) (by kernel_rfl) (by kernel_rfl) (SP.nil S59.sl) (wF_no rfl rfl rfl hc56_22) rfl rfl ?_
        refine FB.skip (i := 30) (l' := (bs 38 2147483647)) rfl (by kernel_rfl) (by kernel_rfl) (by kernel_rfl) (by kernel_rfl) (by kernel_rfl) (SP.nil S59.sl) (wF_no rfl rfl rfl hc56_22) rfl rfl ?_
        refine FB.skip (i := 31) (l' := (bs 38 4294967295)) rfl (by kernel_rfl) (by kernel_rfl) (by kernel_rfl) (by kernel_rfl) (by kernel_rfl) (SP.nil S59.sl) (wF_no rfl rfl rfl hc56_22) rfl rfl ?_
        refine FB.skip (i := 32) (l' := (bs 38 8589934591)) rfl (by kernel_rfl) (by kernel_rfl) (by kernel_rfl) (by kernel_rfl) (by kernel_rfl) (SP.nil S59.sl) (wF_no rfl rfl rfl hc56_22) rfl rfl ?_
        refine FB.skip (i := 33) (l' := (bs 38 17179869183)) rfl (by kernel_rfl) (by kernel_rfl) (by kernel_rfl) (by kernel_rfl) (by kernel_rfl) (SP.nil S59.sl) (wF_no rfl rfl rfl hc56_22) rfl rfl ?_
        refine FB.skip (i := 34) (l' := (bs 38 34359738367)) rfl (by kernel_rfl) (by kernel_rfl) (by kernel_rfl) (by kernel_rfl) (by kernel_rfl) (SP.nil S59.sl) (wF_no rfl rfl rfl hc56_22) rfl rfl ?_
        refine FB.skip (i := 35) (l' := (bs 38 68719476735)) rfl (by kernel_rfl) (by kernel_rfl) (by kernel_rfl) (by kernel_rfl) (by kernel_rfl) (SP.nil S59.sl) (wF_no rfl rfl rfl hc56_22) rfl rfl ?_
        refine FB.t (i := 36) (bs 38 137438953471) rfl (SP.nil S59.sl) rfl (fun w' hw' => (E.asB (E.pickF rfl hc56_22 rfl) (Option.some.inj hqt56_36))) ?_
        refine FB.t (i := 37) (bs 38 274877906943) rfl (SP.nil S59.sl) rfl (fun w' hw' => (E.assign (v := Value.bool t56_36) rfl)) ?_
        exact FB.done (by kernel_rfl) ⟨_, S59, (Inc.rfl _), rfl⟩
    ·
     refine FB.skip (i := 4) (l' := (bs 38 31)) rfl (by kernel_rfl) (by kernel_rfl) (by kernel_rfl) (by kernel_rfl) (by kernel_rfl) (SP.nil S59.sl) (wF_no rfl rfl rfl hc56_3) rfl rfl ?_
     refine FB.skip (i := 5) (l' := (bs 38 63)) rfl (by kernel_rfl) (by kernel_rfl) (by kernel_rfl) (by kernel_rfl) (by kernel_rfl) (SP.nil S59.sl) (wF_no rfl rfl rfl hc56_3) rfl rfl ?_
     refine FB.skip (i := 6) (l' := (bs 38 127)) rfl (by kernel_rfl) (by kernel_rfl) (by kernel_rfl) (by kernel_rfl) (by kernel_rfl) (SP.nil S59.sl) (wF_no rfl rfl rfl hc56_3) rfl rfl ?_
     refine FB.t (i := 7) (bs 38 255) rfl (SP.nil S59.sl) rfl (fun w' hw' => (E.asB (b := (bif (x35.b == 0) then (x35.x == 0) else false)) (E.pickF rfl hc56_3 rfl) (bifF hc56_3).symm)) ?_
     refine FB.t (i := 8) (bs 38 511) rfl (SP.nil S59.sl) rfl (fun w' hw' => (E.move (v := Value.bool (bif (x35.b == 0) then (x35.x == 0) else false)) rfl)) ?_
     rcases bcase (bif (x35.b == 0) then (x35.x == 0) else false) with hc56_8 | hc56_8
     ·
      refine FB.t (i := 9) (bs 38 1023) rfl (SP.nil S59.sl) (wF_yes rfl rfl rfl hc56_8) (fun w' hw' => (E.fieldAddr tf90_5 rfl)) ?_
      refine FB.t (i := 10) (bs 38 2047) rfl (SP.nil S59.sl) (wF_yes rfl rfl rfl hc56_8) (fun w' hw' => (E.load rfl (run_load1 Tryz.isAgg3 (at49.now hw') rfl))) ?_
      refine FB.t (i := 11) (bs 38 4095) rfl (SP.nil S59.sl) (wF_yes rfl rfl rfl hc56_8) (fun w' hw' => (E.eql rfl rfl)) ?_
      refine FB.t (i := 12) (bs 38 8191) rfl (SP.nil S59.sl) rfl (fun w' hw' => (E.asB (b := (bif (bif (x35.b == 0) then (x35.x == 0) else false) then (x35.y == 0) else false)) (E.pickT rfl hc56_8 rfl) (bifT hc56_8).symm)) ?_
      refine FB.t (i := 13) (bs 38 16383) rfl (SP.nil S59.sl) rfl (fun w' hw' => (E.move (v := Value.bool (bif (bif (x35.b == 0) then (x35.x == 0) else false) then (x35.y == 0) else false)) rfl)) ?_
      rcases bcase (bif (bif (x35.b == 0) then (x35.x == 0) else false) then (x35.y == 0) else false) with hc56_13 | hc56_13
      ·
       refine FB.t (i := 14) (bs 38 32767) rfl (SP.nil S59.sl) (wF_yes rfl rfl rfl hc56_13) (fun w' hw' => (E.fieldAddr tf90_2 rfl)) ?_
       refine FB.t (i := 15) (bs 38 65535) rfl (SP.nil S59.sl) (wF_yes rfl rfl rfl hc56_13) (fun w' hw' => (E.load rfl (run_load1 Tryz.isAgg3 (at49.now hw') rfl))) ?_
       refine FB.t (i := 16) (bs 38 131071) rfl (SP.nil S59.sl) (wF_yes rfl rfl rfl hc56_13) (fun w' hw' => (E.fieldAddr tf32_1 rfl)) ?_
       refine FB.t (i := 17) (bs 38 262143) rfl (SP.nil S59.sl) (wF_yes rfl rfl rfl hc56_13) (fun w' hw' => (E.load rfl (run_load1 Tryz.isAgg22 ((at28.mono i48).now hw') rfl))) ?_
       refine FB.t (i := 18) (bs 38 524287) rfl (SP.nil S59.sl) (wF_yes rfl rfl rfl hc56_13) (fun w' hw' => (E.lenP te22 rfl p1_1)) ?_
       refine FB.t (i := 19) (bs 38 1048575) rfl (SP.nil S59.sl) (wF_yes rfl rfl rfl hc56_13) (fun w' hw' => (E.sub rfl rfl)) ?_
       refine FB.all1 (i := 20) (by kernel_rfl) ?_
       ·
        refine FC.call (l' := (bs 38 2097151)) rfl (by kernel_rfl) (wF_yes rfl rfl rfl hc56_13) rfl rfl (E.call Tryz.call153 (A3 rfl rfl rfl)) (w_spec_l1In S59.sl x35.a 0 (wr ((len a1.clauses) - 1))) ?_
        rintro e w60 ⟨rfl, r61⟩
        refine ⟨_, rfl, ?_⟩
        have S62 := S59.call r61
        refine ⟨(SP.nil S62.sl), ?_⟩
        refine FB.t (i := 21) (bs 38 4194303) rfl (SP.nil S62.sl) rfl (fun w' hw' => (E.asB (b := (bif (bif (bif (x35.b == 0) then (x35.x == 0) else false) then (x35.y == 0) else false) then (PF.spec_l1In x35.a 0 (wr ((len a1.clauses) - 1))) else false)) (E.pickT rfl hc56_13 rfl) (bifT hc56_13).symm)) ?_
        refine FB.t (i := 22) (bs 38 8388607) rfl (SP.nil S62.sl) rfl (fun w' hw' => (E.move (v := Value.bool (bif (bif (bif (x35.b == 0) then (x35.x == 0) else false) then (x35.y == 0) else false) then (PF.spec_l1In x35.a 0 (wr ((len a1.clauses) - 1))) else false)) rfl)) ?_
        rcases ifB hqt56_36 with ⟨hc56_22, hqt56_36⟩ | ⟨hc56_22, hqt56_36⟩
        ·
         obtain ⟨x69, hx70, hqt56_36⟩ := bnd hqt56_36
         obtain ⟨r73, hr74, hqt56_36⟩ := bnd hqt56_36
         obtain ⟨r88, hr89, hqt56_36⟩ := bnd hqt56_36
         refine FB.t (i := 23) (bs 38 16777215) rfl (SP.nil S62.sl) (wF_yes rfl rfl rfl hc56_22) (fun w' hw' => (E.fieldAddr tf90_1 rfl)) ?_
         refine FB.t (i := 24) (bs 38 33554431) rfl (SP.nil S62.sl) (wF_yes rfl rfl rfl hc56_22) (fun w' hw' => (E.load rfl (run_load1 Tryz.isAgg55 (at49.now hw') rfl))) ?_
         refine FB.t (i := 25) (bs 38 67108863) rfl (SP.nil S62.sl) (wF_yes rfl rfl rfl hc56_22) (fun w' hw' => (E.move (v := Value.int .i64 a0) rfl)) ?_
         refine FB.t (i := 26) (bs 38 134217727) rfl (SP.nil S62.sl) (wF_yes rfl rfl rfl hc56_22) (fun w' hw' => (E.fieldAddr tf32_0 rfl)) ?_
         refine FB.t (i := 27) (bs 38 268435455) rfl (SP.nil S62.sl) (wF_yes rfl rfl rfl hc56_22) (fun w' hw' => (E.load rfl (run_load1 Tryz.isAgg3 ((at28.mono i48).now hw') rfl))) ?_
         refine FB.t (i := 28) (bs 38 536870911) rfl (SP.nil S62.sl) (wF_yes rfl rfl rfl hc56_22) (fun w' hw' => (E.fieldAddr tf32_1 rfl)) ?_
         refine FB.t (i := 29) (bs 38 1073741823) rfl (SP.nil S62.sl) (wF_yes rfl rfl rfl hc56_22) (fun w' hw' => (E.load rfl (run_load1 Tryz.isAgg22 ((at28.mono i48).now hw') rfl))) ?_
         refine FB.t (i := 30) (bs 38 2147483647) rfl (SP.nil S62.sl) (wF_yes rfl rfl rfl hc56_22) (fun w' hw' => (E.fieldAddr tf90_2 rfl)) ?_
         refine FB.t (i := 31) (bs 38 4294967295) rfl (SP.nil S62.sl) (wF_yes rfl rfl rfl hc56_22) (fun w' hw' => (E.load rfl (run_load1 Tryz.isAgg3 (at49.now hw') rfl))) ?_
         obtain ⟨p63, cs64, pt65, l66, at67, rel68⟩ := p1_1.at hx70
         obtain ⟨v71, rfl, h72⟩ := eL_open rel68
         refine FB.t (i := 32) (bs 38 8589934591) rfl (SP.nil S62.sl) (wF_yes rfl rfl rfl hc56_22) (fun w' hw' => (E.indexAddr te22 rfl rfl pt65)) ?_
         refine FB.t (i := 33) (bs 38 17179869183) rfl (SP.nil S62.sl) (wF_yes rfl rfl rfl hc56_22) (fun w' hw' => (E.load rfl (run_load0 Tryz.isAgg73 ((at67.mono (i27.tr i48)).now hw') rfl))) ?_
         refine FB.all1 (i := 34) (by kernel_rfl) ?_
         ·
          refine FC.call (l' := (bs 38 34359738367)) rfl (by kernel_rfl) (wF_yes rfl rfl rfl hc56_22) rfl rfl (E.call Tryz.call60 (A3 rfl rfl rfl)) (w_spec_l18Clause S62.sl a0 a1.vars v71 x69 (h72.mono (i27.tr i48)) hr74) ?_
          rintro e w76 ⟨H75, v79, n80, cs81, rfl, r78, els82⟩
          refine ⟨_, rfl, ?_⟩
          have els82 := els82.mono (up_le S62.size)
          have S77 := S62.join (l' := [.row 108 2 v79 n80 cs81]) r78 rfl
          refine ⟨(SP.nil (Sl.of_inc r78.run.inc S77.sl)), ?_⟩
          refine FB.all1 (i := 35) (by kernel_rfl) ?_
          ·
           obtain ⟨H83, S84, i85, h86, nv87⟩ := S77.sealRowU (i := 0) (l' := []) rfl els82 (by decide) rfl
           refine FC.call (l' := (bs 38 68719476735)) rfl (by kernel_rfl) (wF_yes rfl rfl rfl hc56_22) rfl rfl (E.call Tryz.call61 (A2 rfl rfl)) (w_spec_l20Same S84.sl v37 x35.poly (h38.mono (((i27.tr i48).tr r78.run.inc).tr i85)) v79 r73 (h86.mono upI) hr89) ?_
           rintro e w91 ⟨rfl, r92⟩
           refine ⟨_, rfl, ?_⟩
           have r92 := Run.lend i85 S77.sl r92
           have S93 := S77.call r92
           refine ⟨(SP.nil (Sl.of_inc r78.run.inc S93.sl)), ?_⟩
           refine FB.t (i := 36) (bs 38 137438953471) rfl (SP.nil (Sl.of_inc r78.run.inc S93.sl)) rfl (fun w' hw' => (E.asB (E.pickT rfl hc56_22 rfl) (Option.some.inj hqt56_36))) ?_
           refine FB.t (i := 37) (bs 38 274877906943) rfl (SP.nil (Sl.of_inc r78.run.inc S93.sl)) rfl (fun w' hw' => (E.assign (v := Value.bool t56_36) rfl)) ?_
           exact FB.done (by kernel_rfl) ⟨_, (S93.sel [] (by decide) rfl), r78.run.inc, rfl⟩
        ·
         refine FB.skip (i := 23) (l' := (bs 38 16777215)) rfl (by kernel_rfl) (by kernel_rfl) (by kernel_rfl) (by kernel_rfl) (by kernel_rfl) (SP.nil S62.sl) (wF_no rfl rfl rfl hc56_22) rfl rfl ?_
         refine FB.skip (i := 24) (l' := (bs 38 33554431)) rfl (by kernel_rfl) (by kernel_rfl) (by kernel_rfl) (by kernel_rfl) (by kernel_rfl) (SP.nil S62.sl) (wF_no rfl rfl rfl hc56_22) rfl rfl ?_
         refine FB.skip (i := 25) (l' := (bs 38 67108863)) rfl (by kernel_rfl) (by kernel_rfl) (by kernel_rfl) (by kernel_rfl) (by kernel_rfl) (SP.nil S62.sl) (wF_no rfl rfl rfl hc56_22) rfl rfl ?_
         refine FB.skip (i := 26) (l' := (bs 38 134217727)) rfl (by kernel_rfl) (by kernel_rfl) (by kernel_rfl) (by kernel_rfl) (by kernel_rfl) (SP.nil S62.sl) (wF_no rfl rfl rfl hc56_22) rfl rfl ?_
         refine FB.skip (i := 27) (l' := (bs 38 268435455)) rfl (by kernel_rfl) (by kernel_rfl) (by kernel_rfl) (by kernel_rfl) (by kernel_rfl) (SP.nil S62.sl) (wF_no rfl rfl rfl hc56_22) rfl rfl ?_
         refine FB.skip (i := 28) (l' := (bs 38 536870911)) rfl (by kernel_rfl) (by kernel_rfl) (by kernel_rfl) (by kernel_rfl) (by kernel_rfl) (SP.nil S62.sl) (wF_no rfl rfl rfl hc56_22) rfl rfl ?_
         refine FB.skip (i := 29) (l' := (bs 38 1073741823)) rfl (by kernel_rfl) (by kernel_rfl) (by kernel_rfl) (by kernel_rfl) (by kernel_rfl) (SP.nil S62.sl) (wF_no rfl rfl rfl hc56_22) rfl rfl ?_
         refine FB.skip (i := 30) (l' := (bs 38 2147483647)) rfl (by kernel_rfl) (by kernel_rfl) (by kernel_rfl) (by kernel_rfl) (by kernel_rfl) (SP.nil S62.sl) (wF_no rfl rfl rfl hc56_22) rfl rfl ?_
         refine FB.skip (i := 31) (l' := (bs 38 4294967295)) rfl (by kernel_rfl) (by kernel_rfl) (by kernel_rfl) (by kernel_rfl) (by kernel_rfl) (SP.nil S62.sl) (wF_no rfl rfl rfl hc56_22) rfl rfl ?_
         refine FB.skip (i := 32) (l' := (bs 38 8589934591)) rfl (by kernel_rfl) (by kernel_rfl) (by kernel_rfl) (by kernel_rfl) (by kernel_rfl) (SP.nil S62.sl) (wF_no rfl rfl rfl hc56_22) rfl rfl ?_
         refine FB.skip (i := 33) (l' := (bs 38 17179869183)) rfl (by kernel_rfl) (by kernel_rfl) (by kernel_rfl) (by kernel_rfl) (by kernel_rfl) (SP.nil S62.sl) (wF_no rfl rfl rfl hc56_22) rfl rfl ?_
         refine FB.skip (i := 34) (l' := (bs 38 34359738367)) rfl (by kernel_rfl) (by kernel_rfl) (by kernel_rfl) (by kernel_rfl) (by kernel_rfl) (SP.nil S62.sl) (wF_no rfl rfl rfl hc56_22) rfl rfl ?_
         refine FB.skip (i := 35) (l' := (bs 38 68719476735)) rfl (by kernel_rfl) (by kernel_rfl) (by kernel_rfl) (by kernel_rfl) (by kernel_rfl) (SP.nil S62.sl) (wF_no rfl rfl rfl hc56_22) rfl rfl ?_
         refine FB.t (i := 36) (bs 38 137438953471) rfl (SP.nil S62.sl) rfl (fun w' hw' => (E.asB (E.pickF rfl hc56_22 rfl) (Option.some.inj hqt56_36))) ?_
         refine FB.t (i := 37) (bs 38 274877906943) rfl (SP.nil S62.sl) rfl (fun w' hw' => (E.assign (v := Value.bool t56_36) rfl)) ?_
         exact FB.done (by kernel_rfl) ⟨_, S62, (Inc.rfl _), rfl⟩
      ·
       refine FB.skip (i := 14) (l' := (bs 38 32767)) rfl (by kernel_rfl) (by kernel_rfl) (by kernel_rfl) (by kernel_rfl) (by kernel_rfl) (SP.nil S59.sl) (wF_no rfl rfl rfl hc56_13) rfl rfl ?_
       refine FB.skip (i := 15) (l' := (bs 38 65535)) rfl (by kernel_rfl) (by kernel_rfl) (by kernel_rfl) (by kernel_rfl) (by kernel_rfl) (SP.nil S59.sl) (wF_no rfl rfl rfl hc56_13) rfl rfl ?_
       refine FB.skip (i := 16) (l' := (bs 38 131071)) rfl (by kernel_rfl) (by kernel_rfl) (by kernel_rfl) (by kernel_rfl) (by kernel_rfl) (SP.nil S59.sl) (wF_no rfl rfl rfl hc56_13) rfl rfl ?_
       refine FB.skip (i := 17) (l' := (bs 38 262143)) rfl (by kernel_rfl) (by kernel_rfl) (by kernel_rfl) (by kernel_rfl) (by kernel_rfl) (SP.nil S59.sl) (wF_no rfl rfl rfl hc56_13) rfl rfl ?_
       refine FB.skip (i := 18) (l' := (bs 38 524287)) rfl (by kernel_rfl) (by kernel_rfl) (by kernel_rfl) (by kernel_rfl) (by kernel_rfl) (SP.nil S59.sl) (wF_no rfl rfl rfl hc56_13) rfl rfl ?_
       refine FB.skip (i := 19) (l' := (bs 38 1048575)) rfl (by kernel_rfl) (by kernel_rfl) (by kernel_rfl) (by kernel_rfl) (by kernel_rfl) (SP.nil S59.sl) (wF_no rfl rfl rfl hc56_13) rfl rfl ?_
       refine FB.skip (i := 20) (l' := (bs 38 2097151)) rfl (by kernel_rfl) (by kernel_rfl) (by kernel_rfl) (by kernel_rfl) (by kernel_rfl) (SP.nil S59.sl) (wF_no rfl rfl rfl hc56_13) rfl rfl ?_
       refine FB.t (i := 21) (bs 38 4194303) rfl (SP.nil S59.sl) rfl (fun w' hw' => (E.asB (b := (bif (bif (bif (x35.b == 0) then (x35.x == 0) else false) then (x35.y == 0) else false) then (PF.spec_l1In x35.a 0 (wr ((len a1.clauses) - 1))) else false)) (E.pickF rfl hc56_13 rfl) (bifF hc56_13).symm)) ?_
       refine FB.t (i := 22) (bs 38 8388607) rfl (SP.nil S59.sl) rfl (fun w' hw' => (E.move (v := Value.bool (bif (bif (bif (x35.b == 0) then (x35.x == 0) else false) then (x35.y == 0) else false) then (PF.spec_l1In x35.a 0 (wr ((len a1.clauses) - 1))) else false)) rfl)) ?_
       rcases ifB hqt56_36 with ⟨hc56_22, hqt56_36⟩ | ⟨hc56_22, hqt56_36⟩
       ·
        obtain ⟨x69, hx70, hqt56_36⟩ := bnd hqt56_36
        obtain ⟨r73, hr74, hqt56_36⟩ := bnd hqt56_36
        obtain ⟨r88, hr89, hqt56_36⟩ := bnd hqt56_36
        refine FB.t (i := 23) (bs 38 16777215) rfl (SP.nil S59.sl) (wF_yes rfl rfl rfl hc56_22) (fun w' hw' => (E.fieldAddr tf90_1 rfl)) ?_
        refine FB.t (i := 24) (bs 38 33554431) rfl (SP.nil S59.sl) (wF_yes rfl rfl rfl hc56_22) (fun w' hw' => (E.load rfl (run_load1 Tryz.isAgg55 (at49.now hw') rfl))) ?_
        refine FB.t (i := 25) (bs 38 67108863) rfl (SP.nil S59.sl) (wF_yes rfl rfl rfl hc56_22) (fun w' hw' => (E.move (v := Value.int .i64 a0) rfl)) ?_
        refine FB.t (i := 26) (bs 38 134217727) rfl (SP.nil S59.sl) (wF_yes rfl rfl rfl hc56_22) (fun w' hw' => (E.fieldAddr tf32_0 rfl)) ?_
        refine FB.t (i := 27) (bs 38 268435455) rfl (SP.nil S59.sl) (wF_yes rfl rfl rfl hc56_22) (fun w' hw' => (E.load rfl (run_load1 Tryz.isAgg3 ((at28.mono i48).now hw') rfl))) ?_
        refine FB.t (i := 28) (bs 38 536870911) rfl (SP.nil S59.sl) (wF_yes rfl rfl rfl hc56_22) (fun w' hw' => (E.fieldAddr tf32_1 rfl)) ?_
        refine FB.t (i := 29) (bs 38 1073741823) rfl (SP.nil S59.sl) (wF_yes rfl rfl rfl hc56_22) (fun w' hw' => (E.load rfl (run_load1 Tryz.isAgg22 ((at28.mono i48).now hw') rfl))) ?_
        refine FB.t (i := 30) (bs 38 2147483647) rfl (SP.nil S59.sl) (wF_yes rfl rfl rfl hc56_22) (fun w' hw' => (E.fieldAddr tf90_2 rfl)) ?_
        refine FB.t (i := 31) (bs 38 4294967295) rfl (SP.nil S59.sl) (wF_yes rfl rfl rfl hc56_22) (fun w' hw' => (E.load rfl (run_load1 Tryz.isAgg3 (at49.now hw') rfl))) ?_
        obtain ⟨p63, cs64, pt65, l66, at67, rel68⟩ := p1_1.at hx70
        obtain ⟨v71, rfl, h72⟩ := eL_open rel68
        refine FB.t (i := 32) (bs 38 8589934591) rfl (SP.nil S59.sl) (wF_yes rfl rfl rfl hc56_22) (fun w' hw' => (E.indexAddr te22 rfl rfl pt65)) ?_
        refine FB.t (i := 33) (bs 38 17179869183) rfl (SP.nil S59.sl) (wF_yes rfl rfl rfl hc56_22) (fun w' hw' => (E.load rfl (run_load0 Tryz.isAgg73 ((at67.mono (i27.tr i48)).now hw') rfl))) ?_
        refine FB.all1 (i := 34) (by kernel_rfl) ?_
        ·
         refine FC.call (l' := (bs 38 34359738367)) rfl (by kernel_rfl) (wF_yes rfl rfl rfl hc56_22) rfl rfl (E.call Tryz.call60 (A3 rfl rfl rfl)) (w_spec_l18Clause S59.sl a0 a1.vars v71 x69 (h72.mono (i27.tr i48)) hr74) ?_
         rintro e w76 ⟨H75, v79, n80, cs81, rfl, r78, els82⟩
         refine ⟨_, rfl, ?_⟩
         have els82 := els82.mono (up_le S59.size)
         have S77 := S59.join (l' := [.row 108 2 v79 n80 cs81]) r78 rfl
         refine ⟨(SP.nil (Sl.of_inc r78.run.inc S77.sl)), ?_⟩
         refine FB.all1 (i := 35) (by kernel_rfl) ?_
         ·
          obtain ⟨H83, S84, i85, h86, nv87⟩ := S77.sealRowU (i := 0) (l' := []) rfl els82 (by decide) rfl
          refine FC.call (l' := (bs 38 68719476735)) rfl (by kernel_rfl) (wF_yes rfl rfl rfl hc56_22) rfl rfl (E.call Tryz.call61 (A2 rfl rfl)) (w_spec_l20Same S84.sl v37 x35.poly (h38.mono (((i27.tr i48).tr r78.run.inc).tr i85)) v79 r73 (h86.mono upI) hr89) ?_
          rintro e w91 ⟨rfl, r92⟩
          refine ⟨_, rfl, ?_⟩
          have r92 := Run.lend i85 S77.sl r92
          have S93 := S77.call r92
          refine ⟨(SP.nil (Sl.of_inc r78.run.inc S93.sl)), ?_⟩
          refine FB.t (i := 36) (bs 38 137438953471) rfl (SP.nil (Sl.of_inc r78.run.inc S93.sl)) rfl (fun w' hw' => (E.asB (E.pickT rfl hc56_22 rfl) (Option.some.inj hqt56_36))) ?_
          refine FB.t (i := 37) (bs 38 274877906943) rfl (SP.nil (Sl.of_inc r78.run.inc S93.sl)) rfl (fun w' hw' => (E.assign (v := Value.bool t56_36) rfl)) ?_
          exact FB.done (by kernel_rfl) ⟨_, (S93.sel [] (by decide) rfl), r78.run.inc, rfl⟩
       ·
        refine FB.skip (i := 23) (l' := (bs 38 16777215)) rfl (by kernel_rfl) (by kernel_rfl) (by kernel_rfl) (by kernel_rfl) (by kernel_rfl) (SP.nil S59.sl) (wF_no rfl rfl rfl hc56_22) rfl rfl ?_
        refine FB.skip (i := 24) (l' := (bs 38 33554431)) rfl (by kernel_rfl) (by kernel_rfl) (by kernel_rfl) (by kernel_rfl) (by kernel_rfl) (SP.nil S59.sl) (wF_no rfl rfl rfl hc56_22) rfl rfl ?_
        refine FB.skip (i := 25) (l' := (bs 38 67108863)) rfl (by kernel_rfl) (by kernel_rfl) (by kernel_rfl) (by kernel_rfl) (by kernel_rfl) (SP.nil S59.sl) (wF_no rfl rfl rfl hc56_22) rfl rfl ?_
        refine FB.skip (i := 26) (l' := (bs 38 134217727)) rfl (by kernel_rfl) (by kernel_rfl) (by kernel_rfl) (by kernel_rfl) (by kernel_rfl) (SP.nil S59.sl) (wF_no rfl rfl rfl hc56_22) rfl rfl ?_
        refine FB.skip (i := 27) (l' := (bs 38 268435455)) rfl (by kernel_rfl) (by kernel_rfl) (by kernel_rfl) (by kernel_rfl) (by kernel_rfl) (SP.nil S59.sl) (wF_no rfl rfl rfl hc56_22) rfl rfl ?_
        refine FB.skip (i := 28) (l' := (bs 38 536870911)) rfl (by kernel_rfl) (by kernel_rfl) (by kernel_rfl) (by kernel_rfl) (by kernel_rfl) (SP.nil S59.sl) (wF_no rfl rfl rfl hc56_22) rfl rfl ?_
        refine FB.skip (i := 29) (l' := (bs 38 1073741823)) rfl (by kernel_rfl) (by kernel_rfl) (by kernel_rfl) (by kernel_rfl) (by kernel_rfl) (SP.nil S59.sl) (wF_no rfl rfl rfl hc56_22) rfl rfl ?_
        refine FB.skip (i := 30) (l' := (bs 38 2147483647)) rfl (by kernel_rfl) (by kernel_rfl) (by kernel_rfl) (by kernel_rfl) (by kernel_rfl) (SP.nil S59.sl) (wF_no rfl rfl rfl hc56_22) rfl rfl ?_
        refine FB.skip (i := 31) (l' := (bs 38 4294967295)) rfl (by kernel_rfl) (by kernel_rfl) (by kernel_rfl) (by kernel_rfl) (by kernel_rfl) (SP.nil S59.sl) (wF_no rfl rfl rfl hc56_22) rfl rfl ?_
        refine FB.skip (i := 32) (l' := (bs 38 8589934591)) rfl (by kernel_rfl) (by kernel_rfl) (by kernel_rfl) (by kernel_rfl) (by kernel_rfl) (SP.nil S59.sl) (wF_no rfl rfl rfl hc56_22) rfl rfl ?_
        refine FB.skip (i := 33) (l' := (bs 38 17179869183)) rfl (by kernel_rfl) (by kernel_rfl) (by kernel_rfl) (by kernel_rfl) (by kernel_rfl) (SP.nil S59.sl) (wF_no rfl rfl rfl hc56_22) rfl rfl ?_
        refine FB.skip (i := 34) (l' := (bs 38 34359738367)) rfl (by kernel_rfl) (by kernel_rfl) (by kernel_rfl) (by kernel_rfl) (by kernel_rfl) (SP.nil S59.sl) (wF_no rfl rfl rfl hc56_22) rfl rfl ?_
        refine FB.skip (i := 35) (l' := (bs 38 68719476735)) rfl (by kernel_rfl) (by kernel_rfl) (by kernel_rfl) (by kernel_rfl) (by kernel_rfl) (SP.nil S59.sl) (wF_no rfl rfl rfl hc56_22) rfl rfl ?_
        refine FB.t (i := 36) (bs 38 137438953471) rfl (SP.nil S59.sl) rfl (fun w' hw' => (E.asB (E.pickF rfl hc56_22 rfl) (Option.some.inj hqt56_36))) ?_
        refine FB.t (i := 37) (bs 38 274877906943) rfl (SP.nil S59.sl) rfl (fun w' hw' => (E.assign (v := Value.bool t56_36) rfl)) ?_
        exact FB.done (by kernel_rfl) ⟨_, S59, (Inc.rfl _), rfl⟩
     ·
      refine FB.skip (i := 9) (l' := (bs 38 1023)) rfl (by kernel_rfl) (by kernel_rfl) (by kernel_rfl) (by kernel_rfl) (by kernel_rfl) (SP.nil S59.sl) (wF_no rfl rfl rfl hc56_8) rfl rfl ?_
      refine FB.skip (i := 10) (l' := (bs 38 2047)) rfl (by kernel_rfl) (by kernel_rfl) (by kernel_rfl) (by kernel_rfl) (by kernel_rfl) (SP.nil S59.sl) (wF_no rfl rfl rfl hc56_8) rfl rfl ?_
      refine FB.skip (i := 11) (l' := (bs 38 4095)) rfl (by kernel_rfl) (by kernel_rfl) (by kernel_rfl) (by kernel_rfl) (by kernel_rfl) (SP.nil S59.sl) (wF_no rfl rfl rfl hc56_8) rfl rfl ?_
      refine FB.t (i := 12) (bs 38 8191) rfl (SP.nil S59.sl) rfl (fun w' hw' => (E.asB (b := (bif (bif (x35.b == 0) then (x35.x == 0) else false) then (x35.y == 0) else false)) (E.pickF rfl hc56_8 rfl) (bifF hc56_8).symm)) ?_
      refine FB.t (i := 13) (bs 38 16383) rfl (SP.nil S59.sl) rfl (fun w' hw' => (E.move (v := Value.bool (bif (bif (x35.b == 0) then (x35.x == 0) else false) then (x35.y == 0) else false)) rfl)) ?_
      rcases bcase (bif (bif (x35.b == 0) then (x35.x == 0) else false) then (x35.y == 0) else false) with hc56_13 | hc56_13
      ·
       refine FB.t (i := 14) (bs 38 32767) rfl (SP.nil S59.sl) (wF_yes rfl rfl rfl hc56_13) (fun w' hw' => (E.fieldAddr tf90_2 rfl)) ?_
       refine FB.t (i := 15) (bs 38 65535) rfl (SP.nil S59.sl) (wF_yes rfl rfl rfl hc56_13) (fun w' hw' => (E.load rfl (run_load1 Tryz.isAgg3 (at49.now hw') rfl))) ?_
       refine FB.t (i := 16) (bs 38 131071) rfl (SP.nil S59.sl) (wF_yes rfl rfl rfl hc56_13) (fun w' hw' => (E.fieldAddr tf32_1 rfl)) ?_
       refine FB.t (i := 17) (bs 38 262143) rfl (SP.nil S59.sl) (wF_yes rfl rfl rfl hc56_13) (fun w' hw' => (E.load rfl (run_load1 Tryz.isAgg22 ((at28.mono i48).now hw') rfl))) ?_
       refine FB.t (i := 18) (bs 38 524287) rfl (SP.nil S59.sl) (wF_yes rfl rfl rfl hc56_13) (fun w' hw' => (E.lenP te22 rfl p1_1)) ?_
       refine FB.t (i := 19) (bs 38 1048575) rfl (SP.nil S59.sl) (wF_yes rfl rfl rfl hc56_13) (fun w' hw' => (E.sub rfl rfl)) ?_
       refine FB.all1 (i := 20) (by kernel_rfl) ?_
       ·
        refine FC.call (l' := (bs 38 2097151)) rfl (by kernel_rfl) (wF_yes rfl rfl rfl hc56_13) rfl rfl (E.call Tryz.call153 (A3 rfl rfl rfl)) (w_spec_l1In S59.sl x35.a 0 (wr ((len a1.clauses) - 1))) ?_
        rintro e w60 ⟨rfl, r61⟩
        refine ⟨_, rfl, ?_⟩
        have S62 := S59.call r61
        refine ⟨(SP.nil S62.sl), ?_⟩
        refine FB.t (i := 21) (bs 38 4194303) rfl (SP.nil S62.sl) rfl (fun w' hw' => (E.asB (b := (bif (bif (bif (x35.b == 0) then (x35.x == 0) else false) then (x35.y == 0) else false) then (PF.spec_l1In x35.a 0 (wr ((len a1.clauses) - 1))) else false)) (E.pickT rfl hc56_13 rfl) (bifT hc56_13).symm)) ?_
        refine FB.t (i := 22) (bs 38 8388607) rfl (SP.nil S62.sl) rfl (fun w' hw' => (E.move (v := Value.bool (bif (bif (bif (x35.b == 0) then (x35.x == 0) else false) then (x35.y == 0) else false) then (PF.spec_l1In x35.a 0 (wr ((len a1.clauses) - 1))) else false)) rfl)) ?_
        rcases ifB hqt56_36 with ⟨hc56_22, hqt56_36⟩ | ⟨hc56_22, hqt56_36⟩
        ·
         obtain ⟨x69, hx70, hqt56_36⟩ := bnd hqt56_36
         obtain ⟨r73, hr74, hqt56_36⟩ := bnd hqt56_36
         obtain ⟨r88, hr89, hqt56_36⟩ := bnd hqt56_36
         refine FB.t (i := 23) (bs 38 16777215) rfl (SP.nil S62.sl) (wF_yes rfl rfl rfl hc56_22) (fun w' hw' => (E.fieldAddr tf90_1 rfl)) ?_
         refine FB.t (i := 24) (bs 38 33554431) rfl (SP.nil S62.sl) (wF_yes rfl rfl rfl hc56_22) (fun w' hw' => (E.load rfl (run_load1 Tryz.isAgg55 (at49.now hw') rfl))) ?_
         refine FB.t (i := 25) (bs 38 67108863) rfl (SP.nil S62.sl) (wF_yes rfl rfl rfl hc56_22) (fun w' hw' => (E.move (v := Value.int .i64 a0) rfl)) ?_
         refine FB.t (i := 26) (bs 38 134217727) rfl (SP.nil S62.sl) (wF_yes rfl rfl rfl hc56_22) (fun w' hw' => (E.fieldAddr tf32_0 rfl)) ?_
         refine FB.t (i := 27) (bs 38 268435455) rfl (SP.nil S62.sl) (wF_yes rfl rfl rfl hc56_22) (fun w' hw' => (E.load rfl (run_load1 Tryz.isAgg3 ((at28.mono i48).now hw') rfl))) ?_
         refine FB.t (i := 28) (bs 38 536870911) rfl (SP.nil S62.sl) (wF_yes rfl rfl rfl hc56_22) (fun w' hw' => (E.fieldAddr tf32_1 rfl)) ?_
         refine FB.t (i := 29) (bs 38 1073741823) rfl (SP.nil S62.sl) (wF_yes rfl rfl rfl hc56_22) (fun w' hw' => (E.load rfl (run_load1 Tryz.isAgg22 ((at28.mono i48).now hw') rfl))) ?_
         refine FB.t (i := 30) (bs 38 2147483647) rfl (SP.nil S62.sl) (wF_yes rfl rfl rfl hc56_22) (fun w' hw' => (E.fieldAddr tf90_2 rfl)) ?_
         refine FB.t (i := 31) (bs 38 4294967295) rfl (SP.nil S62.sl) (wF_yes rfl rfl rfl hc56_22) (fun w' hw' => (E.load rfl (run_load1 Tryz.isAgg3 (at49.now hw') rfl))) ?_
         obtain ⟨p63, cs64, pt65, l66, at67, rel68⟩ := p1_1.at hx70
         obtain ⟨v71, rfl, h72⟩ := eL_open rel68
         refine FB.t (i := 32) (bs 38 8589934591) rfl (SP.nil S62.sl) (wF_yes rfl rfl rfl hc56_22) (fun w' hw' => (E.indexAddr te22 rfl rfl pt65)) ?_
         refine FB.t (i := 33) (bs 38 17179869183) rfl (SP.nil S62.sl) (wF_yes rfl rfl rfl hc56_22) (fun w' hw' => (E.load rfl (run_load0 Tryz.isAgg73 ((at67.mono (i27.tr i48)).now hw') rfl))) ?_
         refine FB.all1 (i := 34) (by kernel_rfl) ?_
         ·
          refine FC.call (l' := (bs 38 34359738367)) rfl (by kernel_rfl) (wF_yes rfl rfl rfl hc56_22) rfl rfl (E.call Tryz.call60 (A3 rfl rfl rfl)) (w_spec_l18Clause S62.sl a0 a1.vars v71 x69 (h72.mono (i27.tr i48)) hr74) ?_
          rintro e w76 ⟨H75, v79, n80, cs81, rfl, r78, els82⟩
          refine ⟨_, rfl, ?_⟩
          have els82 := els82.mono (up_le S62.size)
          have S77 := S62.join (l' := [.row 108 2 v79 n80 cs81]) r78 rfl
          refine ⟨(SP.nil (Sl.of_inc r78.run.inc S77.sl)), ?_⟩
          refine FB.all1 (i := 35) (by kernel_rfl) ?_
          ·
           obtain ⟨H83, S84, i85, h86, nv87⟩ := S77.sealRowU (i := 0) (l' := []) rfl els82 (by decide) rfl
           refine FC.call (l' := (bs 38 68719476735)) rfl (by kernel_rfl) (wF_yes rfl rfl rfl hc56_22) rfl rfl (E.call Tryz.call61 (A2 rfl rfl)) (w_spec_l20Same S84.sl v37 x35.poly (h38.mono (((i27.tr i48).tr r78.run.inc).tr i85)) v79 r73 (h86.mono upI) hr89) ?_
           rintro e w91 ⟨rfl, r92⟩
           refine ⟨_, rfl, ?_⟩
           have r92 := Run.lend i85 S77.sl r92
           have S93 := S77.call r92
           refine ⟨(SP.nil (Sl.of_inc r78.run.inc S93.sl)), ?_⟩
           refine FB.t (i := 36) (bs 38 137438953471) rfl (SP.nil (Sl.of_inc r78.run.inc S93.sl)) rfl (fun w' hw' => (E.asB (E.pickT rfl hc56_22 rfl) (Option.some.inj hqt56_36))) ?_
           refine FB.t (i := 37) (bs 38 274877906943) rfl (SP.nil (Sl.of_inc r78.run.inc S93.sl)) rfl (fun w' hw' => (E.assign (v := Value.bool t56_36) rfl)) ?_
           exact FB.done (by kernel_rfl) ⟨_, (S93.sel [] (by decide) rfl), r78.run.inc, rfl⟩
        ·
         refine FB.skip (i := 23) (l' := (bs 38 16777215)) rfl (by kernel_rfl) (by kernel_rfl) (by kernel_rfl) (by kernel_rfl) (by kernel_rfl) (SP.nil S62.sl) (wF_no rfl rfl rfl hc56_22) rfl rfl ?_
         refine FB.skip (i := 24) (l' := (bs 38 33554431)) rfl (by kernel_rfl) (by kernel_rfl) (by kernel_rfl) (by kernel_rfl) (by kernel_rfl) (SP.nil S62.sl) (wF_no rfl rfl rfl hc56_22) rfl rfl ?_
         refine FB.skip (i := 25) (l' := (bs 38 67108863)) rfl (by kernel_rfl) (by kernel_rfl) (by kernel_rfl) (by kernel_rfl) (by kernel_rfl) (SP.nil S62.sl) (wF_no rfl rfl rfl hc56_22) rfl rfl ?_
         refine FB.skip (i := 26) (l' := (bs 38 134217727)) rfl (by kernel_rfl) (by kernel_rfl) (by kernel_rfl) (by kernel_rfl) (by kernel_rfl) (SP.nil S62.sl) (wF_no rfl rfl rfl hc56_22) rfl rfl ?_
         refine FB.skip (i := 27) (l' := (bs 38 268435455)) rfl (by kernel_rfl) (by kernel_rfl) (by kernel_rfl) (by kernel_rfl) (by kernel_rfl) (SP.nil S62.sl) (wF_no rfl rfl rfl hc56_22) rfl rfl ?_
         refine FB.skip (i := 28) (l' := (bs 38 536870911)) rfl (by kernel_rfl) (by kernel_rfl) (by kernel_rfl) (by kernel_rfl) (by kernel_rfl) (SP.nil S62.sl) (wF_no rfl rfl rfl hc56_22) rfl rfl ?_
         refine FB.skip (i := 29) (l' := (bs 38 1073741823)) rfl (by kernel_rfl) (by kernel_rfl) (by kernel_rfl) (by kernel_rfl) (by kernel_rfl) (SP.nil S62.sl) (wF_no rfl rfl rfl hc56_22) rfl rfl ?_
         refine FB.skip (i := 30) (l' := (bs 38 2147483647)) rfl (by kernel_rfl) (by kernel_rfl) (by kernel_rfl) (by kernel_rfl) (by kernel_rfl) (SP.nil S62.sl) (wF_no rfl rfl rfl hc56_22) rfl rfl ?_
         refine FB.skip (i := 31) (l' := (bs 38 4294967295)) rfl (by kernel_rfl) (by kernel_rfl) (by kernel_rfl) (by kernel_rfl) (by kernel_rfl) (SP.nil S62.sl) (wF_no rfl rfl rfl hc56_22) rfl rfl ?_
         refine FB.skip (i := 32) (l' := (bs 38 8589934591)) rfl (by kernel_rfl) (by kernel_rfl) (by kernel_rfl) (by kernel_rfl) (by kernel_rfl) (SP.nil S62.sl) (wF_no rfl rfl rfl hc56_22) rfl rfl ?_
         refine FB.skip (i := 33) (l' := (bs 38 17179869183)) rfl (by kernel_rfl) (by kernel_rfl) (by kernel_rfl) (by kernel_rfl) (by kernel_rfl) (SP.nil S62.sl) (wF_no rfl rfl rfl hc56_22) rfl rfl ?_
         refine FB.skip (i := 34) (l' := (bs 38 34359738367)) rfl (by kernel_rfl) (by kernel_rfl) (by kernel_rfl) (by kernel_rfl) (by kernel_rfl) (SP.nil S62.sl) (wF_no rfl rfl rfl hc56_22) rfl rfl ?_
         refine FB.skip (i := 35) (l' := (bs 38 68719476735)) rfl (by kernel_rfl) (by kernel_rfl) (by kernel_rfl) (by kernel_rfl) (by kernel_rfl) (SP.nil S62.sl) (wF_no rfl rfl rfl hc56_22) rfl rfl ?_
         refine FB.t (i := 36) (bs 38 137438953471) rfl (SP.nil S62.sl) rfl (fun w' hw' => (E.asB (E.pickF rfl hc56_22 rfl) (Option.some.inj hqt56_36))) ?_
         refine FB.t (i := 37) (bs 38 274877906943) rfl (SP.nil S62.sl) rfl (fun w' hw' => (E.assign (v := Value.bool t56_36) rfl)) ?_
         exact FB.done (by kernel_rfl) ⟨_, S62, (Inc.rfl _), rfl⟩
      ·
       refine FB.skip (i := 14) (l' := (bs 38 32767)) rfl (by kernel_rfl) (by kernel_rfl) (by kernel_rfl) (by kernel_rfl) (by kernel_rfl) (SP.nil S59.sl) (wF_no rfl rfl rfl hc56_13) rfl rfl ?_
       refine FB.skip (i := 15) (l' := (bs 38 65535)) rfl (by kernel_rfl) (by kernel_rfl) (by kernel_rfl) (by kernel_rfl) (by kernel_rfl) (SP.nil S59.sl) (wF_no rfl rfl rfl hc56_13) rfl rfl ?_
       refine FB.skip (i := 16) (l' := (bs 38 131071)) rfl (by kernel_rfl) (by kernel_rfl) (by kernel_rfl) (by kernel_rfl) (by kernel_rfl) (SP.nil S59.sl) (wF_no rfl rfl rfl hc56_13) rfl rfl ?_
       refine FB.skip (i := 17) (l' := (bs 38 262143)) rfl (by kernel_rfl) (by kernel_rfl) (by kernel_rfl) (by kernel_rfl) (by kernel_rfl) (SP.nil S59.sl) (wF_no rfl rfl rfl hc56_13) rfl rfl ?_
       refine FB.skip (i := 18) (l' := (bs 38 524287)) rfl (by kernel_rfl) (by kernel_rfl) (by kernel_rfl) (by kernel_rfl) (by kernel_rfl) (SP.nil S59.sl) (wF_no rfl rfl rfl hc56_13) rfl rfl ?_
       refine FB.skip (i := 19) (l' := (bs 38 1048575)) rfl (by kernel_rfl) (by kernel_rfl) (by kernel_rfl) (by kernel_rfl) (by kernel_rfl) (SP.nil S59.sl) (wF_no rfl rfl rfl hc56_13) rfl rfl ?_
       refine FB.skip (i := 20) (l' := (bs 38 2097151)) rfl (by kernel_rfl) (by kernel_rfl) (by kernel_rfl) (by kernel_rfl) (by kernel_rfl) (SP.nil S59.sl) (wF_no rfl rfl rfl hc56_13) rfl rfl ?_
       refine FB.t (i := 21) (bs 38 4194303) rfl (SP.nil S59.sl) rfl (fun w' hw' => (E.asB (b := (bif (bif (bif (x35.b == 0) then (x35.x == 0) else false) then (x35.y == 0) else false) then (PF.spec_l1In x35.a 0 (wr ((len a1.clauses) - 1))) else false)) (E.pickF rfl hc56_13 rfl) (bifF hc56_13).symm)) ?_
       refine FB.t (i := 22) (bs 38 8388607) rfl (SP.nil S59.sl) rfl (fun w' hw' => (E.move (v := Value.bool (bif (bif (bif (x35.b == 0) then (x35.x == 0) else false) then (x35.y == 0) else false) then (PF.spec_l1In x35.a 0 (wr ((len a1.clauses) - 1))) else false)) rfl)) ?_
       rcases ifB hqt56_36 with ⟨hc56_22, hqt56_36⟩ | ⟨hc56_22, hqt56_36⟩
       ·
        obtain ⟨x69, hx70, hqt56_36⟩ := bnd hqt56_36
        obtain ⟨r73, hr74, hqt56_36⟩ := bnd hqt56_36
        obtain ⟨r88, hr89, hqt56_36⟩ := bnd hqt56_36
        refine FB.t (i := 23) (bs 38 16777215) rfl (SP.nil S59.sl) (wF_yes rfl rfl rfl hc56_22) (fun w' hw' => (E.fieldAddr tf90_1 rfl)) ?_
        refine FB.t (i := 24) (bs 38 33554431) rfl (SP.nil S59.sl) (wF_yes rfl rfl rfl hc56_22) (fun w' hw' => (E.load rfl (run_load1 Tryz.isAgg55 (at49.now hw') rfl))) ?_
        refine FB.t (i := 25) (bs 38 67108863) rfl (SP.nil S59.sl) (wF_yes rfl rfl rfl hc56_22) (fun w' hw' => (E.move (v := Value.int .i64 a0) rfl)) ?_
        refine FB.t (i := 26) (bs 38 134217727) rfl (SP.nil S59.sl) (wF_yes rfl rfl rfl hc56_22) (fun w' hw' => (E.fieldAddr tf32_0 rfl)) ?_
        refine FB.t (i := 27) (bs 38 268435455) rfl (SP.nil S59.sl) (wF_yes rfl rfl rfl hc56_22) (fun w' hw' => (E.load rfl (run_load1 Tryz.isAgg3 ((at28.mono i48).now hw') rfl))) ?_
        refine FB.t (i := 28) (bs 38 536870911) rfl (SP.nil S59.sl) (wF_yes rfl rfl rfl hc56_22) (fun w' hw' => (E.fieldAddr tf32_1 rfl)) ?_
        refine FB.t (i := 29) (bs 38 1073741823) rfl (SP.nil S59.sl) (wF_yes rfl rfl rfl hc56_22) (fun w' hw' => (E.load rfl (run_load1 Tryz.isAgg22 ((at28.mono i48).now hw') rfl))) ?_
        refine FB.t (i := 30) (bs 38 2147483647) rfl (SP.nil S59.sl) (wF_yes rfl rfl rfl hc56_22) (fun w' hw' => (E.fieldAddr tf90_2 rfl)) ?_
        refine FB.t (i := 31) (bs 38 4294967295) rfl (SP.nil S59.sl) (wF_yes rfl rfl rfl hc56_22) (fun w' hw' => (E.load rfl (run_load1 Tryz.isAgg3 (at49.now hw') rfl))) ?_
        obtain ⟨p63, cs64, pt65, l66, at67, rel68⟩ := p1_1.at hx70
        obtain ⟨v71, rfl, h72⟩ := eL_open rel68
        refine FB.t (i := 32) (bs 38 8589934591) rfl (SP.nil S59.sl) (wF_yes rfl rfl rfl hc56_22) (fun w' hw' => (E.indexAddr te22 rfl rfl pt65)) ?_
        refine FB.t (i := 33) (bs 38 17179869183) rfl (SP.nil S59.sl) (wF_yes rfl rfl rfl hc56_22) (fun w' hw' => (E.load rfl (run_load0 Tryz.isAgg73 ((at67.mono (i27.tr i48)).now hw') rfl))) ?_
        refine FB.all1 (i := 34) (by kernel_rfl) ?_
        ·
         refine FC.call (l' := (bs 38 34359738367)) rfl (by kernel_rfl) (wF_yes rfl rfl rfl hc56_22) rfl rfl (E.call Tryz.call60 (A3 rfl rfl rfl)) (w_spec_l18Clause S59.sl a0 a1.vars v71 x69 (h72.mono (i27.tr i48)) hr74) ?_
         rintro e w76 ⟨H75, v79, n80, cs81, rfl, r78, els82⟩
         refine ⟨_, rfl, ?_⟩
         have els82 := els82.mono (up_le S59.size)
         have S77 := S59.join (l' := [.row 108 2 v79 n80 cs81]) r78 rfl
         refine ⟨(SP.nil (Sl.of_inc r78.run.inc S77.sl)), ?_⟩
         refine FB.all1 (i := 35) (by kernel_rfl) ?_
         ·
          obtain ⟨H83, S84, i85, h86, nv87⟩ := S77.sealRowU (i := 0) (l' := []) rfl els82 (by decide) rfl
          refine FC.call (l' := (bs 38 68719476735)) rfl (by kernel_rfl) (wF_yes rfl rfl rfl hc56_22) rfl rfl (E.call Tryz.call61 (A2 rfl rfl)) (w_spec_l20Same S84.sl v37 x35.poly (h38.mono (((i27.tr i48).tr r78.run.inc).tr i85)) v79 r73 (h86.mono upI) hr89) ?_
          rintro e w91 ⟨rfl, r92⟩
          refine ⟨_, rfl, ?_⟩
          have r92 := Run.lend i85 S77.sl r92
          have S93 := S77.call r92
          refine ⟨(SP.nil (Sl.of_inc r78.run.inc S93.sl)), ?_⟩
          refine FB.t (i := 36) (bs 38 137438953471) rfl (SP.nil (Sl.of_inc r78.run.inc S93.sl)) rfl (fun w' hw' => (E.asB (E.pickT rfl hc56_22 rfl) (Option.some.inj hqt56_36))) ?_
          refine FB.t (i := 37) (bs 38 274877906943) rfl (SP.nil (Sl.of_inc r78.run.inc S93.sl)) rfl (fun w' hw' => (E.assign (v := Value.bool t56_36) rfl)) ?_
          exact FB.done (by kernel_rfl) ⟨_, (S93.sel [] (by decide) rfl), r78.run.inc, rfl⟩
       ·
        refine FB.skip (i := 23) (l' := (bs 38 16777215)) rfl (by kernel_rfl) (by kernel_rfl) (by kernel_rfl) (by kernel_rfl) (by kernel_rfl) (SP.nil S59.sl) (wF_no rfl rfl rfl hc56_22) rfl rfl ?_
        refine FB.skip (i := 24) (l' := (bs 38 33554431)) rfl (by kernel_rfl) (by kernel_rfl) (by kernel_rfl) (by kernel_rfl) (by kernel_rfl) (SP.nil S59.sl) (wF_no rfl rfl rfl hc56_22) rfl rfl ?_
        refine FB.skip (i := 25) (l' := (bs 38 67108863)) rfl (by kernel_rfl) (by kernel_rfl) (by kernel_rfl) (by kernel_rfl) (by kernel_rfl) (SP.nil S59.sl) (wF_no rfl rfl rfl hc56_22) rfl rfl ?_
        refine FB.skip (i := 26) (l' := (bs 38 134217727)) rfl (by kernel_rfl) (by kernel_rfl) (by kernel_rfl) (by kernel_rfl) (by kernel_rfl) (SP.nil S59.sl) (wF_no rfl rfl rfl hc56_22) rfl rfl ?_
        refine FB.skip (i := 27) (l' := (bs 38 268435455)) rfl (by kernel_rfl) (by kernel_rfl) (by kernel_rfl) (by kernel_rfl) (by kernel_rfl) (SP.nil S59.sl) (wF_no rfl rfl rfl hc56_22) rfl rfl ?_
        refine FB.skip (i := 28) (l' := (bs 38 536870911)) rfl (by kernel_rfl) (by kernel_rfl) (by kernel_rfl) (by kernel_rfl) (by kernel_rfl) (SP.nil S59.sl) (wF_no rfl rfl rfl hc56_22) rfl rfl ?_
        refine FB.skip (i := 29) (l' := (bs 38 1073741823)) rfl (by kernel_rfl) (by kernel_rfl) (by kernel_rfl) (by kernel_rfl) (by kernel_rfl) (SP.nil S59.sl) (wF_no rfl rfl rfl hc56_22) rfl rfl ?_
        refine FB.skip (i := 30) (l' := (bs 38 2147483647)) rfl (by kernel_rfl) (by kernel_rfl) (by kernel_rfl) (by kernel_rfl) (by kernel_rfl) (SP.nil S59.sl) (wF_no rfl rfl rfl hc56_22) rfl rfl ?_
        refine FB.skip (i := 31) (l' := (bs 38 4294967295)) rfl (by kernel_rfl) (by kernel_rfl) (by kernel_rfl) (by kernel_rfl) (by kernel_rfl) (SP.nil S59.sl) (wF_no rfl rfl rfl hc56_22) rfl rfl ?_
        refine FB.skip (i := 32) (l' := (bs 38 8589934591)) rfl (by kernel_rfl) (by kernel_rfl) (by kernel_rfl) (by kernel_rfl) (by kernel_rfl) (SP.nil S59.sl) (wF_no rfl rfl rfl hc56_22) rfl rfl ?_
        refine FB.skip (i := 33) (l' := (bs 38 17179869183)) rfl (by kernel_rfl) (by kernel_rfl) (by kernel_rfl) (by kernel_rfl) (by kernel_rfl) (SP.nil S59.sl) (wF_no rfl rfl rfl hc56_22) rfl rfl ?_
        refine FB.skip (i := 34) (l' := (bs 38 34359738367)) rfl (by kernel_rfl) (by kernel_rfl) (by kernel_rfl) (by kernel_rfl) (by kernel_rfl) (SP.nil S59.sl) (wF_no rfl rfl rfl hc56_22) rfl rfl ?_
        refine FB.skip (i := 35) (l' := (bs 38 68719476735)) rfl (by kernel_rfl) (by kernel_rfl) (by kernel_rfl) (by kernel_rfl) (by kernel_rfl) (SP.nil S59.sl) (wF_no rfl rfl rfl hc56_22) rfl rfl ?_
        refine FB.t (i := 36) (bs 38 137438953471) rfl (SP.nil S59.sl) rfl (fun w' hw' => (E.asB (E.pickF rfl hc56_22 rfl) (Option.some.inj hqt56_36))) ?_
        refine FB.t (i := 37) (bs 38 274877906943) rfl (SP.nil S59.sl) rfl (fun w' hw' => (E.assign (v := Value.bool t56_36) rfl)) ?_
        exact FB.done (by kernel_rfl) ⟨_, S59, (Inc.rfl _), rfl⟩
   ·
    rintro f98 w97 ⟨H94, S95, i96, k99⟩
    refine FW.ret ?_
    obtain rfl := Option.some.inj hp
    exact ⟨.inr rfl, res1 rfl k99 ⟨rfl, S95.back⟩⟩
  ·
   refine FW.condF rfl c56 ?_
   refine FW.skip (FW.seq (FW.seq (FW.region ?_)))
   refine FL.v (E.fieldAddr tf90_0 rfl) ?_
   refine FL.v (E.load rfl (run_load1 Tryz.isAgg3 (at49.now S54.sl) rfl)) ?_
   refine FL.v (E.neq rfl rfl) ?_
   refine FL.v (E.move (v := Value.bool (!(x35.kind == 2))) rfl) ?_
   refine FL.cut 4 (fun f w => ∃ H : GH, St Ha wa H w [] ∧ Inc H46 H ∧ f 0 = Value.int .i64 a0 ∧ f 2 = v2 ∧ f 3 = Value.int .i64 a3 ∧ f 5 = Value.pointer (some ⟨b21, 0, none⟩) ∧ f 9 = Value.pointer (some ⟨b39, 0, none⟩) ∧ f 68 = Value.bool (bif (!(x35.kind == 2)) then (!(x35.kind == 3)) else false)) ?_ ?_
   ·
    rcases bcase (!(x35.kind == 2)) with c105 | c105
    ·
     refine FL.val (wF_yes rfl rfl rfl c105) rfl rfl (E.fieldAddr tf90_0 rfl) ?_
     refine FL.val (wF_yes rfl rfl rfl c105) rfl rfl (E.load rfl (run_load1 Tryz.isAgg3 (at49.now S54.sl) rfl)) ?_
     refine FL.val (wF_yes rfl rfl rfl c105) rfl rfl (E.neq rfl rfl) ?_
     refine FL.v (E.pickT rfl c105 rfl) ?_
     exact FL.nil ⟨rfl, _, S54, (Inc.rfl _), rfl, rfl, rfl, rfl, rfl, (congrArg Value.bool (bifT c105).symm)⟩
    ·
     refine FL.skip (wF_no rfl rfl rfl c105) rfl ?_
     refine FL.skip (wF_no rfl rfl rfl c105) rfl ?_
     refine FL.skip (wF_no rfl rfl rfl c105) rfl ?_
     refine FL.v (E.pickF rfl c105 rfl) ?_
     exact FL.nil ⟨rfl, _, S54, (Inc.rfl _), rfl, rfl, rfl, rfl, rfl, (congrArg Value.bool (bifF c105).symm)⟩
   rintro f104 w103 ⟨H100, S101, i102, k106, k107, k108, k109, k110, k111⟩
   refine FL.v (E.move k111) ?_
   obtain ⟨t112, hqt112, hp⟩ := bnd hp
   refine FL.cut 9 (fun f w => ∃ H : GH, St Ha wa H w [] ∧ Inc H100 H ∧ f 0 = Value.int .i64 a0 ∧ f 2 = v2 ∧ f 3 = Value.int .i64 a3 ∧ f 5 = Value.pointer (some ⟨b21, 0, none⟩) ∧ f 9 = Value.pointer (some ⟨b39, 0, none⟩) ∧ f 78 = Value.bool t112) ?_ ?_
   ·
    clear hp; have hp := hqt112; clear hqt112
    rcases ifB hp with ⟨c118, hp⟩ | ⟨c118, hp⟩
    ·
     refine FL.skip (wF_no rfl rfl rfl c118) rfl ?_
     refine FL.skip (wF_no rfl rfl rfl c118) rfl ?_
     refine FL.skip (wF_no rfl rfl rfl c118) rfl ?_
     refine FL.skip (wF_no rfl rfl rfl c118) rfl ?_
     refine FL.skip (wF_no rfl rfl rfl c118) rfl ?_
     refine FL.skip (wF_no rfl rfl rfl c118) rfl ?_
     refine FL.skip (wF_no rfl rfl rfl c118) rfl ?_
     refine FL.skip (wF_no rfl rfl rfl c118) rfl ?_
     obtain rfl := Option.some.inj hp
     refine FL.v (E.pickT rfl c118 rfl) ?_
     exact FL.nil ⟨rfl, _, S101, (Inc.rfl _), k106, k107, k108, k109, k110, rfl⟩
    ·
     refine FL.val (wF_yes rfl rfl rfl c118) rfl rfl (E.move k106) ?_
     refine FL.val (wF_yes rfl rfl rfl c118) rfl rfl (E.load k109 (run_loadA Tryz.isAgg32 Tryz.sizeOf32 ((at28.mono (i48.tr i102)).now S101.sl) rfl)) ?_
     refine FL.val (wF_yes rfl rfl rfl c118) rfl rfl (E.move k107) ?_
     refine FL.val (wF_yes rfl rfl rfl c118) rfl rfl (E.move k108) ?_
     refine FL.val (wF_yes rfl rfl rfl c118) rfl rfl (E.fieldAddr tf90_2 k110) ?_
     refine FL.val (wF_yes rfl rfl rfl c118) rfl rfl (E.load rfl (run_load1 Tryz.isAgg3 ((at49.mono i102).now S101.sl) rfl)) ?_
     obtain ⟨r119, hr120, hp⟩ := bnd hp
     refine FL.call (wF_yes rfl rfl rfl c118) rfl rfl (E.call Tryz.call228 (A5 rfl rfl rfl rfl rfl)) (w_spec_l20Earlier S101.sl a0 a1 v1_1 (p1_1.mono ((i27.tr i48).tr i102)) v2 a2 (p2.mono ((i27.tr i48).tr i102)) a3 x35.a hr120) ?_
     rintro e w121 ⟨rfl, r122⟩
     refine ⟨_, rfl, ?_⟩
     have S123 := S101.call r122
     refine FL.val (wF_yes rfl rfl rfl c118) rfl rfl (E.not rfl) ?_
     obtain rfl := Option.some.inj hp
     refine FL.v (E.pickF rfl c118 rfl) ?_
     exact FL.nil ⟨rfl, _, S123, (Inc.rfl _), k106, k107, k108, k109, k110, rfl⟩
   rintro f117 w116 ⟨H113, S114, i115, k124, k125, k126, k127, k128, k129⟩
   refine FL.nil ?_
   rcases ifB hp with ⟨c130, hp⟩ | ⟨c130, hp⟩
   ·
    refine FW.condT k129 c130 ?_
    refine FW.seq (FW.region ?_)
    refine FL.v (E.assign (v := Value.bool false) rfl) ?_
    refine FL.nil ?_
    refine FW.ret ?_
    obtain rfl := Option.some.inj hp
    exact ⟨.inr rfl, res1 rfl rfl ⟨rfl, S114.back⟩⟩
   ·
    refine FW.condF k129 c130 ?_
    refine FW.skip (FW.seq (FW.seq (FW.region ?_)))
    refine FL.v (E.fieldAddr tf90_0 k128) ?_
    refine FL.v (E.load rfl (run_load1 Tryz.isAgg3 ((at49.mono (i102.tr i115)).now S114.sl) rfl)) ?_
    refine FL.v (E.eql rfl rfl) ?_
    refine FL.nil ?_
    rcases ifB hp with ⟨c131, hp⟩ | ⟨c131, hp⟩
    ·
     refine FW.condT rfl c131 ?_
     refine FW.seq ?_
     obtain ⟨t131_31, hqt131_31, hp⟩ := bnd hp
     refine FW.drawB (Sl H113) (fun f w => ∃ H : GH, St Ha wa H w [] ∧ Inc H113 H ∧ f 8 = Value.bool t131_31) (by kernel_rfl) S114.sl ?_ ?_
     ·
      intro w132 r133
      have S134 := S114.call r133
      refine FB.t (i := 0) (bs 33 1) rfl (SP.nil S134.sl) rfl (fun w' hw' => (E.fieldAddr tf90_3 k128)) ?_
      refine FB.t (i := 1) (bs 33 3) rfl (SP.nil S134.sl) rfl (fun w' hw' => (E.load rfl (run_load1 Tryz.isAgg3 ((at49.mono (i102.tr i115)).now hw') rfl))) ?_
      refine FB.t (i := 2) (bs 33 7) rfl (SP.nil S134.sl) rfl (fun w' hw' => (E.eql rfl rfl)) ?_
      refine FB.t (i := 3) (bs 33 15) rfl (SP.nil S134.sl) rfl (fun w' hw' => (E.move (v := Value.bool (x35.b == 0)) rfl)) ?_
      rcases bcase (x35.b == 0) with hc131_3 | hc131_3
      ·
       refine FB.t (i := 4) (bs 33 31) rfl (SP.nil S134.sl) (wF_yes rfl rfl rfl hc131_3) (fun w' hw' => (E.fieldAddr tf90_5 k128)) ?_
       refine FB.t (i := 5) (bs 33 63) rfl (SP.nil S134.sl) (wF_yes rfl rfl rfl hc131_3) (fun w' hw' => (E.load rfl (run_load1 Tryz.isAgg3 ((at49.mono (i102.tr i115)).now hw') rfl))) ?_
       refine FB.t (i := 6) (bs 33 127) rfl (SP.nil S134.sl) (wF_yes rfl rfl rfl hc131_3) (fun w' hw' => (E.eql rfl rfl)) ?_
       refine FB.t (i := 7) (bs 33 255) rfl (SP.nil S134.sl) rfl (fun w' hw' => (E.asB (b := (bif (x35.b == 0) then (x35.y == 0) else false)) (E.pickT rfl hc131_3 rfl) (bifT hc131_3).symm)) ?_
       refine FB.t (i := 8) (bs 33 511) rfl (SP.nil S134.sl) rfl (fun w' hw' => (E.move (v := Value.bool (bif (x35.b == 0) then (x35.y == 0) else false)) rfl)) ?_
       rcases bcase (bif (x35.b == 0) then (x35.y == 0) else false) with hc131_8 | hc131_8
       ·
        refine FB.t (i := 9) (bs 33 1023) rfl (SP.nil S134.sl) (wF_yes rfl rfl rfl hc131_8) (fun w' hw' => (E.fieldAddr tf90_4 k128)) ?_
        refine FB.t (i := 10) (bs 33 2047) rfl (SP.nil S134.sl) (wF_yes rfl rfl rfl hc131_8) (fun w' hw' => (E.load rfl (run_load1 Tryz.isAgg3 ((at49.mono (i102.tr i115)).now hw') rfl))) ?_
        refine FB.t (i := 11) (bs 33 4095) rfl (SP.nil S134.sl) (wF_yes rfl rfl rfl hc131_8) (fun w' hw' => (E.fieldAddr tf32_0 k127)) ?_
        refine FB.t (i := 12) (bs 33 8191) rfl (SP.nil S134.sl) (wF_yes rfl rfl rfl hc131_8) (fun w' hw' => (E.load rfl (run_load1 Tryz.isAgg3 ((at28.mono ((i48.tr i102).tr i115)).now hw') rfl))) ?_
        refine FB.all1 (i := 13) (by kernel_rfl) ?_
        ·
         refine FC.call (l' := (bs 33 16383)) rfl (by kernel_rfl) (wF_yes rfl rfl rfl hc131_8) rfl rfl (E.call Tryz.call153 (A3 rfl rfl rfl)) (w_spec_l1In S134.sl x35.x 1 a1.vars) ?_
         rintro e w135 ⟨rfl, r136⟩
         refine ⟨_, rfl, ?_⟩
         have S137 := S134.call r136
         refine ⟨(SP.nil S137.sl), ?_⟩
         refine FB.t (i := 14) (bs 33 32767) rfl (SP.nil S137.sl) rfl (fun w' hw' => (E.asB (b := (bif (bif (x35.b == 0) then (x35.y == 0) else false) then (PF.spec_l1In x35.x 1 a1.vars) else false)) (E.pickT rfl hc131_8 rfl) (bifT hc131_8).symm)) ?_
         refine FB.t (i := 15) (bs 33 65535) rfl (SP.nil S137.sl) rfl (fun w' hw' => (E.move (v := Value.bool (bif (bif (x35.b == 0) then (x35.y == 0) else false) then (PF.spec_l1In x35.x 1 a1.vars) else false)) rfl)) ?_
         rcases ifB hqt131_31 with ⟨hc131_15, hqt131_31⟩ | ⟨hc131_15, hqt131_31⟩
         ·
          obtain ⟨x144, hx145, hqt131_31⟩ := bnd hqt131_31
          obtain ⟨r148, hr149, hqt131_31⟩ := bnd hqt131_31
          obtain ⟨r163, hr164, hqt131_31⟩ := bnd hqt131_31
          refine FB.t (i := 16) (bs 33 131071) rfl (SP.nil S137.sl) (wF_yes rfl rfl rfl hc131_15) (fun w' hw' => (E.fieldAddr tf90_1 k128)) ?_
          refine FB.t (i := 17) (bs 33 262143) rfl (SP.nil S137.sl) (wF_yes rfl rfl rfl hc131_15) (fun w' hw' => (E.load rfl (run_load1 Tryz.isAgg55 ((at49.mono (i102.tr i115)).now hw') rfl))) ?_
          refine FB.t (i := 18) (bs 33 524287) rfl (SP.nil S137.sl) (wF_yes rfl rfl rfl hc131_15) (fun w' hw' => (E.move k124)) ?_
          refine FB.t (i := 19) (bs 33 1048575) rfl (SP.nil S137.sl) (wF_yes rfl rfl rfl hc131_15) (fun w' hw' => (E.fieldAddr tf32_0 k127)) ?_
          refine FB.t (i := 20) (bs 33 2097151) rfl (SP.nil S137.sl) (wF_yes rfl rfl rfl hc131_15) (fun w' hw' => (E.load rfl (run_load1 Tryz.isAgg3 ((at28.mono ((i48.tr i102).tr i115)).now hw') rfl))) ?_
          refine FB.t (i := 21) (bs 33 4194303) rfl (SP.nil S137.sl) (wF_yes rfl rfl rfl hc131_15) (fun w' hw' => (E.move k125)) ?_
          refine FB.t (i := 22) (bs 33 8388607) rfl (SP.nil S137.sl) (wF_yes rfl rfl rfl hc131_15) (fun w' hw' => (E.fieldAddr tf90_2 k128)) ?_
          refine FB.t (i := 23) (bs 33 16777215) rfl (SP.nil S137.sl) (wF_yes rfl rfl rfl hc131_15) (fun w' hw' => (E.load rfl (run_load1 Tryz.isAgg3 ((at49.mono (i102.tr i115)).now hw') rfl))) ?_
          obtain ⟨p138, cs139, pt140, l141, at142, rel143⟩ := p2.at hx145
          obtain ⟨v146, rfl, h147⟩ := ePcStep_open rel143
          refine FB.t (i := 24) (bs 33 33554431) rfl (SP.nil S137.sl) (wF_yes rfl rfl rfl hc131_15) (fun w' hw' => (E.indexAddr te36 rfl rfl pt140)) ?_
          refine FB.t (i := 25) (bs 33 67108863) rfl (SP.nil S137.sl) (wF_yes rfl rfl rfl hc131_15) (fun w' hw' => (E.fieldAddr tf90_1 rfl)) ?_
          refine FB.t (i := 26) (bs 33 134217727) rfl (SP.nil S137.sl) (wF_yes rfl rfl rfl hc131_15) (fun w' hw' => (E.load rfl (run_load1 Tryz.isAgg55 ((at142.mono (((i27.tr i48).tr i102).tr i115)).now hw') rfl))) ?_
          refine FB.t (i := 27) (bs 33 268435455) rfl (SP.nil S137.sl) (wF_yes rfl rfl rfl hc131_15) (fun w' hw' => (E.fieldAddr tf90_4 k128)) ?_
          refine FB.t (i := 28) (bs 33 536870911) rfl (SP.nil S137.sl) (wF_yes rfl rfl rfl hc131_15) (fun w' hw' => (E.load rfl (run_load1 Tryz.isAgg3 ((at49.mono (i102.tr i115)).now hw') rfl))) ?_
          refine FB.all1 (i := 29) (by kernel_rfl) ?_
          ·
           refine FC.call (l' := (bs 33 1073741823)) rfl (by kernel_rfl) (wF_yes rfl rfl rfl hc131_15) rfl rfl (E.call Tryz.call158 (A4 rfl rfl rfl rfl)) (w_spec_l20Times S137.sl a0 a1.vars v146 x144.poly (h147.mono (((i27.tr i48).tr i102).tr i115)) x35.x hr149) ?_
           rintro e w151 ⟨H150, v154, n155, cs156, rfl, r153, els157⟩
           refine ⟨_, rfl, ?_⟩
           have els157 := els157.mono (up_le S137.size)
           have S152 := S137.join (l' := [.row 108 2 v154 n155 cs156]) r153 rfl
           refine ⟨(SP.nil (Sl.of_inc r153.run.inc S152.sl)), ?_⟩
           refine FB.all1 (i := 30) (by kernel_rfl) ?_
           ·
            obtain ⟨H158, S159, i160, h161, nv162⟩ := S152.sealRowU (i := 0) (l' := []) rfl els157 (by decide) rfl
            refine FC.call (l' := (bs 33 2147483647)) rfl (by kernel_rfl) (wF_yes rfl rfl rfl hc131_15) rfl rfl (E.call Tryz.call61 (A2 rfl rfl)) (w_spec_l20Same S159.sl v37 x35.poly (h38.mono (((((i27.tr i48).tr i102).tr i115).tr r153.run.inc).tr i160)) v154 r148 (h161.mono upI) hr164) ?_
            rintro e w165 ⟨rfl, r166⟩
            refine ⟨_, rfl, ?_⟩
            have r166 := Run.lend i160 S152.sl r166
            have S167 := S152.call r166
            refine ⟨(SP.nil (Sl.of_inc r153.run.inc S167.sl)), ?_⟩
            refine FB.t (i := 31) (bs 33 4294967295) rfl (SP.nil (Sl.of_inc r153.run.inc S167.sl)) rfl (fun w' hw' => (E.asB (E.pickT rfl hc131_15 rfl) (Option.some.inj hqt131_31))) ?_
            refine FB.t (i := 32) (bs 33 8589934591) rfl (SP.nil (Sl.of_inc r153.run.inc S167.sl)) rfl (fun w' hw' => (E.assign (v := Value.bool t131_31) rfl)) ?_
            exact FB.done (by kernel_rfl) ⟨_, (S167.sel [] (by decide) rfl), r153.run.inc, rfl⟩
         ·
          refine FB.skip (i := 16) (l' := (bs 33 131071)) rfl (by kernel_rfl) (by kernel_rfl) (by kernel_rfl) (by kernel_rfl) (by kernel_rfl) (SP.nil S137.sl) (wF_no rfl rfl rfl hc131_15) rfl rfl ?_
          refine FB.skip (i := 17) (l' := (bs 33 262143)) rfl (by kernel_rfl) (by kernel_rfl) (by kernel_rfl) (by kernel_rfl) (by kernel_rfl) (SP.nil S137.sl) (wF_no rfl rfl rfl hc131_15) rfl rfl ?_
          refine FB.skip (i := 18) (l' := (bs 33 524287)) rfl (by kernel_rfl) (by kernel_rfl) (by kernel_rfl) (by kernel_rfl) (by kernel_rfl) (SP.nil S137.sl) (wF_no rfl rfl rfl hc131_15) rfl rfl ?_
          refine FB.skip (i := 19) (l' := (bs 33 1048575)) rfl (by kernel_rfl) (by kernel_rfl) (by kernel_rfl) (by kernel_rfl) (by kernel_rfl) (SP.nil S137.sl) (wF_no rfl rfl rfl hc131_15) rfl rfl ?_
          refine FB.skip (i := 20) (l' := (bs 33 2097151)) rfl (by kernel_rfl) (by kernel_rfl) (by kernel_rfl) (by kernel_rfl) (by kernel_rfl) (SP.nil S137.sl) (wF_no rfl rfl rfl hc131_15) rfl rfl ?_
          refine FB.skip (i := 21) (l' := (bs 33 4194303)) rfl (by kernel_rfl) (by kernel_rfl) (by kernel_rfl) (by kernel_rfl) (by kernel_rfl) (SP.nil S137.sl) (wF_no rfl rfl rfl hc131_15) rfl rfl ?_
          refine FB.skip (i := 22) (l' := (bs 33 8388607)) rfl (by kernel_rfl) (by kernel_rfl) (by kernel_rfl) (by kernel_rfl) (by kernel_rfl) (SP.nil S137.sl) (wF_no rfl rfl rfl hc131_15) rfl rfl ?_
          refine FB.skip (i := 23) (l' := (bs 33 16777215)) rfl (by kernel_rfl) (by kernel_rfl) (by kernel_rfl) (by kernel_rfl) (by kernel_rfl) (SP.nil S137.sl) (wF_no rfl rfl rfl hc131_15) rfl rfl ?_
          refine FB.skip (i := 24) (l' := (bs 33 33554431)) rfl (by kernel_rfl) (by kernel_rfl) (by kernel_rfl) (by kernel_rfl) (by kernel_rfl) (SP.nil S137.sl) (wF_no rfl rfl rfl hc131_15) rfl rfl ?_
          refine FB.skip (i := 25) (l' := (bs 33 67108863)) rfl (by kernel_rfl) (by kernel_rfl) (by kernel_rfl) (by kernel_rfl) (by kernel_rfl) (SP.nil S137.sl) (wF_no rfl rfl rfl hc131_15) rfl rfl ?_
          refine FB.skip (i := 26) (l' := (bs 33 134217727)) rfl (by kernel_rfl) (by kernel_rfl) (by kernel_rfl) (by kernel_rfl) (by kernel_rfl) (SP.nil S137.sl) (wF_no rfl rfl rfl hc131_15) rfl rfl ?_
          refine FB.skip (i := 27) (l' := (bs 33 268435455)) rfl (by kernel_rfl) (by kernel_rfl) (by kernel_rfl) (by kernel_rfl) (by kernel_rfl) (SP.nil S137.sl) (wF_no rfl rfl rfl hc131_15) rfl rfl ?_
          refine FB.skip (i := 28) (l' := (bs 33 536870911)) rfl (by kernel_rfl) (by kernel_rfl) (by kernel_rfl) (by kernel_rfl) (by kernel_rfl) (SP.nil S137.sl) (wF_no rfl rfl rfl hc131_15) rfl rfl ?_
          refine FB.skip (i := 29) (l' := (bs 33 1073741823)) rfl (by kernel_rfl) (by kernel_rfl) (by kernel_rfl) (by kernel_rfl) (by kernel_rfl) (SP.nil S137.sl) (wF_no rfl rfl rfl hc131_15) rfl rfl ?_
          refine FB.skip (i := 30) (l' := (bs 33 2147483647)) rfl (by kernel_rfl) (by kernel_rfl) (by kernel_rfl) (by kernel_rfl) (by kernel_rfl) (SP.nil S137.sl) (wF_no rfl rfl rfl hc131_15) rfl rfl ?_
          refine FB.t (i := 31) (bs 33 4294967295) rfl (SP.nil S137.sl) rfl (fun w' hw' => (E.asB (E.pickF rfl hc131_15 rfl) (Option.some.inj hqt131_31))) ?_
          refine FB.t (i := 32) (bs 33 8589934591) rfl (SP.nil S137.sl) rfl (fun w' hw' => (E.assign (v := Value.bool t131_31) rfl)) ?_
          exact FB.done (by kernel_rfl) ⟨_, S137, (Inc.rfl _), rfl⟩
       ·
        refine FB.skip (i := 9) (l' := (bs 33 1023)) rfl (by kernel_rfl) (by kernel_rfl) (by kernel_rfl) (by kernel_rfl) (by kernel_rfl) (SP.nil S134.sl) (wF_no rfl rfl rfl hc131_8) rfl rfl ?_
        refine FB.skip (i := 10) (l' := (bs 33 2047)) rfl (by kernel_rfl) (by kernel_rfl) (by kernel_rfl) (by kernel_rfl) (by kernel_rfl) (SP.nil S134.sl) (wF_no rfl rfl rfl hc131_8) rfl rfl ?_
        refine FB.skip (i := 11) (l' := (bs 33 4095)) rfl (by kernel_rfl) (by kernel_rfl) (by kernel_rfl) (by kernel_rfl) (by kernel_rfl) (SP.nil S134.sl) (wF_no rfl rfl rfl hc131_8) rfl rfl ?_
        refine FB.skip (i := 12) (l' := (bs 33 8191)) rfl (by kernel_rfl) (by kernel_rfl) (by kernel_rfl) (by kernel_rfl) (by kernel_rfl) (SP.nil S134.sl) (wF_no rfl rfl rfl hc131_8) rfl rfl ?_
        refine FB.skip (i := 13) (l' := (bs 33 16383)) rfl (by kernel_rfl) (by kernel_rfl) (by kernel_rfl) (by kernel_rfl) (by kernel_rfl) (SP.nil S134.sl) (wF_no rfl rfl rfl hc131_8) rfl rfl ?_
        refine FB.t (i := 14) (bs 33 32767) rfl (SP.nil S134.sl) rfl (fun w' hw' => (E.asB (b := (bif (bif (x35.b == 0) then (x35.y == 0) else false) then (PF.spec_l1In x35.x 1 a1.vars) else false)) (E.pickF rfl hc131_8 rfl) (bifF hc131_8).symm)) ?_
        refine FB.t (i := 15) (bs 33 65535) rfl (SP.nil S134.sl) rfl (fun w' hw' => (E.move (v := Value.bool (bif (bif (x35.b == 0) then (x35.y == 0) else false) then (PF.spec_l1In x35.x 1 a1.vars) else false)) rfl)) ?_
        rcases ifB hqt131_31 with ⟨hc131_15, hqt131_31⟩ | ⟨hc131_15, hqt131_31⟩
        ·
         obtain ⟨x144, hx145, hqt131_31⟩ := bnd hqt131_31
         obtain ⟨r148, hr149, hqt131_31⟩ := bnd hqt131_31
         obtain ⟨r163, hr164, hqt131_31⟩ := bnd hqt131_31
         refine FB.t (i := 16) (bs 33 131071) rfl (SP.nil S134.sl) (wF_yes rfl rfl rfl hc131_15) (fun w' hw' => (E.fieldAddr tf90_1 k128)) ?_
         refine FB.t (i := 17) (bs 33 262143) rfl (SP.nil S134.sl) (wF_yes rfl rfl rfl hc131_15) (fun w' hw' => (E.load rfl (run_load1 Tryz.isAgg55 ((at49.mono (i102.tr i115)).now hw') rfl))) ?_
         refine FB.t (i := 18) (bs 33 524287) rfl (SP.nil S134.sl) (wF_yes rfl rfl rfl hc131_15) (fun w' hw' => (E.move k124)) ?_
         refine FB.t (i := 19) (bs 33 1048575) rfl (SP.nil S134.sl) (wF_yes rfl rfl rfl hc131_15) (fun w' hw' => (E.fieldAddr tf32_0 k127)) ?_
         refine FB.t (i := 20) (bs 33 2097151) rfl (SP.nil S134.sl) (wF_yes rfl rfl rfl hc131_15) (fun w' hw' => (E.load rfl (run_load1 Tryz.isAgg3 ((at28.mono ((i48.tr i102).tr i115)).now hw') rfl))) ?_
         refine FB.t (i := 21) (bs 33 4194303) rfl (SP.nil S134.sl) (wF_yes rfl rfl rfl hc131_15) (fun w' hw' => (E.move k125)) ?_
         refine FB.t (i := 22) (bs 33 8388607) rfl (SP.nil S134.sl) (wF_yes rfl rfl rfl hc131_15) (fun w' hw' => (E.fieldAddr tf90_2 k128)) ?_
         refine FB.t (i := 23) (bs 33 16777215) rfl (SP.nil S134.sl) (wF_yes rfl rfl rfl hc131_15) (fun w' hw' => (E.load rfl (run_load1 Tryz.isAgg3 ((at49.mono (i102.tr i115)).now hw') rfl))) ?_
         obtain ⟨p138, cs139, pt140, l141, at142, rel143⟩ := p2.at hx145
         obtain ⟨v146, rfl, h147⟩ := ePcStep_open rel143
         refine FB.t (i := 24) (bs 33 33554431) rfl (SP.nil S134.sl) (wF_yes rfl rfl rfl hc131_15) (fun w' hw' => (E.indexAddr te36 rfl rfl pt140)) ?_
         refine FB.t (i := 25) (bs 33 67108863) rfl (SP.nil S134.sl) (wF_yes rfl rfl rfl hc131_15) (fun w' hw' => (E.fieldAddr tf90_1 rfl)) ?_
         refine FB.t (i := 26) (bs 33 134217727) rfl (SP.nil S134.sl) (wF_yes rfl rfl rfl hc131_15) (fun w' hw' => (E.load rfl (run_load1 Tryz.isAgg55 ((at142.mono (((i27.tr i48).tr i102).tr i115)).now hw') rfl))) ?_
         refine FB.t (i := 27) (bs 33 268435455) rfl (SP.nil S134.sl) (wF_yes rfl rfl rfl hc131_15) (fun w' hw' => (E.fieldAddr tf90_4 k128)) ?_
         refine FB.t (i := 28) (bs 33 536870911) rfl (SP.nil S134.sl) (wF_yes rfl rfl rfl hc131_15) (fun w' hw' => (E.load rfl (run_load1 Tryz.isAgg3 ((at49.mono (i102.tr i115)).now hw') rfl))) ?_
         refine FB.all1 (i := 29) (by kernel_rfl) ?_
         ·
          refine FC.call (l' := (bs 33 1073741823)) rfl (by kernel_rfl) (wF_yes rfl rfl rfl hc131_15) rfl rfl (E.call Tryz.call158 (A4 rfl rfl rfl rfl)) (w_spec_l20Times S134.sl a0 a1.vars v146 x144.poly (h147.mono (((i27.tr i48).tr i102).tr i115)) x35.x hr149) ?_
          rintro e w151 ⟨H150, v154, n155, cs156, rfl, r153, els157⟩
          refine ⟨_, rfl, ?_⟩
          have els157 := els157.mono (up_le S134.size)
          have S152 := S134.join (l' := [.row 108 2 v154 n155 cs156]) r153 rfl
          refine ⟨(SP.nil (Sl.of_inc r153.run.inc S152.sl)), ?_⟩
          refine FB.all1 (i := 30) (by kernel_rfl) ?_
          ·
           obtain ⟨H158, S159, i160, h161, nv162⟩ := S152.sealRowU (i := 0) (l' := []) rfl els157 (by decide) rfl
           refine FC.call (l' := (bs 33 2147483647)) rfl (by kernel_rfl) (wF_yes rfl rfl rfl hc131_15) rfl rfl (E.call Tryz.call61 (A2 rfl rfl)) (w_spec_l20Same S159.sl v37 x35.poly (h38.mono (((((i27.tr i48).tr i102).tr i115).tr r153.run.inc).tr i160)) v154 r148 (h161.mono upI) hr164) ?_
           rintro e w165 ⟨rfl, r166⟩
           refine ⟨_, rfl, ?_⟩
           have r166 := Run.lend i160 S152.sl r166
           have S167 := S152.call r166
           refine ⟨(SP.nil (Sl.of_inc r153.run.inc S167.sl)), ?_⟩
           refine FB.t (i := 31) (bs 33 4294967295) rfl (SP.nil (Sl.of_inc r153.run.inc S167.sl)) rfl (fun w' hw' => (E.asB (E.pickT rfl hc131_15 rfl) (Option.some.inj hqt131_31))) ?_
           refine FB.t (i := 32) (bs 33 8589934591) rfl (SP.nil (Sl.of_inc r153.run.inc S167.sl)) rfl (fun w' hw' => (E.assign (v := Value.bool t131_31) rfl)) ?_
           exact FB.done (by kernel_rfl) ⟨_, (S167.sel [] (by decide) rfl), r153.run.inc, rfl⟩
        ·
         refine FB.skip (i := 16) (l' := (bs 33 131071)) rfl (by kernel_rfl) (by kernel_rfl) (by kernel_rfl) (by kernel_rfl) (by kernel_rfl) (SP.nil S134.sl) (wF_no rfl rfl rfl hc131_15) rfl rfl ?_
         refine FB.skip (i := 17) (l' := (bs 33 262143)) rfl (by kernel_rfl) (by kernel_rfl) (by kernel_rfl) (by kernel_rfl) (by kernel_rfl) (SP.nil S134.sl) (wF_no rfl rfl rfl hc131_15) rfl rfl ?_
         refine FB.skip (i := 18) (l' := (bs 33 524287)) rfl (by kernel_rfl) (by kernel_rfl) (by kernel_rfl) (by kernel_rfl) (by kernel_rfl) (SP.nil S134.sl) (wF_no rfl rfl rfl hc131_15) rfl rfl ?_
         refine FB.skip (i := 19) (l' := (bs 33 1048575)) rfl (by kernel_rfl) (by kernel_rfl) (by kernel_rfl) (by kernel_rfl) (by kernel_rfl) (SP.nil S134.sl) (wF_no rfl rfl rfl hc131_15) rfl rfl ?_
         refine FB.skip (i := 20) (l' := (bs 33 2097151)) rfl (by kernel_rfl) (by kernel_rfl) (by kernel_rfl) (by kernel_rfl) (by kernel_rfl) (SP.nil S134.sl) (wF_no rfl rfl rfl hc131_15) rfl rfl ?_
         refine FB.skip (i := 21) (l' := (bs 33 4194303)) rfl (by kernel_rfl) (by kernel_rfl) (by kernel_rfl) (by kernel_rfl) (by kernel_rfl) (SP.nil S134.sl) (wF_no rfl rfl rfl hc131_15) rfl rfl ?_
         refine FB.skip (i := 22) (l' := (bs 33 8388607)) rfl (by kernel_rfl) (by kernel_rfl) (by kernel_rfl) (by kernel_rfl) (by kernel_rfl) (SP.nil S134.sl) (wF_no rfl rfl rfl hc131_15) rfl rfl ?_
         refine FB.skip (i := 23) (l' := (bs 33 16777215)) rfl (by kernel_rfl) (by kernel_rfl) (by kernel_rfl) (by kernel_rfl) (by kernel_rfl) (SP.nil S134.sl) (wF_no rfl rfl rfl hc131_15) rfl rfl ?_
         refine FB.skip (i := 24) (l' := (bs 33 33554431)) rfl (by kernel_rfl) (by kernel_rfl) (by kernel_rfl) (by kernel_rfl) (by kernel_rfl) (SP.nil S134.sl) (wF_no rfl rfl rfl hc131_15) rfl rfl ?_
         refine FB.skip (i := 25) (l' := (bs 33 67108863)) rfl (by kernel_rfl) (by kernel_rfl) (by kernel_rfl) (by kernel_rfl) (by kernel_rfl) (SP.nil S134.sl) (wF_no rfl rfl rfl hc131_15) rfl rfl ?_
         refine FB.skip (i := 26) (l' := (bs 33 134217727)) rfl (by kernel_rfl) (by kernel_rfl) (by kernel_rfl) (by kernel_rfl) (by kernel_rfl) (SP.nil S134.sl) (wF_no rfl rfl rfl hc131_15) rfl rfl ?_
         refine FB.skip (i := 27) (l' := (bs 33 268435455)) rfl (by kernel_rfl) (by kernel_rfl) (by kernel_rfl) (by kernel_rfl) (by kernel_rfl) (SP.nil S134.sl) (wF_no rfl rfl rfl hc131_15) rfl rfl ?_
         refine FB.skip (i := 28) (l' := (bs 33 536870911)) rfl (by kernel_rfl) (by kernel_rfl) (by kernel_rfl) (by kernel_rfl) (by kernel_rfl) (SP.nil S134.sl) (wF_no rfl rfl rfl hc131_15) rfl rfl ?_
         refine FB.skip (i := 29) (l' := (bs 33 1073741823)) rfl (by kernel_rfl) (by kernel_rfl) (by kernel_rfl) (by kernel_rfl) (by kernel_rfl) (SP.nil S134.sl) (wF_no rfl rfl rfl hc131_15) rfl rfl ?_
         refine FB.skip (i := 30) (l' := (bs 33 2147483647)) rfl (by kernel_rfl) (by kernel_rfl) (by kernel_rfl) (by kernel_rfl) (by kernel_rfl) (SP.nil S134.sl) (wF_no rfl rfl rfl hc131_15) rfl rfl ?_
         refine FB.t (i := 31) (bs 33 4294967295) rfl (SP.nil S134.sl) rfl (fun w' hw' => (E.asB (E.pickF rfl hc131_15 rfl) (Option.some.inj hqt131_31))) ?_
         refine FB.t (i := 32) (bs 33 8589934591) rfl (SP.nil S134.sl) rfl (fun w' hw' => (E.assign (v := Value.bool t131_31) rfl)) ?_
         exact FB.done (by kernel_rfl) ⟨_, S134, (Inc.rfl _), rfl⟩
      ·
       refine FB.skip (i := 4) (l' := (bs 33 31)) rfl (by kernel_rfl) (by kernel_rfl) (by kernel_rfl) (by kernel_rfl) (by kernel_rfl) (SP.nil S134.sl) (wF_no rfl rfl rfl hc131_3) rfl rfl ?_
       refine FB.skip (i := 5) (l' := (bs 33 63)) rfl (by kernel_rfl) (by kernel_rfl) (by kernel_rfl) (by kernel_rfl) (by kernel_rfl) (SP.nil S134.sl) (wF_no rfl rfl rfl hc131_3) rfl rfl ?_
       refine FB.skip (i := 6) (l' := (bs 33 127)) rfl (by kernel_rfl) (by kernel_rfl) (by kernel_rfl) (by kernel_rfl) (by kernel_rfl) (SP.nil S134.sl) (wF_no rfl rfl rfl hc131_3) rfl rfl ?_
       refine FB.t (i := 7) (bs 33 255) rfl (SP.nil S134.sl) rfl (fun w' hw' => (E.asB (b := (bif (x35.b == 0) then (x35.y == 0) else false)) (E.pickF rfl hc131_3 rfl) (bifF hc131_3).symm)) ?_
       refine FB.t (i := 8) (bs 33 511) rfl (SP.nil S134.sl) rfl (fun w' hw' => (E.move (v := Value.bool (bif (x35.b == 0) then (x35.y == 0) else false)) rfl)) ?_
       rcases bcase (bif (x35.b == 0) then (x35.y == 0) else false) with hc131_8 | hc131_8
       ·
        refine FB.t (i := 9) (bs 33 1023) rfl (SP.nil S134.sl) (wF_yes rfl rfl rfl hc131_8) (fun w' hw' => (E.fieldAddr tf90_4 k128)) ?_
        refine FB.t (i := 10) (bs 33 2047) rfl (SP.nil S134.sl) (wF_yes rfl rfl rfl hc131_8) (fun w' hw' => (E.load rfl (run_load1 Tryz.isAgg3 ((at49.mono (i102.tr i115)).now hw') rfl))) ?_
        refine FB.t (i := 11) (bs 33 4095) rfl (SP.nil S134.sl) (wF_yes rfl rfl rfl hc131_8) (fun w' hw' => (E.fieldAddr tf32_0 k127)) ?_
        refine FB.t (i := 12) (bs 33 8191) rfl (SP.nil S134.sl) (wF_yes rfl rfl rfl hc131_8) (fun w' hw' => (E.load rfl (run_load1 Tryz.isAgg3 ((at28.mono ((i48.tr i102).tr i115)).now hw') rfl))) ?_
        refine FB.all1 (i := 13) (by kernel_rfl) ?_
        ·
         refine FC.call (l' := (bs 33 16383)) rfl (by kernel_rfl) (wF_yes rfl rfl rfl hc131_8) rfl rfl (E.call Tryz.call153 (A3 rfl rfl rfl)) (w_spec_l1In S134.sl x35.x 1 a1.vars) ?_
         rintro e w135 ⟨rfl, r136⟩
         refine ⟨_, rfl, ?_⟩
         have S137 := S134.call r136
         refine ⟨(SP.nil S137.sl), ?_⟩
         refine FB.t (i := 14) (bs 33 32767) rfl (SP.nil S137.sl) rfl (fun w' hw' => (E.asB (b := (bif (bif (x35.b == 0) then (x35.y == 0) else false) then (PF.spec_l1In x35.x 1 a1.vars) else false)) (E.pickT rfl hc131_8 rfl) (bifT hc131_8).symm)) ?_
         refine FB.t (i := 15) (bs 33 65535) rfl (SP.nil S137.sl) rfl (fun w' hw' => (E.move (v := Value.bool (bif (bif (x35.b == 0) then (x35.y == 0) else false) then (PF.spec_l1In x35.x 1 a1.vars) else false)) rfl)) ?_
         rcases ifB hqt131_31 with ⟨hc131_15, hqt131_31⟩ | ⟨hc131_15, hqt131_31⟩
         ·
          obtain ⟨x144, hx145, hqt131_31⟩ := bnd hqt131_31
          obtain ⟨r148, hr149, hqt131_31⟩ := bnd hqt131_31
          obtain ⟨r163, hr164, hqt131_31⟩ := bnd hqt131_31
          refine FB.t (i := 16) (bs 33 131071) rfl (SP.nil S137.sl) (wF_yes rfl rfl rfl hc131_15) (fun w' hw' => (E.fieldAddr tf90_1 k128)) ?_
          refine FB.t (i := 17) (bs 33 262143) rfl (SP.nil S137.sl) (wF_yes rfl rfl rfl hc131_15) (fun w' hw' => (E.load rfl (run_load1 Tryz.isAgg55 ((at49.mono (i102.tr i115)).now hw') rfl))) ?_
          refine FB.t (i := 18) (bs 33 524287) rfl (SP.nil S137.sl) (wF_yes rfl rfl rfl hc131_15) (fun w' hw' => (E.move k124)) ?_
          refine FB.t (i := 19) (bs 33 1048575) rfl (SP.nil S137.sl) (wF_yes rfl rfl rfl hc131_15) (fun w' hw' => (E.fieldAddr tf32_0 k127)) ?_
          refine FB.t (i := 20) (bs 33 2097151) rfl (SP.nil S137.sl) (wF_yes rfl rfl rfl hc131_15) (fun w' hw' => (E.load rfl (run_load1 Tryz.isAgg3 ((at28.mono ((i48.tr i102).tr i115)).now hw') rfl))) ?_
          refine FB.t (i := 21) (bs 33 4194303) rfl (SP.nil S137.sl) (wF_yes rfl rfl rfl hc131_15) (fun w' hw' => (E.move k125)) ?_
          refine FB.t (i := 22) (bs 33 8388607) rfl (SP.nil S137.sl) (wF_yes rfl rfl rfl hc131_15) (fun w' hw' => (E.fieldAddr tf90_2 k128)) ?_
          refine FB.t (i := 23) (bs 33 16777215) rfl (SP.nil S137.sl) (wF_yes rfl rfl rfl hc131_15) (fun w' hw' => (E.load rfl (run_load1 Tryz.isAgg3 ((at49.mono (i102.tr i115)).now hw') rfl))) ?_
          obtain ⟨p138, cs139, pt140, l141, at142, rel143⟩ := p2.at hx145
          obtain ⟨v146, rfl, h147⟩ := ePcStep_open rel143
          refine FB.t (i := 24) (bs 33 33554431) rfl (SP.nil S137.sl) (wF_yes rfl rfl rfl hc131_15) (fun w' hw' => (E.indexAddr te36 rfl rfl pt140)) ?_
          refine FB.t (i := 25) (bs 33 67108863) rfl (SP.nil S137.sl) (wF_yes rfl rfl rfl hc131_15) (fun w' hw' => (E.fieldAddr tf90_1 rfl)) ?_
          refine FB.t (i := 26) (bs 33 134217727) rfl (SP.nil S137.sl) (wF_yes rfl rfl rfl hc131_15) (fun w' hw' => (E.load rfl (run_load1 Tryz.isAgg55 ((at142.mono (((i27.tr i48).tr i102).tr i115)).now hw') rfl))) ?_
          refine FB.t (i := 27) (bs 33 268435455) rfl (SP.nil S137.sl) (wF_yes rfl rfl rfl hc131_15) (fun w' hw' => (E.fieldAddr tf90_4 k128)) ?_
          refine FB.t (i := 28) (bs 33 536870911) rfl (SP.nil S137.sl) (wF_yes rfl rfl rfl hc131_15) (fun w' hw' => (E.load rfl (run_load1 Tryz.isAgg3 ((at49.mono (i102.tr i115)).now hw') rfl))) ?_
          refine FB.all1 (i := 29) (by kernel_rfl) ?_
          ·
           refine FC.call (l' := (bs 33 1073741823)) rfl (by kernel_rfl) (wF_yes rfl rfl rfl hc131_15) rfl rfl (E.call Tryz.call158 (A4 rfl rfl rfl rfl)) (w_spec_l20Times S137.sl a0 a1.vars v146 x144.poly (h147.mono (((i27.tr i48).tr i102).tr i115)) x35.x hr149) ?_
           rintro e w151 ⟨H150, v154, n155, cs156, rfl, r153, els157⟩
           refine ⟨_, rfl, ?_⟩
           have els157 := els157.mono (up_le S137.size)
           have S152 := S137.join (l' := [.row 108 2 v154 n155 cs156]) r153 rfl
           refine ⟨(SP.nil (Sl.of_inc r153.run.inc S152.sl)), ?_⟩
           refine FB.all1 (i := 30) (by kernel_rfl) ?_
           ·
            obtain ⟨H158, S159, i160, h161, nv162⟩ := S152.sealRowU (i := 0) (l' := []) rfl els157 (by decide) rfl
            refine FC.call (l' := (bs 33 2147483647)) rfl (by kernel_rfl) (wF_yes rfl rfl rfl hc131_15) rfl rfl (E.call Tryz.call61 (A2 rfl rfl)) (w_spec_l20Same S159.sl v37 x35.poly (h38.mono (((((i27.tr i48).tr i102).tr i115).tr r153.run.inc).tr i160)) v154 r148 (h161.mono upI) hr164) ?_
            rintro e w165 ⟨rfl, r166⟩
            refine ⟨_, rfl, ?_⟩
            have r166 := Run.lend i160 S152.sl r166
            have S167 := S152.call r166
            refine ⟨(SP.nil (Sl.of_inc r153.run.inc S167.sl)), ?_⟩
            refine FB.t (i := 31) (bs 33 4294967295) rfl (SP.nil (Sl.of_inc r153.run.inc S167.sl)) rfl (fun w' hw' => (E.asB (E.pickT rfl hc131_15 rfl) (Option.some.inj hqt131_31))) ?_
            refine FB.t (i := 32) (bs 33 8589934591) rfl (SP.nil (Sl.of_inc r153.run.inc S167.sl)) rfl (fun w' hw' => (E.assign (v := Value.bool t131_31) rfl)) ?_
            exact FB.done (by kernel_rfl) ⟨_, (S167.sel [] (by decide) rfl), r153.run.inc, rfl⟩
         ·
          refine FB.skip (i := 16) (l' := (bs 33 131071)) rfl (by kernel_rfl) (by kernel_rfl) (by kernel_rfl) (by kernel_rfl) (by kernel_rfl) (SP.nil S137.sl) (wF_no rfl rfl rfl hc131_15) rfl rfl ?_
          refine FB.skip (i := 17) (l' := (bs 33 262143)) rfl (by kernel_rfl) (by kernel_rfl) (by kernel_rfl) (by kernel_rfl) (by kernel_rfl) (SP.nil S137.sl) (wF_no rfl rfl rfl hc131_15) rfl rfl ?_
          refine FB.skip (i := 18) (l' := (bs 33 524287)) rfl (by kernel_rfl) (by kernel_rfl) (by kernel_rfl) (by kernel_rfl) (by kernel_rfl) (SP.nil S137.sl) (wF_no rfl rfl rfl hc131_15) rfl rfl ?_
          refine FB.skip (i := 19) (l' := (bs 33 1048575)) rfl (by kernel_rfl) (by kernel_rfl) (by kernel_rfl) (by kernel_rfl) (by kernel_rfl) (SP.nil S137.sl) (wF_no rfl rfl rfl hc131_15) rfl rfl ?_
          refine FB.skip (i := 20) (l' := (bs 33 2097151)) rfl (by kernel_rfl) (by kernel_rfl) (by kernel_rfl) (by kernel_rfl) (by kernel_rfl) (SP.nil S137.sl) (wF_no rfl rfl rfl hc131_15) rfl rfl ?_
          refine FB.skip (i := 21) (l' := (bs 33 4194303)) rfl (by kernel_rfl) (by kernel_rfl) (by kernel_rfl) (by kernel_rfl) (by kernel_rfl) (SP.nil S137.sl) (wF_no rfl rfl rfl hc131_15) rfl rfl ?_
          refine FB.skip (i := 22) (l' := (bs 33 8388607)) rfl (by kernel_rfl) (by kernel_rfl) (by kernel_rfl) (by kernel_rfl) (by kernel_rfl) (SP.nil S137.sl) (wF_no rfl rfl rfl hc131_15) rfl rfl ?_
          refine FB.skip (i := 23) (l' := (bs 33 16777215)) rfl (by kernel_rfl) (by kernel_rfl) (by kernel_rfl) (by kernel_rfl) (by kernel_rfl) (SP.nil S137.sl) (wF_no rfl rfl rfl hc131_15) rfl rfl ?_
          refine FB.skip (i := 24) (l' := (bs 33 33554431)) rfl (by kernel_rfl) (by kernel_rfl) (by kernel_rfl) (by kernel_rfl) (by kernel_rfl) (SP.nil S137.sl) (wF_no rfl rfl rfl hc131_15) rfl rfl ?_
          refine FB.skip (i := 25) (l' := (bs 33 67108863)) rfl (by kernel_rfl) (by kernel_rfl) (by kernel_rfl) (by kernel_rfl) (by kernel_rfl) (SP.nil S137.sl) (wF_no rfl rfl rfl hc131_15) rfl rfl ?_
          refine FB.skip (i := 26) (l' := (bs 33 134217727)) rfl (by kernel_rfl) (by kernel_rfl) (by kernel_rfl) (by kernel_rfl) (by kernel_rfl) (SP.nil S137.sl) (wF_no rfl rfl rfl hc131_15) rfl rfl ?_
          refine FB.skip (i := 27) (l' := (bs 33 268435455)) rfl (by kernel_rfl) (by kernel_rfl) (by kernel_rfl) (by kernel_rfl) (by kernel_rfl) (SP.nil S137.sl) (wF_no rfl rfl rfl hc131_15) rfl rfl ?_
          refine FB.skip (i := 28) (l' := (bs 33 536870911)) rfl (by kernel_rfl) (by kernel_rfl) (by kernel_rfl) (by kernel_rfl) (by kernel_rfl) (SP.nil S137.sl) (wF_no rfl rfl rfl hc131_15) rfl rfl ?_
          refine FB.skip (i := 29) (l' := (bs 33 1073741823)) rfl (by kernel_rfl) (by kernel_rfl) (by kernel_rfl) (by kernel_rfl) (by kernel_rfl) (SP.nil S137.sl) (wF_no rfl rfl rfl hc131_15) rfl rfl ?_
          refine FB.skip (i := 30) (l' := (bs 33 2147483647)) rfl (by kernel_rfl) (by kernel_rfl) (by kernel_rfl) (by kernel_rfl) (by kernel_rfl) (SP.nil S137.sl) (wF_no rfl rfl rfl hc131_15) rfl rfl ?_
          refine FB.t (i := 31) (bs 33 4294967295) rfl (SP.nil S137.sl) rfl (fun w' hw' => (E.asB (E.pickF rfl hc131_15 rfl) (Option.some.inj hqt131_31))) ?_
          refine FB.t (i := 32) (bs 33 8589934591) rfl (SP.nil S137.sl) rfl (fun w' hw' => (E.assign (v := Value.bool t131_31) rfl)) ?_
          exact FB.done (by kernel_rfl) ⟨_, S137, (Inc.rfl _), rfl⟩
       ·
        refine FB.skip (i := 9) (l' := (bs 33 1023)) rfl (by kernel_rfl) (by kernel_rfl) (by kernel_rfl) (by kernel_rfl) (by kernel_rfl) (SP.nil S134.sl) (wF_no rfl rfl rfl hc131_8) rfl rfl ?_
        refine FB.skip (i := 10) (l' := (bs 33 2047)) rfl (by kernel_rfl) (by kernel_rfl) (by kernel_rfl) (by kernel_rfl) (by kernel_rfl) (SP.nil S134.sl) (wF_no rfl rfl rfl hc131_8) rfl rfl ?_
        refine FB.skip (i := 11) (l' := (bs 33 4095)) rfl (by kernel_rfl) (by kernel_rfl) (by kernel_rfl) (by kernel_rfl) (by kernel_rfl) (SP.nil S134.sl) (wF_no rfl rfl rfl hc131_8) rfl rfl ?_
        refine FB.skip (i := 12) (l' := (bs 33 8191)) rfl (by kernel_rfl) (by kernel_rfl) (by kernel_rfl) (by kernel_rfl) (by kernel_rfl) (SP.nil S134.sl) (wF_no rfl rfl rfl hc131_8) rfl rfl ?_
        refine FB.skip (i := 13) (l' := (bs 33 16383)) rfl (by kernel_rfl) (by kernel_rfl) (by kernel_rfl) (by kernel_rfl) (by kernel_rfl) (SP.nil S134.sl) (wF_no rfl rfl rfl hc131_8) rfl rfl ?_
        refine FB.t (i := 14) (bs 33 32767) rfl (SP.nil S134.sl) rfl (fun w' hw' => (E.asB (b := (bif (bif (x35.b == 0) then (x35.y == 0) else false) then (PF.spec_l1In x35.x 1 a1.vars) else false)) (E.pickF rfl hc131_8 rfl) (bifF hc131_8).symm)) ?_
        refine FB.t (i := 15) (bs 33 65535) rfl (SP.nil S134.sl) rfl (fun w' hw' => (E.move (v := Value.bool (bif (bif (x35.b == 0) then (x35.y == 0) else false) then (PF.spec_l1In x35.x 1 a1.vars) else false)) rfl)) ?_
        rcases ifB hqt131_31 with ⟨hc131_15, hqt131_31⟩ | ⟨hc131_15, hqt131_31⟩
        ·
         obtain ⟨x144, hx145, hqt131_31⟩ := bnd hqt131_31
         obtain ⟨r148, hr149, hqt131_31⟩ := bnd hqt131_31
         obtain ⟨r163, hr164, hqt131_31⟩ := bnd hqt131_31
         refine FB.t (i := 16) (bs 33 131071) rfl (SP.nil S134.sl) (wF_yes rfl rfl rfl hc131_15) (fun w' hw' => (E.fieldAddr tf90_1 k128)) ?_
         refine FB.t (i := 17) (bs 33 262143) rfl (SP.nil S134.sl) (wF_yes rfl rfl rfl hc131_15) (fun w' hw' => (E.load rfl (run_load1 Tryz.isAgg55 ((at49.mono (i102.tr i115)).now hw') rfl))) ?_
         refine FB.t (i := 18) (bs 33 524287) rfl (SP.nil S134.sl) (wF_yes rfl rfl rfl hc131_15) (fun w' hw' => (E.move k124)) ?_
         refine FB.t (i := 19) (bs 33 1048575) rfl (SP.nil S134.sl) (wF_yes rfl rfl rfl hc131_15) (fun w' hw' => (E.fieldAddr tf32_0 k127)) ?_
         refine FB.t (i := 20) (bs 33 2097151) rfl (SP.nil S134.sl) (wF_yes rfl rfl rfl hc131_15) (fun w' hw' => (E.load rfl (run_load1 Tryz.isAgg3 ((at28.mono ((i48.tr i102).tr i115)).now hw') rfl))) ?_
         refine FB.t (i := 21) (bs 33 4194303) rfl (SP.nil S134.sl) (wF_yes rfl rfl rfl hc131_15) (fun w' hw' => (E.move k125)) ?_
         refine FB.t (i := 22) (bs 33 8388607) rfl (SP.nil S134.sl) (wF_yes rfl rfl rfl hc131_15) (fun w' hw' => (E.fieldAddr tf90_2 k128)) ?_
         refine FB.t (i := 23) (bs 33 16777215) rfl (SP.nil S134.sl) (wF_yes rfl rfl rfl hc131_15) (fun w' hw' => (E.load rfl (run_load1 Tryz.isAgg3 ((at49.mono (i102.tr i115)).now hw') rfl))) ?_
         obtain ⟨p138, cs139, pt140, l141, at142, rel143⟩ := p2.at hx145
         obtain ⟨v146, rfl, h147⟩ := ePcStep_open rel143
         refine FB.t (i := 24) (bs 33 33554431) rfl (SP.nil S134.sl) (wF_yes rfl rfl rfl hc131_15) (fun w' hw' => (E.indexAddr te36 rfl rfl pt140)) ?_
         refine FB.t (i := 25) (bs 33 67108863) rfl (SP.nil S134.sl) (wF_yes rfl rfl rfl hc131_15) (fun w' hw' => (E.fieldAddr tf90_1 rfl)) ?_
         refine FB.t (i := 26) (bs 33 134217727) rfl (SP.nil S134.sl) (wF_yes rfl rfl rfl hc131_15) (fun w' hw' => (E.load rfl (run_load1 Tryz.isAgg55 ((at142.mono (((i27.tr i48).tr i102).tr i115)).now hw') rfl))) ?_
         refine FB.t (i := 27) (bs 33 268435455) rfl (SP.nil S134.sl) (wF_yes rfl rfl rfl hc131_15) (fun w' hw' => (E.fieldAddr tf90_4 k128)) ?_
         refine FB.t (i := 28) (bs 33 536870911) rfl (SP.nil S134.sl) (wF_yes rfl rfl rfl hc131_15) (fun w' hw' => (E.load rfl (run_load1 Tryz.isAgg3 ((at49.mono (i102.tr i115)).now hw') rfl))) ?_
         refine FB.all1 (i := 29) (by kernel_rfl) ?_
         ·
          refine FC.call (l' := (bs 33 1073741823)) rfl (by kernel_rfl) (wF_yes rfl rfl rfl hc131_15) rfl rfl (E.call Tryz.call158 (A4 rfl rfl rfl rfl)) (w_spec_l20Times S134.sl a0 a1.vars v146 x144.poly (h147.mono (((i27.tr i48).tr i102).tr i115)) x35.x hr149) ?_
          rintro e w151 ⟨H150, v154, n155, cs156, rfl, r153, els157⟩
          refine ⟨_, rfl, ?_⟩
          have els157 := els157.mono (up_le S134.size)
          have S152 := S134.join (l' := [.row 108 2 v154 n155 cs156]) r153 rfl
          refine ⟨(SP.nil (Sl.of_inc r153.run.inc S152.sl)), ?_⟩
          refine FB.all1 (i := 30) (by kernel_rfl) ?_
          ·
           obtain ⟨H158, S159, i160, h161, nv162⟩ := S152.sealRowU (i := 0) (l' := []) rfl els157 (by decide) rfl
           refine FC.call (l' := (bs 33 2147483647)) rfl (by kernel_rfl) (wF_yes rfl rfl rfl hc131_15) rfl rfl (E.call Tryz.call61 (A2 rfl rfl)) (w_spec_l20Same S159.sl v37 x35.poly (h38.mono (((((i27.tr i48).tr i102).tr i115).tr r153.run.inc).tr i160)) v154 r148 (h161.mono upI) hr164) ?_
           rintro e w165 ⟨rfl, r166⟩
           refine ⟨_, rfl, ?_⟩
           have r166 := Run.lend i160 S152.sl r166
           have S167 := S152.call r166
           refine ⟨(SP.nil (Sl.of_inc r153.run.inc S167.sl)), ?_⟩
           refine FB.t (i := 31) (bs 33 4294967295) rfl (SP.nil (Sl.of_inc r153.run.inc S167.sl)) rfl (fun w' hw' => (E.asB (E.pickT rfl hc131_15 rfl) (Option.some.inj hqt131_31))) ?_
           refine FB.t (i := 32) (bs 33 8589934591) rfl (SP.nil (Sl.of_inc r153.run.inc S167.sl)) rfl (fun w' hw' => (E.assign (v := Value.bool t131_31) rfl)) ?_
           exact FB.done (by kernel_rfl) ⟨_, (S167.sel [] (by decide) rfl), r153.run.inc, rfl⟩
        ·
         refine FB.skip (i := 16) (l' := (bs 33 131071)) rfl (by kernel_rfl) (by kernel_rfl) (by kernel_rfl) (by kernel_rfl) (by kernel_rfl) (SP.nil S134.sl) (wF_no rfl rfl rfl hc131_15) rfl rfl ?_
         refine FB.skip (i := 17) (l' := (bs 33 262143)) rfl (by kernel_rfl) (by kernel_rfl) (by kernel_rfl) (by kernel_rfl) (by kernel_rfl) (SP.nil S134.sl) (wF_no rfl rfl rfl hc131_15) rfl rfl ?_
         refine FB.skip (i := 18) (l' := (bs 33 524287)) rfl (by kernel_rfl) (by kernel_rfl) (by kernel_rfl) (by kernel_rfl) (by kernel_rfl) (SP.nil S134.sl) (wF_no rfl rfl rfl hc131_15) rfl rfl ?_
         refine FB.skip (i := 19) (l' := (bs 33 1048575)) rfl (by kernel_rfl) (by kernel_rfl) (by kernel_rfl) (by kernel_rfl) (by kernel_rfl) (SP.nil S134.sl) (wF_no rfl rfl rfl hc131_15) rfl rfl ?_
         refine FB.skip (i := 20) (l' := (bs 33 2097151)) rfl (by kernel_rfl) (by kernel_rfl) (by kernel_rfl) (by kernel_rfl) (by kernel_rfl) (SP.nil S134.sl) (wF_no rfl rfl rfl hc131_15) rfl rfl ?_
         refine FB.skip (i := 21) (l' := (bs 33 4194303)) rfl (by kernel_rfl) (by kernel_rfl) (by kernel_rfl) (by kernel_rfl) (by kernel_rfl) (SP.nil S134.sl) (wF_no rfl rfl rfl hc131_15) rfl rfl ?_
         refine FB.skip (i := 22) (l' := (bs 33 8388607)) rfl (by kernel_rfl) (by kernel_rfl) (by kernel_rfl) (by kernel_rfl) (by kernel_rfl) (SP.nil S134.sl) (wF_no rfl rfl rfl hc131_15) rfl rfl ?_
         refine FB.skip (i := 23) (l' := (bs 33 16777215)) rfl (by kernel_rfl) (by kernel_rfl) (by kernel_rfl) (by kernel_rfl) (by kernel_rfl) (SP.nil S134.sl) (wF_no rfl rfl rfl hc131_15) rfl rfl ?_
         refine FB.skip (i := 24) (l' := (bs 33 33554431)) rfl (by kernel_rfl) (by kernel_rfl) (by kernel_rfl) (by kernel_rfl) (by kernel_rfl) (SP.nil S134.sl) (wF_no rfl rfl rfl hc131_15) rfl rfl ?_
         refine FB.skip (i := 25) (l' := (bs 33 67108863)) rfl (by kernel_rfl) (by kernel_rfl) (by kernel_rfl) (by kernel_rfl) (by kernel_rfl) (SP.nil S134.sl) (wF_no rfl rfl rfl hc131_15) rfl rfl ?_
         refine FB.skip (i := 26) (l' := (bs 33 134217727)) rfl (by kernel_rfl) (by kernel_rfl) (by kernel_rfl) (by kernel_rfl) (by kernel_rfl) (SP.nil S134.sl) (wF_no rfl rfl rfl hc131_15) rfl rfl ?_
         refine FB.skip (i := 27) (l' := (bs 33 268435455)) rfl (by kernel_rfl) (by kernel_rfl) (by kernel_rfl) (by kernel_rfl) (by kernel_rfl) (SP.nil S134.sl) (wF_no rfl rfl rfl hc131_15) rfl rfl ?_
         refine FB.skip (i := 28) (l' := (bs 33 536870911)) rfl (by kernel_rfl) (by kernel_rfl) (by kernel_rfl) (by kernel_rfl) (by kernel_rfl) (SP.nil S134.sl) (wF_no rfl rfl rfl hc131_15) rfl rfl ?_
         refine FB.skip (i := 29) (l' := (bs 33 1073741823)) rfl (by kernel_rfl) (by kernel_rfl) (by kernel_rfl) (by kernel_rfl) (by kernel_rfl) (SP.nil S134.sl) (wF_no rfl rfl rfl hc131_15) rfl rfl ?_
         refine FB.skip (i := 30) (l' := (bs 33 2147483647)) rfl (by kernel_rfl) (by kernel_rfl) (by kernel_rfl) (by kernel_rfl) (by kernel_rfl) (SP.nil S134.sl) (wF_no rfl rfl rfl hc131_15) rfl rfl ?_
         refine FB.t (i := 31) (bs 33 4294967295) rfl (SP.nil S134.sl) rfl (fun w' hw' => (E.asB (E.pickF rfl hc131_15 rfl) (Option.some.inj hqt131_31))) ?_
         refine FB.t (i := 32) (bs 33 8589934591) rfl (SP.nil S134.sl) rfl (fun w' hw' => (E.assign (v := Value.bool t131_31) rfl)) ?_
         exact FB.done (by kernel_rfl) ⟨_, S134, (Inc.rfl _), rfl⟩
     ·
      rintro f172 w171 ⟨H168, S169, i170, k173⟩
      refine FW.ret ?_
      obtain rfl := Option.some.inj hp
      exact ⟨.inr rfl, res1 rfl k173 ⟨rfl, S169.back⟩⟩
    ·
     refine FW.condF rfl c131 ?_
     refine FW.skip (FW.seq (FW.seq (FW.region ?_)))
     refine FL.v (E.move k124) ?_
     refine FL.v (E.load k127 (run_loadA Tryz.isAgg32 Tryz.sizeOf32 ((at28.mono ((i48.tr i102).tr i115)).now S114.sl) rfl)) ?_
     refine FL.v (E.move k125) ?_
     refine FL.v (E.move k126) ?_
     refine FL.v (E.fieldAddr tf90_3 k128) ?_
     refine FL.v (E.load rfl (run_load1 Tryz.isAgg3 ((at49.mono (i102.tr i115)).now S114.sl) rfl)) ?_
     obtain ⟨r174, hr175, hp⟩ := bnd hp
     refine FL.call rfl rfl rfl (E.call Tryz.call228 (A5 rfl rfl rfl rfl rfl)) (w_spec_l20Earlier S114.sl a0 a1 v1_1 (p1_1.mono (((i27.tr i48).tr i102).tr i115)) v2 a2 (p2.mono (((i27.tr i48).tr i102).tr i115)) a3 x35.b hr175) ?_
     rintro e w176 ⟨rfl, r177⟩
     refine ⟨_, rfl, ?_⟩
     have S178 := S114.call r177
     refine FL.v (E.not rfl) ?_
     refine FL.v (E.move (v := Value.bool (!r174)) rfl) ?_
     refine FL.cut 7 (fun f w => ∃ H : GH, St Ha wa H w [] ∧ Inc H113 H ∧ f 0 = Value.int .i64 a0 ∧ f 2 = v2 ∧ f 5 = Value.pointer (some ⟨b21, 0, none⟩) ∧ f 9 = Value.pointer (some ⟨b39, 0, none⟩) ∧ f 129 = Value.bool (bif (!r174) then true else (!(PF.spec_l1In x35.x 0 (wr (a0 - 1)))))) ?_ ?_
     ·
      rcases bcase (!r174) with c184 | c184
      ·
       refine FL.skip (wF_no rfl rfl rfl c184) rfl ?_
       refine FL.skip (wF_no rfl rfl rfl c184) rfl ?_
       refine FL.skip (wF_no rfl rfl rfl c184) rfl ?_
       refine FL.skip (wF_no rfl rfl rfl c184) rfl ?_
       refine FL.skip (wF_no rfl rfl rfl c184) rfl ?_
       refine FL.skip (wF_no rfl rfl rfl c184) rfl ?_
       refine FL.v (E.pickT rfl c184 rfl) ?_
       exact FL.nil ⟨rfl, _, S178, (Inc.rfl _), k124, k125, k127, k128, (congrArg Value.bool (bifT c184).symm)⟩
      ·
       refine FL.val (wF_yes rfl rfl rfl c184) rfl rfl (E.fieldAddr tf90_4 k128) ?_
       refine FL.val (wF_yes rfl rfl rfl c184) rfl rfl (E.load rfl (run_load1 Tryz.isAgg3 ((at49.mono (i102.tr i115)).now S178.sl) rfl)) ?_
       refine FL.val (wF_yes rfl rfl rfl c184) rfl rfl (E.move k124) ?_
       refine FL.val (wF_yes rfl rfl rfl c184) rfl rfl (E.sub rfl rfl) ?_
       refine FL.call (wF_yes rfl rfl rfl c184) rfl rfl (E.call Tryz.call153 (A3 rfl rfl rfl)) (w_spec_l1In S178.sl x35.x 0 (wr (a0 - 1))) ?_
       rintro e w185 ⟨rfl, r186⟩
       refine ⟨_, rfl, ?_⟩
       have S187 := S178.call r186
       refine FL.val (wF_yes rfl rfl rfl c184) rfl rfl (E.not rfl) ?_
       refine FL.v (E.pickF rfl c184 rfl) ?_
       exact FL.nil ⟨rfl, _, S187, (Inc.rfl _), k124, k125, k127, k128, (congrArg Value.bool (bifF c184).symm)⟩
     rintro f183 w182 ⟨H179, S180, i181, k188, k189, k190, k191, k192⟩
     refine FL.v (E.move k192) ?_
     refine FL.cut 7 (fun f w => ∃ H : GH, St Ha wa H w [] ∧ Inc H179 H ∧ f 0 = Value.int .i64 a0 ∧ f 2 = v2 ∧ f 5 = Value.pointer (some ⟨b21, 0, none⟩) ∧ f 9 = Value.pointer (some ⟨b39, 0, none⟩) ∧ f 137 = Value.bool (bif (bif (!r174) then true else (!(PF.spec_l1In x35.x 0 (wr (a0 - 1))))) then true else (!(PF.spec_l1In x35.y 0 (wr (a0 - 1)))))) ?_ ?_
     ·
      rcases bcase (bif (!r174) then true else (!(PF.spec_l1In x35.x 0 (wr (a0 - 1))))) with c198 | c198
      ·
       refine FL.skip (wF_no rfl rfl rfl c198) rfl ?_
       refine FL.skip (wF_no rfl rfl rfl c198) rfl ?_
       refine FL.skip (wF_no rfl rfl rfl c198) rfl ?_
       refine FL.skip (wF_no rfl rfl rfl c198) rfl ?_
       refine FL.skip (wF_no rfl rfl rfl c198) rfl ?_
       refine FL.skip (wF_no rfl rfl rfl c198) rfl ?_
       refine FL.v (E.pickT rfl c198 rfl) ?_
       exact FL.nil ⟨rfl, _, S180, (Inc.rfl _), k188, k189, k190, k191, (congrArg Value.bool (bifT c198).symm)⟩
      ·
       refine FL.val (wF_yes rfl rfl rfl c198) rfl rfl (E.fieldAddr tf90_5 k191) ?_
       refine FL.val (wF_yes rfl rfl rfl c198) rfl rfl (E.load rfl (run_load1 Tryz.isAgg3 ((at49.mono ((i102.tr i115).tr i181)).now S180.sl) rfl)) ?_
       refine FL.val (wF_yes rfl rfl rfl c198) rfl rfl (E.move k188) ?_
       refine FL.val (wF_yes rfl rfl rfl c198) rfl rfl (E.sub rfl rfl) ?_
       refine FL.call (wF_yes rfl rfl rfl c198) rfl rfl (E.call Tryz.call153 (A3 rfl rfl rfl)) (w_spec_l1In S180.sl x35.y 0 (wr (a0 - 1))) ?_
       rintro e w199 ⟨rfl, r200⟩
       refine ⟨_, rfl, ?_⟩
       have S201 := S180.call r200
       refine FL.val (wF_yes rfl rfl rfl c198) rfl rfl (E.not rfl) ?_
       refine FL.v (E.pickF rfl c198 rfl) ?_
       exact FL.nil ⟨rfl, _, S201, (Inc.rfl _), k188, k189, k190, k191, (congrArg Value.bool (bifF c198).symm)⟩
     rintro f197 w196 ⟨H193, S194, i195, k202, k203, k204, k205, k206⟩
     refine FL.nil ?_
     rcases ifB hp with ⟨c207, hp⟩ | ⟨c207, hp⟩
     ·
      refine FW.condT k206 c207 ?_
      refine FW.seq (FW.region ?_)
      refine FL.v (E.assign (v := Value.bool false) rfl) ?_
      refine FL.nil ?_
      refine FW.ret ?_
      obtain rfl := Option.some.inj hp
      exact ⟨.inr rfl, res1 rfl rfl ⟨rfl, S194.back⟩⟩
     ·
      refine FW.condF k206 c207 ?_
      refine FW.skip (FW.seq ?_)
      obtain ⟨x217, hx218, hp⟩ := bnd hp
      obtain ⟨x227, hx228, hp⟩ := bnd hp
      obtain ⟨r231, hr232, hp⟩ := bnd hp
      obtain ⟨r246, hr247, hp⟩ := bnd hp
      refine FW.drawB (Sl H193) (fun f w => ∃ H : GH, St Ha wa H w [] ∧ Inc H193 H ∧ f 8 = Value.bool r246) (by kernel_rfl) S194.sl ?_ ?_
      ·
       intro w208 r209
       have S210 := S194.call r209
       refine FB.t (i := 0) (bs 24 1) rfl (SP.nil S210.sl) rfl (fun w' hw' => (E.fieldAddr tf90_1 k205)) ?_
       refine FB.t (i := 1) (bs 24 3) rfl (SP.nil S210.sl) rfl (fun w' hw' => (E.load rfl (run_load1 Tryz.isAgg55 ((at49.mono (((i102.tr i115).tr i181).tr i195)).now hw') rfl))) ?_
       refine FB.t (i := 2) (bs 24 7) rfl (SP.nil S210.sl) rfl (fun w' hw' => (E.move k202)) ?_
       refine FB.t (i := 3) (bs 24 15) rfl (SP.nil S210.sl) rfl (fun w' hw' => (E.fieldAddr tf32_0 k204)) ?_
       refine FB.t (i := 4) (bs 24 31) rfl (SP.nil S210.sl) rfl (fun w' hw' => (E.load rfl (run_load1 Tryz.isAgg3 ((at28.mono ((((i48.tr i102).tr i115).tr i181).tr i195)).now hw') rfl))) ?_
       refine FB.t (i := 5) (bs 24 63) rfl (SP.nil S210.sl) rfl (fun w' hw' => (E.move k203)) ?_
       refine FB.t (i := 6) (bs 24 127) rfl (SP.nil S210.sl) rfl (fun w' hw' => (E.fieldAddr tf90_2 k205)) ?_
       refine FB.t (i := 7) (bs 24 255) rfl (SP.nil S210.sl) rfl (fun w' hw' => (E.load rfl (run_load1 Tryz.isAgg3 ((at49.mono (((i102.tr i115).tr i181).tr i195)).now hw') rfl))) ?_
       obtain ⟨p211, cs212, pt213, l214, at215, rel216⟩ := p2.at hx218
       obtain ⟨v219, rfl, h220⟩ := ePcStep_open rel216
       refine FB.t (i := 8) (bs 24 511) rfl (SP.nil S210.sl) rfl (fun w' hw' => (E.indexAddr te36 rfl rfl pt213)) ?_
       refine FB.t (i := 9) (bs 24 1023) rfl (SP.nil S210.sl) rfl (fun w' hw' => (E.fieldAddr tf90_1 rfl)) ?_
       refine FB.t (i := 10) (bs 24 2047) rfl (SP.nil S210.sl) rfl (fun w' hw' => (E.load rfl (run_load1 Tryz.isAgg55 ((at215.mono (((((i27.tr i48).tr i102).tr i115).tr i181).tr i195)).now hw') rfl))) ?_
       refine FB.t (i := 11) (bs 24 4095) rfl (SP.nil S210.sl) rfl (fun w' hw' => (E.fieldAddr tf90_4 k205)) ?_
       refine FB.t (i := 12) (bs 24 8191) rfl (SP.nil S210.sl) rfl (fun w' hw' => (E.load rfl (run_load1 Tryz.isAgg3 ((at49.mono (((i102.tr i115).tr i181).tr i195)).now hw') rfl))) ?_
       refine FB.t (i := 13) (bs 24 16383) rfl (SP.nil S210.sl) rfl (fun w' hw' => (E.move k203)) ?_
       refine FB.t (i := 14) (bs 24 32767) rfl (SP.nil S210.sl) rfl (fun w' hw' => (E.fieldAddr tf90_3 k205)) ?_
       refine FB.t (i := 15) (bs 24 65535) rfl (SP.nil S210.sl) rfl (fun w' hw' => (E.load rfl (run_load1 Tryz.isAgg3 ((at49.mono (((i102.tr i115).tr i181).tr i195)).now hw') rfl))) ?_
       obtain ⟨p221, cs222, pt223, l224, at225, rel226⟩ := p2.at hx228
       obtain ⟨v229, rfl, h230⟩ := ePcStep_open rel226
       refine FB.t (i := 16) (bs 24 131071) rfl (SP.nil S210.sl) rfl (fun w' hw' => (E.indexAddr te36 rfl rfl pt223)) ?_
       refine FB.t (i := 17) (bs 24 262143) rfl (SP.nil S210.sl) rfl (fun w' hw' => (E.fieldAddr tf90_1 rfl)) ?_
       refine FB.t (i := 18) (bs 24 524287) rfl (SP.nil S210.sl) rfl (fun w' hw' => (E.load rfl (run_load1 Tryz.isAgg55 ((at225.mono (((((i27.tr i48).tr i102).tr i115).tr i181).tr i195)).now hw') rfl))) ?_
       refine FB.t (i := 19) (bs 24 1048575) rfl (SP.nil S210.sl) rfl (fun w' hw' => (E.fieldAddr tf90_5 k205)) ?_
       refine FB.t (i := 20) (bs 24 2097151) rfl (SP.nil S210.sl) rfl (fun w' hw' => (E.load rfl (run_load1 Tryz.isAgg3 ((at49.mono (((i102.tr i115).tr i181).tr i195)).now hw') rfl))) ?_
       refine FB.all1 (i := 21) (by kernel_rfl) ?_
       ·
        refine FC.call (l' := (bs 24 4194303)) rfl (by kernel_rfl) rfl rfl rfl (E.call Tryz.call185 (A6 rfl rfl rfl rfl rfl rfl)) (w_spec_l20Sum S210.sl a0 a1.vars v219 x217.poly (h220.mono (((((i27.tr i48).tr i102).tr i115).tr i181).tr i195)) x35.x v229 x227.poly (h230.mono (((((i27.tr i48).tr i102).tr i115).tr i181).tr i195)) x35.y hr232) ?_
        rintro e w234 ⟨H233, v237, n238, cs239, rfl, r236, els240⟩
        refine ⟨_, rfl, ?_⟩
        have els240 := els240.mono (up_le S210.size)
        have S235 := S210.join (l' := [.row 108 2 v237 n238 cs239]) r236 rfl
        refine ⟨(SP.nil (Sl.of_inc r236.run.inc S235.sl)), ?_⟩
        refine FB.all1 (i := 22) (by kernel_rfl) ?_
        ·
         obtain ⟨H241, S242, i243, h244, nv245⟩ := S235.sealRowU (i := 0) (l' := []) rfl els240 (by decide) rfl
         refine FC.call (l' := (bs 24 8388607)) rfl (by kernel_rfl) rfl rfl rfl (E.call Tryz.call61 (A2 rfl rfl)) (w_spec_l20Same S242.sl v37 x35.poly (h38.mono (((((((i27.tr i48).tr i102).tr i115).tr i181).tr i195).tr r236.run.inc).tr i243)) v237 r231 (h244.mono upI) hr247) ?_
         rintro e w248 ⟨rfl, r249⟩
         refine ⟨_, rfl, ?_⟩
         have r249 := Run.lend i243 S235.sl r249
         have S250 := S235.call r249
         refine ⟨(SP.nil (Sl.of_inc r236.run.inc S250.sl)), ?_⟩
         refine FB.t (i := 23) (bs 24 16777215) rfl (SP.nil (Sl.of_inc r236.run.inc S250.sl)) rfl (fun w' hw' => (E.assign (v := Value.bool r246) rfl)) ?_
         exact FB.done (by kernel_rfl) ⟨_, (S250.sel [] (by decide) rfl), r236.run.inc, rfl⟩
      ·
       rintro f255 w254 ⟨H251, S252, i253, k256⟩
       refine FW.ret ?_
       obtain rfl := Option.some.inj hp
       exact ⟨.inr rfl, res1 rfl k256 ⟨rfl, S252.back⟩⟩

theorem w_spec_l20Wrong {Ha : GH} {wa : World} (hs : Sl Ha wa) (a0 : Int) (a1 : Cnf) (v1_1 : Value) (p1_1 : RSl Ha (eL eI 1) 1 v1_1 a1.clauses) (v2 : Value) (a2 : List PcStep) (p2 : RSl Ha ePcStep 6 v2 a2) {r : Int} (hp : (PF.spec_l20Wrong a0 a1 a2) = some r) :
  Calls Tryz.prog 115 #[Value.int .i64 a0, Value.agg #[Value.int .i64 a1.vars, v1_1], v2] wa (Sc Ha wa (Value.int .i64 r)) := by
 unfold PF.spec_l20Wrong at hp
 have S0 := St.init hs
 refine calls_go (N := 21) (args := [Value.int .i64 a0, Value.agg #[Value.int .i64 a1.vars, v1_1], v2]) Tryz.func115 rfl rfl rfl ?_
 refine FW.seq (FW.region ?_)
 obtain ⟨b21, w22, run23, S24⟩ := S0.box (P := Tryz.prog) 32 [Value.int .i64 a1.vars, v1_1] (v := Value.agg #[Value.int .i64 a1.vars, v1_1]) rfl (ones_cons rfl (ones_cons p1_1.one ones_nil))
 refine FL.v (E.box rfl run23) ?_
 obtain ⟨H25, S26, i27, at28⟩ := S24.sealBox (i := 0) (l' := []) rfl rfl
 refine FL.v (E.assign (v := Value.int .i64 0) rfl) ?_
 refine FL.nil (FW.seq (FW.seq (FW.region ?_)))
 refine FL.v (E.assign (v := Value.int .i64 0) rfl) ?_
 refine FL.nil ?_
 obtain ⟨q30, hq, hp⟩ := bndR hp
 refine FW.block ?_
 refine FW.mono (FW.forL (S := Unit) (X := Int) (fun (i30 : Nat) (s30 : Unit) f w => ∃ H : GH, St Ha wa H w [] ∧ Inc H25 H ∧ f 7 = Value.int .i64 ((i30 : Nat) : Int) ∧ f 0 = Value.int .i64 a0 ∧ f 2 = v2 ∧ f 4 = Value.pointer (some ⟨b21, 0, none⟩)) (fun q e f w => match q with | .go s30 => e = Exit.exit 0 ∧ (∃ H : GH, St Ha wa H w [] ∧ Inc H25 H) | .rt x => ((e = Exit.ret) ∧ (fun e f w => (e = Exit.normal ∨ e = Exit.ret) ∧ ∀ a, Fr (δ := []) 21 a f → ∃ v, (results Tryz.f115 a.tmps).run Tryz.prog w = .ok v w ∧ (Sc Ha wa (Value.int .i64 x)) (.returned v) w) e f w)) hq ⟨_, S26, (Inc.rfl _), rfl, rfl, rfl, rfl⟩ ?_ ?_) ?_
 ·
  clear hp hq
  rintro i30 y29 s30 f50 w49 ⟨H46, S47, i48, k51, k52, k53, k54⟩ hx30 o61 hp
  refine FW.seq (FW.seq (FW.region ?_))
  refine FL.v (E.move k51) ?_
  refine FL.v (E.move k53) ?_
  refine FL.v (E.lenP te36 rfl p2) ?_
  refine FL.v (E.lssT rfl rfl (lss_len hx30)) ?_
  refine FL.nil ?_
  refine FW.condT rfl rfl ?_
  refine FW.skip (FW.seq (FW.block (FW.seq (FW.region ?_))))
  refine FL.v (E.move k52) ?_
  refine FL.v (E.load k54 (run_loadA Tryz.isAgg32 Tryz.sizeOf32 ((at28.mono i48).now S47.sl) rfl)) ?_
  refine FL.v (E.move k53) ?_
  refine FL.v (E.move k51) ?_
  obtain ⟨r55, hr56, hp⟩ := bnd hp
  refine FL.call rfl rfl rfl (E.call Tryz.call178 (A4 rfl rfl rfl rfl)) (w_spec_l20Correct S47.sl a0 a1 v1_1 (p1_1.mono (i27.tr i48)) v2 a2 (p2.mono (i27.tr i48)) ((i30 : Nat) : Int) hr56) ?_
  rintro e w57 ⟨rfl, r58⟩
  refine ⟨_, rfl, ?_⟩
  have S59 := S47.call r58
  refine FL.v (E.not rfl) ?_
  refine FL.nil ?_
  rcases ifB hp with ⟨c60, hp⟩ | ⟨c60, hp⟩
  ·
   refine FW.condT rfl c60 ?_
   refine FW.seq (FW.region ?_)
   refine FL.v (E.move k51) ?_
   refine FL.v (E.assign (v := Value.int .i64 ((i30 : Nat) : Int)) rfl) ?_
   refine FL.nil ?_
   refine FW.ret ?_
   obtain rfl := Option.some.inj hp
   exact ⟨nofun, rfl, ⟨.inr rfl, res1 rfl rfl ⟨rfl, S59.back⟩⟩⟩
  ·
   refine FW.condF rfl c60 ?_
   refine FW.skip (FW.region ?_)
   refine FL.v (E.move k51) ?_
   refine FL.v (E.add rfl rfl) ?_
   refine FL.v (E.assign (v := Value.int .i64 (wr (((i30 : Nat) : Int) + 1))) rfl) ?_
   refine FL.nil ?_
   obtain rfl := Option.some.inj hp
   exact ⟨rfl, ⟨_, S59, i48, (nat_succ rfl (lt_of_get hx30) (p2.mono (i27.tr i48)).le), k52, k53, k54⟩⟩
 ·
  clear hp hq
  rintro s30 f71 w70 ⟨H67, S68, i69, k72, k73, k74, k75⟩
  refine FW.seq (FW.seq (FW.region ?_))
  refine FL.v (E.move k72) ?_
  refine FL.v (E.move k74) ?_
  refine FL.v (E.lenP te36 rfl p2) ?_
  refine FL.v (E.lss rfl rfl) ?_
  refine FL.nil ?_
  refine FW.condF rfl dlt_len ?_
  refine FW.exit ?_
  exact ⟨nofun, rfl, ⟨_, S68, i69⟩⟩
 ·
  clear hq
  intro e f66 w65 hD
  rcases q30 with s30 | x30
  ·
   obtain ⟨rfl, hD⟩ := hD
   obtain ⟨H62, S63, i64⟩ := hD
   replace hp := el_go hp
   refine FW.seq (FW.region ?_)
   refine FL.v (E.assign (v := Value.int .i64 (-1)) rfl) ?_
   refine FL.nil ?_
   refine FW.ret ?_
   obtain rfl := Option.some.inj hp
   exact ⟨.inr rfl, res1 rfl rfl ⟨rfl, S63.back⟩⟩
  ·
   obtain ⟨he, hL⟩ := hD
   replace hp := el_rt hp
   obtain rfl := Option.some.inj hp
   subst he
   exact hL

theorem w_spec_l20Good {Ha : GH} {wa : World} (hs : Sl Ha wa) (a0 : Int) (a1 : Cnf) (v1_1 : Value) (p1_1 : RSl Ha (eL eI 1) 1 v1_1 a1.clauses) (v2 : Value) (a2 : List PcStep) (p2 : RSl Ha ePcStep 6 v2 a2) {r : Bool} (hp : (PF.spec_l20Good a0 a1 a2) = some r) :
  Calls Tryz.prog 59 #[Value.int .i64 a0, Value.agg #[Value.int .i64 a1.vars, v1_1], v2] wa (Sc Ha wa (Value.bool r)) := by
 unfold PF.spec_l20Good at hp
 have S0 := St.init hs
 refine calls_go (N := 22) (args := [Value.int .i64 a0, Value.agg #[Value.int .i64 a1.vars, v1_1], v2]) Tryz.func59 rfl rfl rfl ?_
 refine FW.seq (FW.region ?_)
 obtain ⟨b21, w22, run23, S24⟩ := S0.box (P := Tryz.prog) 32 [Value.int .i64 a1.vars, v1_1] (v := Value.agg #[Value.int .i64 a1.vars, v1_1]) rfl (ones_cons rfl (ones_cons p1_1.one ones_nil))
 refine FL.v (E.box rfl run23) ?_
 obtain ⟨H25, S26, i27, at28⟩ := S24.sealBox (i := 0) (l' := []) rfl rfl
 refine FL.v (E.assign (v := Value.bool false) rfl) ?_
 refine FL.nil (FW.seq (FW.region ?_))
 refine FL.v (E.move (v := Value.int .i64 a0) rfl) ?_
 refine FL.v (E.load rfl (run_loadA Tryz.isAgg32 Tryz.sizeOf32 (at28.now S26.sl) rfl)) ?_
 obtain ⟨r29, hr30, hp⟩ := bnd hp
 refine FL.call rfl rfl rfl (E.call Tryz.call90 (A2 rfl rfl)) (w_spec_l20Asked S26.sl a0 a1 v1_1 (p1_1.mono i27) hr30) ?_
 rintro e w31 ⟨rfl, r32⟩
 refine ⟨_, rfl, ?_⟩
 have S33 := S26.call r32
 refine FL.v (E.move (v := Value.bool r29) rfl) ?_
 refine FL.cut 4 (fun f w => ∃ H : GH, St Ha wa H w [] ∧ Inc H25 H ∧ f 0 = Value.int .i64 a0 ∧ f 2 = v2 ∧ f 4 = Value.pointer (some ⟨b21, 0, none⟩) ∧ f 14 = Value.bool (bif r29 then (decide ((len a2) ≤ 300)) else false)) ?_ ?_
 ·
  rcases bcase r29 with c40 | c40
  ·
   refine FL.val (wF_yes rfl rfl rfl c40) rfl rfl (E.move (v := v2) rfl) ?_
   refine FL.val (wF_yes rfl rfl rfl c40) rfl rfl (E.lenP te36 rfl p2) ?_
   refine FL.val (wF_yes rfl rfl rfl c40) rfl rfl (E.leq rfl rfl) ?_
   refine FL.v (E.pickT rfl c40 rfl) ?_
   exact FL.nil ⟨rfl, _, S33, (Inc.rfl _), rfl, rfl, rfl, (congrArg Value.bool (bifT c40).symm)⟩
  ·
   refine FL.skip (wF_no rfl rfl rfl c40) rfl ?_
   refine FL.skip (wF_no rfl rfl rfl c40) rfl ?_
   refine FL.skip (wF_no rfl rfl rfl c40) rfl ?_
   refine FL.v (E.pickF rfl c40 rfl) ?_
   exact FL.nil ⟨rfl, _, S33, (Inc.rfl _), rfl, rfl, rfl, (congrArg Value.bool (bifF c40).symm)⟩
 rintro f39 w38 ⟨H35, S36, i37, k41, k42, k43, k44⟩
 refine FL.v (E.move k44) ?_
 obtain ⟨t50, hqt50, hp⟩ := bnd hp
 refine FL.cut 6 (fun f w => ∃ H : GH, St Ha wa H w [] ∧ Inc H35 H ∧ f 21 = Value.bool t50) ?_ ?_
 ·
  clear hp; have hp := hqt50; clear hqt50
  rcases ifB hp with ⟨c56, hp⟩ | ⟨c56, hp⟩
  ·
   refine FL.val (wF_yes rfl rfl rfl c56) rfl rfl (E.move k41) ?_
   refine FL.val (wF_yes rfl rfl rfl c56) rfl rfl (E.load k43 (run_loadA Tryz.isAgg32 Tryz.sizeOf32 ((at28.mono i37).now S36.sl) rfl)) ?_
   refine FL.val (wF_yes rfl rfl rfl c56) rfl rfl (E.move k42) ?_
   obtain ⟨r57, hr58, hp⟩ := bnd hp
   refine FL.call (wF_yes rfl rfl rfl c56) rfl rfl (E.call Tryz.call115 (A3 rfl rfl rfl)) (w_spec_l20Wrong S36.sl a0 a1 v1_1 (p1_1.mono (i27.tr i37)) v2 a2 (p2.mono (i27.tr i37)) hr58) ?_
   rintro e w59 ⟨rfl, r60⟩
   refine ⟨_, rfl, ?_⟩
   have S61 := S36.call r60
   refine FL.val (wF_yes rfl rfl rfl c56) rfl rfl (E.lss rfl rfl) ?_
   obtain rfl := Option.some.inj hp
   refine FL.v (E.pickT rfl c56 rfl) ?_
   exact FL.nil ⟨rfl, _, S61, (Inc.rfl _), rfl⟩
  ·
   refine FL.skip (wF_no rfl rfl rfl c56) rfl ?_
   refine FL.skip (wF_no rfl rfl rfl c56) rfl ?_
   refine FL.skip (wF_no rfl rfl rfl c56) rfl ?_
   refine FL.skip (wF_no rfl rfl rfl c56) rfl ?_
   refine FL.skip (wF_no rfl rfl rfl c56) rfl ?_
   obtain rfl := Option.some.inj hp
   refine FL.v (E.pickF rfl c56 rfl) ?_
   exact FL.nil ⟨rfl, _, S36, (Inc.rfl _), rfl⟩
 rintro f55 w54 ⟨H51, S52, i53, k62⟩
 refine FL.v (E.assign k62) ?_
 refine FL.nil ?_
 refine FW.ret ?_
 obtain rfl := Option.some.inj hp
 exact ⟨.inr rfl, res1 rfl rfl ⟨rfl, S52.back⟩⟩

set_option maxHeartbeats 4000000 in
theorem w_spec_IsTranslationOf {Ha : GH} {wa : World} (hs : Sl Ha wa) (a0 : Int) (a1 : Cnf) (v1_1 : Value) (p1_1 : RSl Ha (eL eI 1) 1 v1_1 a1.clauses) (v2 : Value) (a2 : List ResStep) (p2 : RSl Ha eResStep 4 v2 a2) (v3 : Value) (a3 : List PcStep) (p3 : RSl Ha ePcStep 6 v3 a3) {r : (Bool × Bool)} (hp : (PF.spec_IsTranslationOf a0 a1 a2 a3) = some r) :
    Calls Tryz.prog 14 #[Value.int .i64 a0, Value.agg #[Value.int .i64 a1.vars, v1_1], v2, v3] wa (Sc Ha wa (Value.tuple #[Value.bool r.1, Value.bool r.2])) := by
  unfold PF.spec_IsTranslationOf at hp
  have S0 := St.init hs
  refine calls_go (N := 58) (args := [Value.int .i64 a0, Value.agg #[Value.int .i64 a1.vars, v1_1], v2, v3]) Tryz.func14 rfl rfl rfl ?_
  refine FW.seq (FW.region ?_)
  obtain ⟨b21, w22, run23, S24⟩ := S0.box (P := Tryz.prog) 32 [Value.int .i64 a1.vars, v1_1] (v := Value.agg #[Value.int .i64 a1.vars, v1_1]) rfl (ones_cons rfl (ones_cons p1_1.one ones_nil))
  refine FL.v (E.box rfl run23) ?_
  obtain ⟨H25, S26, i27, at28⟩ := S24.sealBox (i := 0) (l' := []) rfl rfl
  refine FL.v (E.assign (v := Value.bool false) rfl) ?_
  refine FL.v (E.assign (v := Value.bool false) rfl) ?_
  refine FL.nil (FW.seq (FW.seq (FW.region ?_)))
  refine FL.v (E.move (v := Value.int .i64 a0) rfl) ?_
  refine FL.v (E.load rfl (run_loadA Tryz.isAgg32 Tryz.sizeOf32 (at28.now S26.sl) rfl)) ?_
  refine FL.v (E.move (v := v2) rfl) ?_
  obtain ⟨r29, hr30, hp⟩ := bnd hp
  refine FL.call rfl rfl rfl (E.call Tryz.call58 (A3 rfl rfl rfl)) (w_spec_l21Asked S26.sl a0 a1 v1_1 (p1_1.mono i27) v2 a2 (p2.mono i27) hr30) ?_
  rintro e w31 ⟨rfl, r32⟩
  refine ⟨_, rfl, ?_⟩
  have S33 := S26.call r32
  refine FL.v (E.not rfl) ?_
  refine FL.nil ?_
  rcases ifB hp with ⟨c34, hp⟩ | ⟨c34, hp⟩
  ·
    refine FW.condT rfl c34 ?_
    refine FW.seq (FW.region ?_)
    refine FL.v (E.assign (v := Value.bool false) rfl) ?_
    refine FL.v (E.assign (v := Value.bool false) rfl) ?_
    refine FL.nil ?_
    refine FW.ret ?_
    obtain rfl := Option.some.inj hp
    exact ⟨.inr rfl, res2 rfl rfl rfl ⟨rfl, S33.back⟩⟩
  ·
    refine FW.condF rfl c34 ?_
    refine FW.skip (FW.seq (FW.seq (FW.region ?_)))
    refine FL.v (E.move (v := Value.int .i64 a0) rfl) ?_
    refine FL.v (E.load rfl (run_loadA Tryz.isAgg32 Tryz.sizeOf32 (at28.now S33.sl) rfl)) ?_
    refine FL.v (E.move (v := v3) rfl) ?_
    obtain ⟨r35, hr36, hp⟩ := bnd hp
    refine FL.call rfl rfl rfl (E.call Tryz.call59 (A3 rfl rfl rfl)) (w_spec_l20Good S33.sl a0 a1 v1_1 (p1_1.mono i27) v3 a3 (p3.mono i27) hr36) ?_
    rintro e w37 ⟨rfl, r38⟩
    refine ⟨_, rfl, ?_⟩
    have S39 := S33.call r38
    refine FL.v (E.not rfl) ?_
    refine FL.nil ?_
    rcases ifB hp with ⟨c40, hp⟩ | ⟨c40, hp⟩
    ·
      refine FW.condT rfl c40 ?_
      refine FW.seq (FW.region ?_)
      refine FL.v (E.assign (v := Value.bool false) rfl) ?_
      refine FL.v (E.assign (v := Value.bool true) rfl) ?_
      refine FL.nil ?_
      refine FW.ret ?_
      obtain rfl := Option.some.inj hp
      exact ⟨.inr rfl, res2 rfl rfl rfl ⟨rfl, S39.back⟩⟩
    ·
      refine FW.condF rfl c40 ?_
      refine FW.skip (FW.seq (FW.region ?_))
      refine FL.v (E.assign (v := Value.int .i64 0) rfl) ?_
      refine FL.nil (FW.seq (FW.seq (FW.region ?_)))
      refine FL.v (E.assign (v := Value.int .i64 0) rfl) ?_
      refine FL.nil ?_
      obtain ⟨q42, hq, hp⟩ := bndR hp
      refine FW.block ?_
      refine FW.mono (FW.forL (S := Int) (X := (Bool × Bool)) (fun (i42 : Nat) (s42 : Int) f w => ∃ H : GH, St Ha wa H w [] ∧ Inc H25 H ∧ f 11 = Value.int .i64 ((i42 : Nat) : Int) ∧ f 0 = Value.int .i64 a0 ∧ f 2 = v2 ∧ f 3 = v3 ∧ f 5 = Value.pointer (some ⟨b21, 0, none⟩) ∧ f 10 = Value.int .i64 s42) (fun q e f w => match q with | .go s42 => e = Exit.exit 0 ∧ (∃ H : GH, St Ha wa H w [] ∧ Inc H25 H) | .rt x => ((e = Exit.ret) ∧ (fun e f w => (e = Exit.normal ∨ e = Exit.ret) ∧ ∀ a, Fr (δ := []) 58 a f → ∃ v, (results Tryz.f14 a.tmps).run Tryz.prog w = .ok v w ∧ (Sc Ha wa (Value.tuple #[Value.bool x.1, Value.bool x.2])) (.returned v) w) e f w)) hq ⟨_, S39, (Inc.rfl _), rfl, rfl, rfl, rfl, rfl, rfl⟩ ?_ ?_) ?_
      ·
        clear hp hq
        rintro i42 y41 s42 f47 w46 ⟨H43, S44, i45, k48, k49, k50, k51, k52, k53⟩ hx42 o155 hp
        refine FW.seq (FW.seq (FW.region ?_))
        refine FL.v (E.move k48) ?_
        refine FL.v (E.move k50) ?_
        refine FL.v (E.lenP te34 rfl p2) ?_
        refine FL.v (E.lssT rfl rfl (lss_len hx42)) ?_
        refine FL.nil ?_
        refine FW.condT rfl rfl ?_
        refine FW.skip (FW.seq (FW.block (FW.seq ?_)))
        obtain ⟨r65, hr66, hp⟩ := bnd hp
        refine FW.drawB (Sl H43) (fun f w => ∃ H : GH, ∃ v75 : Value, ∃ n76 : Nat, ∃ cs77 : List Value, St Ha wa H w [.row 108 2 v75 n76 cs77] ∧ Inc H43 H ∧ Els (up wa.heap.size H) eTerm 2 cs77 r65 ∧ f 0 = Value.int .i64 a0 ∧ f 2 = v2 ∧ f 3 = v3 ∧ f 5 = Value.pointer (some ⟨b21, 0, none⟩) ∧ f 10 = Value.int .i64 s42 ∧ f 11 = Value.int .i64 ((i42 : Nat) : Int) ∧ f 12 = v75) (by kernel_rfl) S44.sl ?_ ?_
        ·
          intro w54 r55
          have S56 := S44.call r55
          refine FB.t (i := 0) (bs 10 1) rfl (SP.nil S56.sl) rfl (fun w' hw' => (E.move k49)) ?_
          refine FB.t (i := 1) (bs 10 3) rfl (SP.nil S56.sl) rfl (fun w' hw' => (E.fieldAddr tf32_0 k52)) ?_
          refine FB.t (i := 2) (bs 10 7) rfl (SP.nil S56.sl) rfl (fun w' hw' => (E.load rfl (run_load1 Tryz.isAgg3 ((at28.mono i45).now hw') rfl))) ?_
          refine FB.t (i := 3) (bs 10 15) rfl (SP.nil S56.sl) rfl (fun w' hw' => (E.move k50)) ?_
          refine FB.t (i := 4) (bs 10 31) rfl (SP.nil S56.sl) rfl (fun w' hw' => (E.move k48)) ?_
          obtain ⟨p57, cs58, pt59, l60, at61, rel62⟩ := p2.at (ix_nat hx42)
          obtain ⟨v63, rfl, h64⟩ := eResStep_open rel62
          refine FB.t (i := 5) (bs 10 63) rfl (SP.nil S56.sl) rfl (fun w' hw' => (E.indexAddr te34 rfl rfl pt59)) ?_
          refine FB.t (i := 6) (bs 10 127) rfl (SP.nil S56.sl) rfl (fun w' hw' => (E.fieldAddr tf88_0 rfl)) ?_
          refine FB.t (i := 7) (bs 10 255) rfl (SP.nil S56.sl) rfl (fun w' hw' => (E.load rfl (run_load1 Tryz.isAgg73 ((at61.mono (i27.tr i45)).now hw') rfl))) ?_
          refine FB.all1 (i := 8) (by kernel_rfl) ?_
          ·
            refine FC.call (l' := (bs 10 511)) rfl (by kernel_rfl) rfl rfl rfl (E.call Tryz.call60 (A3 rfl rfl rfl)) (w_spec_l18Clause S56.sl a0 a1.vars v63 y41.clause (h64.mono (i27.tr i45)) hr66) ?_
            rintro e w68 ⟨H67, v71, n72, cs73, rfl, r70, els74⟩
            refine ⟨_, rfl, ?_⟩
            have els74 := els74.mono (up_le S56.size)
            have S69 := S56.join (l' := [.row 108 2 v71 n72 cs73]) r70 rfl
            refine ⟨(SP.nil (Sl.of_inc r70.run.inc S69.sl)), ?_⟩
            refine FB.t (i := 9) (bs 10 1023) rfl (SP.nil (Sl.of_inc r70.run.inc S69.sl)) rfl (fun w' hw' => (E.assign (v := v71) rfl)) ?_
            exact FB.done (by kernel_rfl) ⟨_, _, _, _, S69, r70.run.inc, els74, k49, k50, k51, k52, k53, k48, rfl⟩
        ·
          rintro f83 w82 ⟨H79, v75, n76, cs77, S80, i81, els78, k84, k85, k86, k87, k89, k91, k92⟩
          refine FW.seq ?_
          obtain ⟨q93, hq, hp⟩ := bndR hp
          refine FW.block ?_
          refine FW.mono (FW.iter (S := Int) (X := Empty) (fun (s93 : Int) f w => ∃ H : GH, St Ha wa H w [.row 108 2 v75 n76 cs77] ∧ Inc H79 H ∧ f 0 = Value.int .i64 a0 ∧ f 2 = v2 ∧ f 3 = v3 ∧ f 5 = Value.pointer (some ⟨b21, 0, none⟩) ∧ f 10 = Value.int .i64 s93 ∧ f 11 = Value.int .i64 ((i42 : Nat) : Int) ∧ f 12 = v75) (fun (q : Rs Int Empty) e f w => match q with | .go s93 => e = Exit.exit 2 ∧ (∃ H : GH, St Ha wa H w [.row 108 2 v75 n76 cs77] ∧ Inc H79 H ∧ f 0 = Value.int .i64 a0 ∧ f 2 = v2 ∧ f 3 = v3 ∧ f 5 = Value.pointer (some ⟨b21, 0, none⟩) ∧ f 10 = Value.int .i64 s93 ∧ f 11 = Value.int .i64 ((i42 : Nat) : Int)) | .rt x => x.elim) hq ⟨_, S80, (Inc.rfl _), k84, k85, k86, k87, k89, k91, k92⟩ ?_) ?_
          ·
            clear hp hq
            rintro s93 f98 w97 ⟨H94, S95, i96, k99, k100, k101, k102, k103, k104, k105⟩ o142 hp
            refine FW.seq (FW.seq (FW.region ?_))
            refine FL.v (E.move k103) ?_
            refine FL.v (E.move k101) ?_
            refine FL.v (E.lenP te36 rfl p3) ?_
            refine FL.v (E.lss rfl rfl) ?_
            refine FL.v (E.move (v := Value.bool (decide (s93 < (len a3)))) rfl) ?_
            obtain ⟨t106, hqt106, hp⟩ := bnd hp
            refine FL.cut 9 (fun f w => ∃ H : GH, St Ha wa H w [.row 108 2 v75 n76 cs77] ∧ Inc H94 H ∧ f 0 = Value.int .i64 a0 ∧ f 2 = v2 ∧ f 3 = v3 ∧ f 5 = Value.pointer (some ⟨b21, 0, none⟩) ∧ f 10 = Value.int .i64 s93 ∧ f 11 = Value.int .i64 ((i42 : Nat) : Int) ∧ f 12 = v75 ∧ f 51 = Value.bool t106) ?_ ?_
            ·
              clear hp; have hp := hqt106; clear hqt106
              rcases ifB hp with ⟨c112, hp⟩ | ⟨c112, hp⟩
              ·
                refine FL.val (wF_yes rfl rfl rfl c112) rfl rfl (E.move k101) ?_
                refine FL.val (wF_yes rfl rfl rfl c112) rfl rfl (E.move k103) ?_
                obtain ⟨x119, hx120, hp⟩ := bnd hp
                obtain ⟨p113, cs114, pt115, l116, at117, rel118⟩ := p3.at hx120
                obtain ⟨v121, rfl, h122⟩ := ePcStep_open rel118
                refine FL.val (wF_yes rfl rfl rfl c112) rfl rfl (E.indexAddr te36 rfl rfl pt115) ?_
                refine FL.val (wF_yes rfl rfl rfl c112) rfl rfl (E.fieldAddr tf90_1 rfl) ?_
                refine FL.val (wF_yes rfl rfl rfl c112) rfl rfl (E.load rfl (run_load1 Tryz.isAgg55 ((at117.mono (((i27.tr i45).tr i81).tr i96)).now S95.sl) rfl)) ?_
                refine FL.val (wF_yes rfl rfl rfl c112) rfl rfl (E.move k105) ?_
                obtain ⟨H123, S124, i125, h126, nv127⟩ := S95.sealRowU (i := 0) (l' := []) rfl (els78.mono (up_mono i96)) (by decide) rfl
                obtain ⟨r128, hr129, hp⟩ := bnd hp
                refine FL.call (wF_yes rfl rfl rfl c112) rfl rfl (E.call Tryz.call61 (A2 rfl rfl)) (w_spec_l20Same S124.sl v121 x119.poly (h122.mono ((((i27.tr i45).tr i81).tr i96).tr i125)) v75 r65 (h126.mono upI) hr129) ?_
                rintro e w130 ⟨rfl, r131⟩
                refine ⟨_, rfl, ?_⟩
                have r131 := Run.lend i125 S95.sl r131
                have S132 := S95.call r131
                refine FL.val (wF_yes rfl rfl rfl c112) rfl rfl (E.not rfl) ?_
                obtain rfl := Option.some.inj hp
                refine FL.v (E.pickT rfl c112 rfl) ?_
                exact FL.nil ⟨rfl, _, S132, (Inc.rfl _), k99, k100, k101, k102, k103, k104, k105, rfl⟩
              ·
                refine FL.skip (wF_no rfl rfl rfl c112) rfl ?_
                refine FL.skip (wF_no rfl rfl rfl c112) rfl ?_
                refine FL.skip (wF_no rfl rfl rfl c112) rfl ?_
                refine FL.skip (wF_no rfl rfl rfl c112) rfl ?_
                refine FL.skip (wF_no rfl rfl rfl c112) rfl ?_
                refine FL.skip (wF_no rfl rfl rfl c112) rfl ?_
                refine FL.skip (wF_no rfl rfl rfl c112) rfl ?_
                refine FL.skip (wF_no rfl rfl rfl c112) rfl ?_
                obtain rfl := Option.some.inj hp
                refine FL.v (E.pickF rfl c112 rfl) ?_
                exact FL.nil ⟨rfl, _, S95, (Inc.rfl _), k99, k100, k101, k102, k103, k104, k105, rfl⟩
            rintro f111 w110 ⟨H107, S108, i109, k133, k134, k135, k136, k137, k138, k139, k140⟩
            refine FL.nil ?_
            rcases ifB hp with ⟨c141, hp⟩ | ⟨c141, hp⟩
            ·
              refine FW.condT k140 c141 ?_
              refine FW.skip (FW.block (FW.region ?_))
              refine FL.v (E.move k137) ?_
              refine FL.v (E.add rfl rfl) ?_
              refine FL.v (E.assign (v := Value.int .i64 (wr (s93 + 1))) rfl) ?_
              refine FL.nil ?_
              obtain rfl := Option.some.inj hp
              exact ⟨rfl, ⟨_, S108, (i96.tr i109), k133, k134, k135, k136, rfl, k138, k139⟩⟩
            ·
              refine FW.condF k140 c141 ?_
              refine FW.exit ?_
              obtain rfl := Option.some.inj hp
              exact ⟨nofun, rfl, ⟨_, S108, (i96.tr i109), k133, k134, k135, k136, k137, k138⟩⟩
          ·
            clear hq
            intro e f147 w146 hD
            rcases q93 with s93 | x93
            ·
              obtain ⟨rfl, hD⟩ := hD
              obtain ⟨H143, S144, i145, k148, k149, k150, k151, k152, k153⟩ := hD
              replace hp := el_go hp
              refine FW.seq (FW.region ?_)
              refine FL.v (E.move k152) ?_
              refine FL.v (E.move k150) ?_
              refine FL.v (E.lenP te36 rfl p3) ?_
              refine FL.v (E.eql rfl rfl) ?_
              refine FL.nil ?_
              rcases ifB hp with ⟨c154, hp⟩ | ⟨c154, hp⟩
              ·
                refine FW.condT rfl c154 ?_
                refine FW.seq (FW.region ?_)
                refine FL.v (E.assign (v := Value.bool false) rfl) ?_
                refine FL.v (E.assign (v := Value.bool true) rfl) ?_
                refine FL.nil ?_
                refine FW.ret ?_
                obtain rfl := Option.some.inj hp
                exact ⟨nofun, rfl, ⟨.inr rfl, res2 rfl rfl rfl ⟨rfl, S144.back⟩⟩⟩
              ·
                refine FW.condF rfl c154 ?_
                refine FW.skip (FW.region ?_)
                refine FL.v (E.move k153) ?_
                refine FL.v (E.add rfl rfl) ?_
                refine FL.v (E.assign (v := Value.int .i64 (wr (((i42 : Nat) : Int) + 1))) rfl) ?_
                refine FL.nil ?_
                obtain rfl := Option.some.inj hp
                exact ⟨rfl, ⟨_, (S144.sel [] (by decide) rfl), ((i45.tr i81).tr i145), (nat_succ rfl (lt_of_get hx42) (p2.mono (((i27.tr i45).tr i81).tr i145)).le), k148, k149, k150, k151, k152⟩⟩
            · exact x93.elim
      ·
        clear hp hq
        rintro s42 f165 w164 ⟨H161, S162, i163, k166, k167, k168, k169, k170, k171⟩
        refine FW.seq (FW.seq (FW.region ?_))
        refine FL.v (E.move k166) ?_
        refine FL.v (E.move k168) ?_
        refine FL.v (E.lenP te34 rfl p2) ?_
        refine FL.v (E.lss rfl rfl) ?_
        refine FL.nil ?_
        refine FW.condF rfl dlt_len ?_
        refine FW.exit ?_
        exact ⟨nofun, rfl, ⟨_, S162, i163⟩⟩
      ·
        clear hq
        intro e f160 w159 hD
        rcases q42 with s42 | x42
        ·
          obtain ⟨rfl, hD⟩ := hD
          obtain ⟨H156, S157, i158⟩ := hD
          replace hp := el_go hp
          refine FW.seq (FW.region ?_)
          refine FL.v (E.assign (v := Value.bool true) rfl) ?_
          refine FL.v (E.assign (v := Value.bool true) rfl) ?_
          refine FL.nil ?_
          refine FW.ret ?_
          obtain rfl := Option.some.inj hp
          exact ⟨.inr rfl, res2 rfl rfl rfl ⟨rfl, S157.back⟩⟩
        ·
          obtain ⟨he, hL⟩ := hD
          replace hp := el_rt hp
          obtain rfl := Option.some.inj hp
          subst he
          exact hL

theorem w_impl_within {Ha : GH} {wa : World} (hs : Sl Ha wa) (a0 : Int) (a1 : Int) (a2 : Int) :
  Calls Tryz.prog 162 #[Value.int .i64 a0, Value.int .i64 a1, Value.int .i64 a2] wa (Sc Ha wa (Value.bool (PF.impl_within a0 a1 a2))) := by
 obtain ⟨r, hp⟩ : ∃ r, (PF.impl_within a0 a1 a2) = r := ⟨_, rfl⟩
 rw [hp]
 unfold PF.impl_within at hp
 have S0 := St.init hs
 refine calls_go (N := 15) (args := [Value.int .i64 a0, Value.int .i64 a1, Value.int .i64 a2]) Tryz.func162 rfl rfl rfl ?_
 refine FW.seq (FW.region ?_)
 refine FL.v (E.assign (v := Value.bool false) rfl) ?_
 refine FL.nil (FW.seq (FW.region ?_))
 refine FL.v (E.move (v := Value.int .i64 a0) rfl) ?_
 refine FL.v (E.move (v := Value.int .i64 a1) rfl) ?_
 refine FL.v (E.geq rfl rfl) ?_
 refine FL.v (E.move (v := Value.bool (decide (a1 ≤ a0))) rfl) ?_
 refine FL.cut 4 (fun f w => ∃ H : GH, St Ha wa H w [] ∧ Inc Ha H ∧ f 14 = Value.bool (bif (decide (a1 ≤ a0)) then (decide (a0 ≤ a2)) else false)) ?_ ?_
 ·
  rcases bcase (decide (a1 ≤ a0)) with c27 | c27
  ·
   refine FL.val (wF_yes rfl rfl rfl c27) rfl rfl (E.move (v := Value.int .i64 a0) rfl) ?_
   refine FL.val (wF_yes rfl rfl rfl c27) rfl rfl (E.move (v := Value.int .i64 a2) rfl) ?_
   refine FL.val (wF_yes rfl rfl rfl c27) rfl rfl (E.leq rfl rfl) ?_
   refine FL.v (E.pickT rfl c27 rfl) ?_
   exact FL.nil ⟨rfl, _, S0, (Inc.rfl _), (congrArg Value.bool (bifT c27).symm)⟩
  ·
   refine FL.skip (wF_no rfl rfl rfl c27) rfl ?_
   refine FL.skip (wF_no rfl rfl rfl c27) rfl ?_
   refine FL.skip (wF_no rfl rfl rfl c27) rfl ?_
   refine FL.v (E.pickF rfl c27 rfl) ?_
   exact FL.nil ⟨rfl, _, S0, (Inc.rfl _), (congrArg Value.bool (bifF c27).symm)⟩
 rintro f26 w25 ⟨H22, S23, i24, k28⟩
 refine FL.v (E.assign k28) ?_
 refine FL.nil ?_
 refine FW.ret ?_
 obtain rfl := hp
 exact ⟨.inr rfl, res1 rfl rfl ⟨rfl, S23.back⟩⟩

theorem w_impl_ringOf {Ha : GH} {wa : World} (hs : Sl Ha wa) (a0 : Int) (a1 : Int) :
  Calls Tryz.prog 119 #[Value.int .i64 a0, Value.int .i64 a1] wa (Sc Ha wa (Value.tuple #[Value.agg #[Value.int .i64 (((PF.impl_ringOf a0 a1).1).p), Value.int .i64 (((PF.impl_ringOf a0 a1).1).vars)], Value.bool ((PF.impl_ringOf a0 a1).2)])) := by
 obtain ⟨r, hp⟩ : ∃ r, (PF.impl_ringOf a0 a1) = r := ⟨_, rfl⟩
 rw [hp]
 unfold PF.impl_ringOf at hp
 have S0 := St.init hs
 refine calls_go (N := 23) (args := [Value.int .i64 a0, Value.int .i64 a1]) Tryz.func119 rfl rfl rfl ?_
 refine FW.seq (FW.region ?_)
 obtain ⟨b21, w22, run23, S24⟩ := S0.alloc (P := Tryz.prog) 102 [Value.int .i64 0, Value.int .i64 0] Tryz.zeroValue102 rfl (ones_cons rfl (ones_cons rfl ones_nil))
 refine FL.v (E.alloc run23) ?_
 refine FL.v (E.assign (v := Value.bool false) rfl) ?_
 refine FL.nil (FW.seq (FW.region ?_))
 refine FL.v (E.move (v := Value.int .i64 a0) rfl) ?_
 refine FL.v (E.move (v := Value.int .i64 a1) rfl) ?_
 refine FL.v (E.build (B2 rfl rfl) (run_build _ 102 #[(0, Value.int .i64 a0), (1, Value.int .i64 a1)] #[Value.int .i64 a0, Value.int .i64 a1] (by rfl))) ?_
 refine FL.v (E.move (v := Value.int .i64 a0) rfl) ?_
 refine FL.v (E.eql rfl rfl) ?_
 refine FL.v (E.move (v := Value.bool (a0 == 2)) rfl) ?_
 refine FL.cut 3 (fun f w => ∃ H : GH, St Ha wa H w [.box b21 102 [Value.int .i64 0, Value.int .i64 0]] ∧ Inc Ha H ∧ f 0 = Value.int .i64 a0 ∧ f 1 = Value.int .i64 a1 ∧ f 4 = Value.pointer (some (⟨b21, 0, none⟩ : Addr)) ∧ f 8 = Value.agg #[Value.int .i64 a0, Value.int .i64 a1] ∧ f 14 = Value.bool (bif (a0 == 2) then true else (a0 == 3))) ?_ ?_
 ·
  rcases bcase (a0 == 2) with c31 | c31
  ·
   refine FL.skip (wF_no rfl rfl rfl c31) rfl ?_
   refine FL.skip (wF_no rfl rfl rfl c31) rfl ?_
   refine FL.v (E.pickT rfl c31 rfl) ?_
   exact FL.nil ⟨rfl, _, S24, (Inc.rfl _), rfl, rfl, rfl, rfl, (congrArg Value.bool (bifT c31).symm)⟩
  ·
   refine FL.val (wF_yes rfl rfl rfl c31) rfl rfl (E.move (v := Value.int .i64 a0) rfl) ?_
   refine FL.val (wF_yes rfl rfl rfl c31) rfl rfl (E.eql rfl rfl) ?_
   refine FL.v (E.pickF rfl c31 rfl) ?_
   exact FL.nil ⟨rfl, _, S24, (Inc.rfl _), rfl, rfl, rfl, rfl, (congrArg Value.bool (bifF c31).symm)⟩
 rintro f30 w29 ⟨H26, S27, i28, k32, k33, k34, k35, k36⟩
 refine FL.v (E.move k36) ?_
 refine FL.cut 3 (fun f w => ∃ H : GH, St Ha wa H w [.box b21 102 [Value.int .i64 0, Value.int .i64 0]] ∧ Inc H26 H ∧ f 1 = Value.int .i64 a1 ∧ f 4 = Value.pointer (some (⟨b21, 0, none⟩ : Addr)) ∧ f 8 = Value.agg #[Value.int .i64 a0, Value.int .i64 a1] ∧ f 18 = Value.bool (bif (bif (a0 == 2) then true else (a0 == 3)) then true else (a0 == 5))) ?_ ?_
 ·
  rcases bcase (bif (a0 == 2) then true else (a0 == 3)) with c43 | c43
  ·
   refine FL.skip (wF_no rfl rfl rfl c43) rfl ?_
   refine FL.skip (wF_no rfl rfl rfl c43) rfl ?_
   refine FL.v (E.pickT rfl c43 rfl) ?_
   exact FL.nil ⟨rfl, _, S27, (Inc.rfl _), k33, k34, k35, (congrArg Value.bool (bifT c43).symm)⟩
  ·
   refine FL.val (wF_yes rfl rfl rfl c43) rfl rfl (E.move k32) ?_
   refine FL.val (wF_yes rfl rfl rfl c43) rfl rfl (E.eql rfl rfl) ?_
   refine FL.v (E.pickF rfl c43 rfl) ?_
   exact FL.nil ⟨rfl, _, S27, (Inc.rfl _), k33, k34, k35, (congrArg Value.bool (bifF c43).symm)⟩
 rintro f42 w41 ⟨H38, S39, i40, k44, k45, k46, k47⟩
 refine FL.v (E.move k47) ?_
 refine FL.cut 3 (fun f w => ∃ H : GH, St Ha wa H w [.box b21 102 [Value.int .i64 0, Value.int .i64 0]] ∧ Inc H38 H ∧ f 4 = Value.pointer (some (⟨b21, 0, none⟩ : Addr)) ∧ f 8 = Value.agg #[Value.int .i64 a0, Value.int .i64 a1] ∧ f 22 = Value.bool (bif (bif (bif (a0 == 2) then true else (a0 == 3)) then true else (a0 == 5)) then (PF.impl_within a1 0 6) else false)) ?_ ?_
 ·
  rcases bcase (bif (bif (a0 == 2) then true else (a0 == 3)) then true else (a0 == 5)) with c57 | c57
  ·
   refine FL.val (wF_yes rfl rfl rfl c57) rfl rfl (E.move k44) ?_
   refine FL.call (wF_yes rfl rfl rfl c57) rfl rfl (E.call Tryz.call162 (A3 rfl rfl rfl)) (w_impl_within S39.sl a1 0 6) ?_
   rintro e w58 ⟨rfl, r59⟩
   refine ⟨_, rfl, ?_⟩
   have S60 := S39.call r59
   refine FL.v (E.pickT rfl c57 rfl) ?_
   exact FL.nil ⟨rfl, _, S60, (Inc.rfl _), k45, k46, (congrArg Value.bool (bifT c57).symm)⟩
  ·
   refine FL.skip (wF_no rfl rfl rfl c57) rfl ?_
   refine FL.skip (wF_no rfl rfl rfl c57) rfl ?_
   refine FL.v (E.pickF rfl c57 rfl) ?_
   exact FL.nil ⟨rfl, _, S39, (Inc.rfl _), k45, k46, (congrArg Value.bool (bifF c57).symm)⟩
 rintro f56 w55 ⟨H52, S53, i54, k61, k62, k63⟩
 obtain ⟨w64, run65, S66⟩ := S53.store0 (P := Tryz.prog) (t := 102) (i := 0) (cs' := [Value.int .i64 a0, Value.int .i64 a1]) (l' := [.box b21 102 [Value.int .i64 a0, Value.int .i64 a1]]) (v := Value.agg #[Value.int .i64 a0, Value.int .i64 a1]) (c := [Value.int .i64 a0, Value.int .i64 a1]) rfl Tryz.sizeOf102 rfl rfl (ones_cons rfl (ones_cons rfl ones_nil)) (Nat.le_of_ble_eq_true rfl) rfl rfl
 refine FL.act rfl rfl (E.store k61 k62 run65) ?_
 obtain ⟨H67, S68, i69, at70⟩ := S66.sealBox (i := 0) (l' := []) rfl rfl
 refine FL.v (E.assign k63) ?_
 refine FL.nil ?_
 refine FW.ret ?_
 obtain rfl := hp
 exact ⟨.inr rfl, resC2 rfl k61 (loadVar_A Tryz.isAgg102 Tryz.sizeOf102 (at70.now S68.sl) rfl) rfl ⟨rfl, S68.back⟩⟩

theorem w_impl_isLiteral {Ha : GH} {wa : World} (hs : Sl Ha wa) (a0 : Int) (a1 : Int) :
  Calls Tryz.prog 229 #[Value.int .i64 a0, Value.int .i64 a1] wa (Sc Ha wa (Value.bool (PF.impl_isLiteral a0 a1))) := by
 obtain ⟨r, hp⟩ : ∃ r, (PF.impl_isLiteral a0 a1) = r := ⟨_, rfl⟩
 rw [hp]
 unfold PF.impl_isLiteral at hp
 have S0 := St.init hs
 refine calls_go (N := 14) (args := [Value.int .i64 a0, Value.int .i64 a1]) Tryz.func229 rfl rfl rfl ?_
 refine FW.seq (FW.region ?_)
 refine FL.v (E.assign (v := Value.bool false) rfl) ?_
 refine FL.nil (FW.seq (FW.region ?_))
 refine FL.v (E.move (v := Value.int .i64 a1) rfl) ?_
 refine FL.v (E.neq rfl rfl) ?_
 refine FL.v (E.move (v := Value.bool (!(a1 == 0))) rfl) ?_
 refine FL.cut 6 (fun f w => ∃ H : GH, St Ha wa H w [] ∧ Inc Ha H ∧ f 13 = Value.bool (bif (!(a1 == 0)) then (PF.impl_within a1 (wr (-a0)) a0) else false)) ?_ ?_
 ·
  rcases bcase (!(a1 == 0)) with c30 | c30
  ·
   refine FL.val (wF_yes rfl rfl rfl c30) rfl rfl (E.move (v := Value.int .i64 a1) rfl) ?_
   refine FL.val (wF_yes rfl rfl rfl c30) rfl rfl (E.move (v := Value.int .i64 a0) rfl) ?_
   refine FL.val (wF_yes rfl rfl rfl c30) rfl rfl (E.neg rfl) ?_
   refine FL.val (wF_yes rfl rfl rfl c30) rfl rfl (E.move (v := Value.int .i64 a0) rfl) ?_
   refine FL.call (wF_yes rfl rfl rfl c30) rfl rfl (E.call Tryz.call162 (A3 rfl rfl rfl)) (w_impl_within S0.sl a1 (wr (-a0)) a0) ?_
   rintro e w31 ⟨rfl, r32⟩
   refine ⟨_, rfl, ?_⟩
   have S33 := S0.call r32
   refine FL.v (E.pickT rfl c30 rfl) ?_
   exact FL.nil ⟨rfl, _, S33, (Inc.rfl _), (congrArg Value.bool (bifT c30).symm)⟩
  ·
   refine FL.skip (wF_no rfl rfl rfl c30) rfl ?_
   refine FL.skip (wF_no rfl rfl rfl c30) rfl ?_
   refine FL.skip (wF_no rfl rfl rfl c30) rfl ?_
   refine FL.skip (wF_no rfl rfl rfl c30) rfl ?_
   refine FL.skip (wF_no rfl rfl rfl c30) rfl ?_
   refine FL.v (E.pickF rfl c30 rfl) ?_
   exact FL.nil ⟨rfl, _, S0, (Inc.rfl _), (congrArg Value.bool (bifF c30).symm)⟩
 rintro f29 w28 ⟨H25, S26, i27, k34⟩
 refine FL.v (E.assign k34) ?_
 refine FL.nil ?_
 refine FW.ret ?_
 obtain rfl := hp
 exact ⟨.inr rfl, res1 rfl rfl ⟨rfl, S26.back⟩⟩

theorem w_impl_abs {Ha : GH} {wa : World} (hs : Sl Ha wa) (a0 : Int) :
  Calls Tryz.prog 143 #[Value.int .i64 a0] wa (Sc Ha wa (Value.int .i64 (PF.impl_abs a0))) := by
 obtain ⟨r, hp⟩ : ∃ r, (PF.impl_abs a0) = r := ⟨_, rfl⟩
 rw [hp]
 unfold PF.impl_abs at hp
 have S0 := St.init hs
 refine calls_go (N := 7) (args := [Value.int .i64 a0]) Tryz.func143 rfl rfl rfl ?_
 refine FW.seq (FW.region ?_)
 refine FL.v (E.assign (v := Value.int .i64 0) rfl) ?_
 refine FL.nil (FW.seq (FW.region ?_))
 refine FL.v (E.move (v := Value.int .i64 a0) rfl) ?_
 refine FL.v (E.move (v := Value.int .i64 a0) rfl) ?_
 refine FL.v (E.neg rfl) ?_
 refine FL.v (E.max2 rfl rfl) ?_
 refine FL.v (E.assign (v := Value.int .i64 (mx a0 (wr (-a0)))) rfl) ?_
 refine FL.nil ?_
 refine FW.ret ?_
 obtain rfl := hp
 exact ⟨.inr rfl, res1 rfl rfl ⟨rfl, S0.back⟩⟩

theorem w_impl_varsOk {Ha : GH} {wa : World} (hs : Sl Ha wa) (a0 : Int) :
  Calls Tryz.prog 181 #[Value.int .i64 a0] wa (Sc Ha wa (Value.bool (PF.impl_varsOk a0))) := by
 obtain ⟨r, hp⟩ : ∃ r, (PF.impl_varsOk a0) = r := ⟨_, rfl⟩
 rw [hp]
 unfold PF.impl_varsOk at hp
 have S0 := St.init hs
 refine calls_go (N := 5) (args := [Value.int .i64 a0]) Tryz.func181 rfl rfl rfl ?_
 refine FW.seq (FW.region ?_)
 refine FL.v (E.assign (v := Value.bool false) rfl) ?_
 refine FL.nil (FW.seq (FW.region ?_))
 refine FL.v (E.move (v := Value.int .i64 a0) rfl) ?_
 refine FL.call rfl rfl rfl (E.call Tryz.call162 (A3 rfl rfl rfl)) (w_impl_within S0.sl a0 0 12) ?_
 rintro e w21 ⟨rfl, r22⟩
 refine ⟨_, rfl, ?_⟩
 have S23 := S0.call r22
 refine FL.v (E.assign (v := Value.bool (PF.impl_within a0 0 12)) rfl) ?_
 refine FL.nil ?_
 refine FW.ret ?_
 obtain rfl := hp
 exact ⟨.inr rfl, res1 rfl rfl ⟨rfl, S23.back⟩⟩

theorem w_impl_IsClause {Ha : GH} {wa : World} (hs : Sl Ha wa) (a0 : Int) (v1 : Value) (a1 : List Int) (p1 : RSl Ha eI 1 v1 a1) {r : Bool} (hp : (PF.impl_IsClause a0 a1) = some r) :
  Calls Tryz.prog 180 #[Value.int .i64 a0, v1] wa (Sc Ha wa (Value.bool r)) := by
 unfold PF.impl_IsClause at hp
 have S0 := St.init hs
 refine calls_go (N := 36) (args := [Value.int .i64 a0, v1]) Tryz.func180 rfl rfl rfl ?_
 refine FW.seq (FW.region ?_)
 refine FL.v (E.assign (v := Value.bool false) rfl) ?_
 refine FL.nil (FW.seq (FW.seq (FW.region ?_)))
 refine FL.v (E.move (v := v1) rfl) ?_
 refine FL.v (E.lenP te73 rfl p1) ?_
 refine FL.v (E.move (v := Value.int .i64 0) rfl) ?_
 refine FL.nil ?_
 obtain ⟨q22, hq, hp⟩ := bndR hp
 refine FW.block ?_
 refine FW.mono (FW.forL (S := Unit) (X := Bool) (fun (i22 : Nat) (s22 : Unit) f w => ∃ H : GH, St Ha wa H w [] ∧ Inc Ha H ∧ f 9 = Value.int .i64 ((i22 : Nat) : Int) ∧ f 0 = Value.int .i64 a0 ∧ f 1 = v1 ∧ f 7 = v1 ∧ f 8 = Value.int .i64 (len a1)) (fun q e f w => match q with | .go s22 => e = Exit.exit 0 ∧ (∃ H : GH, St Ha wa H w [] ∧ Inc Ha H ∧ f 0 = Value.int .i64 a0) | .rt x => ((e = Exit.ret) ∧ (fun e f w => (e = Exit.normal ∨ e = Exit.ret) ∧ ∀ a, Fr (δ := []) 36 a f → ∃ v, (results Tryz.f180 a.tmps).run Tryz.prog w = .ok v w ∧ (Sc Ha wa (Value.bool x)) (.returned v) w) e f w)) hq ⟨_, S0, (Inc.rfl _), rfl, rfl, rfl, rfl, rfl⟩ ?_ ?_) ?_
 ·
  clear hp hq
  rintro i22 y21 s22 f121 w120 ⟨H117, S118, i119, k122, k123, k124, k125, k126⟩ hx22 o211 hp
  refine FW.seq (FW.region ?_)
  refine FL.v (E.lssT k122 k126 (lss_len hx22)) ?_
  refine FL.nil (FW.seq ?_)
  refine FW.condT rfl rfl ?_
  refine FW.skip (FW.seq (FW.block (FW.seq (FW.region ?_))))
  refine FL.v (E.move k122) ?_
  obtain ⟨p127, cs128, pt129, l130, at131, rel132⟩ := p1.at (ix_nat hx22)
  obtain rfl := eI_open rel132
  refine FL.v (E.indexAddr te73 k125 k122 pt129) ?_
  refine FL.v (E.load rfl (run_load0 Tryz.isAgg3 ((at131.mono i119).now S118.sl) rfl)) ?_
  refine FL.v (E.assign (v := Value.int .i64 ((i22 : Nat) : Int)) rfl) ?_
  refine FL.v (E.assign (v := Value.int .i64 y21) rfl) ?_
  refine FL.nil (FW.seq ?_)
  refine FW.draw (fun w' => Run w120.heap.size H117 w120 H117 w') (by kernel_rfl) (by kernel_rfl) (run_drew S118.sl) ?_
  refine FD.val rfl rfl rfl (fun w' hw' => (E.move k123)) ?_
  refine FD.val rfl rfl rfl (fun w' hw' => (E.move (v := Value.int .i64 y21) rfl)) ?_
  refine FD.call rfl rfl rfl (fun w' hw' => (E.call Tryz.call229 (A2 rfl rfl))) (fun w' hw' => Calls.cls hw' (w_impl_isLiteral (S118.call hw').sl a0 y21)) ?_
  refine FD.val rfl rfl rfl (fun w' hw' => (E.not rfl)) ?_
  refine FD.val rfl rfl rfl (fun w' hw' => (E.move (v := Value.bool (!(PF.impl_isLiteral a0 y21))) rfl)) ?_
  obtain ⟨t164, hqt164, hp⟩ := bnd hp
  refine FD.cut 14 (fun f => f 0 = Value.int .i64 a0 ∧ f 1 = v1 ∧ f 7 = v1 ∧ f 8 = Value.int .i64 (len a1) ∧ f 9 = Value.int .i64 ((i22 : Nat) : Int) ∧ f 32 = Value.bool t164) ?_ ?_
  ·
   clear hp; have hp := hqt164; clear hqt164
   rcases ifB hp with ⟨c170, hp⟩ | ⟨c170, hp⟩
   ·
    refine FD.skip (wF_no rfl rfl rfl c170) rfl ?_
    refine FD.skip (wF_no rfl rfl rfl c170) rfl ?_
    refine FD.skip (wF_no rfl rfl rfl c170) rfl ?_
    refine FD.skip (wF_undef rfl rfl rfl) rfl ?_
    refine FD.skip (wF_undef rfl rfl rfl) rfl ?_
    refine FD.skip (wF_undef rfl rfl rfl) rfl ?_
    refine FD.skip (wF_undef rfl rfl rfl) rfl ?_
    refine FD.skip (wF_undef rfl rfl rfl) rfl ?_
    refine FD.skip (wF_undef rfl rfl rfl) rfl ?_
    refine FD.skip (wF_undef rfl rfl rfl) rfl ?_
    refine FD.skip (wF_undef rfl rfl rfl) rfl ?_
    refine FD.skip (wF_undef rfl rfl rfl) rfl ?_
    refine FD.skip (wF_no rfl rfl rfl c170) rfl ?_
    obtain rfl := Option.some.inj hp
    refine FD.val rfl rfl rfl (fun w' hw' => (E.pickT rfl c170 rfl)) ?_
    exact FD.nil ⟨k123, k124, k125, k126, k122, rfl⟩
   ·
    refine FD.val (wF_yes rfl rfl rfl c170) rfl rfl (fun w' hw' => (E.move (v := Value.int .i64 ((i22 : Nat) : Int)) rfl)) ?_
    refine FD.val (wF_yes rfl rfl rfl c170) rfl rfl (fun w' hw' => (E.gtr rfl rfl)) ?_
    refine FD.val (wF_yes rfl rfl rfl c170) rfl rfl (fun w' hw' => (E.move (v := Value.bool (decide (0 < ((i22 : Nat) : Int)))) rfl)) ?_
    obtain ⟨t179, hqt179, hp⟩ := bnd hp
    refine FD.cut 10 (fun f => f 0 = Value.int .i64 a0 ∧ f 1 = v1 ∧ f 7 = v1 ∧ f 8 = Value.int .i64 (len a1) ∧ f 9 = Value.int .i64 ((i22 : Nat) : Int) ∧ f 18 = Value.bool (!(PF.impl_isLiteral a0 y21)) ∧ f 31 = Value.bool t179) ?_ ?_
    ·
     clear hp; have hp := hqt179; clear hqt179
     rcases ifB hp with ⟨c185, hp⟩ | ⟨c185, hp⟩
     ·
      refine FD.val (wF_yes rfl rfl rfl c185) rfl rfl (fun w' hw' => (E.move (v := Value.int .i64 y21) rfl)) ?_
      refine FD.call (wF_yes rfl rfl rfl c185) rfl rfl (fun w' hw' => (E.call Tryz.call143 (A1 rfl))) (fun w' hw' => Calls.cls hw' (w_impl_abs (S118.call hw').sl y21)) ?_
      refine FD.val (wF_yes rfl rfl rfl c185) rfl rfl (fun w' hw' => (E.move k124)) ?_
      refine FD.val (wF_yes rfl rfl rfl c185) rfl rfl (fun w' hw' => (E.move (v := Value.int .i64 ((i22 : Nat) : Int)) rfl)) ?_
      refine FD.val (wF_yes rfl rfl rfl c185) rfl rfl (fun w' hw' => (E.sub rfl rfl)) ?_
      obtain ⟨x192, hx193, hp⟩ := bnd hp
      obtain ⟨p186, cs187, pt188, l189, at190, rel191⟩ := p1.at hx193
      obtain rfl := eI_open rel191
      refine FD.val (wF_yes rfl rfl rfl c185) rfl rfl (fun w' hw' => (E.indexAddr te73 rfl rfl pt188)) ?_
      refine FD.val (wF_yes rfl rfl rfl c185) rfl rfl (fun w' hw' => (E.load rfl (run_load0 Tryz.isAgg3 ((at190.mono i119).now (S118.call hw').sl) rfl))) ?_
      refine FD.call (wF_yes rfl rfl rfl c185) rfl rfl (fun w' hw' => (E.call Tryz.call143 (A1 rfl))) (fun w' hw' => Calls.cls hw' (w_impl_abs (S118.call hw').sl x192)) ?_
      refine FD.val (wF_yes rfl rfl rfl c185) rfl rfl (fun w' hw' => (E.leq rfl rfl)) ?_
      obtain rfl := Option.some.inj hp
      refine FD.val (wF_yes rfl rfl rfl c170) rfl rfl (fun w' hw' => (E.pickT rfl c185 rfl)) ?_
      exact FD.nil ⟨k123, k124, k125, k126, k122, rfl, rfl⟩
     ·
      refine FD.skip (wF_no rfl rfl rfl c185) rfl ?_
      refine FD.skip (wF_no rfl rfl rfl c185) rfl ?_
      refine FD.skip (wF_no rfl rfl rfl c185) rfl ?_
      refine FD.skip (wF_no rfl rfl rfl c185) rfl ?_
      refine FD.skip (wF_no rfl rfl rfl c185) rfl ?_
      refine FD.skip (wF_no rfl rfl rfl c185) rfl ?_
      refine FD.skip (wF_no rfl rfl rfl c185) rfl ?_
      refine FD.skip (wF_no rfl rfl rfl c185) rfl ?_
      refine FD.skip (wF_no rfl rfl rfl c185) rfl ?_
      obtain rfl := Option.some.inj hp
      refine FD.val (wF_yes rfl rfl rfl c170) rfl rfl (fun w' hw' => (E.pickF rfl c185 rfl)) ?_
      exact FD.nil ⟨k123, k124, k125, k126, k122, rfl, rfl⟩
    rintro f184 ⟨k194, k195, k196, k197, k198, k199, k200⟩
    obtain rfl := Option.some.inj hp
    refine FD.val rfl rfl rfl (fun w' hw' => (E.pickF k199 c170 k200)) ?_
    exact FD.nil ⟨k194, k195, k196, k197, k198, rfl⟩
  rintro f169 ⟨k201, k202, k203, k204, k205, k206⟩
  refine FD.nil ?_
  intro w207 r209
  have S208 := S118.call r209
  rcases ifB hp with ⟨c210, hp⟩ | ⟨c210, hp⟩
  ·
   refine FW.condT k206 c210 ?_
   refine FW.seq (FW.region ?_)
   refine FL.v (E.assign (v := Value.bool false) rfl) ?_
   refine FL.nil ?_
   refine FW.ret ?_
   obtain rfl := Option.some.inj hp
   exact ⟨nofun, rfl, ⟨.inr rfl, res1 rfl rfl ⟨rfl, S208.back⟩⟩⟩
  ·
   refine FW.condF k206 c210 ?_
   refine FW.skip (FW.region ?_)
   refine FL.v (E.add k205 rfl) ?_
   refine FL.v (E.move (v := Value.int .i64 (wr (((i22 : Nat) : Int) + 1))) rfl) ?_
   refine FL.nil ?_
   obtain rfl := Option.some.inj hp
   exact ⟨rfl, ⟨_, S208, i119, (nat_succ rfl (lt_of_get hx22) (p1.mono i119).le), k201, k202, k203, k204⟩⟩
 ·
  clear hp hq
  rintro s22 f225 w224 ⟨H221, S222, i223, k226, k227, k228, k229, k230⟩
  refine FW.seq (FW.region ?_)
  refine FL.v (E.lss k226 k230) ?_
  refine FL.nil (FW.seq ?_)
  refine FW.condF rfl dlt_len ?_
  refine FW.exit ?_
  exact ⟨nofun, rfl, ⟨_, S222, i223, k227⟩⟩
 ·
  clear hq
  intro e f216 w215 hD
  rcases q22 with s22 | x22
  ·
   obtain ⟨rfl, hD⟩ := hD
   obtain ⟨H212, S213, i214, k217⟩ := hD
   replace hp := el_go hp
   refine FW.seq (FW.region ?_)
   refine FL.v (E.move k217) ?_
   refine FL.call rfl rfl rfl (E.call Tryz.call181 (A1 rfl)) (w_impl_varsOk S213.sl a0) ?_
   rintro e w218 ⟨rfl, r219⟩
   refine ⟨_, rfl, ?_⟩
   have S220 := S213.call r219
   refine FL.v (E.assign (v := Value.bool (PF.impl_varsOk a0)) rfl) ?_
   refine FL.nil ?_
   refine FW.ret ?_
   obtain rfl := Option.some.inj hp
   exact ⟨.inr rfl, res1 rfl rfl ⟨rfl, S220.back⟩⟩
  ·
   obtain ⟨he, hL⟩ := hD
   replace hp := el_rt hp
   obtain rfl := Option.some.inj hp
   subst he
   exact hL

theorem w_impl_IsCnf {Ha : GH} {wa : World} (hs : Sl Ha wa) (a0 : Cnf) (v0_1 : Value) (p0_1 : RSl Ha (eL eI 1) 1 v0_1 a0.clauses) {r : Bool} (hp : (PF.impl_IsCnf a0) = some r) :
  Calls Tryz.prog 120 #[Value.agg #[Value.int .i64 a0.vars, v0_1]] wa (Sc Ha wa (Value.bool r)) := by
 unfold PF.impl_IsCnf at hp
 have S0 := St.init hs
 refine calls_go (N := 27) (args := [Value.agg #[Value.int .i64 a0.vars, v0_1]]) Tryz.func120 rfl rfl rfl ?_
 refine FW.seq (FW.region ?_)
 obtain ⟨b21, w22, run23, S24⟩ := S0.box (P := Tryz.prog) 32 [Value.int .i64 a0.vars, v0_1] (v := Value.agg #[Value.int .i64 a0.vars, v0_1]) rfl (ones_cons rfl (ones_cons p0_1.one ones_nil))
 refine FL.v (E.box rfl run23) ?_
 obtain ⟨H25, S26, i27, at28⟩ := S24.sealBox (i := 0) (l' := []) rfl rfl
 refine FL.v (E.assign (v := Value.bool false) rfl) ?_
 refine FL.nil (FW.seq (FW.seq (FW.region ?_)))
 refine FL.v (E.fieldAddr tf32_1 rfl) ?_
 refine FL.v (E.load rfl (run_load1 Tryz.isAgg22 (at28.now S26.sl) rfl)) ?_
 refine FL.v (E.lenP te22 rfl p0_1) ?_
 refine FL.v (E.move (v := Value.int .i64 0) rfl) ?_
 refine FL.nil ?_
 obtain ⟨q30, hq, hp⟩ := bndR hp
 refine FW.block ?_
 refine FW.mono (FW.forL (S := Unit) (X := Bool) (fun (i30 : Nat) (s30 : Unit) f w => ∃ H : GH, St Ha wa H w [] ∧ Inc H25 H ∧ f 8 = Value.int .i64 ((i30 : Nat) : Int) ∧ f 1 = Value.pointer (some ⟨b21, 0, none⟩) ∧ f 6 = v0_1 ∧ f 7 = Value.int .i64 (len a0.clauses)) (fun q e f w => match q with | .go s30 => e = Exit.exit 0 ∧ (∃ H : GH, St Ha wa H w [] ∧ Inc H25 H ∧ f 1 = Value.pointer (some ⟨b21, 0, none⟩)) | .rt x => ((e = Exit.ret) ∧ (fun e f w => (e = Exit.normal ∨ e = Exit.ret) ∧ ∀ a, Fr (δ := []) 27 a f → ∃ v, (results Tryz.f120 a.tmps).run Tryz.prog w = .ok v w ∧ (Sc Ha wa (Value.bool x)) (.returned v) w) e f w)) hq ⟨_, S26, (Inc.rfl _), rfl, rfl, rfl, rfl⟩ ?_ ?_) ?_
 ·
  clear hp hq
  rintro i30 y29 s30 f58 w57 ⟨H54, S55, i56, k59, k60, k61, k62⟩ hx30 o77 hp
  refine FW.seq (FW.region ?_)
  refine FL.v (E.lssT k59 k62 (lss_len hx30)) ?_
  refine FL.nil (FW.seq ?_)
  refine FW.condT rfl rfl ?_
  refine FW.skip (FW.seq (FW.block (FW.seq (FW.region ?_))))
  obtain ⟨p63, cs64, pt65, l66, at67, rel68⟩ := p0_1.at (ix_nat hx30)
  obtain ⟨v69, rfl, h70⟩ := eL_open rel68
  refine FL.v (E.indexAddr te22 k61 k59 pt65) ?_
  refine FL.v (E.load rfl (run_load0 Tryz.isAgg73 ((at67.mono (i27.tr i56)).now S55.sl) rfl)) ?_
  refine FL.v (E.assign (v := v69) rfl) ?_
  refine FL.nil (FW.seq (FW.region ?_))
  refine FL.v (E.fieldAddr tf32_0 k60) ?_
  refine FL.v (E.load rfl (run_load1 Tryz.isAgg3 ((at28.mono i56).now S55.sl) rfl)) ?_
  refine FL.v (E.move (v := v69) rfl) ?_
  obtain ⟨r71, hr72, hp⟩ := bnd hp
  refine FL.call rfl rfl rfl (E.call Tryz.call180 (A2 rfl rfl)) (w_impl_IsClause S55.sl a0.vars v69 y29 (h70.mono (i27.tr i56)) hr72) ?_
  rintro e w73 ⟨rfl, r74⟩
  refine ⟨_, rfl, ?_⟩
  have S75 := S55.call r74
  refine FL.v (E.not rfl) ?_
  refine FL.nil ?_
  rcases ifB hp with ⟨c76, hp⟩ | ⟨c76, hp⟩
  ·
   refine FW.condT rfl c76 ?_
   refine FW.seq (FW.region ?_)
   refine FL.v (E.assign (v := Value.bool false) rfl) ?_
   refine FL.nil ?_
   refine FW.ret ?_
   obtain rfl := Option.some.inj hp
   exact ⟨nofun, rfl, ⟨.inr rfl, res1 rfl rfl ⟨rfl, S75.back⟩⟩⟩
  ·
   refine FW.condF rfl c76 ?_
   refine FW.skip (FW.region ?_)
   refine FL.v (E.add k59 rfl) ?_
   refine FL.v (E.move (v := Value.int .i64 (wr (((i30 : Nat) : Int) + 1))) rfl) ?_
   refine FL.nil ?_
   obtain rfl := Option.some.inj hp
   exact ⟨rfl, ⟨_, S75, i56, (nat_succ rfl (lt_of_get hx30) (p0_1.mono (i27.tr i56)).le), k60, k61, k62⟩⟩
 ·
  clear hp hq
  rintro s30 f99 w98 ⟨H95, S96, i97, k100, k101, k102, k103⟩
  refine FW.seq (FW.region ?_)
  refine FL.v (E.lss k100 k103) ?_
  refine FL.nil (FW.seq ?_)
  refine FW.condF rfl dlt_len ?_
  refine FW.exit ?_
  exact ⟨nofun, rfl, ⟨_, S96, i97, k101⟩⟩
 ·
  clear hq
  intro e f82 w81 hD
  rcases q30 with s30 | x30
  ·
   obtain ⟨rfl, hD⟩ := hD
   obtain ⟨H78, S79, i80, k83⟩ := hD
   replace hp := el_go hp
   refine FW.seq (FW.region ?_)
   refine FL.v (E.fieldAddr tf32_0 k83) ?_
   refine FL.v (E.load rfl (run_load1 Tryz.isAgg3 ((at28.mono i80).now S79.sl) rfl)) ?_
   refine FL.call rfl rfl rfl (E.call Tryz.call181 (A1 rfl)) (w_impl_varsOk S79.sl a0.vars) ?_
   rintro e w84 ⟨rfl, r85⟩
   refine ⟨_, rfl, ?_⟩
   have S86 := S79.call r85
   refine FL.v (E.move (v := Value.bool (PF.impl_varsOk a0.vars)) rfl) ?_
   refine FL.cut 5 (fun f w => ∃ H : GH, St Ha wa H w [] ∧ Inc H78 H ∧ f 26 = Value.bool (bif (PF.impl_varsOk a0.vars) then (decide ((len a0.clauses) ≤ 60)) else false)) ?_ ?_
   ·
    rcases bcase (PF.impl_varsOk a0.vars) with c93 | c93
    ·
     refine FL.val (wF_yes rfl rfl rfl c93) rfl rfl (E.fieldAddr tf32_1 k83) ?_
     refine FL.val (wF_yes rfl rfl rfl c93) rfl rfl (E.load rfl (run_load1 Tryz.isAgg22 ((at28.mono i80).now S86.sl) rfl)) ?_
     refine FL.val (wF_yes rfl rfl rfl c93) rfl rfl (E.lenP te22 rfl p0_1) ?_
     refine FL.val (wF_yes rfl rfl rfl c93) rfl rfl (E.leq rfl rfl) ?_
     refine FL.v (E.pickT rfl c93 rfl) ?_
     exact FL.nil ⟨rfl, _, S86, (Inc.rfl _), (congrArg Value.bool (bifT c93).symm)⟩
    ·
     refine FL.skip (wF_no rfl rfl rfl c93) rfl ?_
     refine FL.skip (wF_no rfl rfl rfl c93) rfl ?_
     refine FL.skip (wF_no rfl rfl rfl c93) rfl ?_
     refine FL.skip (wF_no rfl rfl rfl c93) rfl ?_
     refine FL.v (E.pickF rfl c93 rfl) ?_
     exact FL.nil ⟨rfl, _, S86, (Inc.rfl _), (congrArg Value.bool (bifF c93).symm)⟩
   rintro f92 w91 ⟨H88, S89, i90, k94⟩
   refine FL.v (E.assign k94) ?_
   refine FL.nil ?_
   refine FW.ret ?_
   obtain rfl := Option.some.inj hp
   exact ⟨.inr rfl, res1 rfl rfl ⟨rfl, S89.back⟩⟩
  ·
   obtain ⟨he, hL⟩ := hD
   replace hp := el_rt hp
   obtain rfl := Option.some.inj hp
   subst he
   exact hL

@[reducible] def p_impl_ring_zero (Ha : GH) (wa : World) (r : (List Int)) : Ending → World → Prop :=
 fun e w' => ∃ H' : GH, ∃ v0 : Value, ∃ n0 : Nat, ∃ c0 : List Value, e = .returned (v0) ∧ St Ha wa H' w' [.row 3 1 v0 n0 c0] ∧ Els (up wa.heap.size H') eI 1 c0 r
theorem w_impl_ring_zero {Ha : GH} {wa : World} (hs : Sl Ha wa) (a0 : ring) {r : (List Int)} (hp : (PF.impl_ring_zero a0) = some r) :
  Calls Tryz.prog 165 #[Value.agg #[Value.int .i64 a0.p, Value.int .i64 a0.vars]] wa (p_impl_ring_zero Ha wa r) := by
 unfold PF.impl_ring_zero at hp
 have S0 := St.init hs
 refine calls_go (N := 7) (args := [Value.agg #[Value.int .i64 a0.p, Value.int .i64 a0.vars]]) Tryz.func165 rfl rfl rfl ?_
 refine FW.seq (FW.region ?_)
 obtain ⟨b21, w22, run23, S24⟩ := S0.box (P := Tryz.prog) 102 [Value.int .i64 a0.p, Value.int .i64 a0.vars] (v := Value.agg #[Value.int .i64 a0.p, Value.int .i64 a0.vars]) rfl (ones_cons rfl (ones_cons rfl ones_nil))
 refine FL.v (E.box rfl run23) ?_
 obtain ⟨H25, S26, i27, at28⟩ := S24.sealBox (i := 0) (l' := []) rfl rfl
 refine FL.v (E.assign (v := Value.slice none 0 0) rfl) ?_
 refine FL.nil (FW.seq (FW.region ?_))
 refine FL.v (E.fieldAddr tf102_1 rfl) ?_
 refine FL.v (E.load rfl (run_load1 Tryz.isAgg3 (at28.now S26.sl) rfl)) ?_
 obtain ⟨u30, z29, hp⟩ := bnd hp
 refine FL.v (E.shl rfl rfl (nn_ge z29)) ?_
 obtain ⟨xs31, hm32, hp⟩ := bnd hp
 obtain ⟨v33, w34, n38, cs39, run35, S36, els37, hbl40⟩ := S26.makeEls (P := Tryz.prog) te99 (G := (up wa.heap.size H25)) (En := eI) (x0 := (0 : Int)) hm32 rfl (ones_cons rfl ones_nil) .i64 .i64
 refine FL.v (E.makeSlice rfl rfl run35) ?_
 refine FL.v (E.assign (v := v33) rfl) ?_
 refine FL.nil ?_
 refine FW.ret ?_
 obtain rfl := Option.some.inj hp
 exact ⟨.inr rfl, res1 rfl rfl ⟨_, _, _, _, rfl, S36, els37⟩⟩

@[reducible] def p_impl_ring_mono (Ha : GH) (wa : World) (r : (List Int)) : Ending → World → Prop :=
 fun e w' => ∃ H' : GH, ∃ v0 : Value, ∃ n0 : Nat, ∃ c0 : List Value, e = .returned (v0) ∧ St Ha wa H' w' [.row 3 1 v0 n0 c0] ∧ Els (up wa.heap.size H') eI 1 c0 r
theorem w_impl_ring_mono {Ha : GH} {wa : World} (hs : Sl Ha wa) (a0 : ring) (a1 : Int) {r : (List Int)} (hp : (PF.impl_ring_mono a0 a1) = some r) :
  Calls Tryz.prog 123 #[Value.agg #[Value.int .i64 a0.p, Value.int .i64 a0.vars], Value.int .i64 a1] wa (p_impl_ring_mono Ha wa r) := by
 unfold PF.impl_ring_mono at hp
 have S0 := St.init hs
 refine calls_go (N := 12) (args := [Value.agg #[Value.int .i64 a0.p, Value.int .i64 a0.vars], Value.int .i64 a1]) Tryz.func123 rfl rfl rfl ?_
 refine FW.seq (FW.region ?_)
 obtain ⟨b21, w22, run23, S24⟩ := S0.box (P := Tryz.prog) 102 [Value.int .i64 a0.p, Value.int .i64 a0.vars] (v := Value.agg #[Value.int .i64 a0.p, Value.int .i64 a0.vars]) rfl (ones_cons rfl (ones_cons rfl ones_nil))
 refine FL.v (E.box rfl run23) ?_
 obtain ⟨H25, S26, i27, at28⟩ := S24.sealBox (i := 0) (l' := []) rfl rfl
 refine FL.v (E.assign (v := Value.slice none 0 0) rfl) ?_
 refine FL.nil (FW.seq (FW.region ?_))
 refine FL.v (E.load rfl (run_loadA Tryz.isAgg102 Tryz.sizeOf102 (at28.now S26.sl) rfl)) ?_
 obtain ⟨r29, hr30, hp⟩ := bnd hp
 refine FL.call rfl rfl rfl (E.call Tryz.call165 (A1 rfl)) (w_impl_ring_zero S26.sl a0 hr30) ?_
 rintro e w32 ⟨H31, v35, n36, cs37, rfl, r34, els38⟩
 refine ⟨_, rfl, ?_⟩
 have els38 := els38.mono (up_le S26.size)
 have S33 := S26.join (l' := [.row 3 1 v35 n36 cs37]) r34 rfl
 refine FL.v (E.assign (v := v35) rfl) ?_
 refine FL.nil (FW.seq (FW.region ?_))
 refine FL.v (E.move (v := v35) rfl) ?_
 refine FL.v (E.move (v := Value.int .i64 a1) rfl) ?_
 obtain ⟨x45, hx46, hp⟩ := bnd hp
 obtain ⟨p39, cs40, pt41, l42, at43, rel44⟩ := S33.row_at (i := 0) rfl els38 (by decide) hx46
 obtain rfl := eI_open rel44
 refine FL.v (E.indexAddr te99 rfl rfl pt41) ?_
 obtain ⟨xs50, hput51, hp⟩ := bnd hp
 obtain ⟨w47, cs53, run48, S49, els52, ce54⟩ := S33.putEls (P := Tryz.prog) (t := 3) (i := 0) rfl els38 hput51 pt41 Tryz.sizeOf3 (u := Value.int .i64 1) (c := [Value.int .i64 1]) rfl rfl (ones_cons rfl ones_nil) rfl
 have S49 : St Ha wa H31 w47 [.row 3 1 v35 n36 cs53] := S49
 refine FL.act rfl rfl (E.store rfl rfl run48) ?_
 refine FL.nil (FW.seq (FW.region ?_))
 refine FL.v (E.move (v := v35) rfl) ?_
 refine FL.v (E.assign (v := v35) rfl) ?_
 refine FL.nil ?_
 refine FW.ret ?_
 obtain rfl := Option.some.inj hp
 exact ⟨.inr rfl, res1 rfl rfl ⟨_, _, _, _, rfl, S49, els52⟩⟩

@[reducible] def p_slices_Clone_impl_dense_int (Ha : GH) (wa : World) (r : (List Int)) : Ending → World → Prop :=
 fun e w' => ∃ H' : GH, ∃ v0 : Value, ∃ n0 : Nat, ∃ c0 : List Value, e = .returned (v0) ∧ St Ha wa H' w' [.row 3 1 v0 n0 c0] ∧ Els (up wa.heap.size H') eI 1 c0 r
theorem w_slices_Clone_impl_dense_int {Ha : GH} {wa : World} (hs : Sl Ha wa) (v0 : Value) (a0 : List Int) (p0 : RSl Ha eI 1 v0 a0) {r : (List Int)} (hp : (PF.slices_Clone_impl_dense_int a0) = some r) :
  Calls Tryz.prog 213 #[v0] wa (p_slices_Clone_impl_dense_int Ha wa r) := by
 unfold PF.slices_Clone_impl_dense_int at hp
 have S0 := St.init hs
 refine calls_go (N := 8) (args := [v0]) Tryz.func213 rfl rfl rfl ?_
 refine FW.seq (FW.region ?_)
 refine FL.v (E.assign (v := Value.slice none 0 0) rfl) ?_
 refine FL.nil (FW.seq (FW.seq (FW.region ?_)))
 refine FL.v (E.move (v := v0) rfl) ?_
 obtain ⟨nb21, run22, hn23⟩ := RSl.nilTest te99 p0
 refine FL.v (run22 _ _ _ _ _ _ _ _ _ _ _ _ rfl rfl) ?_
 refine FL.nil ?_
 rcases bcase nb21 with c24 | c24
 ·
  refine FW.condT (b := nb21) rfl c24 ?_
  rw [hn23 c24, app_nil2] at hp
  refine FW.seq (FW.region ?_)
  refine FL.v (E.assign (v := Value.slice none 0 0) rfl) ?_
  refine FL.nil ?_
  refine FW.ret ?_
  obtain rfl := Option.some.inj hp
  exact ⟨.inr rfl, res1 rfl rfl ⟨_, _, _, _, rfl, (S0.nil 3 1), Els.nil⟩⟩
 ·
  refine FW.condF (b := nb21) rfl c24 ?_
  refine FW.skip (FW.seq (FW.region ?_))
  obtain ⟨v25, w26, run27, S28⟩ := S0.buildSlice (P := Tryz.prog) te99 [] (parts := #[]) (cells := []) rfl szs_nil fc_nil ones_nil (Nat.le_of_ble_eq_true rfl)
  have els29 : Els (up wa.heap.size Ha) eI 1 [] [] := Els.nil
  refine FL.v (E.buildSlice (B0) run27) ?_
  refine FL.v (E.move (v := v0) rfl) ?_
  obtain ⟨xs30, hz31, hp⟩ := bnd hp
  obtain ⟨v32, w35, n33, cs34, run36, S37, els38⟩ := S28.appendP (P := Tryz.prog) (Inc.rfl _) te99 (i := 0) rfl (els29.mono upI) p0 hz31
  have S37 : St Ha wa Ha w35 [.row 3 1 v32 n33 cs34] := S37
  have els38 : Els (up wa.heap.size Ha) eI 1 cs34 xs30 := els38.any (fun _ _ _ _ h => h)
  refine FL.v (E.append rfl rfl run36) ?_
  refine FL.v (E.assign (v := v32) rfl) ?_
  refine FL.nil ?_
  refine FW.ret ?_
  obtain rfl := Option.some.inj hp
  exact ⟨.inr rfl, res1 rfl rfl ⟨_, _, _, _, rfl, S37, els38⟩⟩

@[reducible] def p_impl_ring_plus (Ha : GH) (wa : World) (r : (List Int)) : Ending → World → Prop :=
  fun e w' => ∃ H' : GH, ∃ v0 : Value, ∃ n0 : Nat, ∃ c0 : List Value, e = .returned (v0) ∧ St Ha wa H' w' [.row 3 1 v0 n0 c0] ∧ Els (up wa.heap.size H') eI 1 c0 r
theorem w_impl_ring_plus {Ha : GH} {wa : World} (hs : Sl Ha wa) (a0 : ring) (v1 : Value) (a1 : List Int) (p1 : RSl Ha eI 1 v1 a1) (v2 : Value) (a2 : List Int) (p2 : RSl Ha eI 1 v2 a2) (a3 : Int) {r : (List Int)} (hp : (PF.impl_ring_plus a0 a1 a2 a3) = some r) :
    Calls Tryz.prog 164 #[Value.agg #[Value.int .i64 a0.p, Value.int .i64 a0.vars], v1, v2, Value.int .i64 a3] wa (p_impl_ring_plus Ha wa r) := by
  unfold PF.impl_ring_plus at hp
  have S0 := St.init hs
  refine calls_go (N := 37) (args := [Value.agg #[Value.int .i64 a0.p, Value.int .i64 a0.vars], v1, v2, Value.int .i64 a3]) Tryz.func164 rfl rfl rfl ?_
  refine FW.seq (FW.region ?_)
  obtain ⟨b21, w22, run23, S24⟩ := S0.box (P := Tryz.prog) 102 [Value.int .i64 a0.p, Value.int .i64 a0.vars] (v := Value.agg #[Value.int .i64 a0.p, Value.int .i64 a0.vars]) rfl (ones_cons rfl (ones_cons rfl ones_nil))
  refine FL.v (E.box rfl run23) ?_
  obtain ⟨H25, S26, i27, at28⟩ := S24.sealBox (i := 0) (l' := []) rfl rfl
  refine FL.v (E.assign (v := Value.slice none 0 0) rfl) ?_
  refine FL.nil (FW.seq (FW.region ?_))
  refine FL.v (E.move (v := v1) rfl) ?_
  obtain ⟨r29, hr30, hp⟩ := bnd hp
  refine FL.call rfl rfl rfl (E.call Tryz.call213 (A1 rfl)) (w_slices_Clone_impl_dense_int S26.sl v1 a1 (p1.mono i27) hr30) ?_
  rintro e w32 ⟨H31, v35, n36, cs37, rfl, r34, els38⟩
  refine ⟨_, rfl, ?_⟩
  have els38 := els38.mono (up_le S26.size)
  have S33 := S26.join (l' := [.row 3 1 v35 n36 cs37]) r34 rfl
  refine FL.v (E.assign (v := v35) rfl) ?_
  refine FL.nil (FW.seq (FW.seq (FW.region ?_)))
  refine FL.v (E.move (v := v2) rfl) ?_
  refine FL.v (E.lenP te99 rfl p2) ?_
  refine FL.v (E.move (v := Value.int .i64 0) rfl) ?_
  refine FL.nil ?_
  obtain ⟨q40, hq, hp⟩ := bndR hp
  refine FW.block ?_
  refine FW.mono (FW.forL (S := (List Int)) (X := Empty) (fun (i40 : Nat) (s40 : (List Int)) f w => ∃ H : GH, ∃ v41 : Value, ∃ n42 : Nat, ∃ cs43 : List Value, St Ha wa H w [.row 3 1 v41 n42 cs43] ∧ Inc H31 H ∧ Els (up wa.heap.size H) eI 1 cs43 s40 ∧ f 16 = Value.int .i64 ((i40 : Nat) : Int) ∧ f 3 = Value.int .i64 a3 ∧ f 4 = Value.pointer (some ⟨b21, 0, none⟩) ∧ f 9 = v41 ∧ f 14 = v2 ∧ f 15 = Value.int .i64 (len a2)) (fun (q : Rs (List Int) Empty) e f w => match q with | .go s40 => e = Exit.exit 0 ∧ (∃ H : GH, ∃ v41 : Value, ∃ n42 : Nat, ∃ cs43 : List Value, St Ha wa H w [.row 3 1 v41 n42 cs43] ∧ Inc H31 H ∧ Els (up wa.heap.size H) eI 1 cs43 s40 ∧ f 9 = v41) | .rt x => x.elim) hq ⟨_, _, _, _, S33, (Inc.rfl _), els38, rfl, rfl, rfl, rfl, rfl, rfl⟩ ?_ ?_) ?_
  ·
    clear hp hq
    rintro i40 y39 s40 f49 w48 ⟨H45, v41, n42, cs43, S46, i47, els44, k50, k51, k52, k53, k54, k55⟩ hx40 o110 hp
    refine FW.seq (FW.region ?_)
    refine FL.v (E.lssT k50 k55 (lss_len hx40)) ?_
    refine FL.nil (FW.seq ?_)
    refine FW.condT rfl rfl ?_
    refine FW.skip (FW.seq (FW.block (FW.seq (FW.region ?_))))
    refine FL.v (E.move k50) ?_
    obtain ⟨p56, cs57, pt58, l59, at60, rel61⟩ := p2.at (ix_nat hx40)
    obtain rfl := eI_open rel61
    refine FL.v (E.indexAddr te99 k54 k50 pt58) ?_
    refine FL.v (E.load rfl (run_load0 Tryz.isAgg3 ((at60.mono ((i27.tr r34.run.inc).tr i47)).now S46.sl) rfl)) ?_
    refine FL.v (E.assign (v := Value.int .i64 ((i40 : Nat) : Int)) rfl) ?_
    refine FL.v (E.assign (v := Value.int .i64 y39) rfl) ?_
    refine FL.nil ?_
    obtain ⟨x71, hx72, hp⟩ := bnd hp
    obtain ⟨u75, z74, hp⟩ := bnd hp
    obtain ⟨x82, hx83, hp⟩ := bnd hp
    obtain ⟨xs88, hput89, hp⟩ := bnd hp
    refine FW.drawB (Sl H45) (fun f w => ∃ H : GH, ∃ v93 : Value, ∃ n94 : Nat, ∃ cs95 : List Value, St Ha wa H w [.row 3 1 v93 n94 cs95] ∧ Inc H45 H ∧ Els (up wa.heap.size H) eI 1 cs95 xs88 ∧ f 3 = Value.int .i64 a3 ∧ f 4 = Value.pointer (some ⟨b21, 0, none⟩) ∧ f 9 = v93 ∧ f 14 = v2 ∧ f 15 = Value.int .i64 (len a2) ∧ f 16 = Value.int .i64 ((i40 : Nat) : Int)) (by kernel_rfl) S46.sl ?_ ?_
    ·
      intro w62 r63
      have S64 := S46.call r63
      refine FB.t (i := 0) (bs 15 1) rfl (SP.nil S64.sl) rfl (fun w' hw' => (E.move k53)) ?_
      refine FB.t (i := 1) (bs 15 3) rfl (SP.nil S64.sl) rfl (fun w' hw' => (E.move (v := Value.int .i64 ((i40 : Nat) : Int)) rfl)) ?_
      refine FB.t (i := 2) (bs 15 7) rfl (SP.nil S64.sl) rfl (fun w' hw' => (E.move k53)) ?_
      refine FB.t (i := 3) (bs 15 15) rfl (SP.nil S64.sl) rfl (fun w' hw' => (E.move (v := Value.int .i64 ((i40 : Nat) : Int)) rfl)) ?_
      obtain ⟨p65, cs66, pt67, l68, at69, rel70, hall73⟩ := S64.row_atA (i := 0) rfl els44 (by decide) hx72
      obtain rfl := eI_open rel70
      refine FB.t (i := 4) (bs 15 31) rfl (SP.nil S64.sl) rfl (fun w' hw' => (E.indexAddr te99 rfl rfl pt67)) ?_
      refine FB.phase [14] (fun w' => WAt w' p65 [Value.int .i64 x71]) ?_
      refine FB.p (i := 5) (bs 15 63) 0 [9, 12, 13, 14] rfl (SP.on (hall73 _ _ _ 0 S64 rfl) (SP.nil S64.sl)) rfl rfl (fun w' hw' => (E.load rfl (run_load0 Tryz.isAgg3 hw' rfl))) ?_
      refine FB.t (i := 6) (bs 15 127) rfl (SP.on (hall73 _ _ _ 0 S64 rfl) (SP.nil S64.sl)) rfl (fun w' hw' => (E.move k51)) ?_
      refine FB.t (i := 7) (bs 15 255) rfl (SP.on (hall73 _ _ _ 0 S64 rfl) (SP.nil S64.sl)) rfl (fun w' hw' => (E.move (v := Value.int .i64 y39) rfl)) ?_
      refine FB.t (i := 8) (bs 15 511) rfl (SP.on (hall73 _ _ _ 0 S64 rfl) (SP.nil S64.sl)) rfl (fun w' hw' => (E.mul rfl rfl)) ?_
      refine FB.t (i := 9) (bs 15 1023) rfl (SP.on (hall73 _ _ _ 0 S64 rfl) (SP.nil S64.sl)) rfl (fun w' hw' => (E.add rfl rfl)) ?_
      refine FB.t (i := 10) (bs 15 2047) rfl (SP.on (hall73 _ _ _ 0 S64 rfl) (SP.nil S64.sl)) rfl (fun w' hw' => (E.fieldAddr tf102_0 k52)) ?_
      refine FB.t (i := 11) (bs 15 4095) rfl (SP.on (hall73 _ _ _ 0 S64 rfl) (SP.nil S64.sl)) rfl (fun w' hw' => (E.load rfl (run_load1 Tryz.isAgg3 ((at28.mono (r34.run.inc.tr i47)).now hw') rfl))) ?_
      refine FB.t (i := 12) (bs 15 8191) rfl (SP.on (hall73 _ _ _ 0 S64 rfl) (SP.nil S64.sl)) rfl (fun w' hw' => (E.rem rfl rfl (nz_ne z74))) ?_
      obtain ⟨p76, cs77, pt78, l79, at80, rel81, hall84⟩ := S64.row_atA (i := 0) rfl els44 (by decide) hx83
      obtain rfl := eI_open rel81
      refine FB.t (i := 13) (bs 15 16383) rfl (SP.on (hall73 _ _ _ 0 S64 rfl) (SP.nil S64.sl)) rfl (fun w' hw' => (E.indexAddr te99 rfl rfl pt78)) ?_
      refine FB.all1 (i := 14) (by kernel_rfl) ?_
      ·
        obtain ⟨w85, cs91, run86, S87, els90, ce92⟩ := S64.putEls (P := Tryz.prog) (t := 3) (i := 0) rfl els44 hput89 pt78 Tryz.sizeOf3 (u := Value.int .i64 ((wr (x71 + (wr (a3 * y39)))).tmod a0.p)) (c := [Value.int .i64 ((wr (x71 + (wr (a3 * y39)))).tmod a0.p)]) rfl rfl (ones_cons rfl ones_nil) rfl
        have S87 : St Ha wa H45 w85 [.row 3 1 v41 n42 cs91] := S87
        refine FC.act (l' := (bs 15 32767)) rfl (by kernel_rfl) rfl rfl (E.store rfl rfl run86) ?_
        refine ⟨(SP.o (SP.nil S87.sl)), ?_⟩
        exact FB.done (by kernel_rfl) ⟨_, _, _, _, S87, (Inc.rfl _), els90, k51, k52, k53, k54, k55, k50⟩
    ·
      rintro f103 w101 ⟨H97, v93, n94, cs95, S98, i100, els96, k104, k105, k106, k107, k108, k109⟩
      refine FW.region ?_
      refine FL.v (E.add k109 rfl) ?_
      refine FL.v (E.move (v := Value.int .i64 (wr (((i40 : Nat) : Int) + 1))) rfl) ?_
      refine FL.nil ?_
      obtain rfl := Option.some.inj hp
      exact ⟨rfl, ⟨_, _, _, _, S98, (i47.tr i100), els96, (nat_succ rfl (lt_of_get hx40) (p2.mono (((i27.tr r34.run.inc).tr i47).tr i100)).le), k104, k105, k106, k107, k108⟩⟩
  ·
    clear hp hq
    rintro s40 f121 w120 ⟨H117, v41, n42, cs43, S118, i119, els44, k122, k123, k124, k125, k126, k127⟩
    refine FW.seq (FW.region ?_)
    refine FL.v (E.lss k122 k127) ?_
    refine FL.nil (FW.seq ?_)
    refine FW.condF rfl dlt_len ?_
    refine FW.exit ?_
    exact ⟨nofun, rfl, ⟨_, _, _, _, S118, i119, els44, k125⟩⟩
  ·
    clear hq
    intro e f115 w114 hD
    rcases q40 with s40 | x40
    ·
      obtain ⟨rfl, hD⟩ := hD
      obtain ⟨H111, v41, n42, cs43, S112, i113, els44, k116⟩ := hD
      replace hp := el_go hp
      refine FW.seq (FW.region ?_)
      refine FL.v (E.move k116) ?_
      refine FL.v (E.assign (v := v41) rfl) ?_
      refine FL.nil ?_
      refine FW.ret ?_
      obtain rfl := Option.some.inj hp
      exact ⟨.inr rfl, res1 rfl rfl ⟨_, _, _, _, rfl, S112, els44⟩⟩
    · exact x40.elim

@[reducible] def p_impl_ring_literal (Ha : GH) (wa : World) (r : (List Int)) : Ending → World → Prop :=
 fun e w' => ∃ H' : GH, ∃ v0 : Value, ∃ n0 : Nat, ∃ c0 : List Value, e = .returned (v0) ∧ St Ha wa H' w' [.row 3 1 v0 n0 c0] ∧ Els (up wa.heap.size H') eI 1 c0 r
theorem w_impl_ring_literal {Ha : GH} {wa : World} (hs : Sl Ha wa) (a0 : ring) (a1 : Int) {r : (List Int)} (hp : (PF.impl_ring_literal a0 a1) = some r) :
  Calls Tryz.prog 125 #[Value.agg #[Value.int .i64 a0.p, Value.int .i64 a0.vars], Value.int .i64 a1] wa (p_impl_ring_literal Ha wa r) := by
 unfold PF.impl_ring_literal at hp
 have S0 := St.init hs
 refine calls_go (N := 25) (args := [Value.agg #[Value.int .i64 a0.p, Value.int .i64 a0.vars], Value.int .i64 a1]) Tryz.func125 rfl rfl rfl ?_
 refine FW.seq (FW.region ?_)
 obtain ⟨b21, w22, run23, S24⟩ := S0.box (P := Tryz.prog) 102 [Value.int .i64 a0.p, Value.int .i64 a0.vars] (v := Value.agg #[Value.int .i64 a0.p, Value.int .i64 a0.vars]) rfl (ones_cons rfl (ones_cons rfl ones_nil))
 refine FL.v (E.box rfl run23) ?_
 obtain ⟨H25, S26, i27, at28⟩ := S24.sealBox (i := 0) (l' := []) rfl rfl
 refine FL.v (E.assign (v := Value.slice none 0 0) rfl) ?_
 refine FL.nil (FW.seq (FW.seq (FW.region ?_)))
 refine FL.v (E.move (v := Value.int .i64 a1) rfl) ?_
 refine FL.v (E.gtr rfl rfl) ?_
 refine FL.nil ?_
 rcases ifB hp with ⟨c29, hp⟩ | ⟨c29, hp⟩
 ·
  refine FW.condT rfl c29 ?_
  refine FW.seq ?_
  obtain ⟨u34, z33, hp⟩ := bnd hp
  obtain ⟨r35, hr36, hp⟩ := bnd hp
  refine FW.drawB (Sl H25) (fun f w => ∃ H : GH, ∃ v45 : Value, ∃ n46 : Nat, ∃ cs47 : List Value, St Ha wa H w [.row 3 1 v45 n46 cs47] ∧ Inc H25 H ∧ Els (up wa.heap.size H) eI 1 cs47 r35 ∧ f 4 = v45) (by kernel_rfl) S26.sl ?_ ?_
  ·
   intro w30 r31
   have S32 := S26.call r31
   refine FB.t (i := 0) (bs 6 1) rfl (SP.nil S32.sl) rfl (fun w' hw' => (E.load rfl (run_loadA Tryz.isAgg102 Tryz.sizeOf102 (at28.now hw') rfl))) ?_
   refine FB.t (i := 1) (bs 6 3) rfl (SP.nil S32.sl) rfl (fun w' hw' => (E.move (v := Value.int .i64 a1) rfl)) ?_
   refine FB.t (i := 2) (bs 6 7) rfl (SP.nil S32.sl) rfl (fun w' hw' => (E.sub rfl rfl)) ?_
   refine FB.t (i := 3) (bs 6 15) rfl (SP.nil S32.sl) rfl (fun w' hw' => (E.shl rfl rfl (nn_ge z33))) ?_
   refine FB.all1 (i := 4) (by kernel_rfl) ?_
   ·
    refine FC.call (l' := (bs 6 31)) rfl (by kernel_rfl) rfl rfl rfl (E.call Tryz.call123 (A2 rfl rfl)) (w_impl_ring_mono S32.sl a0 (shlK true 64 1 (wr (a1 - 1))) hr36) ?_
    rintro e w38 ⟨H37, v41, n42, cs43, rfl, r40, els44⟩
    refine ⟨_, rfl, ?_⟩
    have els44 := els44.mono (up_le S32.size)
    have S39 := S32.join (l' := [.row 3 1 v41 n42 cs43]) r40 rfl
    refine ⟨(SP.nil (Sl.of_inc r40.run.inc S39.sl)), ?_⟩
    refine FB.t (i := 5) (bs 6 63) rfl (SP.nil (Sl.of_inc r40.run.inc S39.sl)) rfl (fun w' hw' => (E.assign (v := v41) rfl)) ?_
    exact FB.done (by kernel_rfl) ⟨_, _, _, _, S39, r40.run.inc, els44, rfl⟩
  ·
   rintro f53 w52 ⟨H49, v45, n46, cs47, S50, i51, els48, k54⟩
   refine FW.ret ?_
   obtain rfl := Option.some.inj hp
   exact ⟨.inr rfl, res1 rfl k54 ⟨_, _, _, _, rfl, S50, els48⟩⟩
 ·
  refine FW.condF rfl c29 ?_
  refine FW.skip (FW.seq ?_)
  obtain ⟨r58, hr59, hp⟩ := bnd hp
  obtain ⟨u69, z68, hp⟩ := bnd hp
  obtain ⟨r70, hr71, hp⟩ := bnd hp
  obtain ⟨r90, hr91, hp⟩ := bnd hp
  refine FW.drawB (Sl H25) (fun f w => ∃ H : GH, ∃ v103 : Value, ∃ n104 : Nat, ∃ cs105 : List Value, St Ha wa H w [.row 3 1 v103 n104 cs105] ∧ Inc H25 H ∧ Els (up wa.heap.size H) eI 1 cs105 r90 ∧ f 4 = v103) (by kernel_rfl) S26.sl ?_ ?_
  ·
   intro w55 r56
   have S57 := S26.call r56
   refine FB.t (i := 0) (bs 14 1) rfl (SP.nil S57.sl) rfl (fun w' hw' => (E.load rfl (run_loadA Tryz.isAgg102 Tryz.sizeOf102 (at28.now hw') rfl))) ?_
   refine FB.t (i := 1) (bs 14 3) rfl (SP.nil S57.sl) rfl (fun w' hw' => (E.load rfl (run_loadA Tryz.isAgg102 Tryz.sizeOf102 (at28.now hw') rfl))) ?_
   refine FB.t (i := 3) (bs 14 11) rfl (SP.nil S57.sl) rfl (fun w' hw' => (E.load rfl (run_loadA Tryz.isAgg102 Tryz.sizeOf102 (at28.now hw') rfl))) ?_
   refine FB.t (i := 4) (bs 14 27) rfl (SP.nil S57.sl) rfl (fun w' hw' => (E.move (v := Value.int .i64 a1) rfl)) ?_
   refine FB.t (i := 5) (bs 14 59) rfl (SP.nil S57.sl) rfl (fun w' hw' => (E.neg rfl)) ?_
   refine FB.t (i := 6) (bs 14 123) rfl (SP.nil S57.sl) rfl (fun w' hw' => (E.sub rfl rfl)) ?_
   refine FB.t (i := 7) (bs 14 251) rfl (SP.nil S57.sl) rfl (fun w' hw' => (E.shl rfl rfl (nn_ge z68))) ?_
   refine FB.t (i := 9) (bs 14 763) rfl (SP.nil S57.sl) rfl (fun w' hw' => (E.fieldAddr tf102_0 rfl)) ?_
   refine FB.t (i := 10) (bs 14 1787) rfl (SP.nil S57.sl) rfl (fun w' hw' => (E.load rfl (run_load1 Tryz.isAgg3 (at28.now hw') rfl))) ?_
   refine FB.t (i := 11) (bs 14 3835) rfl (SP.nil S57.sl) rfl (fun w' hw' => (E.sub rfl rfl)) ?_
   refine FB.all1 (i := 2) (by kernel_rfl) ?_
   ·
    refine FC.call (l' := (bs 14 3839)) rfl (by kernel_rfl) rfl rfl rfl (E.call Tryz.call123 (A2 rfl rfl)) (w_impl_ring_mono S57.sl a0 0 hr59) ?_
    rintro e w61 ⟨H60, v64, n65, cs66, rfl, r63, els67⟩
    refine ⟨_, rfl, ?_⟩
    have els67 := els67.mono (up_le S57.size)
    have S62 := S57.join (l' := [.row 3 1 v64 n65 cs66]) r63 rfl
    refine ⟨(SP.nil (Sl.of_inc r63.run.inc S62.sl)), ?_⟩
    refine FB.all1 (i := 8) (by kernel_rfl) ?_
    ·
     refine FC.call (l' := (bs 14 4095)) rfl (by kernel_rfl) rfl rfl rfl (E.call Tryz.call123 (A2 rfl rfl)) (w_impl_ring_mono S62.sl a0 (shlK true 64 1 (wr ((wr (-a1)) - 1))) hr71) ?_
     rintro e w73 ⟨H72, v76, n77, cs78, rfl, r75, els79⟩
     refine ⟨_, rfl, ?_⟩
     have els79 := els79.mono (up_le S62.size)
     have S74 := S62.join (l' := [.row 3 1 v76 n77 cs78, .row 3 1 v64 n65 cs66]) r75 rfl
     refine ⟨(SP.nil (Sl.of_inc (r63.run.inc.tr r75.run.inc) S74.sl)), ?_⟩
     refine FB.all1 (i := 12) (by kernel_rfl) ?_
     ·
      obtain ⟨H80, S81, i82, h83, nv84⟩ := S74.sealRowU (i := 1) (l' := [.row 3 1 v76 n77 cs78]) rfl (els67.mono (up_mono r75.run.inc)) (by decide) rfl
      obtain ⟨H85, S86, i87, h88, nv89⟩ := S81.sealRowU (i := 0) (l' := []) rfl (els79.mono (up_mono i82)) (by decide) rfl
      refine FC.call (l' := (bs 14 8191)) rfl (by kernel_rfl) rfl rfl rfl (E.call Tryz.call164 (A4 rfl rfl rfl rfl)) (w_impl_ring_plus S86.sl a0 v64 r58 (h83.mono (upI.tr i87)) v76 r70 (h88.mono upI) (wr (a0.p - 1)) hr91) ?_
      rintro e w93 ⟨H92, v98, n99, cs100, rfl, r95, els101⟩
      refine ⟨_, rfl, ?_⟩
      obtain ⟨H96, r95, hU97⟩ := St.lendX (i82.tr i87) S74.sl r95
      have els101 := els101.mono (hU97.tr (up_le S74.size))
      have S94 := S74.join (l' := [.row 3 1 v98 n99 cs100, .row 3 1 v76 n77 cs78, .row 3 1 v64 n65 cs66]) r95 rfl
      refine ⟨(SP.nil (Sl.of_inc ((r63.run.inc.tr r75.run.inc).tr r95.run.inc) S94.sl)), ?_⟩
      refine FB.t (i := 13) (bs 14 16383) rfl (SP.nil (Sl.of_inc ((r63.run.inc.tr r75.run.inc).tr r95.run.inc) S94.sl)) rfl (fun w' hw' => (E.assign (v := v98) rfl)) ?_
      exact FB.done (by kernel_rfl) ⟨_, _, _, _, (S94.sel [0] (by decide) rfl), ((r63.run.inc.tr r75.run.inc).tr r95.run.inc), els101, rfl⟩
  ·
   rintro f111 w110 ⟨H107, v103, n104, cs105, S108, i109, els106, k112⟩
   refine FW.ret ?_
   obtain rfl := Option.some.inj hp
   exact ⟨.inr rfl, res1 rfl k112 ⟨_, _, _, _, rfl, S108, els106⟩⟩

@[reducible] def p_impl_ring_times (Ha : GH) (wa : World) (r : (List Int)) : Ending → World → Prop :=
  fun e w' => ∃ H' : GH, ∃ v0 : Value, ∃ n0 : Nat, ∃ c0 : List Value, e = .returned (v0) ∧ St Ha wa H' w' [.row 3 1 v0 n0 c0] ∧ Els (up wa.heap.size H') eI 1 c0 r
theorem w_impl_ring_times {Ha : GH} {wa : World} (hs : Sl Ha wa) (a0 : ring) (v1 : Value) (a1 : List Int) (p1 : RSl Ha eI 1 v1 a1) (v2 : Value) (a2 : List Int) (p2 : RSl Ha eI 1 v2 a2) {r : (List Int)} (hp : (PF.impl_ring_times a0 a1 a2) = some r) :
    Calls Tryz.prog 124 #[Value.agg #[Value.int .i64 a0.p, Value.int .i64 a0.vars], v1, v2] wa (p_impl_ring_times Ha wa r) := by
  unfold PF.impl_ring_times at hp
  have S0 := St.init hs
  refine calls_go (N := 49) (args := [Value.agg #[Value.int .i64 a0.p, Value.int .i64 a0.vars], v1, v2]) Tryz.func124 rfl rfl rfl ?_
  refine FW.seq (FW.region ?_)
  obtain ⟨b21, w22, run23, S24⟩ := S0.box (P := Tryz.prog) 102 [Value.int .i64 a0.p, Value.int .i64 a0.vars] (v := Value.agg #[Value.int .i64 a0.p, Value.int .i64 a0.vars]) rfl (ones_cons rfl (ones_cons rfl ones_nil))
  refine FL.v (E.box rfl run23) ?_
  obtain ⟨H25, S26, i27, at28⟩ := S24.sealBox (i := 0) (l' := []) rfl rfl
  refine FL.v (E.assign (v := Value.slice none 0 0) rfl) ?_
  refine FL.nil (FW.seq (FW.region ?_))
  refine FL.v (E.load rfl (run_loadA Tryz.isAgg102 Tryz.sizeOf102 (at28.now S26.sl) rfl)) ?_
  obtain ⟨r29, hr30, hp⟩ := bnd hp
  refine FL.call rfl rfl rfl (E.call Tryz.call165 (A1 rfl)) (w_impl_ring_zero S26.sl a0 hr30) ?_
  rintro e w32 ⟨H31, v35, n36, cs37, rfl, r34, els38⟩
  refine ⟨_, rfl, ?_⟩
  have els38 := els38.mono (up_le S26.size)
  have S33 := S26.join (l' := [.row 3 1 v35 n36 cs37]) r34 rfl
  refine FL.v (E.assign (v := v35) rfl) ?_
  refine FL.nil (FW.seq (FW.seq (FW.region ?_)))
  refine FL.v (E.move (v := v1) rfl) ?_
  refine FL.v (E.lenP te99 rfl p1) ?_
  refine FL.v (E.move (v := Value.int .i64 0) rfl) ?_
  refine FL.nil ?_
  obtain ⟨q40, hq, hp⟩ := bndR hp
  refine FW.block ?_
  refine FW.mono (FW.forL (S := (List Int)) (X := Empty) (fun (i40 : Nat) (s40 : (List Int)) f w => ∃ H : GH, ∃ v41 : Value, ∃ n42 : Nat, ∃ cs43 : List Value, St Ha wa H w [.row 3 1 v41 n42 cs43] ∧ Inc H31 H ∧ Els (up wa.heap.size H) eI 1 cs43 s40 ∧ f 16 = Value.int .i64 ((i40 : Nat) : Int) ∧ f 2 = v2 ∧ f 3 = Value.pointer (some ⟨b21, 0, none⟩) ∧ f 7 = v41 ∧ f 14 = v1 ∧ f 15 = Value.int .i64 (len a1)) (fun (q : Rs (List Int) Empty) e f w => match q with | .go s40 => e = Exit.exit 0 ∧ (∃ H : GH, ∃ v41 : Value, ∃ n42 : Nat, ∃ cs43 : List Value, St Ha wa H w [.row 3 1 v41 n42 cs43] ∧ Inc H31 H ∧ Els (up wa.heap.size H) eI 1 cs43 s40 ∧ f 7 = v41) | .rt x => x.elim) hq ⟨_, _, _, _, S33, (Inc.rfl _), els38, rfl, rfl, rfl, rfl, rfl, rfl⟩ ?_ ?_) ?_
  ·
    clear hp hq
    rintro i40 y39 s40 f49 w48 ⟨H45, v41, n42, cs43, S46, i47, els44, k50, k51, k52, k53, k54, k55⟩ hx40 o171 hp
    refine FW.seq (FW.region ?_)
    refine FL.v (E.lssT k50 k55 (lss_len hx40)) ?_
    refine FL.nil (FW.seq ?_)
    refine FW.condT rfl rfl ?_
    refine FW.skip (FW.seq (FW.block (FW.seq (FW.region ?_))))
    refine FL.v (E.move k50) ?_
    obtain ⟨p56, cs57, pt58, l59, at60, rel61⟩ := p1.at (ix_nat hx40)
    obtain rfl := eI_open rel61
    refine FL.v (E.indexAddr te99 k54 k50 pt58) ?_
    refine FL.v (E.load rfl (run_load0 Tryz.isAgg3 ((at60.mono ((i27.tr r34.run.inc).tr i47)).now S46.sl) rfl)) ?_
    refine FL.v (E.assign (v := Value.int .i64 ((i40 : Nat) : Int)) rfl) ?_
    refine FL.v (E.assign (v := Value.int .i64 y39) rfl) ?_
    refine FL.nil (FW.seq (FW.region ?_))
    refine FL.v (E.move k51) ?_
    refine FL.v (E.lenP te99 rfl p2) ?_
    refine FL.v (E.move (v := Value.int .i64 0) rfl) ?_
    refine FL.nil ?_
    obtain ⟨q63, hq, hp⟩ := bndR hp
    refine FW.block ?_
    refine FW.mono (FW.forL (S := (List Int)) (X := Empty) (fun (i63 : Nat) (s63 : (List Int)) f w => ∃ H : GH, ∃ v64 : Value, ∃ n65 : Nat, ∃ cs66 : List Value, St Ha wa H w [.row 3 1 v64 n65 cs66] ∧ Inc H45 H ∧ Els (up wa.heap.size H) eI 1 cs66 s63 ∧ f 23 = Value.int .i64 ((i63 : Nat) : Int) ∧ f 2 = v2 ∧ f 3 = Value.pointer (some ⟨b21, 0, none⟩) ∧ f 7 = v64 ∧ f 8 = Value.int .i64 ((i40 : Nat) : Int) ∧ f 9 = Value.int .i64 y39 ∧ f 14 = v1 ∧ f 15 = Value.int .i64 (len a1) ∧ f 16 = Value.int .i64 ((i40 : Nat) : Int) ∧ f 21 = v2 ∧ f 22 = Value.int .i64 (len a2)) (fun (q : Rs (List Int) Empty) e f w => match q with | .go s63 => e = Exit.exit 2 ∧ (∃ H : GH, ∃ v64 : Value, ∃ n65 : Nat, ∃ cs66 : List Value, St Ha wa H w [.row 3 1 v64 n65 cs66] ∧ Inc H45 H ∧ Els (up wa.heap.size H) eI 1 cs66 s63 ∧ f 2 = v2 ∧ f 3 = Value.pointer (some ⟨b21, 0, none⟩) ∧ f 7 = v64 ∧ f 14 = v1 ∧ f 15 = Value.int .i64 (len a1) ∧ f 16 = Value.int .i64 ((i40 : Nat) : Int)) | .rt x => x.elim) hq ⟨_, _, _, _, S46, (Inc.rfl _), els44, rfl, k51, k52, k53, rfl, rfl, k54, k55, k50, rfl, rfl⟩ ?_ ?_) ?_
    ·
      clear hp hq
      rintro i63 y62 s63 f72 w71 ⟨H68, v64, n65, cs66, S69, i70, els67, k73, k74, k75, k76, k77, k78, k79, k80, k81, k82, k83⟩ hx63 o143 hp
      refine FW.seq (FW.region ?_)
      refine FL.v (E.lssT k73 k83 (lss_len hx63)) ?_
      refine FL.nil (FW.seq ?_)
      refine FW.condT rfl rfl ?_
      refine FW.skip (FW.seq (FW.block (FW.seq (FW.region ?_))))
      refine FL.v (E.move k73) ?_
      obtain ⟨p84, cs85, pt86, l87, at88, rel89⟩ := p2.at (ix_nat hx63)
      obtain rfl := eI_open rel89
      refine FL.v (E.indexAddr te99 k82 k73 pt86) ?_
      refine FL.v (E.load rfl (run_load0 Tryz.isAgg3 ((at88.mono (((i27.tr r34.run.inc).tr i47).tr i70)).now S69.sl) rfl)) ?_
      refine FL.v (E.assign (v := Value.int .i64 ((i63 : Nat) : Int)) rfl) ?_
      refine FL.v (E.assign (v := Value.int .i64 y62) rfl) ?_
      refine FL.nil ?_
      obtain ⟨x100, hx101, hp⟩ := bnd hp
      obtain ⟨u105, z104, hp⟩ := bnd hp
      obtain ⟨x112, hx113, hp⟩ := bnd hp
      obtain ⟨xs118, hput119, hp⟩ := bnd hp
      refine FW.drawB (Sl H68) (fun f w => ∃ H : GH, ∃ v123 : Value, ∃ n124 : Nat, ∃ cs125 : List Value, St Ha wa H w [.row 3 1 v123 n124 cs125] ∧ Inc H68 H ∧ Els (up wa.heap.size H) eI 1 cs125 xs118 ∧ f 2 = v2 ∧ f 3 = Value.pointer (some ⟨b21, 0, none⟩) ∧ f 7 = v123 ∧ f 8 = Value.int .i64 ((i40 : Nat) : Int) ∧ f 9 = Value.int .i64 y39 ∧ f 14 = v1 ∧ f 15 = Value.int .i64 (len a1) ∧ f 16 = Value.int .i64 ((i40 : Nat) : Int) ∧ f 21 = v2 ∧ f 22 = Value.int .i64 (len a2) ∧ f 23 = Value.int .i64 ((i63 : Nat) : Int)) (by kernel_rfl) S69.sl ?_ ?_
      ·
        intro w90 r91
        have S92 := S69.call r91
        refine FB.t (i := 0) (bs 19 1) rfl (SP.nil S92.sl) rfl (fun w' hw' => (E.move k76)) ?_
        refine FB.t (i := 1) (bs 19 3) rfl (SP.nil S92.sl) rfl (fun w' hw' => (E.move k77)) ?_
        refine FB.t (i := 2) (bs 19 7) rfl (SP.nil S92.sl) rfl (fun w' hw' => (E.move (v := Value.int .i64 ((i63 : Nat) : Int)) rfl)) ?_
        refine FB.t (i := 3) (bs 19 15) rfl (SP.nil S92.sl) rfl (fun w' hw' => (E.or rfl rfl)) ?_
        refine FB.t (i := 4) (bs 19 31) rfl (SP.nil S92.sl) rfl (fun w' hw' => (E.move k76)) ?_
        refine FB.t (i := 5) (bs 19 63) rfl (SP.nil S92.sl) rfl (fun w' hw' => (E.move k77)) ?_
        refine FB.t (i := 6) (bs 19 127) rfl (SP.nil S92.sl) rfl (fun w' hw' => (E.move (v := Value.int .i64 ((i63 : Nat) : Int)) rfl)) ?_
        refine FB.t (i := 7) (bs 19 255) rfl (SP.nil S92.sl) rfl (fun w' hw' => (E.or rfl rfl)) ?_
        obtain ⟨p93, cs94, pt95, l96, at97, rel98, hall103⟩ := S92.row_atA (i := 0) rfl els67 (by decide) hx101
        obtain rfl := eI_open rel98
        refine FB.t (i := 8) (bs 19 511) rfl (SP.nil S92.sl) rfl (fun w' hw' => (E.indexAddr te99 rfl rfl pt95)) ?_
        refine FB.phase [18] (fun w' => WAt w' p93 [Value.int .i64 x100]) ?_
        refine FB.p (i := 9) (bs 19 1023) 0 [13, 16, 17, 18] rfl (SP.on (hall103 _ _ _ 0 S92 rfl) (SP.nil S92.sl)) rfl rfl (fun w' hw' => (E.load rfl (run_load0 Tryz.isAgg3 hw' rfl))) ?_
        refine FB.t (i := 10) (bs 19 2047) rfl (SP.on (hall103 _ _ _ 0 S92 rfl) (SP.nil S92.sl)) rfl (fun w' hw' => (E.move k78)) ?_
        refine FB.t (i := 11) (bs 19 4095) rfl (SP.on (hall103 _ _ _ 0 S92 rfl) (SP.nil S92.sl)) rfl (fun w' hw' => (E.move (v := Value.int .i64 y62) rfl)) ?_
        refine FB.t (i := 12) (bs 19 8191) rfl (SP.on (hall103 _ _ _ 0 S92 rfl) (SP.nil S92.sl)) rfl (fun w' hw' => (E.mul rfl rfl)) ?_
        refine FB.t (i := 13) (bs 19 16383) rfl (SP.on (hall103 _ _ _ 0 S92 rfl) (SP.nil S92.sl)) rfl (fun w' hw' => (E.add rfl rfl)) ?_
        refine FB.t (i := 14) (bs 19 32767) rfl (SP.on (hall103 _ _ _ 0 S92 rfl) (SP.nil S92.sl)) rfl (fun w' hw' => (E.fieldAddr tf102_0 k75)) ?_
        refine FB.t (i := 15) (bs 19 65535) rfl (SP.on (hall103 _ _ _ 0 S92 rfl) (SP.nil S92.sl)) rfl (fun w' hw' => (E.load rfl (run_load1 Tryz.isAgg3 ((at28.mono ((r34.run.inc.tr i47).tr i70)).now hw') rfl))) ?_
        refine FB.t (i := 16) (bs 19 131071) rfl (SP.on (hall103 _ _ _ 0 S92 rfl) (SP.nil S92.sl)) rfl (fun w' hw' => (E.rem rfl rfl (nz_ne z104))) ?_
        obtain ⟨p106, cs107, pt108, l109, at110, rel111, hall114⟩ := S92.row_atA (i := 0) rfl els67 (by decide) hx113
        obtain rfl := eI_open rel111
        refine FB.t (i := 17) (bs 19 262143) rfl (SP.on (hall103 _ _ _ 0 S92 rfl) (SP.nil S92.sl)) rfl (fun w' hw' => (E.indexAddr te99 rfl rfl pt108)) ?_
        refine FB.all1 (i := 18) (by kernel_rfl) ?_
        ·
          obtain ⟨w115, cs121, run116, S117, els120, ce122⟩ := S92.putEls (P := Tryz.prog) (t := 3) (i := 0) rfl els67 hput119 pt108 Tryz.sizeOf3 (u := Value.int .i64 ((wr (x100 + (wr (y39 * y62)))).tmod a0.p)) (c := [Value.int .i64 ((wr (x100 + (wr (y39 * y62)))).tmod a0.p)]) rfl rfl (ones_cons rfl ones_nil) rfl
          have S117 : St Ha wa H68 w115 [.row 3 1 v64 n65 cs121] := S117
          refine FC.act (l' := (bs 19 524287)) rfl (by kernel_rfl) rfl rfl (E.store rfl rfl run116) ?_
          refine ⟨(SP.o (SP.nil S117.sl)), ?_⟩
          exact FB.done (by kernel_rfl) ⟨_, _, _, _, S117, (Inc.rfl _), els120, k74, k75, k76, k77, k78, k79, k80, k81, k82, k83, k73⟩
      ·
        rintro f131 w130 ⟨H127, v123, n124, cs125, S128, i129, els126, k132, k133, k134, k135, k136, k137, k138, k139, k140, k141, k142⟩
        refine FW.region ?_
        refine FL.v (E.add k142 rfl) ?_
        refine FL.v (E.move (v := Value.int .i64 (wr (((i63 : Nat) : Int) + 1))) rfl) ?_
        refine FL.nil ?_
        obtain rfl := Option.some.inj hp
        exact ⟨rfl, ⟨_, _, _, _, S128, (i70.tr i129), els126, (nat_succ rfl (lt_of_get hx63) (p2.mono ((((i27.tr r34.run.inc).tr i47).tr i70).tr i129)).le), k132, k133, k134, k135, k136, k137, k138, k139, k140, k141⟩⟩
    ·
      clear hp hq
      rintro s63 f159 w158 ⟨H155, v64, n65, cs66, S156, i157, els67, k160, k161, k162, k163, k164, k165, k166, k167, k168, k169, k170⟩
      refine FW.seq (FW.region ?_)
      refine FL.v (E.lss k160 k170) ?_
      refine FL.nil (FW.seq ?_)
      refine FW.condF rfl dlt_len ?_
      refine FW.exit ?_
      exact ⟨nofun, rfl, ⟨_, _, _, _, S156, i157, els67, k161, k162, k163, k166, k167, k168⟩⟩
    ·
      clear hq
      intro e f148 w147 hD
      rcases q63 with s63 | x63
      ·
        obtain ⟨rfl, hD⟩ := hD
        obtain ⟨H144, v64, n65, cs66, S145, i146, els67, k149, k150, k151, k152, k153, k154⟩ := hD
        replace hp := el_go hp
        refine FW.region ?_
        refine FL.v (E.add k154 rfl) ?_
        refine FL.v (E.move (v := Value.int .i64 (wr (((i40 : Nat) : Int) + 1))) rfl) ?_
        refine FL.nil ?_
        obtain rfl := Option.some.inj hp
        exact ⟨rfl, ⟨_, _, _, _, S145, (i47.tr i146), els67, (nat_succ rfl (lt_of_get hx40) (p1.mono (((i27.tr r34.run.inc).tr i47).tr i146)).le), k149, k150, k151, k152, k153⟩⟩
      · exact x63.elim
  ·
    clear hp hq
    rintro s40 f182 w181 ⟨H178, v41, n42, cs43, S179, i180, els44, k183, k184, k185, k186, k187, k188⟩
    refine FW.seq (FW.region ?_)
    refine FL.v (E.lss k183 k188) ?_
    refine FL.nil (FW.seq ?_)
    refine FW.condF rfl dlt_len ?_
    refine FW.exit ?_
    exact ⟨nofun, rfl, ⟨_, _, _, _, S179, i180, els44, k186⟩⟩
  ·
    clear hq
    intro e f176 w175 hD
    rcases q40 with s40 | x40
    ·
      obtain ⟨rfl, hD⟩ := hD
      obtain ⟨H172, v41, n42, cs43, S173, i174, els44, k177⟩ := hD
      replace hp := el_go hp
      refine FW.seq (FW.region ?_)
      refine FL.v (E.move k177) ?_
      refine FL.v (E.assign (v := v41) rfl) ?_
      refine FL.nil ?_
      refine FW.ret ?_
      obtain rfl := Option.some.inj hp
      exact ⟨.inr rfl, res1 rfl rfl ⟨_, _, _, _, rfl, S173, els44⟩⟩
    · exact x40.elim

@[reducible] def p_impl_ring_clause (Ha : GH) (wa : World) (r : (List Int)) : Ending → World → Prop :=
  fun e w' => ∃ H' : GH, ∃ v0 : Value, ∃ n0 : Nat, ∃ c0 : List Value, e = .returned (v0) ∧ St Ha wa H' w' [.row 3 1 v0 n0 c0] ∧ Els (up wa.heap.size H') eI 1 c0 r
theorem w_impl_ring_clause {Ha : GH} {wa : World} (hs : Sl Ha wa) (a0 : ring) (v1 : Value) (a1 : List Int) (p1 : RSl Ha eI 1 v1 a1) {r : (List Int)} (hp : (PF.impl_ring_clause a0 a1) = some r) :
    Calls Tryz.prog 68 #[Value.agg #[Value.int .i64 a0.p, Value.int .i64 a0.vars], v1] wa (p_impl_ring_clause Ha wa r) := by
  unfold PF.impl_ring_clause at hp
  have S0 := St.init hs
  refine calls_go (N := 25) (args := [Value.agg #[Value.int .i64 a0.p, Value.int .i64 a0.vars], v1]) Tryz.func68 rfl rfl rfl ?_
  refine FW.seq (FW.region ?_)
  obtain ⟨b21, w22, run23, S24⟩ := S0.box (P := Tryz.prog) 102 [Value.int .i64 a0.p, Value.int .i64 a0.vars] (v := Value.agg #[Value.int .i64 a0.p, Value.int .i64 a0.vars]) rfl (ones_cons rfl (ones_cons rfl ones_nil))
  refine FL.v (E.box rfl run23) ?_
  obtain ⟨H25, S26, i27, at28⟩ := S24.sealBox (i := 0) (l' := []) rfl rfl
  refine FL.v (E.assign (v := Value.slice none 0 0) rfl) ?_
  refine FL.nil (FW.seq (FW.region ?_))
  refine FL.v (E.load rfl (run_loadA Tryz.isAgg102 Tryz.sizeOf102 (at28.now S26.sl) rfl)) ?_
  obtain ⟨r29, hr30, hp⟩ := bnd hp
  refine FL.call rfl rfl rfl (E.call Tryz.call123 (A2 rfl rfl)) (w_impl_ring_mono S26.sl a0 0 hr30) ?_
  rintro e w32 ⟨H31, v35, n36, cs37, rfl, r34, els38⟩
  refine ⟨_, rfl, ?_⟩
  have els38 := els38.mono (up_le S26.size)
  have S33 := S26.join (l' := [.row 3 1 v35 n36 cs37]) r34 rfl
  refine FL.v (E.assign (v := v35) rfl) ?_
  refine FL.nil (FW.seq (FW.seq (FW.region ?_)))
  refine FL.v (E.move (v := v1) rfl) ?_
  refine FL.v (E.lenP te73 rfl p1) ?_
  refine FL.v (E.move (v := Value.int .i64 0) rfl) ?_
  refine FL.nil ?_
  obtain ⟨q40, hq, hp⟩ := bndR hp
  refine FW.block ?_
  refine FW.mono (FW.forL (S := (List Int)) (X := Empty) (fun (i40 : Nat) (s40 : (List Int)) f w => ∃ H : GH, ∃ v41 : Value, ∃ n42 : Nat, ∃ cs43 : List Value, St Ha wa H w [.row 3 1 v41 n42 cs43] ∧ Inc H31 H ∧ Els (up wa.heap.size H) eI 1 cs43 s40 ∧ f 12 = Value.int .i64 ((i40 : Nat) : Int) ∧ f 2 = Value.pointer (some ⟨b21, 0, none⟩) ∧ f 5 = v41 ∧ f 10 = v1 ∧ f 11 = Value.int .i64 (len a1)) (fun (q : Rs (List Int) Empty) e f w => match q with | .go s40 => e = Exit.exit 0 ∧ (∃ H : GH, ∃ v41 : Value, ∃ n42 : Nat, ∃ cs43 : List Value, St Ha wa H w [.row 3 1 v41 n42 cs43] ∧ Inc H31 H ∧ Els (up wa.heap.size H) eI 1 cs43 s40 ∧ f 5 = v41) | .rt x => x.elim) hq ⟨_, _, _, _, S33, (Inc.rfl _), els38, rfl, rfl, rfl, rfl, rfl⟩ ?_ ?_) ?_
  ·
    clear hp hq
    rintro i40 y39 s40 f49 w48 ⟨H45, v41, n42, cs43, S46, i47, els44, k50, k51, k52, k53, k54⟩ hx40 o111 hp
    refine FW.seq (FW.region ?_)
    refine FL.v (E.lssT k50 k54 (lss_len hx40)) ?_
    refine FL.nil (FW.seq ?_)
    refine FW.condT rfl rfl ?_
    refine FW.skip (FW.seq (FW.block (FW.seq (FW.region ?_))))
    obtain ⟨p55, cs56, pt57, l58, at59, rel60⟩ := p1.at (ix_nat hx40)
    obtain rfl := eI_open rel60
    refine FL.v (E.indexAddr te73 k53 k50 pt57) ?_
    refine FL.v (E.load rfl (run_load0 Tryz.isAgg3 ((at59.mono ((i27.tr r34.run.inc).tr i47)).now S46.sl) rfl)) ?_
    refine FL.v (E.assign (v := Value.int .i64 y39) rfl) ?_
    refine FL.nil ?_
    obtain ⟨r64, hr65, hp⟩ := bnd hp
    obtain ⟨r85, hr86, hp⟩ := bnd hp
    refine FW.drawB (Sl H45) (fun f w => ∃ H : GH, ∃ v97 : Value, ∃ n98 : Nat, ∃ cs99 : List Value, St Ha wa H w [.row 3 1 v97 n98 cs99] ∧ Inc H45 H ∧ Els (up wa.heap.size H) eI 1 cs99 r85 ∧ f 2 = Value.pointer (some ⟨b21, 0, none⟩) ∧ f 5 = v97 ∧ f 10 = v1 ∧ f 11 = Value.int .i64 (len a1) ∧ f 12 = Value.int .i64 ((i40 : Nat) : Int)) (by kernel_rfl) S46.sl ?_ ?_
    ·
      intro w61 r62
      have S63 := S46.call r62
      refine FB.t (i := 0) (bs 8 1) rfl (SP.nil S63.sl) rfl (fun w' hw' => (E.load k51 (run_loadA Tryz.isAgg102 Tryz.sizeOf102 ((at28.mono (r34.run.inc.tr i47)).now hw') rfl))) ?_
      refine FB.t (i := 1) (bs 8 3) rfl (SP.nil S63.sl) rfl (fun w' hw' => (E.move k52)) ?_
      refine FB.t (i := 2) (bs 8 7) rfl (SP.nil S63.sl) rfl (fun w' hw' => (E.load k51 (run_loadA Tryz.isAgg102 Tryz.sizeOf102 ((at28.mono (r34.run.inc.tr i47)).now hw') rfl))) ?_
      refine FB.t (i := 3) (bs 8 15) rfl (SP.nil S63.sl) rfl (fun w' hw' => (E.move (v := Value.int .i64 y39) rfl)) ?_
      refine FB.t (i := 4) (bs 8 31) rfl (SP.nil S63.sl) rfl (fun w' hw' => (E.neg rfl)) ?_
      refine FB.all1 (i := 5) (by kernel_rfl) ?_
      ·
        refine FC.call (l' := (bs 8 63)) rfl (by kernel_rfl) rfl rfl rfl (E.call Tryz.call125 (A2 rfl rfl)) (w_impl_ring_literal S63.sl a0 (wr (-y39)) hr65) ?_
        rintro e w67 ⟨H66, v70, n71, cs72, rfl, r69, els74⟩
        refine ⟨_, rfl, ?_⟩
        have els74 := els74.mono (up_le S63.size)
        have S68 := S63.join (l' := [.row 3 1 v70 n71 cs72, .row 3 1 v41 n42 cs43]) r69 rfl
        refine ⟨(SP.nil (Sl.of_inc r69.run.inc S68.sl)), ?_⟩
        refine FB.all1 (i := 6) (by kernel_rfl) ?_
        ·
          obtain ⟨H75, S76, i77, h78, nv79⟩ := S68.sealRowU (i := 1) (l' := [.row 3 1 v70 n71 cs72]) rfl (els44.mono (up_mono r69.run.inc)) (by decide) rfl
          obtain ⟨H80, S81, i82, h83, nv84⟩ := S76.sealRowU (i := 0) (l' := []) rfl (els74.mono (up_mono i77)) (by decide) rfl
          refine FC.call (l' := (bs 8 127)) rfl (by kernel_rfl) rfl rfl rfl (E.call Tryz.call124 (A3 rfl rfl rfl)) (w_impl_ring_times S81.sl a0 v41 s40 (h78.mono (upI.tr i82)) v70 r64 (h83.mono upI) hr86) ?_
          rintro e w88 ⟨H87, v93, n94, cs95, rfl, r90, els96⟩
          refine ⟨_, rfl, ?_⟩
          obtain ⟨H91, r90, hU92⟩ := St.lendX (i77.tr i82) S68.sl r90
          have els96 := els96.mono (hU92.tr (up_le S68.size))
          have S89 := S68.join (l' := [.row 3 1 v93 n94 cs95, .row 3 1 v70 n71 cs72, .row 3 1 v41 n42 cs43]) r90 rfl
          refine ⟨(SP.nil (Sl.of_inc (r69.run.inc.tr r90.run.inc) S89.sl)), ?_⟩
          refine FB.t (i := 7) (bs 8 255) rfl (SP.nil (Sl.of_inc (r69.run.inc.tr r90.run.inc) S89.sl)) rfl (fun w' hw' => (E.assign (v := v93) rfl)) ?_
          exact FB.done (by kernel_rfl) ⟨_, _, _, _, (S89.sel [0] (by decide) rfl), (r69.run.inc.tr r90.run.inc), els96, k51, rfl, k53, k54, k50⟩
    ·
      rintro f105 w104 ⟨H101, v97, n98, cs99, S102, i103, els100, k106, k107, k108, k109, k110⟩
      refine FW.region ?_
      refine FL.v (E.add k110 rfl) ?_
      refine FL.v (E.move (v := Value.int .i64 (wr (((i40 : Nat) : Int) + 1))) rfl) ?_
      refine FL.nil ?_
      obtain rfl := Option.some.inj hp
      exact ⟨rfl, ⟨_, _, _, _, S102, (i47.tr i103), els100, (nat_succ rfl (lt_of_get hx40) (p1.mono (((i27.tr r34.run.inc).tr i47).tr i103)).le), k106, k107, k108, k109⟩⟩
  ·
    clear hp hq
    rintro s40 f122 w121 ⟨H118, v41, n42, cs43, S119, i120, els44, k123, k124, k125, k126, k127⟩
    refine FW.seq (FW.region ?_)
    refine FL.v (E.lss k123 k127) ?_
    refine FL.nil (FW.seq ?_)
    refine FW.condF rfl dlt_len ?_
    refine FW.exit ?_
    exact ⟨nofun, rfl, ⟨_, _, _, _, S119, i120, els44, k125⟩⟩
  ·
    clear hq
    intro e f116 w115 hD
    rcases q40 with s40 | x40
    ·
      obtain ⟨rfl, hD⟩ := hD
      obtain ⟨H112, v41, n42, cs43, S113, i114, els44, k117⟩ := hD
      replace hp := el_go hp
      refine FW.seq (FW.region ?_)
      refine FL.v (E.move k117) ?_
      refine FL.v (E.assign (v := v41) rfl) ?_
      refine FL.nil ?_
      refine FW.ret ?_
      obtain rfl := Option.some.inj hp
      exact ⟨.inr rfl, res1 rfl rfl ⟨_, _, _, _, rfl, S113, els44⟩⟩
    · exact x40.elim

end Go.Proofs
