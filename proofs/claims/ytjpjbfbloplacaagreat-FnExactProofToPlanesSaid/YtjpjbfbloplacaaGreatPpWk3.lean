/- Part of the walks and plain laws behind the claim: it proves helpers, under no condition beyond their own. -/
import Derived.Test.YtjpjbfbloplacaaGreatPpWk2
set_option linter.unusedVariables false
set_option maxRecDepth 100000
namespace Go.Proofs
open Go.Mr Go.Pu Go.PF Go.RowKit

@[reducible] def p_impl_planeOfLiteral (Ha : GH) (wa : World) (r : Inequality) : Ending → World → Prop :=
 fun e w' => ∃ H' : GH, ∃ v0_0 : Value, e = .returned (Value.agg #[v0_0, Value.int .i64 r.bound]) ∧ Run wa.heap.size Ha wa H' w' ∧ RSl (up wa.heap.size H') eI 1 v0_0 r.coeffs
theorem w_impl_planeOfLiteral {Ha : GH} {wa : World} (hs : Sl Ha wa) (a0 : Int) (a1 : Int) {r : Inequality} (hp : (PF.impl_planeOfLiteral a0 a1) = some r) :
  Calls Tryz.prog 142 #[Value.int .i64 a0, Value.int .i64 a1] wa (p_impl_planeOfLiteral Ha wa r) := by
 unfold PF.impl_planeOfLiteral at hp
 have S0 := St.init hs
 refine calls_go (N := 14) (args := [Value.int .i64 a0, Value.int .i64 a1]) Tryz.func142 rfl rfl rfl ?_
 refine FW.seq (FW.region ?_)
 have S25 := S0.nil 3 1
 have els26 : Els (up wa.heap.size Ha) eI 1 [] [] := Els.nil
 obtain ⟨b21, w22, run23, S24⟩ := S25.alloc (P := Tryz.prog) 127 [Value.slice none 0 0, Value.int .i64 0] Tryz.zeroValue127 rfl (ones_cons rfl (ones_cons rfl ones_nil))
 refine FL.v (E.alloc run23) ?_
 refine FL.nil (FW.seq (FW.seq (FW.region ?_)))
 refine FL.v (E.move (v := Value.int .i64 a1) rfl) ?_
 refine FL.v (E.gtr rfl rfl) ?_
 refine FL.nil ?_
 rcases ifB hp with ⟨c27, hp⟩ | ⟨c27, hp⟩
 ·
  refine FW.condT rfl c27 ?_
  refine FW.seq (FW.region ?_)
  refine FL.v (E.move (v := Value.int .i64 a0) rfl) ?_
  refine FL.v (E.move (v := Value.int .i64 a1) rfl) ?_
  obtain ⟨r28, hr29, hp⟩ := bnd hp
  refine FL.call rfl rfl rfl (E.call Tryz.call192 (A4 rfl rfl rfl rfl)) (w_impl_varPlane S24.sl a0 a1 1 0 hr29) ?_
  rintro e w31 ⟨H30, v34, rfl, r33, h35⟩
  refine ⟨_, rfl, ?_⟩
  have nv36 : New Ha [v34] := New.of_up S24.sl h35.dom
  have h35 := h35.mono (up_le S24.size)
  have S32 := S24.call r33
  obtain ⟨w37, run38, S39⟩ := S32.store0 (P := Tryz.prog) (t := 127) (i := 0) (cs' := [v34, Value.int .i64 r28.bound]) (l' := [.box b21 127 [v34, Value.int .i64 r28.bound], .row 3 1 (Value.slice none 0 0) 0 []]) (v := Value.agg #[v34, Value.int .i64 r28.bound]) (c := [v34, Value.int .i64 r28.bound]) rfl Tryz.sizeOf127 rfl rfl (ones_cons h35.one (ones_cons rfl ones_nil)) (Nat.le_of_ble_eq_true rfl) rfl rfl
  refine FL.act rfl rfl (E.store rfl rfl run38) ?_
  refine FL.nil ?_
  refine FW.ret ?_
  obtain rfl := Option.some.inj hp
  exact ⟨.inr rfl, resC rfl rfl (loadVar_A Tryz.isAgg127 Tryz.sizeOf127 (S39.box_now (i := 0) rfl) rfl) ⟨_, _, rfl, S39.run, h35⟩⟩
 ·
  refine FW.condF rfl c27 ?_
  refine FW.skip (FW.seq (FW.region ?_))
  refine FL.v (E.move (v := Value.int .i64 a0) rfl) ?_
  refine FL.v (E.move (v := Value.int .i64 a1) rfl) ?_
  refine FL.v (E.neg rfl) ?_
  obtain ⟨r40, hr41, hp⟩ := bnd hp
  refine FL.call rfl rfl rfl (E.call Tryz.call192 (A4 rfl rfl rfl rfl)) (w_impl_varPlane S24.sl a0 (wr (-a1)) (-1) (-1) hr41) ?_
  rintro e w43 ⟨H42, v46, rfl, r45, h47⟩
  refine ⟨_, rfl, ?_⟩
  have nv48 : New Ha [v46] := New.of_up S24.sl h47.dom
  have h47 := h47.mono (up_le S24.size)
  have S44 := S24.call r45
  obtain ⟨w49, run50, S51⟩ := S44.store0 (P := Tryz.prog) (t := 127) (i := 0) (cs' := [v46, Value.int .i64 r40.bound]) (l' := [.box b21 127 [v46, Value.int .i64 r40.bound], .row 3 1 (Value.slice none 0 0) 0 []]) (v := Value.agg #[v46, Value.int .i64 r40.bound]) (c := [v46, Value.int .i64 r40.bound]) rfl Tryz.sizeOf127 rfl rfl (ones_cons h47.one (ones_cons rfl ones_nil)) (Nat.le_of_ble_eq_true rfl) rfl rfl
  refine FL.act rfl rfl (E.store rfl rfl run50) ?_
  refine FL.nil ?_
  refine FW.ret ?_
  obtain rfl := Option.some.inj hp
  exact ⟨.inr rfl, resC rfl rfl (loadVar_A Tryz.isAgg127 Tryz.sizeOf127 (S51.box_now (i := 0) rfl) rfl) ⟨_, _, rfl, S51.run, h47⟩⟩

@[reducible] def p_impl_combined (Ha : GH) (wa : World) (r : Inequality) : Ending → World → Prop :=
  fun e w' => ∃ H' : GH, ∃ v0_0 : Value, e = .returned (Value.agg #[v0_0, Value.int .i64 r.bound]) ∧ Run wa.heap.size Ha wa H' w' ∧ RSl (up wa.heap.size H') eI 1 v0_0 r.coeffs
theorem w_impl_combined {Ha : GH} {wa : World} (hs : Sl Ha wa) (a0 : Inequality) (v0_0 : Value) (p0_0 : RSl Ha eI 1 v0_0 a0.coeffs) (a1 : Inequality) (v1_0 : Value) (p1_0 : RSl Ha eI 1 v1_0 a1.coeffs) (v2 : Value) (a2 : Int → Int → Option Int) (p2 : Fn_I_I_to_I Tryz.prog Ha v2 a2) {r : Inequality} (hp : (PF.impl_combined a0 a1 a2) = some r) :
    Calls Tryz.prog 195 #[Value.agg #[v0_0, Value.int .i64 a0.bound], Value.agg #[v1_0, Value.int .i64 a1.bound], v2] wa (p_impl_combined Ha wa r) := by
  unfold PF.impl_combined at hp
  have S0 := St.init hs
  refine calls_go (N := 40) (args := [Value.agg #[v0_0, Value.int .i64 a0.bound], Value.agg #[v1_0, Value.int .i64 a1.bound], v2]) Tryz.func195 rfl rfl rfl ?_
  refine FW.seq (FW.region ?_)
  obtain ⟨b21, w22, run23, S24⟩ := S0.box (P := Tryz.prog) 127 [v0_0, Value.int .i64 a0.bound] (v := Value.agg #[v0_0, Value.int .i64 a0.bound]) rfl (ones_cons p0_0.one (ones_cons rfl ones_nil))
  refine FL.v (E.box rfl run23) ?_
  obtain ⟨H25, S26, i27, at28⟩ := S24.sealBox (i := 0) (l' := []) rfl rfl
  obtain ⟨b29, w30, run31, S32⟩ := S26.box (P := Tryz.prog) 127 [v1_0, Value.int .i64 a1.bound] (v := Value.agg #[v1_0, Value.int .i64 a1.bound]) rfl (ones_cons p1_0.one (ones_cons rfl ones_nil))
  refine FL.v (E.box rfl run31) ?_
  obtain ⟨H33, S34, i35, at36⟩ := S32.sealBox (i := 0) (l' := []) rfl rfl
  have S41 := S34.nil 3 1
  have els42 : Els (up wa.heap.size H33) eI 1 [] [] := Els.nil
  obtain ⟨b37, w38, run39, S40⟩ := S41.alloc (P := Tryz.prog) 127 [Value.slice none 0 0, Value.int .i64 0] Tryz.zeroValue127 rfl (ones_cons rfl (ones_cons rfl ones_nil))
  refine FL.v (E.alloc run39) ?_
  refine FL.nil (FW.seq (FW.region ?_))
  refine FL.v (E.move (v := v2) rfl) ?_
  refine FL.v (E.fieldAddr tf127_1 rfl) ?_
  refine FL.v (E.load rfl (run_load1 Tryz.isAgg3 ((at28.mono i35).now S40.sl) rfl)) ?_
  refine FL.v (E.fieldAddr tf127_1 rfl) ?_
  refine FL.v (E.load rfl (run_load1 Tryz.isAgg3 (at36.now S40.sl) rfl)) ?_
  obtain ⟨r43, hr44, hp⟩ := bnd hp
  obtain ⟨fi48, cs49, hv50, he51, hc52⟩ := (p2.mono (i27.tr i35)) H33 w38 (Inc.rfl _) S40.sl a0.bound a1.bound r43 hr44
  refine FL.call rfl rfl rfl (E.callV he51 (Eq.trans rfl hv50) (appA (A2 rfl rfl) cs49)) hc52 ?_
  rintro e w45 ⟨rfl, r46⟩
  refine ⟨_, rfl, ?_⟩
  have S47 := S40.call r46
  refine FL.v (E.build (B1 rfl) (run_build _ 127 #[(1, Value.int .i64 r43)] #[Value.slice none 0 0, Value.int .i64 r43] (by rfl))) ?_
  have S57 := S47.nil 3 1
  have els58 : Els (up wa.heap.size H33) eI 1 [] [] := Els.nil
  obtain ⟨b53, w54, run55, S56⟩ := S57.alloc (P := Tryz.prog) 127 [Value.slice none 0 0, Value.int .i64 0] Tryz.zeroValue127 rfl (ones_cons rfl (ones_cons rfl ones_nil))
  refine FL.v (E.alloc run55) ?_
  have S59 := S56.nil 3 1
  have els60 : Els (up wa.heap.size H33) eI 1 [] [] := Els.nil
  obtain ⟨w61, run62, S63⟩ := S59.store0 (P := Tryz.prog) (t := 127) (i := 1) (cs' := [(Value.slice none 0 0), Value.int .i64 r43]) (l' := [.row 3 1 (Value.slice none 0 0) 0 [], .box b53 127 [(Value.slice none 0 0), Value.int .i64 r43], .row 3 1 (Value.slice none 0 0) 0 [], .box b37 127 [(Value.slice none 0 0), Value.int .i64 0], .row 3 1 (Value.slice none 0 0) 0 []]) (v := Value.agg #[(Value.slice none 0 0), Value.int .i64 r43]) (c := [(Value.slice none 0 0), Value.int .i64 r43]) rfl Tryz.sizeOf127 rfl rfl (ones_cons (Ln.one (S59.row_ln (i := 0) rfl)) (ones_cons rfl ones_nil)) (Nat.le_of_ble_eq_true rfl) rfl rfl
  refine FL.act rfl rfl (E.store rfl rfl run62) ?_
  refine FL.nil (FW.seq (FW.seq (FW.region ?_)))
  refine FL.v (E.fieldAddr tf127_0 rfl) ?_
  refine FL.v (E.load rfl (run_load1 Tryz.isAgg73 ((at28.mono i35).now S63.sl) rfl)) ?_
  refine FL.v (E.lenP te73 rfl p0_0) ?_
  refine FL.v (E.move (v := Value.int .i64 0) rfl) ?_
  refine FL.nil ?_
  obtain ⟨q65, hq, hp⟩ := bndR hp
  refine FW.block ?_
  refine FW.mono (FW.forL (S := ((List Int) × Int)) (X := Empty) (fun (i65 : Nat) (s65 : ((List Int) × Int)) f w => ∃ H : GH, ∃ v66 : Value, ∃ n67 : Nat, ∃ cs68 : List Value, St Ha wa H w [.row 3 1 v66 n67 cs68, .box b53 127 [v66, Value.int .i64 s65.2], .box b37 127 [(Value.slice none 0 0), Value.int .i64 0], .row 3 1 (Value.slice none 0 0) 0 []] ∧ Inc H33 H ∧ Els (up wa.heap.size H) eI 1 cs68 s65.1 ∧ f 20 = Value.int .i64 ((i65 : Nat) : Int) ∧ f 2 = v2 ∧ f 4 = Value.pointer (some ⟨b29, 0, none⟩) ∧ f 6 = Value.pointer (some (⟨b37, 0, none⟩ : Addr)) ∧ f 7 = Value.pointer (some (⟨b53, 0, none⟩ : Addr)) ∧ f 18 = v0_0 ∧ f 19 = Value.int .i64 (len a0.coeffs)) (fun (q : Rs ((List Int) × Int) Empty) e f w => match q with | .go s65 => e = Exit.exit 0 ∧ (∃ H : GH, ∃ v66 : Value, ∃ n67 : Nat, ∃ cs68 : List Value, St Ha wa H w [.row 3 1 v66 n67 cs68, .box b53 127 [v66, Value.int .i64 s65.2], .box b37 127 [(Value.slice none 0 0), Value.int .i64 0], .row 3 1 (Value.slice none 0 0) 0 []] ∧ Inc H33 H ∧ Els (up wa.heap.size H) eI 1 cs68 s65.1 ∧ f 6 = Value.pointer (some (⟨b37, 0, none⟩ : Addr)) ∧ f 7 = Value.pointer (some (⟨b53, 0, none⟩ : Addr))) | .rt x => x.elim) hq ⟨_, _, _, _, (S63.sel [0, 1, 3, 4] (by decide) rfl), (Inc.rfl _), els60, rfl, rfl, rfl, rfl, rfl, rfl, rfl⟩ ?_ ?_) ?_
  ·
    clear hp hq
    rintro i65 y64 s65 f75 w74 ⟨H70, v66, n67, cs68, S71, i72, els69, k76, k77, k78, k79, k80, k81, k82⟩ hx65 o146 hp
    refine FW.seq (FW.region ?_)
    refine FL.v (E.lssT k76 k82 (lss_len hx65)) ?_
    refine FL.nil (FW.seq ?_)
    refine FW.condT rfl rfl ?_
    refine FW.skip (FW.seq (FW.block (FW.seq (FW.region ?_))))
    refine FL.v (E.move k76) ?_
    obtain ⟨p83, cs84, pt85, l86, at87, rel88⟩ := p0_0.at (ix_nat hx65)
    obtain rfl := eI_open rel88
    refine FL.v (E.indexAddr te73 k81 k76 pt85) ?_
    refine FL.v (E.load rfl (run_load0 Tryz.isAgg3 ((at87.mono ((i27.tr i35).tr i72)).now S71.sl) rfl)) ?_
    refine FL.v (E.assign (v := Value.int .i64 ((i65 : Nat) : Int)) rfl) ?_
    refine FL.v (E.assign (v := Value.int .i64 y64) rfl) ?_
    refine FL.nil ?_
    obtain ⟨x98, hx99, hp⟩ := bnd hp
    obtain ⟨r100, hr101, hp⟩ := bnd hp
    obtain ⟨xs115, hz116, hp⟩ := bnd hp
    refine FW.drawB (Sl H70) (fun f w => ∃ H : GH, ∃ v130 : Value, ∃ n131 : Nat, ∃ cs132 : List Value, St Ha wa H w [.row 3 1 v130 n131 cs132, .box b53 127 [v130, Value.int .i64 s65.2], .box b37 127 [(Value.slice none 0 0), Value.int .i64 0], .row 3 1 (Value.slice none 0 0) 0 []] ∧ Inc H70 H ∧ Els (up wa.heap.size H) eI 1 cs132 xs115 ∧ f 2 = v2 ∧ f 4 = Value.pointer (some ⟨b29, 0, none⟩) ∧ f 6 = Value.pointer (some (⟨b37, 0, none⟩ : Addr)) ∧ f 7 = Value.pointer (some (⟨b53, 0, none⟩ : Addr)) ∧ f 18 = v0_0 ∧ f 19 = Value.int .i64 (len a0.coeffs) ∧ f 20 = Value.int .i64 ((i65 : Nat) : Int)) (by kernel_rfl) S71.sl ?_ ?_
    ·
      intro w89 r90
      have S91 := S71.call r90
      refine FB.phase [13] (fun w => WAt w (Addr.add ⟨b53, 0, none⟩ 0) [v66]) ?_
      refine FB.t (i := 0) (bs 14 1) rfl (SP.on ((S91.box_now (i := 1) rfl).sub (j := 0) (n := 1) (c := [v66]) rfl) (SP.nil S91.sl)) rfl (fun w' hw' => (E.fieldAddr tf127_0 k80)) ?_
      refine FB.p (i := 1) (bs 14 3) 0 [11, 12, 13] rfl (SP.on ((S91.box_now (i := 1) rfl).sub (j := 0) (n := 1) (c := [v66]) rfl) (SP.nil S91.sl)) rfl rfl (fun w' hw' => (E.load rfl (run_load0 Tryz.isAgg73 hw' rfl))) ?_
      refine FB.t (i := 2) (bs 14 7) rfl (SP.on ((S91.box_now (i := 1) rfl).sub (j := 0) (n := 1) (c := [v66]) rfl) (SP.nil S91.sl)) rfl (fun w' hw' => (E.move k77)) ?_
      refine FB.t (i := 3) (bs 14 15) rfl (SP.on ((S91.box_now (i := 1) rfl).sub (j := 0) (n := 1) (c := [v66]) rfl) (SP.nil S91.sl)) rfl (fun w' hw' => (E.move (v := Value.int .i64 y64) rfl)) ?_
      refine FB.t (i := 4) (bs 14 31) rfl (SP.on ((S91.box_now (i := 1) rfl).sub (j := 0) (n := 1) (c := [v66]) rfl) (SP.nil S91.sl)) rfl (fun w' hw' => (E.fieldAddr tf127_0 k78)) ?_
      refine FB.t (i := 5) (bs 14 63) rfl (SP.on ((S91.box_now (i := 1) rfl).sub (j := 0) (n := 1) (c := [v66]) rfl) (SP.nil S91.sl)) rfl (fun w' hw' => (E.load rfl (run_load1 Tryz.isAgg73 ((at36.mono i72).now hw') rfl))) ?_
      refine FB.t (i := 6) (bs 14 127) rfl (SP.on ((S91.box_now (i := 1) rfl).sub (j := 0) (n := 1) (c := [v66]) rfl) (SP.nil S91.sl)) rfl (fun w' hw' => (E.move (v := Value.int .i64 ((i65 : Nat) : Int)) rfl)) ?_
      obtain ⟨p92, cs93, pt94, l95, at96, rel97⟩ := p1_0.at hx99
      obtain rfl := eI_open rel97
      refine FB.t (i := 7) (bs 14 255) rfl (SP.on ((S91.box_now (i := 1) rfl).sub (j := 0) (n := 1) (c := [v66]) rfl) (SP.nil S91.sl)) rfl (fun w' hw' => (E.indexAddr te73 rfl rfl pt94)) ?_
      refine FB.t (i := 8) (bs 14 511) rfl (SP.on ((S91.box_now (i := 1) rfl).sub (j := 0) (n := 1) (c := [v66]) rfl) (SP.nil S91.sl)) rfl (fun w' hw' => (E.load rfl (run_load0 Tryz.isAgg3 ((at96.mono ((i27.tr i35).tr i72)).now hw') rfl))) ?_
      refine FB.all1 (i := 9) (by kernel_rfl) ?_
      ·
        obtain ⟨fi105, cs106, hv107, he108, hc109⟩ := (p2.mono ((i27.tr i35).tr i72)) H70 w89 (Inc.rfl _) S91.sl y64 x98 r100 hr101
        refine FC.call (l' := (bs 14 1023)) rfl (by kernel_rfl) rfl rfl rfl (E.callV he108 (Eq.trans rfl hv107) (appA (A2 rfl rfl) cs106)) hc109 ?_
        rintro e w102 ⟨rfl, r103⟩
        refine ⟨_, rfl, ?_⟩
        have S104 := S91.call r103
        refine ⟨(SP.on ((S104.box_now (i := 1) rfl).sub (j := 0) (n := 1) (c := [v66]) rfl) (SP.nil S104.sl)), ?_⟩
        refine FB.all1 (i := 10) (by kernel_rfl) ?_
        ·
          obtain ⟨v110, w111, run112, S113⟩ := S104.buildSlice (P := Tryz.prog) te73 [Value.int .i64 r100] (parts := #[(0, Value.int .i64 r100)]) (cells := [Value.int .i64 r100]) rfl (szs_cons rfl szs_nil) (fc_cons rfl fc_nil) (ones_cons rfl ones_nil) (Nat.le_of_ble_eq_true rfl)
          have els114 : Els (up wa.heap.size H70) eI 1 [Value.int .i64 r100] [r100] := (Els.snoc (H := (up wa.heap.size H70)) (E := eI) (k := 1) (c := [Value.int .i64 r100]) (x := r100) Els.nil rfl rfl)
          refine FC.val (l' := (bs 14 2047)) rfl (by kernel_rfl) rfl rfl rfl (E.buildSlice (B1 rfl) run112) ?_
          refine ⟨(SP.on ((S113.box_now (i := 2) rfl).sub (j := 0) (n := 1) (c := [v66]) rfl) (SP.nil S113.sl)), ?_⟩
          refine FB.all1 (i := 11) (by kernel_rfl) ?_
          ·
            obtain ⟨v117, w120, n118, cs119, run121, S122, els123, ce124⟩ := S113.appendO (P := Tryz.prog) te73 (i := 1) (j := 0) rfl els69 rfl els114 hz116
            have S122 : St Ha wa H70 w120 [.row 3 1 v110 1 [Value.int .i64 r100], .row 3 1 v117 n118 cs119, .box b53 127 [v66, Value.int .i64 s65.2], .box b37 127 [(Value.slice none 0 0), Value.int .i64 0], .row 3 1 (Value.slice none 0 0) 0 []] := S122
            have S125 : St Ha wa H70 w120 [.row 3 1 v117 n118 cs119, .box b53 127 [v66, Value.int .i64 s65.2], .box b37 127 [(Value.slice none 0 0), Value.int .i64 0], .row 3 1 (Value.slice none 0 0) 0 []] := S122.drop 0
            refine FC.val (l' := (bs 14 4095)) rfl (by kernel_rfl) rfl rfl rfl (E.append rfl rfl run121) ?_
            refine ⟨(SP.on ((S125.box_now (i := 1) rfl).sub (j := 0) (n := 1) (c := [v66]) rfl) (SP.nil S125.sl)), ?_⟩
            refine FB.t (i := 12) (bs 14 8191) rfl (SP.on ((S125.box_now (i := 1) rfl).sub (j := 0) (n := 1) (c := [v66]) rfl) (SP.nil S125.sl)) rfl (fun w' hw' => (E.fieldAddr tf127_0 k80)) ?_
            refine FB.all1 (i := 13) (by kernel_rfl) ?_
            ·
              obtain ⟨w126, run128, S129⟩ := S125.store (P := Tryz.prog) (t := 73) (i := 1) (j := 0) (cs' := [v117, Value.int .i64 s65.2]) (l' := [.row 3 1 v117 n118 cs119, .box b53 127 [v117, Value.int .i64 s65.2], .box b37 127 [(Value.slice none 0 0), Value.int .i64 0], .row 3 1 (Value.slice none 0 0) 0 []]) (v := v117) (c := [v117]) rfl Tryz.sizeOf73 (Ln.cells (S125.row_ln (i := 0) rfl)) rfl (ones_cons (Ln.one (S125.row_ln (i := 0) rfl)) ones_nil) (Nat.le_of_ble_eq_true rfl) rfl rfl
              refine FC.act (l' := (bs 14 16383)) rfl (by kernel_rfl) rfl rfl (E.store rfl rfl run128) ?_
              refine ⟨(SP.o (SP.nil S129.sl)), ?_⟩
              exact FB.done (by kernel_rfl) ⟨_, _, _, _, S129, (Inc.rfl _), els123, k77, k78, k79, k80, k81, k82, k76⟩
    ·
      rintro f138 w137 ⟨H134, v130, n131, cs132, S135, i136, els133, k139, k140, k141, k142, k143, k144, k145⟩
      refine FW.region ?_
      refine FL.v (E.add k145 rfl) ?_
      refine FL.v (E.move (v := Value.int .i64 (wr (((i65 : Nat) : Int) + 1))) rfl) ?_
      refine FL.nil ?_
      obtain rfl := Option.some.inj hp
      exact ⟨rfl, ⟨_, _, _, _, S135, (i72.tr i136), els133, (nat_succ rfl (lt_of_get hx65) (p0_0.mono (((i27.tr i35).tr i72).tr i136)).le), k139, k140, k141, k142, k143, k144⟩⟩
  ·
    clear hp hq
    rintro s65 f170 w169 ⟨H166, v66, n67, cs68, S167, i168, els69, k171, k172, k173, k174, k175, k176, k177⟩
    refine FW.seq (FW.region ?_)
    refine FL.v (E.lss k171 k177) ?_
    refine FL.nil (FW.seq ?_)
    refine FW.condF rfl dlt_len ?_
    refine FW.exit ?_
    exact ⟨nofun, rfl, ⟨_, _, _, _, S167, i168, els69, k174, k175⟩⟩
  ·
    clear hq
    intro e f151 w150 hD
    rcases q65 with s65 | x65
    ·
      obtain ⟨rfl, hD⟩ := hD
      obtain ⟨H147, v66, n67, cs68, S148, i149, els69, k152, k153⟩ := hD
      replace hp := el_go hp
      refine FW.seq (FW.region ?_)
      refine FL.v (E.load k153 (run_loadA Tryz.isAgg127 Tryz.sizeOf127 (S148.box_now (i := 1) rfl) rfl)) ?_
      obtain ⟨w154, run155, S156⟩ := S148.store0 (P := Tryz.prog) (t := 127) (i := 2) (cs' := [v66, Value.int .i64 s65.2]) (l' := [.row 3 1 v66 n67 cs68, .box b53 127 [v66, Value.int .i64 s65.2], .box b37 127 [v66, Value.int .i64 s65.2], .row 3 1 (Value.slice none 0 0) 0 []]) (v := Value.agg #[v66, Value.int .i64 s65.2]) (c := [v66, Value.int .i64 s65.2]) rfl Tryz.sizeOf127 rfl rfl (ones_cons (Ln.one (S148.row_ln (i := 0) rfl)) (ones_cons rfl ones_nil)) (Nat.le_of_ble_eq_true rfl) rfl rfl
      refine FL.act rfl rfl (E.store k152 rfl run155) ?_
      obtain ⟨H157, S158, i159, h160, nv161⟩ := S156.sealRowU (i := 0) (l' := [.box b53 127 [v66, Value.int .i64 s65.2], .box b37 127 [v66, Value.int .i64 s65.2], .row 3 1 (Value.slice none 0 0) 0 []]) rfl els69 (by decide) rfl
      obtain ⟨H162, S163, i164, at165⟩ := S158.sealBox (i := 1) (l' := [.box b53 127 [v66, Value.int .i64 s65.2], .row 3 1 (Value.slice none 0 0) 0 []]) rfl rfl
      refine FL.nil ?_
      refine FW.ret ?_
      obtain rfl := Option.some.inj hp
      exact ⟨.inr rfl, resC rfl k152 (loadVar_A Tryz.isAgg127 Tryz.sizeOf127 (at165.now S163.sl) rfl) ⟨_, _, rfl, S163.run, (h160.mono (up_mono i164))⟩⟩
    · exact x65.elim

theorem w_impl_addPlanes_1 {Ha : GH} {wa : World} (hs : Sl Ha wa) (a0 : Int) (a1 : Int) :
  Calls Tryz.prog 196 #[Value.int .i64 a0, Value.int .i64 a1] wa (Sc Ha wa (Value.int .i64 (PF.impl_addPlanes_1 a0 a1))) := by
 obtain ⟨r, hp⟩ : ∃ r, (PF.impl_addPlanes_1 a0 a1) = r := ⟨_, rfl⟩
 rw [hp]
 unfold PF.impl_addPlanes_1 at hp
 have S0 := St.init hs
 refine calls_go (N := 8) (args := [Value.int .i64 a0, Value.int .i64 a1]) Tryz.func196 rfl rfl rfl ?_
 refine FW.seq (FW.region ?_)
 refine FL.v (E.assign (v := Value.int .i64 0) rfl) ?_
 refine FL.nil (FW.seq (FW.region ?_))
 refine FL.v (E.move (v := Value.int .i64 a0) rfl) ?_
 refine FL.v (E.move (v := Value.int .i64 a1) rfl) ?_
 refine FL.v (E.add rfl rfl) ?_
 refine FL.v (E.assign (v := Value.int .i64 (wr (a0 + a1))) rfl) ?_
 refine FL.nil ?_
 refine FW.ret ?_
 obtain rfl := hp
 exact ⟨.inr rfl, res1 rfl rfl ⟨rfl, S0.back⟩⟩

@[reducible] def p_impl_addPlanes (Ha : GH) (wa : World) (r : Inequality) : Ending → World → Prop :=
 fun e w' => ∃ H' : GH, ∃ v0_0 : Value, e = .returned (Value.agg #[v0_0, Value.int .i64 r.bound]) ∧ Run wa.heap.size Ha wa H' w' ∧ RSl (up wa.heap.size H') eI 1 v0_0 r.coeffs
theorem w_impl_addPlanes {Ha : GH} {wa : World} (hs : Sl Ha wa) (a0 : Inequality) (v0_0 : Value) (p0_0 : RSl Ha eI 1 v0_0 a0.coeffs) (a1 : Inequality) (v1_0 : Value) (p1_0 : RSl Ha eI 1 v1_0 a1.coeffs) {r : Inequality} (hp : (PF.impl_addPlanes a0 a1) = some r) :
  Calls Tryz.prog 147 #[Value.agg #[v0_0, Value.int .i64 a0.bound], Value.agg #[v1_0, Value.int .i64 a1.bound]] wa (p_impl_addPlanes Ha wa r) := by
 unfold PF.impl_addPlanes at hp
 have S0 := St.init hs
 refine calls_go (N := 8) (args := [Value.agg #[v0_0, Value.int .i64 a0.bound], Value.agg #[v1_0, Value.int .i64 a1.bound]]) Tryz.func147 rfl rfl rfl ?_
 refine FW.seq (FW.region ?_)
 obtain ⟨b21, w22, run23, S24⟩ := S0.box (P := Tryz.prog) 127 [v0_0, Value.int .i64 a0.bound] (v := Value.agg #[v0_0, Value.int .i64 a0.bound]) rfl (ones_cons p0_0.one (ones_cons rfl ones_nil))
 refine FL.v (E.box rfl run23) ?_
 obtain ⟨H25, S26, i27, at28⟩ := S24.sealBox (i := 0) (l' := []) rfl rfl
 obtain ⟨b29, w30, run31, S32⟩ := S26.box (P := Tryz.prog) 127 [v1_0, Value.int .i64 a1.bound] (v := Value.agg #[v1_0, Value.int .i64 a1.bound]) rfl (ones_cons p1_0.one (ones_cons rfl ones_nil))
 refine FL.v (E.box rfl run31) ?_
 obtain ⟨H33, S34, i35, at36⟩ := S32.sealBox (i := 0) (l' := []) rfl rfl
 have S41 := S34.nil 3 1
 have els42 : Els (up wa.heap.size H33) eI 1 [] [] := Els.nil
 obtain ⟨b37, w38, run39, S40⟩ := S41.alloc (P := Tryz.prog) 127 [Value.slice none 0 0, Value.int .i64 0] Tryz.zeroValue127 rfl (ones_cons rfl (ones_cons rfl ones_nil))
 refine FL.v (E.alloc run39) ?_
 refine FL.nil (FW.seq (FW.region ?_))
 refine FL.v (E.load rfl (run_loadA Tryz.isAgg127 Tryz.sizeOf127 ((at28.mono i35).now S40.sl) rfl)) ?_
 refine FL.v (E.load rfl (run_loadA Tryz.isAgg127 Tryz.sizeOf127 (at36.now S40.sl) rfl)) ?_
 obtain ⟨r43, hr44, hp⟩ := bnd hp
 refine FL.call rfl rfl rfl (E.call Tryz.call195 (A3 rfl rfl rfl)) (w_impl_combined S40.sl a0 v0_0 (p0_0.mono (i27.tr i35)) a1 v1_0 (p1_0.mono (i27.tr i35)) (Value.func (.func 196) #[] #[]) (fun x0 x1 => some (PF.impl_addPlanes_1 x0 x1)) (fun H2 w2 hi2 hs2 x0 x1 r hr => ⟨196, #[], rfl, Tryz.call196, by cases hr; exact w_impl_addPlanes_1 hs2 x0 x1 ⟩) hr44) ?_
 rintro e w46 ⟨H45, v49, rfl, r48, h50⟩
 refine ⟨_, rfl, ?_⟩
 have nv51 : New H33 [v49] := New.of_up S40.sl h50.dom
 have h50 := h50.mono (up_le S40.size)
 have S47 := S40.call r48
 obtain ⟨w52, run53, S54⟩ := S47.store0 (P := Tryz.prog) (t := 127) (i := 0) (cs' := [v49, Value.int .i64 r43.bound]) (l' := [.box b37 127 [v49, Value.int .i64 r43.bound], .row 3 1 (Value.slice none 0 0) 0 []]) (v := Value.agg #[v49, Value.int .i64 r43.bound]) (c := [v49, Value.int .i64 r43.bound]) rfl Tryz.sizeOf127 rfl rfl (ones_cons h50.one (ones_cons rfl ones_nil)) (Nat.le_of_ble_eq_true rfl) rfl rfl
 refine FL.act rfl rfl (E.store rfl rfl run53) ?_
 obtain ⟨H55, S56, i57, at58⟩ := S54.sealBox (i := 0) (l' := [.row 3 1 (Value.slice none 0 0) 0 []]) rfl rfl
 refine FL.nil ?_
 refine FW.ret ?_
 obtain rfl := Option.some.inj hp
 exact ⟨.inr rfl, resC rfl rfl (loadVar_A Tryz.isAgg127 Tryz.sizeOf127 (at58.now S56.sl) rfl) ⟨_, _, rfl, S56.run, (h50.mono (up_mono i57))⟩⟩

@[reducible] def p_impl_planer_add (H0 : GH) (w0 : World) (Ha : GH) (L : List MO) (b0 : Nat) (r : (Int × planer)) : Ending → World → Prop :=
 fun e w' => ∃ H' : GH, ∃ v0_1r : Value, ∃ n0_1r : Nat, ∃ c0_1r : List Value, e = .returned (Value.int .i64 r.1) ∧ (St H0 w0 H' w' (.box b0 118 [Value.int .i64 r.2.vars, v0_1r] :: .row 129 6 v0_1r n0_1r c0_1r :: L) ∧ Inc Ha H') ∧ Els (up w0.heap.size H') ePlaneStep 6 c0_1r r.2.steps ∧ (bl c0_1r).Nodup
theorem w_impl_planer_add {H0 Ha : GH} {w0 wa : World} {L : List MO} {a0 : planer} {b0 : Nat} {v0_1 : Value} {n0_1 : Nat} {k0_1 : List Value} (S0 : St H0 w0 Ha wa (.box b0 118 [Value.int .i64 a0.vars, v0_1] :: .row 129 6 v0_1 n0_1 k0_1 :: L)) (p0_1 : Els (up w0.heap.size Ha) ePlaneStep 6 k0_1 a0.steps) (d0_1 : (bl k0_1).Nodup) (a1 : Int) (a2 : Int) {r : (Int × planer)} (hp : (PF.impl_planer_add a0 a1 a2) = some r) :
  Calls Tryz.prog 85 #[Value.pointer (some (⟨b0, 0, none⟩ : Addr)), Value.int .i64 a1, Value.int .i64 a2] wa (p_impl_planer_add H0 w0 Ha L b0 r) := by
 unfold PF.impl_planer_add at hp
 refine calls_go (N := 29) (args := [Value.pointer (some (⟨b0, 0, none⟩ : Addr)), Value.int .i64 a1, Value.int .i64 a2]) Tryz.func85 rfl rfl rfl ?_
 refine FW.seq (FW.region ?_)
 refine FL.v (E.assign (v := Value.int .i64 0) rfl) ?_
 refine FL.nil (FW.seq ?_)
 obtain ⟨x30, hx31, hp⟩ := bnd hp
 obtain ⟨x41, hx42, hp⟩ := bnd hp
 obtain ⟨r47, hr48, hp⟩ := bnd hp
 obtain ⟨s67, hq67, hp⟩ := bnd hp
 refine FW.drawB (Sl Ha) (fun f w => ∃ H : GH, ∃ v56 : Value, ∃ n57 : Nat, ∃ cs58 : List Value, St H0 w0 H w (.box b0 118 [Value.int .i64 s67.2.1, v56] :: .row 129 6 v56 n57 cs58 :: L) ∧ Inc Ha H ∧ Els (up w0.heap.size H) ePlaneStep 6 cs58 s67.1 ∧ (bl cs58).Nodup ∧ f 6 = Value.int .i64 s67.2.2) (by kernel_rfl) S0.sl ?_ ?_
 ·
  intro w21 r22
  have S23 := S0.call r22
  refine FB.phase [21] (fun w => WAt w (Addr.add ⟨b0, 0, none⟩ 1) [v0_1]) ?_
  refine FB.t (i := 0) (bs 23 1) rfl (SP.on ((S23.box_now (i := 0) rfl).sub (j := 1) (n := 1) (c := [v0_1]) rfl) (SP.nil S23.sl)) rfl (fun w' hw' => (E.move (v := Value.pointer (some (⟨b0, 0, none⟩ : Addr))) rfl)) ?_
  refine FB.t (i := 1) (bs 23 3) rfl (SP.on ((S23.box_now (i := 0) rfl).sub (j := 1) (n := 1) (c := [v0_1]) rfl) (SP.nil S23.sl)) rfl (fun w' hw' => (E.move (v := Value.pointer (some (⟨b0, 0, none⟩ : Addr))) rfl)) ?_
  refine FB.t (i := 2) (bs 23 7) rfl (SP.on ((S23.box_now (i := 0) rfl).sub (j := 1) (n := 1) (c := [v0_1]) rfl) (SP.nil S23.sl)) rfl (fun w' hw' => (E.nilCheck rfl)) ?_
  refine FB.t (i := 3) (bs 23 15) rfl (SP.on ((S23.box_now (i := 0) rfl).sub (j := 1) (n := 1) (c := [v0_1]) rfl) (SP.nil S23.sl)) rfl (fun w' hw' => (E.fieldAddr tf118_1 rfl)) ?_
  refine FB.p (i := 4) (bs 23 31) 0 [6, 7, 8, 17, 20, 21, 22] rfl (SP.on ((S23.box_now (i := 0) rfl).sub (j := 1) (n := 1) (c := [v0_1]) rfl) (SP.nil S23.sl)) rfl rfl (fun w' hw' => (E.load rfl (run_load0 Tryz.isAgg45 hw' rfl))) ?_
  refine FB.t (i := 5) (bs 23 63) rfl (SP.on ((S23.box_now (i := 0) rfl).sub (j := 1) (n := 1) (c := [v0_1]) rfl) (SP.nil S23.sl)) rfl (fun w' hw' => (E.move (v := Value.int .i64 a1) rfl)) ?_
  obtain ⟨p24, cs25, pt26, l27, at28, rel29, hall32⟩ := S23.row_atA (i := 1) rfl p0_1 (by decide) hx31
  obtain ⟨v33, rfl, h34⟩ := ePlaneStep_open rel29
  refine FB.t (i := 6) (bs 23 127) rfl (SP.on ((S23.box_now (i := 0) rfl).sub (j := 1) (n := 1) (c := [v0_1]) rfl) (SP.nil S23.sl)) rfl (fun w' hw' => (E.indexAddr te45 rfl rfl pt26)) ?_
  refine FB.t (i := 7) (bs 23 255) rfl (SP.on ((S23.box_now (i := 0) rfl).sub (j := 1) (n := 1) (c := [v0_1]) rfl) (SP.nil S23.sl)) rfl (fun w' hw' => (E.fieldAddr tf129_0 rfl)) ?_
  refine FB.phase [21] (fun w' => WAt w' p24 [v33, Value.int .i64 x30.ineq.bound, Value.int .i64 x30.kind, Value.int .i64 x30.a, Value.int .i64 x30.b, Value.int .i64 x30.k]) ?_
  refine FB.p (i := 8) (bs 23 511) 0 [17, 20, 21, 22] rfl (SP.on (hall32 _ _ _ 1 S23 rfl) (SP.on ((S23.box_now (i := 0) rfl).sub (j := 1) (n := 1) (c := [v0_1]) rfl) (SP.nil S23.sl))) rfl rfl (fun w' hw' => (E.load rfl (run_loadA Tryz.isAgg127 Tryz.sizeOf127 (hw'.sub (j := 0) (n := 2) (c := [v33, Value.int .i64 x30.ineq.bound]) rfl) rfl))) ?_
  refine FB.t (i := 9) (bs 23 1023) rfl (SP.on (hall32 _ _ _ 1 S23 rfl) (SP.on ((S23.box_now (i := 0) rfl).sub (j := 1) (n := 1) (c := [v0_1]) rfl) (SP.nil S23.sl))) rfl (fun w' hw' => (E.move (v := Value.pointer (some (⟨b0, 0, none⟩ : Addr))) rfl)) ?_
  refine FB.t (i := 10) (bs 23 2047) rfl (SP.on (hall32 _ _ _ 1 S23 rfl) (SP.on ((S23.box_now (i := 0) rfl).sub (j := 1) (n := 1) (c := [v0_1]) rfl) (SP.nil S23.sl))) rfl (fun w' hw' => (E.nilCheck rfl)) ?_
  refine FB.t (i := 11) (bs 23 4095) rfl (SP.on (hall32 _ _ _ 1 S23 rfl) (SP.on ((S23.box_now (i := 0) rfl).sub (j := 1) (n := 1) (c := [v0_1]) rfl) (SP.nil S23.sl))) rfl (fun w' hw' => (E.fieldAddr tf118_1 rfl)) ?_
  refine FB.p (i := 12) (bs 23 8191) 1 [14, 15, 16, 17, 20, 21, 22] rfl (SP.on (hall32 _ _ _ 1 S23 rfl) (SP.on ((S23.box_now (i := 0) rfl).sub (j := 1) (n := 1) (c := [v0_1]) rfl) (SP.nil S23.sl))) rfl rfl (fun w' hw' => (E.load rfl (run_load0 Tryz.isAgg45 hw' rfl))) ?_
  refine FB.t (i := 13) (bs 23 16383) rfl (SP.on (hall32 _ _ _ 1 S23 rfl) (SP.on ((S23.box_now (i := 0) rfl).sub (j := 1) (n := 1) (c := [v0_1]) rfl) (SP.nil S23.sl))) rfl (fun w' hw' => (E.move (v := Value.int .i64 a2) rfl)) ?_
  obtain ⟨p35, cs36, pt37, l38, at39, rel40, hall43⟩ := S23.row_atA (i := 1) rfl p0_1 (by decide) hx42
  obtain ⟨v44, rfl, h46⟩ := ePlaneStep_open rel40
  refine FB.t (i := 14) (bs 23 32767) rfl (SP.on (hall32 _ _ _ 1 S23 rfl) (SP.on ((S23.box_now (i := 0) rfl).sub (j := 1) (n := 1) (c := [v0_1]) rfl) (SP.nil S23.sl))) rfl (fun w' hw' => (E.indexAddr te45 rfl rfl pt37)) ?_
  refine FB.t (i := 15) (bs 23 65535) rfl (SP.on (hall32 _ _ _ 1 S23 rfl) (SP.on ((S23.box_now (i := 0) rfl).sub (j := 1) (n := 1) (c := [v0_1]) rfl) (SP.nil S23.sl))) rfl (fun w' hw' => (E.fieldAddr tf129_0 rfl)) ?_
  refine FB.phase [21] (fun w' => WAt w' p35 [v44, Value.int .i64 x41.ineq.bound, Value.int .i64 x41.kind, Value.int .i64 x41.a, Value.int .i64 x41.b, Value.int .i64 x41.k]) ?_
  refine FB.p (i := 16) (bs 23 131071) 0 [17, 20, 21, 22] rfl (SP.on (hall43 _ _ _ 1 S23 rfl) (SP.on (hall32 _ _ _ 1 S23 rfl) (SP.on ((S23.box_now (i := 0) rfl).sub (j := 1) (n := 1) (c := [v0_1]) rfl) (SP.nil S23.sl)))) rfl rfl (fun w' hw' => (E.load rfl (run_loadA Tryz.isAgg127 Tryz.sizeOf127 (hw'.sub (j := 0) (n := 2) (c := [v44, Value.int .i64 x41.ineq.bound]) rfl) rfl))) ?_
  refine FB.t (i := 18) (bs 23 393215) rfl (SP.on (hall43 _ _ _ 1 S23 rfl) (SP.on (hall32 _ _ _ 1 S23 rfl) (SP.on ((S23.box_now (i := 0) rfl).sub (j := 1) (n := 1) (c := [v0_1]) rfl) (SP.nil S23.sl)))) rfl (fun w' hw' => (E.move (v := Value.int .i64 a1) rfl)) ?_
  refine FB.t (i := 19) (bs 23 917503) rfl (SP.on (hall43 _ _ _ 1 S23 rfl) (SP.on (hall32 _ _ _ 1 S23 rfl) (SP.on ((S23.box_now (i := 0) rfl).sub (j := 1) (n := 1) (c := [v0_1]) rfl) (SP.nil S23.sl)))) rfl (fun w' hw' => (E.move (v := Value.int .i64 a2) rfl)) ?_
  refine FB.all1 (i := 17) (by kernel_rfl) ?_
  ·
   refine FC.call (l' := (bs 23 1048575)) rfl (by kernel_rfl) rfl rfl rfl (E.call Tryz.call147 (A2 rfl rfl)) (w_impl_addPlanes S23.sl x30.ineq v33 (h34.mono upI) x41.ineq v44 (h46.mono upI) hr48) ?_
   rintro e w50 ⟨H49, v53, rfl, r52, h54⟩
   refine ⟨_, rfl, ?_⟩
   have nv55 : New Ha [v53] := New.of_up S23.sl h54.dom
   have h54 := h54.mono (up_le S23.size)
   have S51 := S23.call r52
   refine ⟨(SP.on (hall43 _ _ _ 1 S51 rfl) (SP.on (hall32 _ _ _ 1 S51 rfl) (SP.on ((S51.box_now (i := 0) rfl).sub (j := 1) (n := 1) (c := [v0_1]) rfl) (SP.nil (Sl.of_inc r52.inc S51.sl))))), ?_⟩
   refine FB.t (i := 20) (bs 23 2097151) rfl (SP.on (hall43 _ _ _ 1 S51 rfl) (SP.on (hall32 _ _ _ 1 S51 rfl) (SP.on ((S51.box_now (i := 0) rfl).sub (j := 1) (n := 1) (c := [v0_1]) rfl) (SP.nil (Sl.of_inc r52.inc S51.sl))))) rfl (fun w' hw' => (E.build (B4 rfl rfl rfl rfl) (run_build _ 129 #[(0, Value.agg #[v53, Value.int .i64 r47.bound]), (1, Value.int .i64 4), (2, Value.int .i64 a1), (3, Value.int .i64 a2)] #[v53, Value.int .i64 r47.bound, Value.int .i64 4, Value.int .i64 a1, Value.int .i64 a2, Value.int .i64 0] (by obtain ⟨_, _, rfl⟩ := RSl.ln (h54.mono upI); rfl)))) ?_
   refine FB.all1 (i := 21) (by kernel_rfl) ?_
   ·
    obtain ⟨R67, hR67⟩ : ∃ R67 : ((List PlaneStep) × Int × Int) → Ending → World → Prop, R67 = (fun s67 e w => ∃ H : GH, ∃ v68 : Value, ∃ n69 : Nat, ∃ cs70 : List Value, e = Ending.returned (Value.int .i64 s67.2.2) ∧ St H0 w0 H w (.box b0 118 [Value.int .i64 s67.2.1, v68] :: .row 129 6 v68 n69 cs70 :: L) ∧ Inc H49 H ∧ Els (up w0.heap.size H) ePlaneStep 6 cs70 s67.1 ∧ (bl cs70).Nodup) := ⟨_, rfl⟩
    have hc67 : Calls Tryz.prog 140 #[Value.pointer (some (⟨b0, 0, none⟩ : Addr)), Value.agg #[v53, Value.int .i64 r47.bound, Value.int .i64 4, Value.int .i64 a1, Value.int .i64 a2, Value.int .i64 0]] w50 (R67 s67) := by
     clear hp; have hp := hq67; clear hq67
     refine calls_go (N := 21) (args := [Value.pointer (some (⟨b0, 0, none⟩ : Addr)), Value.agg #[v53, Value.int .i64 r47.bound, Value.int .i64 4, Value.int .i64 a1, Value.int .i64 a2, Value.int .i64 0]]) Tryz.func140 rfl rfl rfl ?_
     refine FW.seq (FW.region ?_)
     obtain ⟨b73, w74, run75, S76⟩ := S51.box (P := Tryz.prog) 129 [v53, Value.int .i64 r47.bound, Value.int .i64 4, Value.int .i64 a1, Value.int .i64 a2, Value.int .i64 0] (v := Value.agg #[v53, Value.int .i64 r47.bound, Value.int .i64 4, Value.int .i64 a1, Value.int .i64 a2, Value.int .i64 0]) rfl (ones_cons h54.one (ones_cons rfl (ones_cons rfl (ones_cons rfl (ones_cons rfl (ones_cons rfl ones_nil))))))
     refine FL.v (E.box rfl run75) ?_
     obtain ⟨H77, S78, i79, at80⟩ := S76.sealBox (i := 0) (l' := (.box b0 118 [Value.int .i64 a0.vars, v0_1] :: .row 129 6 v0_1 n0_1 k0_1 :: L)) rfl rfl
     refine FL.v (E.assign (v := Value.int .i64 0) rfl) ?_
     refine FL.nil (FW.seq ?_)
     obtain ⟨xs90, hz91, hp⟩ := bnd hp
     refine FW.drawB (Sl H77) (fun f w => ∃ H : GH, ∃ v105 : Value, ∃ n106 : Nat, ∃ cs107 : List Value, St H0 w0 H w (.box b0 118 [Value.int .i64 a0.vars, v105] :: .row 129 6 v105 n106 cs107 :: L) ∧ Inc H77 H ∧ Els (up w0.heap.size H) ePlaneStep 6 cs107 xs90 ∧ (bl cs107).Nodup ∧ f 0 = Value.pointer (some (⟨b0, 0, none⟩ : Addr))) (by kernel_rfl) S78.sl ?_ ?_
     ·
      intro w81 r82
      have S83 := S78.call r82
      refine FB.phase [10] (fun w => WAt w (Addr.add ⟨b0, 0, none⟩ 1) [v0_1]) ?_
      refine FB.t (i := 0) (bs 11 1) rfl (SP.on ((S83.box_now (i := 0) rfl).sub (j := 1) (n := 1) (c := [v0_1]) rfl) (SP.nil S83.sl)) rfl (fun w' hw' => (E.move (v := Value.pointer (some (⟨b0, 0, none⟩ : Addr))) rfl)) ?_
      refine FB.t (i := 1) (bs 11 3) rfl (SP.on ((S83.box_now (i := 0) rfl).sub (j := 1) (n := 1) (c := [v0_1]) rfl) (SP.nil S83.sl)) rfl (fun w' hw' => (E.move (v := Value.pointer (some (⟨b0, 0, none⟩ : Addr))) rfl)) ?_
      refine FB.t (i := 2) (bs 11 7) rfl (SP.on ((S83.box_now (i := 0) rfl).sub (j := 1) (n := 1) (c := [v0_1]) rfl) (SP.nil S83.sl)) rfl (fun w' hw' => (E.nilCheck rfl)) ?_
      refine FB.t (i := 3) (bs 11 15) rfl (SP.on ((S83.box_now (i := 0) rfl).sub (j := 1) (n := 1) (c := [v0_1]) rfl) (SP.nil S83.sl)) rfl (fun w' hw' => (E.fieldAddr tf118_1 rfl)) ?_
      refine FB.p (i := 4) (bs 11 31) 0 [7, 8, 9, 10] rfl (SP.on ((S83.box_now (i := 0) rfl).sub (j := 1) (n := 1) (c := [v0_1]) rfl) (SP.nil S83.sl)) rfl rfl (fun w' hw' => (E.load rfl (run_load0 Tryz.isAgg45 hw' rfl))) ?_
      refine FB.t (i := 5) (bs 11 63) rfl (SP.on ((S83.box_now (i := 0) rfl).sub (j := 1) (n := 1) (c := [v0_1]) rfl) (SP.nil S83.sl)) rfl (fun w' hw' => (E.load rfl (run_loadA Tryz.isAgg129 Tryz.sizeOf129 (at80.now hw') rfl))) ?_
      refine FB.all1 (i := 6) (by kernel_rfl) ?_
      ·
       obtain ⟨v84, w85, run86, S87⟩ := S83.buildSlice (P := Tryz.prog) te45 [Value.agg #[v53, Value.int .i64 r47.bound, Value.int .i64 4, Value.int .i64 a1, Value.int .i64 a2, Value.int .i64 0]] (parts := #[(0, Value.agg #[v53, Value.int .i64 r47.bound, Value.int .i64 4, Value.int .i64 a1, Value.int .i64 a2, Value.int .i64 0])]) (cells := [v53, Value.int .i64 r47.bound, Value.int .i64 4, Value.int .i64 a1, Value.int .i64 a2, Value.int .i64 0]) rfl (szs_cons rfl szs_nil) (fc_cons rfl fc_nil) (ones_cons h54.one (ones_cons rfl (ones_cons rfl (ones_cons rfl (ones_cons rfl (ones_cons rfl ones_nil)))))) (Nat.le_of_ble_eq_true rfl)
       have els88 : Els (up w0.heap.size H77) ePlaneStep 6 [v53, Value.int .i64 r47.bound, Value.int .i64 4, Value.int .i64 a1, Value.int .i64 a2, Value.int .i64 0] [(PlaneStep.mk r47 4 a1 a2 0)] := (Els.snoc (H := (up w0.heap.size H77)) (E := ePlaneStep) (k := 6) (c := [v53, Value.int .i64 r47.bound, Value.int .i64 4, Value.int .i64 a1, Value.int .i64 a2, Value.int .i64 0]) (x := (PlaneStep.mk r47 4 a1 a2 0)) Els.nil rfl ⟨_, rfl, (h54.mono (up_mono i79))⟩)
       have nd89 : (bl [v53, Value.int .i64 r47.bound, Value.int .i64 4, Value.int .i64 a1, Value.int .i64 a2, Value.int .i64 0]).Nodup := by exact nd_one v53
       refine FC.val (l' := (bs 11 127)) rfl (by kernel_rfl) rfl rfl rfl (E.buildSlice (B1 rfl) run86) ?_
       refine ⟨(SP.on ((S87.box_now (i := 1) rfl).sub (j := 1) (n := 1) (c := [v0_1]) rfl) (SP.nil S87.sl)), ?_⟩
       refine FB.all1 (i := 7) (by kernel_rfl) ?_
       ·
        obtain ⟨v92, w95, n93, cs94, run96, S97, els98, ce99⟩ := S87.appendO (P := Tryz.prog) te45 (i := 2) (j := 0) rfl (p0_1.mono (up_mono (r52.inc.tr i79))) rfl els88 hz91
        have S97 : St H0 w0 H77 w95 (.row 129 6 v84 1 [v53, Value.int .i64 r47.bound, Value.int .i64 4, Value.int .i64 a1, Value.int .i64 a2, Value.int .i64 0] :: .box b0 118 [Value.int .i64 a0.vars, v0_1] :: .row 129 6 v92 n93 cs94 :: L) := S97
        have nd100 : (bl cs94).Nodup := by rw [ce99]; exact nd_app d0_1 nd89 (Els.dom (p0_1.mono (upI.tr (Inc.rfl _)))) (by exact nv55)
        have S101 : St H0 w0 H77 w95 (.box b0 118 [Value.int .i64 a0.vars, v0_1] :: .row 129 6 v92 n93 cs94 :: L) := S97.drop 0
        refine FC.val (l' := (bs 11 255)) rfl (by kernel_rfl) rfl rfl rfl (E.append rfl rfl run96) ?_
        refine ⟨(SP.on ((S101.box_now (i := 0) rfl).sub (j := 1) (n := 1) (c := [v0_1]) rfl) (SP.nil S101.sl)), ?_⟩
        refine FB.t (i := 8) (bs 11 511) rfl (SP.on ((S101.box_now (i := 0) rfl).sub (j := 1) (n := 1) (c := [v0_1]) rfl) (SP.nil S101.sl)) rfl (fun w' hw' => (E.nilCheck rfl)) ?_
        refine FB.t (i := 9) (bs 11 1023) rfl (SP.on ((S101.box_now (i := 0) rfl).sub (j := 1) (n := 1) (c := [v0_1]) rfl) (SP.nil S101.sl)) rfl (fun w' hw' => (E.fieldAddr tf118_1 rfl)) ?_
        refine FB.all1 (i := 10) (by kernel_rfl) ?_
        ·
         obtain ⟨w102, run103, S104⟩ := S101.store (P := Tryz.prog) (t := 45) (i := 0) (j := 1) (cs' := [Value.int .i64 a0.vars, v92]) (l' := (.box b0 118 [Value.int .i64 a0.vars, v92] :: .row 129 6 v92 n93 cs94 :: L)) (v := v92) (c := [v92]) rfl Tryz.sizeOf45 (Ln.cells (S101.row_ln (i := 1) rfl)) rfl (ones_cons (Ln.one (S101.row_ln (i := 1) rfl)) ones_nil) (Nat.le_of_ble_eq_true rfl) rfl rfl
         refine FC.act (l' := (bs 11 2047)) rfl (by kernel_rfl) rfl rfl (E.store rfl rfl run103) ?_
         refine ⟨(SP.o (SP.nil S104.sl)), ?_⟩
         exact FB.done (by kernel_rfl) ⟨_, _, _, _, S104, (Inc.rfl _), els98, nd100, rfl⟩
     ·
      rintro f114 w113 ⟨H110, v105, n106, cs107, S111, i112, els108, nd109, k115⟩
      refine FW.seq (FW.region ?_)
      refine FL.v (E.move k115) ?_
      refine FL.v (E.nilCheck rfl) ?_
      refine FL.v (E.fieldAddr tf118_1 rfl) ?_
      refine FL.v (E.load rfl (run_load1 Tryz.isAgg45 (S111.box_now (i := 0) rfl) rfl)) ?_
      refine FL.v (E.lenO te45 rfl S111 (i := 1) rfl els108 (by decide)) ?_
      refine FL.v (E.sub rfl rfl) ?_
      refine FL.v (E.assign (v := Value.int .i64 (wr ((len xs90) - 1))) rfl) ?_
      refine FL.nil ?_
      refine FW.ret ?_
      obtain rfl := Option.some.inj hp
      exact ⟨.inr rfl, res1 rfl rfl (by rw [hR67]; exact ⟨_, _, _, _, rfl, S111, (i79.tr i112), els108, nd109⟩)⟩
    clear hq67
    refine FC.call (l' := (bs 23 4194303)) rfl (by kernel_rfl) rfl rfl rfl (E.call Tryz.call140 (A2 rfl rfl)) hc67 ?_
    intro e w120 hQ67
    rw [hR67] at hQ67
    obtain ⟨H116, v68, n69, cs70, rfl, S117, i119, els71, nd72⟩ := hQ67
    refine ⟨_, rfl, ?_⟩
    refine ⟨(SP.o (SP.o (SP.o (SP.nil (Sl.of_inc (r52.inc.tr i119) S117.sl))))), ?_⟩
    refine FB.t (i := 22) (bs 23 8388607) rfl (SP.o (SP.o (SP.o (SP.nil (Sl.of_inc (r52.inc.tr i119) S117.sl))))) rfl (fun w' hw' => (E.assign (v := Value.int .i64 s67.2.2) rfl)) ?_
    exact FB.done (by kernel_rfl) ⟨_, _, _, _, S117, (r52.inc.tr i119), els71, nd72, rfl⟩
 ·
  rintro f65 w64 ⟨H61, v56, n57, cs58, S62, i63, els59, nd60, k66⟩
  refine FW.ret ?_
  obtain rfl := Option.some.inj hp
  exact ⟨.inr rfl, res1 rfl k66 ⟨_, _, _, _, rfl, ⟨S62, i63⟩, els59, nd60⟩⟩

@[reducible] def p_impl_planer_literals (H0 : GH) (w0 : World) (Ha : GH) (L : List MO) (b0 : Nat) (r : (Int × planer)) : Ending → World → Prop :=
  fun e w' => ∃ H' : GH, ∃ v0_1r : Value, ∃ n0_1r : Nat, ∃ c0_1r : List Value, e = .returned (Value.int .i64 r.1) ∧ (St H0 w0 H' w' (.box b0 118 [Value.int .i64 r.2.vars, v0_1r] :: .row 129 6 v0_1r n0_1r c0_1r :: L) ∧ Inc Ha H') ∧ Els (up w0.heap.size H') ePlaneStep 6 c0_1r r.2.steps ∧ (bl c0_1r).Nodup
set_option maxHeartbeats 4000000 in
theorem w_impl_planer_literals {H0 Ha : GH} {w0 wa : World} {L : List MO} {a0 : planer} {b0 : Nat} {v0_1 : Value} {n0_1 : Nat} {k0_1 : List Value} (S0 : St H0 w0 Ha wa (.box b0 118 [Value.int .i64 a0.vars, v0_1] :: .row 129 6 v0_1 n0_1 k0_1 :: L)) (p0_1 : Els (up w0.heap.size Ha) ePlaneStep 6 k0_1 a0.steps) (d0_1 : (bl k0_1).Nodup) (a1 : Int) (v2 : Value) (a2 : List Int) (p2 : RSl Ha eI 1 v2 a2) {r : (Int × planer)} (hp : (PF.impl_planer_literals a0 a1 a2) = some r) :
    Calls Tryz.prog 83 #[Value.pointer (some (⟨b0, 0, none⟩ : Addr)), Value.int .i64 a1, v2] wa (p_impl_planer_literals H0 w0 Ha L b0 r) := by
  unfold PF.impl_planer_literals at hp
  refine calls_go (N := 35) (args := [Value.pointer (some (⟨b0, 0, none⟩ : Addr)), Value.int .i64 a1, v2]) Tryz.func83 rfl rfl rfl ?_
  refine FW.seq (FW.region ?_)
  refine FL.v (E.assign (v := Value.int .i64 0) rfl) ?_
  refine FL.nil (FW.seq (FW.seq (FW.region ?_)))
  refine FL.v (E.move (v := v2) rfl) ?_
  refine FL.v (E.lenP te73 rfl p2) ?_
  refine FL.v (E.move (v := Value.int .i64 0) rfl) ?_
  refine FL.nil ?_
  obtain ⟨q22, hq, hp⟩ := bndR hp
  refine FW.block ?_
  refine FW.mono (FW.forL (S := ((List PlaneStep) × Int × Int)) (X := Empty) (fun (i22 : Nat) (s22 : ((List PlaneStep) × Int × Int)) f w => ∃ H : GH, ∃ v23 : Value, ∃ n24 : Nat, ∃ cs25 : List Value, St H0 w0 H w (.box b0 118 [Value.int .i64 s22.2.1, v23] :: .row 129 6 v23 n24 cs25 :: L) ∧ Inc Ha H ∧ Els (up w0.heap.size H) ePlaneStep 6 cs25 s22.1 ∧ (bl cs25).Nodup ∧ f 12 = Value.int .i64 ((i22 : Nat) : Int) ∧ f 0 = Value.pointer (some (⟨b0, 0, none⟩ : Addr)) ∧ f 1 = Value.int .i64 s22.2.2 ∧ f 10 = v2 ∧ f 11 = Value.int .i64 (len a2)) (fun (q : Rs ((List PlaneStep) × Int × Int) Empty) e f w => match q with | .go s22 => e = Exit.exit 0 ∧ (∃ H : GH, ∃ v23 : Value, ∃ n24 : Nat, ∃ cs25 : List Value, St H0 w0 H w (.box b0 118 [Value.int .i64 s22.2.1, v23] :: .row 129 6 v23 n24 cs25 :: L) ∧ Inc Ha H ∧ Els (up w0.heap.size H) ePlaneStep 6 cs25 s22.1 ∧ (bl cs25).Nodup ∧ f 1 = Value.int .i64 s22.2.2) | .rt x => x.elim) hq ⟨_, _, _, _, S0, (Inc.rfl _), p0_1, d0_1, rfl, rfl, rfl, rfl, rfl⟩ ?_ ?_) ?_
  ·
    clear hp hq
    rintro i22 y21 s22 f32 w31 ⟨H28, v23, n24, cs25, S29, i30, els26, nd27, k33, k34, k35, k36, k37⟩ hx22 o204 hp
    refine FW.seq (FW.region ?_)
    refine FL.v (E.lssT k33 k37 (lss_len hx22)) ?_
    refine FL.nil (FW.seq ?_)
    refine FW.condT rfl rfl ?_
    refine FW.skip (FW.seq (FW.block (FW.seq (FW.region ?_))))
    obtain ⟨p38, cs39, pt40, l41, at42, rel43⟩ := p2.at (ix_nat hx22)
    obtain rfl := eI_open rel43
    refine FL.v (E.indexAddr te73 k36 k33 pt40) ?_
    refine FL.v (E.load rfl (run_load0 Tryz.isAgg3 ((at42.mono i30).now S29.sl) rfl)) ?_
    refine FL.v (E.assign (v := Value.int .i64 y21) rfl) ?_
    refine FL.nil (FW.seq (FW.region ?_))
    refine FL.v (E.assign (v := Value.int .i64 2) rfl) ?_
    refine FL.nil (FW.seq (FW.seq (FW.region ?_)))
    refine FL.v (E.move (v := Value.int .i64 y21) rfl) ?_
    refine FL.v (E.lss rfl rfl) ?_
    refine FL.nil ?_
    rcases ifB hp with ⟨c44, hp⟩ | ⟨c44, hp⟩
    ·
      refine FW.condT rfl c44 ?_
      refine FW.region ?_
      refine FL.v (E.assign (v := Value.int .i64 3) rfl) ?_
      refine FL.nil (FW.region ?_)
      refine FL.v (E.move k34) ?_
      refine FL.v (E.move k35) ?_
      refine FL.v (E.move k34) ?_
      refine FL.v (E.move k34) ?_
      refine FL.v (E.nilCheck rfl) ?_
      refine FL.v (E.fieldAddr tf118_0 rfl) ?_
      refine FL.v (E.load rfl (run_load1 Tryz.isAgg3 (S29.box_now (i := 0) rfl) rfl)) ?_
      refine FL.v (E.move (v := Value.int .i64 y21) rfl) ?_
      obtain ⟨r46, hr47, hp⟩ := bnd hp
      refine FL.call rfl rfl rfl (E.call Tryz.call142 (A2 rfl rfl)) (w_impl_planeOfLiteral S29.sl s22.2.1 y21 hr47) ?_
      rintro e w49 ⟨H48, v52, rfl, r51, h53⟩
      refine ⟨_, rfl, ?_⟩
      have nv54 : New H28 [v52] := New.of_up S29.sl h53.dom
      have h53 := h53.mono (up_le S29.size)
      have S50 := S29.call r51
      refine FL.v (E.move (v := Value.int .i64 3) rfl) ?_
      refine FL.v (E.move (v := Value.int .i64 y21) rfl) ?_
      refine FL.call rfl rfl rfl (E.call Tryz.call143 (A1 rfl)) (w_impl_abs S50.sl y21) ?_
      rintro e w55 ⟨rfl, r56⟩
      refine ⟨_, rfl, ?_⟩
      have S57 := S50.call r56
      refine FL.v (E.build (B3 rfl rfl rfl) (run_build _ 129 #[(0, Value.agg #[v52, Value.int .i64 r46.bound]), (1, Value.int .i64 3), (2, Value.int .i64 (PF.impl_abs y21))] #[v52, Value.int .i64 r46.bound, Value.int .i64 3, Value.int .i64 (PF.impl_abs y21), Value.int .i64 0, Value.int .i64 0] (by obtain ⟨_, _, rfl⟩ := RSl.ln (h53.mono upI); rfl))) ?_
      obtain ⟨s58, hq58, hp⟩ := bnd hp
      obtain ⟨R58, hR58⟩ : ∃ R58 : ((List PlaneStep) × Int × Int) → Ending → World → Prop, R58 = (fun s58 e w => ∃ H : GH, ∃ v59 : Value, ∃ n60 : Nat, ∃ cs61 : List Value, e = Ending.returned (Value.int .i64 s58.2.2) ∧ St H0 w0 H w (.box b0 118 [Value.int .i64 s58.2.1, v59] :: .row 129 6 v59 n60 cs61 :: L) ∧ Inc H48 H ∧ Els (up w0.heap.size H) ePlaneStep 6 cs61 s58.1 ∧ (bl cs61).Nodup) := ⟨_, rfl⟩
      have hc58 : Calls Tryz.prog 140 #[Value.pointer (some (⟨b0, 0, none⟩ : Addr)), Value.agg #[v52, Value.int .i64 r46.bound, Value.int .i64 3, Value.int .i64 (PF.impl_abs y21), Value.int .i64 0, Value.int .i64 0]] w55 (R58 s58) := by
        clear hp; have hp := hq58; clear hq58
        refine calls_go (N := 21) (args := [Value.pointer (some (⟨b0, 0, none⟩ : Addr)), Value.agg #[v52, Value.int .i64 r46.bound, Value.int .i64 3, Value.int .i64 (PF.impl_abs y21), Value.int .i64 0, Value.int .i64 0]]) Tryz.func140 rfl rfl rfl ?_
        refine FW.seq (FW.region ?_)
        obtain ⟨b64, w65, run66, S67⟩ := S57.box (P := Tryz.prog) 129 [v52, Value.int .i64 r46.bound, Value.int .i64 3, Value.int .i64 (PF.impl_abs y21), Value.int .i64 0, Value.int .i64 0] (v := Value.agg #[v52, Value.int .i64 r46.bound, Value.int .i64 3, Value.int .i64 (PF.impl_abs y21), Value.int .i64 0, Value.int .i64 0]) rfl (ones_cons h53.one (ones_cons rfl (ones_cons rfl (ones_cons rfl (ones_cons rfl (ones_cons rfl ones_nil))))))
        refine FL.v (E.box rfl run66) ?_
        obtain ⟨H68, S69, i70, at71⟩ := S67.sealBox (i := 0) (l' := (.box b0 118 [Value.int .i64 s22.2.1, v23] :: .row 129 6 v23 n24 cs25 :: L)) rfl rfl
        refine FL.v (E.assign (v := Value.int .i64 0) rfl) ?_
        refine FL.nil (FW.seq ?_)
        obtain ⟨xs82, hz83, hp⟩ := bnd hp
        refine FW.drawB (Sl H68) (fun f w => ∃ H : GH, ∃ v97 : Value, ∃ n98 : Nat, ∃ cs99 : List Value, St H0 w0 H w (.box b0 118 [Value.int .i64 s22.2.1, v97] :: .row 129 6 v97 n98 cs99 :: L) ∧ Inc H68 H ∧ Els (up w0.heap.size H) ePlaneStep 6 cs99 xs82 ∧ (bl cs99).Nodup ∧ f 0 = Value.pointer (some (⟨b0, 0, none⟩ : Addr))) (by kernel_rfl) S69.sl ?_ ?_
        ·
          intro w72 r74
          have S75 := S69.call r74
          refine FB.phase [10] (fun w => WAt w (Addr.add ⟨b0, 0, none⟩ 1) [v23]) ?_
          refine FB.t (i := 0) (bs 11 1) rfl (SP.on ((S75.box_now (i := 0) rfl).sub (j := 1) (n := 1) (c := [v23]) rfl) (SP.nil S75.sl)) rfl (fun w' hw' => (E.move (v := Value.pointer (some (⟨b0, 0, none⟩ : Addr))) rfl)) ?_
          refine FB.t (i := 1) (bs 11 3) rfl (SP.on ((S75.box_now (i := 0) rfl).sub (j := 1) (n := 1) (c := [v23]) rfl) (SP.nil S75.sl)) rfl (fun w' hw' => (E.move (v := Value.pointer (some (⟨b0, 0, none⟩ : Addr))) rfl)) ?_
          refine FB.t (i := 2) (bs 11 7) rfl (SP.on ((S75.box_now (i := 0) rfl).sub (j := 1) (n := 1) (c := [v23]) rfl) (SP.nil S75.sl)) rfl (fun w' hw' => (E.nilCheck rfl)) ?_
          refine FB.t (i := 3) (bs 11 15) rfl (SP.on ((S75.box_now (i := 0) rfl).sub (j := 1) (n := 1) (c := [v23]) rfl) (SP.nil S75.sl)) rfl (fun w' hw' => (E.fieldAddr tf118_1 rfl)) ?_
          refine FB.p (i := 4) (bs 11 31) 0 [7, 8, 9, 10] rfl (SP.on ((S75.box_now (i := 0) rfl).sub (j := 1) (n := 1) (c := [v23]) rfl) (SP.nil S75.sl)) rfl rfl (fun w' hw' => (E.load rfl (run_load0 Tryz.isAgg45 hw' rfl))) ?_
          refine FB.t (i := 5) (bs 11 63) rfl (SP.on ((S75.box_now (i := 0) rfl).sub (j := 1) (n := 1) (c := [v23]) rfl) (SP.nil S75.sl)) rfl (fun w' hw' => (E.load rfl (run_loadA Tryz.isAgg129 Tryz.sizeOf129 (at71.now hw') rfl))) ?_
          refine FB.all1 (i := 6) (by kernel_rfl) ?_
          ·
            obtain ⟨v76, w77, run78, S79⟩ := S75.buildSlice (P := Tryz.prog) te45 [Value.agg #[v52, Value.int .i64 r46.bound, Value.int .i64 3, Value.int .i64 (PF.impl_abs y21), Value.int .i64 0, Value.int .i64 0]] (parts := #[(0, Value.agg #[v52, Value.int .i64 r46.bound, Value.int .i64 3, Value.int .i64 (PF.impl_abs y21), Value.int .i64 0, Value.int .i64 0])]) (cells := [v52, Value.int .i64 r46.bound, Value.int .i64 3, Value.int .i64 (PF.impl_abs y21), Value.int .i64 0, Value.int .i64 0]) rfl (szs_cons rfl szs_nil) (fc_cons rfl fc_nil) (ones_cons h53.one (ones_cons rfl (ones_cons rfl (ones_cons rfl (ones_cons rfl (ones_cons rfl ones_nil)))))) (Nat.le_of_ble_eq_true rfl)
            have els80 : Els (up w0.heap.size H68) ePlaneStep 6 [v52, Value.int .i64 r46.bound, Value.int .i64 3, Value.int .i64 (PF.impl_abs y21), Value.int .i64 0, Value.int .i64 0] [(PlaneStep.mk r46 3 (PF.impl_abs y21) 0 0)] := (Els.snoc (H := (up w0.heap.size H68)) (E := ePlaneStep) (k := 6) (c := [v52, Value.int .i64 r46.bound, Value.int .i64 3, Value.int .i64 (PF.impl_abs y21), Value.int .i64 0, Value.int .i64 0]) (x := (PlaneStep.mk r46 3 (PF.impl_abs y21) 0 0)) Els.nil rfl ⟨_, rfl, (h53.mono (up_mono i70))⟩)
            have nd81 : (bl [v52, Value.int .i64 r46.bound, Value.int .i64 3, Value.int .i64 (PF.impl_abs y21), Value.int .i64 0, Value.int .i64 0]).Nodup := by exact nd_one v52
            refine FC.val (l' := (bs 11 127)) rfl (by kernel_rfl) rfl rfl rfl (E.buildSlice (B1 rfl) run78) ?_
            refine ⟨(SP.on ((S79.box_now (i := 1) rfl).sub (j := 1) (n := 1) (c := [v23]) rfl) (SP.nil S79.sl)), ?_⟩
            refine FB.all1 (i := 7) (by kernel_rfl) ?_
            ·
              obtain ⟨v84, w87, n85, cs86, run88, S89, els90, ce91⟩ := S79.appendO (P := Tryz.prog) te45 (i := 2) (j := 0) rfl (els26.mono (up_mono (r51.inc.tr i70))) rfl els80 hz83
              have S89 : St H0 w0 H68 w87 (.row 129 6 v76 1 [v52, Value.int .i64 r46.bound, Value.int .i64 3, Value.int .i64 (PF.impl_abs y21), Value.int .i64 0, Value.int .i64 0] :: .box b0 118 [Value.int .i64 s22.2.1, v23] :: .row 129 6 v84 n85 cs86 :: L) := S89
              have nd92 : (bl cs86).Nodup := by rw [ce91]; exact nd_app nd27 nd81 (Els.dom (els26.mono (upI.tr (Inc.rfl _)))) (by exact nv54)
              have S93 : St H0 w0 H68 w87 (.box b0 118 [Value.int .i64 s22.2.1, v23] :: .row 129 6 v84 n85 cs86 :: L) := S89.drop 0
              refine FC.val (l' := (bs 11 255)) rfl (by kernel_rfl) rfl rfl rfl (E.append rfl rfl run88) ?_
              refine ⟨(SP.on ((S93.box_now (i := 0) rfl).sub (j := 1) (n := 1) (c := [v23]) rfl) (SP.nil S93.sl)), ?_⟩
              refine FB.t (i := 8) (bs 11 511) rfl (SP.on ((S93.box_now (i := 0) rfl).sub (j := 1) (n := 1) (c := [v23]) rfl) (SP.nil S93.sl)) rfl (fun w' hw' => (E.nilCheck rfl)) ?_
              refine FB.t (i := 9) (bs 11 1023) rfl (SP.on ((S93.box_now (i := 0) rfl).sub (j := 1) (n := 1) (c := [v23]) rfl) (SP.nil S93.sl)) rfl (fun w' hw' => (E.fieldAddr tf118_1 rfl)) ?_
              refine FB.all1 (i := 10) (by kernel_rfl) ?_
              ·
                obtain ⟨w94, run95, S96⟩ := S93.store (P := Tryz.prog) (t := 45) (i := 0) (j := 1) (cs' := [Value.int .i64 s22.2.1, v84]) (l' := (.box b0 118 [Value.int .i64 s22.2.1, v84] :: .row 129 6 v84 n85 cs86 :: L)) (v := v84) (c := [v84]) rfl Tryz.sizeOf45 (Ln.cells (S93.row_ln (i := 1) rfl)) rfl (ones_cons (Ln.one (S93.row_ln (i := 1) rfl)) ones_nil) (Nat.le_of_ble_eq_true rfl) rfl rfl
                refine FC.act (l' := (bs 11 2047)) rfl (by kernel_rfl) rfl rfl (E.store rfl rfl run95) ?_
                refine ⟨(SP.o (SP.nil S96.sl)), ?_⟩
                exact FB.done (by kernel_rfl) ⟨_, _, _, _, S96, (Inc.rfl _), els90, nd92, rfl⟩
        ·
          rintro f106 w105 ⟨H102, v97, n98, cs99, S103, i104, els100, nd101, k107⟩
          refine FW.seq (FW.region ?_)
          refine FL.v (E.move k107) ?_
          refine FL.v (E.nilCheck rfl) ?_
          refine FL.v (E.fieldAddr tf118_1 rfl) ?_
          refine FL.v (E.load rfl (run_load1 Tryz.isAgg45 (S103.box_now (i := 0) rfl) rfl)) ?_
          refine FL.v (E.lenO te45 rfl S103 (i := 1) rfl els100 (by decide)) ?_
          refine FL.v (E.sub rfl rfl) ?_
          refine FL.v (E.assign (v := Value.int .i64 (wr ((len xs82) - 1))) rfl) ?_
          refine FL.nil ?_
          refine FW.ret ?_
          obtain rfl := Option.some.inj hp
          exact ⟨.inr rfl, res1 rfl rfl (by rw [hR58]; exact ⟨_, _, _, _, rfl, S103, (i70.tr i104), els100, nd101⟩)⟩
      clear hq58
      refine FL.call rfl rfl rfl (E.call Tryz.call140 (A2 rfl rfl)) hc58 ?_
      intro e w111 hQ58
      rw [hR58] at hQ58
      obtain ⟨H108, v59, n60, cs61, rfl, S109, i110, els62, nd63⟩ := hQ58
      refine ⟨_, rfl, ?_⟩
      obtain ⟨r112, hr113, hp⟩ := bnd hp
      have S114 : St H0 w0 H108 w111 (.row 129 6 v59 n60 cs61 :: .box b0 118 [Value.int .i64 s58.2.1, v59] :: L) := S109.front 1 rfl rfl
      have S115 : St H0 w0 H108 w111 (.box b0 118 [Value.int .i64 s58.2.1, v59] :: .row 129 6 v59 n60 cs61 :: L) := S114.front 1 rfl rfl
      refine FL.call rfl rfl rfl (E.call Tryz.call85 (A3 rfl rfl rfl)) (w_impl_planer_add (L := (L)) S115 (a0 := (planer.mk s58.2.1 s58.1)) els62 nd63 s22.2.2 s58.2.2 hr113) ?_
      rintro e w117 ⟨H116, v121, n122, cs123, rfl, ⟨S119, i120⟩, els124, nd125⟩
      refine ⟨_, rfl, ?_⟩
      have S119 : St H0 w0 H116 w117 (.box b0 118 [Value.int .i64 r112.2.vars, v121] :: .row 129 6 v121 n122 cs123 :: L) := S119
      refine FL.v (E.assign (v := Value.int .i64 r112.1) rfl) ?_
      refine FL.nil (FW.region ?_)
      refine FL.v (E.add k33 rfl) ?_
      refine FL.v (E.move (v := Value.int .i64 (wr (((i22 : Nat) : Int) + 1))) rfl) ?_
      refine FL.nil ?_
      obtain rfl := Option.some.inj hp
      exact ⟨rfl, ⟨_, _, _, _, S119, (((i30.tr r51.inc).tr i110).tr i120), els124, nd125, (nat_succ rfl (lt_of_get hx22) (p2.mono (((i30.tr r51.inc).tr i110).tr i120)).le), k34, rfl, k36, k37⟩⟩
    ·
      refine FW.condF rfl c44 ?_
      refine FW.skip (FW.region ?_)
      refine FL.v (E.move k34) ?_
      refine FL.v (E.move k35) ?_
      refine FL.v (E.move k34) ?_
      refine FL.v (E.move k34) ?_
      refine FL.v (E.nilCheck rfl) ?_
      refine FL.v (E.fieldAddr tf118_0 rfl) ?_
      refine FL.v (E.load rfl (run_load1 Tryz.isAgg3 (S29.box_now (i := 0) rfl) rfl)) ?_
      refine FL.v (E.move (v := Value.int .i64 y21) rfl) ?_
      obtain ⟨r126, hr127, hp⟩ := bnd hp
      refine FL.call rfl rfl rfl (E.call Tryz.call142 (A2 rfl rfl)) (w_impl_planeOfLiteral S29.sl s22.2.1 y21 hr127) ?_
      rintro e w129 ⟨H128, v132, rfl, r131, h133⟩
      refine ⟨_, rfl, ?_⟩
      have nv134 : New H28 [v132] := New.of_up S29.sl h133.dom
      have h133 := h133.mono (up_le S29.size)
      have S130 := S29.call r131
      refine FL.v (E.move (v := Value.int .i64 2) rfl) ?_
      refine FL.v (E.move (v := Value.int .i64 y21) rfl) ?_
      refine FL.call rfl rfl rfl (E.call Tryz.call143 (A1 rfl)) (w_impl_abs S130.sl y21) ?_
      rintro e w135 ⟨rfl, r136⟩
      refine ⟨_, rfl, ?_⟩
      have S137 := S130.call r136
      refine FL.v (E.build (B3 rfl rfl rfl) (run_build _ 129 #[(0, Value.agg #[v132, Value.int .i64 r126.bound]), (1, Value.int .i64 2), (2, Value.int .i64 (PF.impl_abs y21))] #[v132, Value.int .i64 r126.bound, Value.int .i64 2, Value.int .i64 (PF.impl_abs y21), Value.int .i64 0, Value.int .i64 0] (by obtain ⟨_, _, rfl⟩ := RSl.ln (h133.mono upI); rfl))) ?_
      obtain ⟨s138, hq138, hp⟩ := bnd hp
      obtain ⟨R138, hR138⟩ : ∃ R138 : ((List PlaneStep) × Int × Int) → Ending → World → Prop, R138 = (fun s138 e w => ∃ H : GH, ∃ v139 : Value, ∃ n140 : Nat, ∃ cs141 : List Value, e = Ending.returned (Value.int .i64 s138.2.2) ∧ St H0 w0 H w (.box b0 118 [Value.int .i64 s138.2.1, v139] :: .row 129 6 v139 n140 cs141 :: L) ∧ Inc H128 H ∧ Els (up w0.heap.size H) ePlaneStep 6 cs141 s138.1 ∧ (bl cs141).Nodup) := ⟨_, rfl⟩
      have hc138 : Calls Tryz.prog 140 #[Value.pointer (some (⟨b0, 0, none⟩ : Addr)), Value.agg #[v132, Value.int .i64 r126.bound, Value.int .i64 2, Value.int .i64 (PF.impl_abs y21), Value.int .i64 0, Value.int .i64 0]] w135 (R138 s138) := by
        clear hp; have hp := hq138; clear hq138
        refine calls_go (N := 21) (args := [Value.pointer (some (⟨b0, 0, none⟩ : Addr)), Value.agg #[v132, Value.int .i64 r126.bound, Value.int .i64 2, Value.int .i64 (PF.impl_abs y21), Value.int .i64 0, Value.int .i64 0]]) Tryz.func140 rfl rfl rfl ?_
        refine FW.seq (FW.region ?_)
        obtain ⟨b144, w145, run146, S147⟩ := S137.box (P := Tryz.prog) 129 [v132, Value.int .i64 r126.bound, Value.int .i64 2, Value.int .i64 (PF.impl_abs y21), Value.int .i64 0, Value.int .i64 0] (v := Value.agg #[v132, Value.int .i64 r126.bound, Value.int .i64 2, Value.int .i64 (PF.impl_abs y21), Value.int .i64 0, Value.int .i64 0]) rfl (ones_cons h133.one (ones_cons rfl (ones_cons rfl (ones_cons rfl (ones_cons rfl (ones_cons rfl ones_nil))))))
        refine FL.v (E.box rfl run146) ?_
        obtain ⟨H148, S149, i150, at151⟩ := S147.sealBox (i := 0) (l' := (.box b0 118 [Value.int .i64 s22.2.1, v23] :: .row 129 6 v23 n24 cs25 :: L)) rfl rfl
        refine FL.v (E.assign (v := Value.int .i64 0) rfl) ?_
        refine FL.nil (FW.seq ?_)
        obtain ⟨xs161, hz162, hp⟩ := bnd hp
        refine FW.drawB (Sl H148) (fun f w => ∃ H : GH, ∃ v176 : Value, ∃ n177 : Nat, ∃ cs178 : List Value, St H0 w0 H w (.box b0 118 [Value.int .i64 s22.2.1, v176] :: .row 129 6 v176 n177 cs178 :: L) ∧ Inc H148 H ∧ Els (up w0.heap.size H) ePlaneStep 6 cs178 xs161 ∧ (bl cs178).Nodup ∧ f 0 = Value.pointer (some (⟨b0, 0, none⟩ : Addr))) (by kernel_rfl) S149.sl ?_ ?_
        ·
          intro w152 r153
          have S154 := S149.call r153
          refine FB.phase [10] (fun w => WAt w (Addr.add ⟨b0, 0, none⟩ 1) [v23]) ?_
          refine FB.t (i := 0) (bs 11 1) rfl (SP.on ((S154.box_now (i := 0) rfl).sub (j := 1) (n := 1) (c := [v23]) rfl) (SP.nil S154.sl)) rfl (fun w' hw' => (E.move (v := Value.pointer (some (⟨b0, 0, none⟩ : Addr))) rfl)) ?_
          refine FB.t (i := 1) (bs 11 3) rfl (SP.on ((S154.box_now (i := 0) rfl).sub (j := 1) (n := 1) (c := [v23]) rfl) (SP.nil S154.sl)) rfl (fun w' hw' => (E.move (v := Value.pointer (some (⟨b0, 0, none⟩ : Addr))) rfl)) ?_
          refine FB.t (i := 2) (bs 11 7) rfl (SP.on ((S154.box_now (i := 0) rfl).sub (j := 1) (n := 1) (c := [v23]) rfl) (SP.nil S154.sl)) rfl (fun w' hw' => (E.nilCheck rfl)) ?_
          refine FB.t (i := 3) (bs 11 15) rfl (SP.on ((S154.box_now (i := 0) rfl).sub (j := 1) (n := 1) (c := [v23]) rfl) (SP.nil S154.sl)) rfl (fun w' hw' => (E.fieldAddr tf118_1 rfl)) ?_
          refine FB.p (i := 4) (bs 11 31) 0 [7, 8, 9, 10] rfl (SP.on ((S154.box_now (i := 0) rfl).sub (j := 1) (n := 1) (c := [v23]) rfl) (SP.nil S154.sl)) rfl rfl (fun w' hw' => (E.load rfl (run_load0 Tryz.isAgg45 hw' rfl))) ?_
          refine FB.t (i := 5) (bs 11 63) rfl (SP.on ((S154.box_now (i := 0) rfl).sub (j := 1) (n := 1) (c := [v23]) rfl) (SP.nil S154.sl)) rfl (fun w' hw' => (E.load rfl (run_loadA Tryz.isAgg129 Tryz.sizeOf129 (at151.now hw') rfl))) ?_
          refine FB.all1 (i := 6) (by kernel_rfl) ?_
          ·
            obtain ⟨v155, w156, run157, S158⟩ := S154.buildSlice (P := Tryz.prog) te45 [Value.agg #[v132, Value.int .i64 r126.bound, Value.int .i64 2, Value.int .i64 (PF.impl_abs y21), Value.int .i64 0, Value.int .i64 0]] (parts := #[(0, Value.agg #[v132, Value.int .i64 r126.bound, Value.int .i64 2, Value.int .i64 (PF.impl_abs y21), Value.int .i64 0, Value.int .i64 0])]) (cells := [v132, Value.int .i64 r126.bound, Value.int .i64 2, Value.int .i64 (PF.impl_abs y21), Value.int .i64 0, Value.int .i64 0]) rfl (szs_cons rfl szs_nil) (fc_cons rfl fc_nil) (ones_cons h133.one (ones_cons rfl (ones_cons rfl (ones_cons rfl (ones_cons rfl (ones_cons rfl ones_nil)))))) (Nat.le_of_ble_eq_true rfl)
            have els159 : Els (up w0.heap.size H148) ePlaneStep 6 [v132, Value.int .i64 r126.bound, Value.int .i64 2, Value.int .i64 (PF.impl_abs y21), Value.int .i64 0, Value.int .i64 0] [(PlaneStep.mk r126 2 (PF.impl_abs y21) 0 0)] := (Els.snoc (H := (up w0.heap.size H148)) (E := ePlaneStep) (k := 6) (c := [v132, Value.int .i64 r126.bound, Value.int .i64 2, Value.int .i64 (PF.impl_abs y21), Value.int .i64 0, Value.int .i64 0]) (x := (PlaneStep.mk r126 2 (PF.impl_abs y21) 0 0)) Els.nil rfl ⟨_, rfl, (h133.mono (up_mono i150))⟩)
            have nd160 : (bl [v132, Value.int .i64 r126.bound, Value.int .i64 2, Value.int .i64 (PF.impl_abs y21), Value.int .i64 0, Value.int .i64 0]).Nodup := by exact nd_one v132
            refine FC.val (l' := (bs 11 127)) rfl (by kernel_rfl) rfl rfl rfl (E.buildSlice (B1 rfl) run157) ?_
            refine ⟨(SP.on ((S158.box_now (i := 1) rfl).sub (j := 1) (n := 1) (c := [v23]) rfl) (SP.nil S158.sl)), ?_⟩
            refine FB.all1 (i := 7) (by kernel_rfl) ?_
            ·
              obtain ⟨v163, w166, n164, cs165, run167, S168, els169, ce170⟩ := S158.appendO (P := Tryz.prog) te45 (i := 2) (j := 0) rfl (els26.mono (up_mono (r131.inc.tr i150))) rfl els159 hz162
              have S168 : St H0 w0 H148 w166 (.row 129 6 v155 1 [v132, Value.int .i64 r126.bound, Value.int .i64 2, Value.int .i64 (PF.impl_abs y21), Value.int .i64 0, Value.int .i64 0] :: .box b0 118 [Value.int .i64 s22.2.1, v23] :: .row 129 6 v163 n164 cs165 :: L) := S168
              have nd171 : (bl cs165).Nodup := by rw [ce170]; exact nd_app nd27 nd160 (Els.dom (els26.mono (upI.tr (Inc.rfl _)))) (by exact nv134)
              have S172 : St H0 w0 H148 w166 (.box b0 118 [Value.int .i64 s22.2.1, v23] :: .row 129 6 v163 n164 cs165 :: L) := S168.drop 0
              refine FC.val (l' := (bs 11 255)) rfl (by kernel_rfl) rfl rfl rfl (E.append rfl rfl run167) ?_
              refine ⟨(SP.on ((S172.box_now (i := 0) rfl).sub (j := 1) (n := 1) (c := [v23]) rfl) (SP.nil S172.sl)), ?_⟩
              refine FB.t (i := 8) (bs 11 511) rfl (SP.on ((S172.box_now (i := 0) rfl).sub (j := 1) (n := 1) (c := [v23]) rfl) (SP.nil S172.sl)) rfl (fun w' hw' => (E.nilCheck rfl)) ?_
              refine FB.t (i := 9) (bs 11 1023) rfl (SP.on ((S172.box_now (i := 0) rfl).sub (j := 1) (n := 1) (c := [v23]) rfl) (SP.nil S172.sl)) rfl (fun w' hw' => (E.fieldAddr tf118_1 rfl)) ?_
              refine FB.all1 (i := 10) (by kernel_rfl) ?_
              ·
                obtain ⟨w173, run174, S175⟩ := S172.store (P := Tryz.prog) (t := 45) (i := 0) (j := 1) (cs' := [Value.int .i64 s22.2.1, v163]) (l' := (.box b0 118 [Value.int .i64 s22.2.1, v163] :: .row 129 6 v163 n164 cs165 :: L)) (v := v163) (c := [v163]) rfl Tryz.sizeOf45 (Ln.cells (S172.row_ln (i := 1) rfl)) rfl (ones_cons (Ln.one (S172.row_ln (i := 1) rfl)) ones_nil) (Nat.le_of_ble_eq_true rfl) rfl rfl
                refine FC.act (l' := (bs 11 2047)) rfl (by kernel_rfl) rfl rfl (E.store rfl rfl run174) ?_
                refine ⟨(SP.o (SP.nil S175.sl)), ?_⟩
                exact FB.done (by kernel_rfl) ⟨_, _, _, _, S175, (Inc.rfl _), els169, nd171, rfl⟩
        ·
          rintro f185 w184 ⟨H181, v176, n177, cs178, S182, i183, els179, nd180, k186⟩
          refine FW.seq (FW.region ?_)
          refine FL.v (E.move k186) ?_
          refine FL.v (E.nilCheck rfl) ?_
          refine FL.v (E.fieldAddr tf118_1 rfl) ?_
          refine FL.v (E.load rfl (run_load1 Tryz.isAgg45 (S182.box_now (i := 0) rfl) rfl)) ?_
          refine FL.v (E.lenO te45 rfl S182 (i := 1) rfl els179 (by decide)) ?_
          refine FL.v (E.sub rfl rfl) ?_
          refine FL.v (E.assign (v := Value.int .i64 (wr ((len xs161) - 1))) rfl) ?_
          refine FL.nil ?_
          refine FW.ret ?_
          obtain rfl := Option.some.inj hp
          exact ⟨.inr rfl, res1 rfl rfl (by rw [hR138]; exact ⟨_, _, _, _, rfl, S182, (i150.tr i183), els179, nd180⟩)⟩
      clear hq138
      refine FL.call rfl rfl rfl (E.call Tryz.call140 (A2 rfl rfl)) hc138 ?_
      intro e w190 hQ138
      rw [hR138] at hQ138
      obtain ⟨H187, v139, n140, cs141, rfl, S188, i189, els142, nd143⟩ := hQ138
      refine ⟨_, rfl, ?_⟩
      obtain ⟨r191, hr192, hp⟩ := bnd hp
      have S193 : St H0 w0 H187 w190 (.row 129 6 v139 n140 cs141 :: .box b0 118 [Value.int .i64 s138.2.1, v139] :: L) := S188.front 1 rfl rfl
      have S194 : St H0 w0 H187 w190 (.box b0 118 [Value.int .i64 s138.2.1, v139] :: .row 129 6 v139 n140 cs141 :: L) := S193.front 1 rfl rfl
      refine FL.call rfl rfl rfl (E.call Tryz.call85 (A3 rfl rfl rfl)) (w_impl_planer_add (L := (L)) S194 (a0 := (planer.mk s138.2.1 s138.1)) els142 nd143 s22.2.2 s138.2.2 hr192) ?_
      rintro e w196 ⟨H195, v199, n200, cs201, rfl, ⟨S197, i198⟩, els202, nd203⟩
      refine ⟨_, rfl, ?_⟩
      have S197 : St H0 w0 H195 w196 (.box b0 118 [Value.int .i64 r191.2.vars, v199] :: .row 129 6 v199 n200 cs201 :: L) := S197
      refine FL.v (E.assign (v := Value.int .i64 r191.1) rfl) ?_
      refine FL.nil (FW.region ?_)
      refine FL.v (E.add k33 rfl) ?_
      refine FL.v (E.move (v := Value.int .i64 (wr (((i22 : Nat) : Int) + 1))) rfl) ?_
      refine FL.nil ?_
      obtain rfl := Option.some.inj hp
      exact ⟨rfl, ⟨_, _, _, _, S197, (((i30.tr r131.inc).tr i189).tr i198), els202, nd203, (nat_succ rfl (lt_of_get hx22) (p2.mono (((i30.tr r131.inc).tr i189).tr i198)).le), k34, rfl, k36, k37⟩⟩
  ·
    clear hp hq
    rintro s22 f215 w214 ⟨H211, v23, n24, cs25, S212, i213, els26, nd27, k216, k217, k218, k219, k220⟩
    refine FW.seq (FW.region ?_)
    refine FL.v (E.lss k216 k220) ?_
    refine FL.nil (FW.seq ?_)
    refine FW.condF rfl dlt_len ?_
    refine FW.exit ?_
    exact ⟨nofun, rfl, ⟨_, _, _, _, S212, i213, els26, nd27, k218⟩⟩
  ·
    clear hq
    intro e f209 w208 hD
    rcases q22 with s22 | x22
    ·
      obtain ⟨rfl, hD⟩ := hD
      obtain ⟨H205, v23, n24, cs25, S206, i207, els26, nd27, k210⟩ := hD
      replace hp := el_go hp
      refine FW.seq (FW.region ?_)
      refine FL.v (E.move k210) ?_
      refine FL.v (E.assign (v := Value.int .i64 s22.2.2) rfl) ?_
      refine FL.nil ?_
      refine FW.ret ?_
      obtain rfl := Option.some.inj hp
      exact ⟨.inr rfl, res1 rfl rfl ⟨_, _, _, _, rfl, ⟨S206, i207⟩, els26, nd27⟩⟩
    · exact x22.elim

theorem w_impl_inOne_1 {Ha : GH} {wa : World} (hs : Sl Ha wa) (a0 : Int) (q0 : Addr) (b0 : List Int) (u0_0 : Value) (g0_0 : RSl Ha eI 1 u0_0 b0) (c0 : CAt Ha q0 [u0_0]) (q1 : Addr) (b1 : List Int) (u1_0 : Value) (g1_0 : RSl Ha eI 1 u1_0 b1) (c1 : CAt Ha q1 [u1_0]) {r : Bool} (hp : (PF.impl_inOne_1 a0 b0 b1) = some r) :
  Calls Tryz.prog 149 #[Value.int .i64 a0, Value.pointer (some q0), Value.pointer (some q1)] wa (Sc Ha wa (Value.bool r)) := by
 unfold PF.impl_inOne_1 at hp
 have S0 := St.init hs
 refine calls_go (N := 12) (args := [Value.int .i64 a0, Value.pointer (some q0), Value.pointer (some q1)]) Tryz.func149 rfl rfl rfl ?_
 refine FW.seq (FW.region ?_)
 refine FL.v (E.assign (v := Value.bool false) rfl) ?_
 refine FL.nil (FW.seq ?_)
 refine FW.draw (fun w' => Run wa.heap.size Ha wa Ha w') (by kernel_rfl) (by kernel_rfl) (run_drew S0.sl) ?_
 refine FD.val rfl rfl rfl (fun w' hw' => (E.load rfl (run_load0 Tryz.isAgg73 (c0.now (S0.call hw').sl) rfl))) ?_
 refine FD.val rfl rfl rfl (fun w' hw' => (E.move (v := Value.int .i64 a0) rfl)) ?_
 obtain ⟨r22, hr23, hp⟩ := bnd hp
 refine FD.call rfl rfl rfl (fun w' hw' => (E.call Tryz.call146 (A2 rfl rfl))) (fun w' hw' => Calls.cls hw' (w_slices_Contains_int_int (S0.call hw').sl u0_0 b0 g0_0 a0 hr23)) ?_
 refine FD.val rfl rfl rfl (fun w' hw' => (E.load rfl (run_load0 Tryz.isAgg73 (c1.now (S0.call hw').sl) rfl))) ?_
 refine FD.val rfl rfl rfl (fun w' hw' => (E.move (v := Value.int .i64 a0) rfl)) ?_
 obtain ⟨r24, hr25, hp⟩ := bnd hp
 refine FD.call rfl rfl rfl (fun w' hw' => (E.call Tryz.call146 (A2 rfl rfl))) (fun w' hw' => Calls.cls hw' (w_slices_Contains_int_int (S0.call hw').sl u1_0 b1 g1_0 a0 hr25)) ?_
 refine FD.val rfl rfl rfl (fun w' hw' => (E.eqlB Tryz.runUnderlying4 rfl rfl)) ?_
 refine FD.val rfl rfl rfl (fun w' hw' => (E.assign (v := Value.bool (r22 == r24)) rfl)) ?_
 refine FD.nil ?_
 intro w26 r28
 have S27 := S0.call r28
 refine FW.ret ?_
 obtain rfl := Option.some.inj hp
 exact ⟨.inr rfl, res1 rfl rfl ⟨rfl, S27.back⟩⟩

@[reducible] def p_impl_inOne (Ha : GH) (wa : World) (r : (List Int)) : Ending → World → Prop :=
 fun e w' => ∃ H' : GH, ∃ v0 : Value, ∃ n0 : Nat, ∃ c0 : List Value, e = .returned (v0) ∧ St Ha wa H' w' [.row 3 1 v0 n0 c0] ∧ Els (up wa.heap.size H') eI 1 c0 r
theorem w_impl_inOne {Ha : GH} {wa : World} (hs : Sl Ha wa) (v0 : Value) (a0 : List Int) (p0 : RSl Ha eI 1 v0 a0) (v1 : Value) (a1 : List Int) (p1 : RSl Ha eI 1 v1 a1) (v2 : Value) (a2 : List Int) (p2 : RSl Ha eI 1 v2 a2) {r : (List Int)} (hp : (PF.impl_inOne a0 a1 a2) = some r) :
  Calls Tryz.prog 87 #[v0, v1, v2] wa (p_impl_inOne Ha wa r) := by
 unfold PF.impl_inOne at hp
 have S0 := St.init hs
 refine calls_go (N := 11) (args := [v0, v1, v2]) Tryz.func87 rfl rfl rfl ?_
 refine FW.seq (FW.region ?_)
 obtain ⟨b21, w22, run23, S24⟩ := S0.box (P := Tryz.prog) 73 [v1] (v := v1) p1.cells (ones_cons p1.one ones_nil)
 refine FL.v (E.box rfl run23) ?_
 obtain ⟨H25, S26, i27, at28⟩ := S24.sealBox (i := 0) (l' := []) rfl rfl
 obtain ⟨b29, w30, run31, S32⟩ := S26.box (P := Tryz.prog) 73 [v2] (v := v2) p2.cells (ones_cons p2.one ones_nil)
 refine FL.v (E.box rfl run31) ?_
 obtain ⟨H33, S34, i35, at36⟩ := S32.sealBox (i := 0) (l' := []) rfl rfl
 refine FL.v (E.assign (v := Value.slice none 0 0) rfl) ?_
 refine FL.nil (FW.seq (FW.region ?_))
 refine FL.v (E.move (v := v0) rfl) ?_
 obtain ⟨r37, hr38, hp⟩ := bnd hp
 refine FL.call rfl rfl rfl (E.call Tryz.call108 (A1 rfl)) (w_slices_Clone_int_int S34.sl v0 a0 (p0.mono (i27.tr i35)) hr38) ?_
 rintro e w40 ⟨H39, v43, n44, cs45, rfl, r42, els46⟩
 refine ⟨_, rfl, ?_⟩
 have els46 := els46.mono (up_le S34.size)
 have S41 := S34.join (l' := [.row 3 1 v43 n44 cs45]) r42 rfl
 refine FL.v (E.makeFunc A0 (A2 rfl rfl)) ?_
 obtain ⟨r47, hr48, hp⟩ := bnd hp
 refine FL.call rfl rfl rfl (E.call Tryz.call144 (A2 rfl rfl)) (w_slices_DeleteFunc_int_int (L := []) S41 r37 els46 (Value.func (.func 149) #[] #[Value.pointer (some ⟨b21, 0, none⟩), Value.pointer (some ⟨b29, 0, none⟩)]) (fun x0 => PF.impl_inOne_1 x0 a1 a2) (fun H2 w2 hi2 hs2 x0 r hr => ⟨149, #[Value.pointer (some ⟨b21, 0, none⟩), Value.pointer (some ⟨b29, 0, none⟩)], rfl, Tryz.call149, w_impl_inOne_1 hs2 x0 ⟨b21, 0, none⟩ a1 v1 ((p1.mono ((i27.tr i35).tr r42.run.inc)).mono hi2) ((at28.mono (i35.tr r42.run.inc)).mono hi2) ⟨b29, 0, none⟩ a2 v2 ((p2.mono ((i27.tr i35).tr r42.run.inc)).mono hi2) ((at36.mono r42.run.inc).mono hi2) hr⟩) hr48) ?_
 rintro e w50 ⟨H49, v53, n54, cs55, rfl, ⟨S51, i52⟩, els56⟩
 refine ⟨_, rfl, ?_⟩
 have S51 : St Ha wa H49 w50 [.row 3 1 v53 n54 cs55] := S51
 refine FL.v (E.assign (v := v53) rfl) ?_
 refine FL.nil ?_
 refine FW.ret ?_
 obtain rfl := Option.some.inj hp
 exact ⟨.inr rfl, res1 rfl rfl ⟨_, _, _, _, rfl, S51, els56⟩⟩

theorem w_impl_dividePlane_1 {Ha : GH} {wa : World} (hs : Sl Ha wa) (a0 : Int) (q0 : Addr) (b0 : Int) (c0 : CAt Ha q0 [Value.int .i64 b0]) {r : Bool} (hp : (PF.impl_dividePlane_1 a0 b0) = some r) :
  Calls Tryz.prog 198 #[Value.int .i64 a0, Value.pointer (some q0)] wa (Sc Ha wa (Value.bool r)) := by
 unfold PF.impl_dividePlane_1 at hp
 have S0 := St.init hs
 refine calls_go (N := 8) (args := [Value.int .i64 a0, Value.pointer (some q0)]) Tryz.func198 rfl rfl rfl ?_
 refine FW.seq (FW.region ?_)
 refine FL.v (E.assign (v := Value.bool false) rfl) ?_
 refine FL.nil (FW.seq (FW.region ?_))
 refine FL.v (E.move (v := Value.int .i64 a0) rfl) ?_
 refine FL.v (E.load rfl (run_load0 Tryz.isAgg3 (c0.now S0.sl) rfl)) ?_
 obtain ⟨u22, z21, hp⟩ := bnd hp
 refine FL.v (E.rem rfl rfl (nz_ne z21)) ?_
 refine FL.v (E.neq rfl rfl) ?_
 refine FL.v (E.assign (v := Value.bool (!((a0.tmod b0) == 0))) rfl) ?_
 refine FL.nil ?_
 refine FW.ret ?_
 obtain rfl := Option.some.inj hp
 exact ⟨.inr rfl, res1 rfl rfl ⟨rfl, S0.back⟩⟩

theorem w_impl_divideUp {Ha : GH} {wa : World} (hs : Sl Ha wa) (a0 : Int) (a1 : Int) {r : Int} (hp : (PF.impl_divideUp a0 a1) = some r) :
  Calls Tryz.prog 200 #[Value.int .i64 a0, Value.int .i64 a1] wa (Sc Ha wa (Value.int .i64 r)) := by
 unfold PF.impl_divideUp at hp
 have S0 := St.init hs
 refine calls_go (N := 16) (args := [Value.int .i64 a0, Value.int .i64 a1]) Tryz.func200 rfl rfl rfl ?_
 refine FW.seq (FW.region ?_)
 refine FL.v (E.assign (v := Value.int .i64 0) rfl) ?_
 refine FL.nil (FW.seq (FW.region ?_))
 refine FL.v (E.move (v := Value.int .i64 a0) rfl) ?_
 refine FL.v (E.move (v := Value.int .i64 a1) rfl) ?_
 obtain ⟨u22, z21, hp⟩ := bnd hp
 refine FL.v (E.quo rfl rfl (nz_ne z21)) ?_
 refine FL.v (E.assign (v := Value.int .i64 (wr (a0.tdiv a1))) rfl) ?_
 refine FL.nil (FW.seq (FW.seq (FW.region ?_)))
 refine FL.v (E.move (v := Value.int .i64 a0) rfl) ?_
 refine FL.v (E.move (v := Value.int .i64 a1) rfl) ?_
 obtain ⟨u24, z23, hp⟩ := bnd hp
 refine FL.v (E.rem rfl rfl (nz_ne z23)) ?_
 refine FL.v (E.gtr rfl rfl) ?_
 refine FL.nil ?_
 rcases ifB hp with ⟨c25, hp⟩ | ⟨c25, hp⟩
 ·
  refine FW.condT rfl c25 ?_
  refine FW.region ?_
  refine FL.v (E.move (v := Value.int .i64 (wr (a0.tdiv a1))) rfl) ?_
  refine FL.v (E.add rfl rfl) ?_
  refine FL.v (E.assign (v := Value.int .i64 (wr ((wr (a0.tdiv a1)) + 1))) rfl) ?_
  refine FL.nil (FW.seq (FW.region ?_))
  refine FL.v (E.move (v := Value.int .i64 (wr ((wr (a0.tdiv a1)) + 1))) rfl) ?_
  refine FL.v (E.assign (v := Value.int .i64 (wr ((wr (a0.tdiv a1)) + 1))) rfl) ?_
  refine FL.nil ?_
  refine FW.ret ?_
  obtain rfl := Option.some.inj hp
  exact ⟨.inr rfl, res1 rfl rfl ⟨rfl, S0.back⟩⟩
 ·
  refine FW.condF rfl c25 ?_
  refine FW.skip (FW.seq (FW.region ?_))
  refine FL.v (E.move (v := Value.int .i64 (wr (a0.tdiv a1))) rfl) ?_
  refine FL.v (E.assign (v := Value.int .i64 (wr (a0.tdiv a1))) rfl) ?_
  refine FL.nil ?_
  refine FW.ret ?_
  obtain rfl := Option.some.inj hp
  exact ⟨.inr rfl, res1 rfl rfl ⟨rfl, S0.back⟩⟩

theorem w_impl_dividePlane_2 {Ha : GH} {wa : World} (hs : Sl Ha wa) (a0 : Int) (a1 : Int) (q0 : Addr) (b0 : Int) (c0 : CAt Ha q0 [Value.int .i64 b0]) {r : Int} (hp : (PF.impl_dividePlane_2 a0 a1 b0) = some r) :
  Calls Tryz.prog 199 #[Value.int .i64 a0, Value.int .i64 a1, Value.pointer (some q0)] wa (Sc Ha wa (Value.int .i64 r)) := by
 unfold PF.impl_dividePlane_2 at hp
 have S0 := St.init hs
 refine calls_go (N := 9) (args := [Value.int .i64 a0, Value.int .i64 a1, Value.pointer (some q0)]) Tryz.func199 rfl rfl rfl ?_
 refine FW.seq (FW.region ?_)
 refine FL.v (E.assign (v := Value.int .i64 0) rfl) ?_
 refine FL.nil (FW.seq (FW.region ?_))
 refine FL.v (E.move (v := Value.int .i64 a0) rfl) ?_
 refine FL.v (E.load rfl (run_load0 Tryz.isAgg3 (c0.now S0.sl) rfl)) ?_
 obtain ⟨r21, hr22, hp⟩ := bnd hp
 refine FL.call rfl rfl rfl (E.call Tryz.call200 (A2 rfl rfl)) (w_impl_divideUp S0.sl a0 b0 hr22) ?_
 rintro e w23 ⟨rfl, r24⟩
 refine ⟨_, rfl, ?_⟩
 have S25 := S0.call r24
 refine FL.v (E.assign (v := Value.int .i64 r21) rfl) ?_
 refine FL.nil ?_
 refine FW.ret ?_
 obtain rfl := Option.some.inj hp
 exact ⟨.inr rfl, res1 rfl rfl ⟨rfl, S25.back⟩⟩

@[reducible] def p_impl_dividePlane (Ha : GH) (wa : World) (r : (Inequality × Bool)) : Ending → World → Prop :=
 fun e w' => ∃ H' : GH, ∃ v0_0 : Value, e = .returned (Value.tuple #[Value.agg #[v0_0, Value.int .i64 r.1.bound], Value.bool r.2]) ∧ Run wa.heap.size Ha wa H' w' ∧ RSl (up wa.heap.size H') eI 1 v0_0 r.1.coeffs
theorem w_impl_dividePlane {Ha : GH} {wa : World} (hs : Sl Ha wa) (a0 : Inequality) (v0_0 : Value) (p0_0 : RSl Ha eI 1 v0_0 a0.coeffs) (a1 : Int) {r : (Inequality × Bool)} (hp : (PF.impl_dividePlane a0 a1) = some r) :
  Calls Tryz.prog 148 #[Value.agg #[v0_0, Value.int .i64 a0.bound], Value.int .i64 a1] wa (p_impl_dividePlane Ha wa r) := by
 unfold PF.impl_dividePlane at hp
 have S0 := St.init hs
 refine calls_go (N := 15) (args := [Value.agg #[v0_0, Value.int .i64 a0.bound], Value.int .i64 a1]) Tryz.func148 rfl rfl rfl ?_
 refine FW.seq (FW.region ?_)
 obtain ⟨b21, w22, run23, S24⟩ := S0.box (P := Tryz.prog) 127 [v0_0, Value.int .i64 a0.bound] (v := Value.agg #[v0_0, Value.int .i64 a0.bound]) rfl (ones_cons p0_0.one (ones_cons rfl ones_nil))
 refine FL.v (E.box rfl run23) ?_
 obtain ⟨H25, S26, i27, at28⟩ := S24.sealBox (i := 0) (l' := []) rfl rfl
 obtain ⟨b29, w30, run31, S32⟩ := S26.box (P := Tryz.prog) 3 [Value.int .i64 a1] (v := Value.int .i64 a1) rfl (ones_cons rfl ones_nil)
 refine FL.v (E.box rfl run31) ?_
 obtain ⟨H33, S34, i35, at36⟩ := S32.sealBox (i := 0) (l' := []) rfl rfl
 have S41 := S34.nil 3 1
 have els42 : Els (up wa.heap.size H33) eI 1 [] [] := Els.nil
 obtain ⟨b37, w38, run39, S40⟩ := S41.alloc (P := Tryz.prog) 127 [Value.slice none 0 0, Value.int .i64 0] Tryz.zeroValue127 rfl (ones_cons rfl (ones_cons rfl ones_nil))
 refine FL.v (E.alloc run39) ?_
 refine FL.v (E.assign (v := Value.bool false) rfl) ?_
 refine FL.nil (FW.seq (FW.seq (FW.region ?_)))
 refine FL.v (E.fieldAddr tf127_0 rfl) ?_
 refine FL.v (E.load rfl (run_load1 Tryz.isAgg73 ((at28.mono i35).now S40.sl) rfl)) ?_
 refine FL.v (E.makeFunc A0 (A1 rfl)) ?_
 obtain ⟨r43, hr44, hp⟩ := bnd hp
 refine FL.call rfl rfl rfl (E.call Tryz.call197 (A2 rfl rfl)) (w_slices_ContainsFunc_int_int S40.sl v0_0 a0.coeffs (p0_0.mono (i27.tr i35)) (Value.func (.func 198) #[] #[Value.pointer (some ⟨b29, 0, none⟩)]) (fun x0 => PF.impl_dividePlane_1 x0 a1) (fun H2 w2 hi2 hs2 x0 r hr => ⟨198, #[Value.pointer (some ⟨b29, 0, none⟩)], rfl, Tryz.call198, w_impl_dividePlane_1 hs2 x0 ⟨b29, 0, none⟩ a1 (at36.mono hi2) hr⟩) hr44) ?_
 rintro e w45 ⟨rfl, r46⟩
 refine ⟨_, rfl, ?_⟩
 have S47 := S40.call r46
 refine FL.nil ?_
 rcases ifB hp with ⟨c48, hp⟩ | ⟨c48, hp⟩
 ·
  refine FW.condT rfl c48 ?_
  refine FW.seq (FW.region ?_)
  refine FL.v (E.build (B0) (run_build _ 127 #[] #[Value.slice none 0 0, Value.int .i64 0] (by rfl))) ?_
  have S49 := S47.nil 3 1
  have els50 : Els (up wa.heap.size H33) eI 1 [] [] := Els.nil
  obtain ⟨w51, run52, S53⟩ := S49.store0 (P := Tryz.prog) (t := 127) (i := 1) (cs' := [(Value.slice none 0 0), Value.int .i64 0]) (l' := [.row 3 1 (Value.slice none 0 0) 0 [], .box b37 127 [(Value.slice none 0 0), Value.int .i64 0], .row 3 1 (Value.slice none 0 0) 0 []]) (v := Value.agg #[(Value.slice none 0 0), Value.int .i64 0]) (c := [(Value.slice none 0 0), Value.int .i64 0]) rfl Tryz.sizeOf127 rfl rfl (ones_cons (Ln.one (S49.row_ln (i := 0) rfl)) (ones_cons rfl ones_nil)) (Nat.le_of_ble_eq_true rfl) rfl rfl
  refine FL.act rfl rfl (E.store rfl rfl run52) ?_
  refine FL.v (E.assign (v := Value.bool false) rfl) ?_
  refine FL.nil ?_
  refine FW.ret ?_
  obtain ⟨H54, S55, i56, h57, nv58⟩ := S53.sealRowU (i := 0) (l' := [.box b37 127 [(Value.slice none 0 0), Value.int .i64 0], .row 3 1 (Value.slice none 0 0) 0 []]) rfl els50 (by decide) rfl
  obtain rfl := Option.some.inj hp
  exact ⟨.inr rfl, resC2 rfl rfl (loadVar_A Tryz.isAgg127 Tryz.sizeOf127 (S55.box_now (i := 0) rfl) rfl) rfl ⟨_, _, rfl, S55.run, h57⟩⟩
 ·
  refine FW.condF rfl c48 ?_
  refine FW.skip (FW.seq (FW.region ?_))
  refine FL.v (E.load rfl (run_loadA Tryz.isAgg127 Tryz.sizeOf127 ((at28.mono i35).now S47.sl) rfl)) ?_
  refine FL.v (E.load rfl (run_loadA Tryz.isAgg127 Tryz.sizeOf127 ((at28.mono i35).now S47.sl) rfl)) ?_
  refine FL.v (E.makeFunc A0 (A1 rfl)) ?_
  obtain ⟨r59, hr60, hp⟩ := bnd hp
  refine FL.call rfl rfl rfl (E.call Tryz.call195 (A3 rfl rfl rfl)) (w_impl_combined S47.sl a0 v0_0 (p0_0.mono (i27.tr i35)) a0 v0_0 (p0_0.mono (i27.tr i35)) (Value.func (.func 199) #[] #[Value.pointer (some ⟨b29, 0, none⟩)]) (fun x0 x1 => PF.impl_dividePlane_2 x0 x1 a1) (fun H2 w2 hi2 hs2 x0 x1 r hr => ⟨199, #[Value.pointer (some ⟨b29, 0, none⟩)], rfl, Tryz.call199, w_impl_dividePlane_2 hs2 x0 x1 ⟨b29, 0, none⟩ a1 (at36.mono hi2) hr⟩) hr60) ?_
  rintro e w62 ⟨H61, v65, rfl, r64, h66⟩
  refine ⟨_, rfl, ?_⟩
  have nv67 : New H33 [v65] := New.of_up S47.sl h66.dom
  have h66 := h66.mono (up_le S47.size)
  have S63 := S47.call r64
  obtain ⟨w68, run69, S70⟩ := S63.store0 (P := Tryz.prog) (t := 127) (i := 0) (cs' := [v65, Value.int .i64 r59.bound]) (l' := [.box b37 127 [v65, Value.int .i64 r59.bound], .row 3 1 (Value.slice none 0 0) 0 []]) (v := Value.agg #[v65, Value.int .i64 r59.bound]) (c := [v65, Value.int .i64 r59.bound]) rfl Tryz.sizeOf127 rfl rfl (ones_cons h66.one (ones_cons rfl ones_nil)) (Nat.le_of_ble_eq_true rfl) rfl rfl
  refine FL.act rfl rfl (E.store rfl rfl run69) ?_
  refine FL.v (E.assign (v := Value.bool true) rfl) ?_
  refine FL.nil ?_
  refine FW.ret ?_
  obtain rfl := Option.some.inj hp
  exact ⟨.inr rfl, resC2 rfl rfl (loadVar_A Tryz.isAgg127 Tryz.sizeOf127 (S70.box_now (i := 0) rfl) rfl) rfl ⟨_, _, rfl, S70.run, h66⟩⟩

@[reducible] def p_impl_planer_divide (H0 : GH) (w0 : World) (Ha : GH) (L : List MO) (b0 : Nat) (r : (Int × planer)) : Ending → World → Prop :=
 fun e w' => ∃ H' : GH, ∃ v0_1r : Value, ∃ n0_1r : Nat, ∃ c0_1r : List Value, e = .returned (Value.int .i64 r.1) ∧ (St H0 w0 H' w' (.box b0 118 [Value.int .i64 r.2.vars, v0_1r] :: .row 129 6 v0_1r n0_1r c0_1r :: L) ∧ Inc Ha H') ∧ Els (up w0.heap.size H') ePlaneStep 6 c0_1r r.2.steps ∧ (bl c0_1r).Nodup
theorem w_impl_planer_divide {H0 Ha : GH} {w0 wa : World} {L : List MO} {a0 : planer} {b0 : Nat} {v0_1 : Value} {n0_1 : Nat} {k0_1 : List Value} (S0 : St H0 w0 Ha wa (.box b0 118 [Value.int .i64 a0.vars, v0_1] :: .row 129 6 v0_1 n0_1 k0_1 :: L)) (p0_1 : Els (up w0.heap.size Ha) ePlaneStep 6 k0_1 a0.steps) (d0_1 : (bl k0_1).Nodup) (a1 : Int) (a2 : Int) {r : (Int × planer)} (hp : (PF.impl_planer_divide a0 a1 a2) = some r) :
  Calls Tryz.prog 86 #[Value.pointer (some (⟨b0, 0, none⟩ : Addr)), Value.int .i64 a1, Value.int .i64 a2] wa (p_impl_planer_divide H0 w0 Ha L b0 r) := by
 unfold PF.impl_planer_divide at hp
 refine calls_go (N := 28) (args := [Value.pointer (some (⟨b0, 0, none⟩ : Addr)), Value.int .i64 a1, Value.int .i64 a2]) Tryz.func86 rfl rfl rfl ?_
 refine FW.seq (FW.region ?_)
 refine FL.v (E.assign (v := Value.int .i64 0) rfl) ?_
 refine FL.nil (FW.seq (FW.region ?_))
 refine FL.v (E.move (v := Value.pointer (some (⟨b0, 0, none⟩ : Addr))) rfl) ?_
 refine FL.v (E.nilCheck rfl) ?_
 refine FL.v (E.fieldAddr tf118_1 rfl) ?_
 refine FL.v (E.load rfl (run_load1 Tryz.isAgg45 (S0.box_now (i := 0) rfl) rfl)) ?_
 refine FL.v (E.move (v := Value.int .i64 a1) rfl) ?_
 obtain ⟨x27, hx28, hp⟩ := bnd hp
 obtain ⟨p21, cs22, pt23, l24, at25, rel26⟩ := S0.row_at (i := 1) rfl p0_1 (by decide) hx28
 obtain ⟨v29, rfl, h30⟩ := ePlaneStep_open rel26
 refine FL.v (E.indexAddr te45 rfl rfl pt23) ?_
 refine FL.v (E.fieldAddr tf129_0 rfl) ?_
 refine FL.v (E.load rfl (run_loadA Tryz.isAgg127 Tryz.sizeOf127 (at25.sub (j := 0) (n := 2) (c := [v29, Value.int .i64 x27.ineq.bound]) rfl) rfl)) ?_
 refine FL.v (E.move (v := Value.int .i64 a2) rfl) ?_
 obtain ⟨r31, hr32, hp⟩ := bnd hp
 refine FL.call rfl rfl rfl (E.call Tryz.call148 (A2 rfl rfl)) (w_impl_dividePlane S0.sl x27.ineq v29 (h30.mono upI) a2 hr32) ?_
 rintro e w34 ⟨H33, v37, rfl, r36, h38⟩
 refine ⟨_, rfl, ?_⟩
 have nv39 : New Ha [v37] := New.of_up S0.sl h38.dom
 have h38 := h38.mono (up_le S0.size)
 have S35 := S0.call r36
 refine FL.v (E.move (v := Value.tuple #[Value.agg #[v37, Value.int .i64 r31.1.bound], Value.bool r31.2]) rfl) ?_
 refine FL.v (E.extract (i := 0) rfl rfl) ?_
 refine FL.v (E.extract (i := 1) rfl rfl) ?_
 have S44 := S35.nil 3 1
 have els45 : Els (up w0.heap.size H33) eI 1 [] [] := Els.nil
 obtain ⟨b40, w41, run42, S43⟩ := S44.alloc (P := Tryz.prog) 127 [Value.slice none 0 0, Value.int .i64 0] Tryz.zeroValue127 rfl (ones_cons rfl (ones_cons rfl ones_nil))
 refine FL.v (E.alloc run42) ?_
 obtain ⟨w46, run47, S48⟩ := S43.store0 (P := Tryz.prog) (t := 127) (i := 0) (cs' := [v37, Value.int .i64 r31.1.bound]) (l' := (.box b40 127 [v37, Value.int .i64 r31.1.bound] :: .row 3 1 (Value.slice none 0 0) 0 [] :: .box b0 118 [Value.int .i64 a0.vars, v0_1] :: .row 129 6 v0_1 n0_1 k0_1 :: L)) (v := Value.agg #[v37, Value.int .i64 r31.1.bound]) (c := [v37, Value.int .i64 r31.1.bound]) rfl Tryz.sizeOf127 rfl rfl (ones_cons h38.one (ones_cons rfl ones_nil)) (Nat.le_of_ble_eq_true rfl) rfl rfl
 refine FL.act rfl rfl (E.store rfl rfl run47) ?_
 obtain ⟨H49, S50, i51, at52⟩ := S48.sealBox (i := 0) (l' := (.row 3 1 (Value.slice none 0 0) 0 [] :: .box b0 118 [Value.int .i64 a0.vars, v0_1] :: .row 129 6 v0_1 n0_1 k0_1 :: L)) rfl rfl
 refine FL.v (E.assign (v := Value.bool r31.2) rfl) ?_
 refine FL.nil (FW.seq (FW.region ?_))
 refine FL.v (E.move (v := Value.pointer (some (⟨b0, 0, none⟩ : Addr))) rfl) ?_
 refine FL.v (E.load rfl (run_loadA Tryz.isAgg127 Tryz.sizeOf127 (at52.now S50.sl) rfl)) ?_
 refine FL.v (E.move (v := Value.int .i64 a1) rfl) ?_
 refine FL.v (E.move (v := Value.int .i64 a2) rfl) ?_
 refine FL.v (E.build (B4 rfl rfl rfl rfl) (run_build _ 129 #[(0, Value.agg #[v37, Value.int .i64 r31.1.bound]), (1, Value.int .i64 6), (2, Value.int .i64 a1), (4, Value.int .i64 a2)] #[v37, Value.int .i64 r31.1.bound, Value.int .i64 6, Value.int .i64 a1, Value.int .i64 0, Value.int .i64 a2] (by obtain ⟨_, _, rfl⟩ := RSl.ln (h38.mono (upI.tr i51)); rfl))) ?_
 obtain ⟨s53, hq53, hp⟩ := bnd hp
 obtain ⟨R53, hR53⟩ : ∃ R53 : ((List PlaneStep) × Int × Int) → Ending → World → Prop, R53 = (fun s53 e w => ∃ H : GH, ∃ v54 : Value, ∃ n55 : Nat, ∃ cs56 : List Value, e = Ending.returned (Value.int .i64 s53.2.2) ∧ St H0 w0 H w (.row 3 1 (Value.slice none 0 0) 0 [] :: .box b0 118 [Value.int .i64 s53.2.1, v54] :: .row 129 6 v54 n55 cs56 :: L) ∧ Inc H49 H ∧ Els (up w0.heap.size H) ePlaneStep 6 cs56 s53.1 ∧ (bl cs56).Nodup) := ⟨_, rfl⟩
 have hc53 : Calls Tryz.prog 140 #[Value.pointer (some (⟨b0, 0, none⟩ : Addr)), Value.agg #[v37, Value.int .i64 r31.1.bound, Value.int .i64 6, Value.int .i64 a1, Value.int .i64 0, Value.int .i64 a2]] w46 (R53 s53) := by
  clear hp; have hp := hq53; clear hq53
  refine calls_go (N := 21) (args := [Value.pointer (some (⟨b0, 0, none⟩ : Addr)), Value.agg #[v37, Value.int .i64 r31.1.bound, Value.int .i64 6, Value.int .i64 a1, Value.int .i64 0, Value.int .i64 a2]]) Tryz.func140 rfl rfl rfl ?_
  refine FW.seq (FW.region ?_)
  obtain ⟨b59, w60, run61, S62⟩ := S50.box (P := Tryz.prog) 129 [v37, Value.int .i64 r31.1.bound, Value.int .i64 6, Value.int .i64 a1, Value.int .i64 0, Value.int .i64 a2] (v := Value.agg #[v37, Value.int .i64 r31.1.bound, Value.int .i64 6, Value.int .i64 a1, Value.int .i64 0, Value.int .i64 a2]) rfl (ones_cons h38.one (ones_cons rfl (ones_cons rfl (ones_cons rfl (ones_cons rfl (ones_cons rfl ones_nil))))))
  refine FL.v (E.box rfl run61) ?_
  obtain ⟨H63, S64, i65, at66⟩ := S62.sealBox (i := 0) (l' := (.row 3 1 (Value.slice none 0 0) 0 [] :: .box b0 118 [Value.int .i64 a0.vars, v0_1] :: .row 129 6 v0_1 n0_1 k0_1 :: L)) rfl rfl
  refine FL.v (E.assign (v := Value.int .i64 0) rfl) ?_
  refine FL.nil (FW.seq ?_)
  obtain ⟨xs76, hz77, hp⟩ := bnd hp
  refine FW.drawB (Sl H63) (fun f w => ∃ H : GH, ∃ v91 : Value, ∃ n92 : Nat, ∃ cs93 : List Value, St H0 w0 H w (.row 3 1 (Value.slice none 0 0) 0 [] :: .box b0 118 [Value.int .i64 a0.vars, v91] :: .row 129 6 v91 n92 cs93 :: L) ∧ Inc H63 H ∧ Els (up w0.heap.size H) ePlaneStep 6 cs93 xs76 ∧ (bl cs93).Nodup ∧ f 0 = Value.pointer (some (⟨b0, 0, none⟩ : Addr))) (by kernel_rfl) S64.sl ?_ ?_
  ·
   intro w67 r68
   have S69 := S64.call r68
   refine FB.phase [10] (fun w => WAt w (Addr.add ⟨b0, 0, none⟩ 1) [v0_1]) ?_
   refine FB.t (i := 0) (bs 11 1) rfl (SP.on ((S69.box_now (i := 1) rfl).sub (j := 1) (n := 1) (c := [v0_1]) rfl) (SP.nil S69.sl)) rfl (fun w' hw' => (E.move (v := Value.pointer (some (⟨b0, 0, none⟩ : Addr))) rfl)) ?_
   refine FB.t (i := 1) (bs 11 3) rfl (SP.on ((S69.box_now (i := 1) rfl).sub (j := 1) (n := 1) (c := [v0_1]) rfl) (SP.nil S69.sl)) rfl (fun w' hw' => (E.move (v := Value.pointer (some (⟨b0, 0, none⟩ : Addr))) rfl)) ?_
   refine FB.t (i := 2) (bs 11 7) rfl (SP.on ((S69.box_now (i := 1) rfl).sub (j := 1) (n := 1) (c := [v0_1]) rfl) (SP.nil S69.sl)) rfl (fun w' hw' => (E.nilCheck rfl)) ?_
   refine FB.t (i := 3) (bs 11 15) rfl (SP.on ((S69.box_now (i := 1) rfl).sub (j := 1) (n := 1) (c := [v0_1]) rfl) (SP.nil S69.sl)) rfl (fun w' hw' => (E.fieldAddr tf118_1 rfl)) ?_
   refine FB.p (i := 4) (bs 11 31) 0 [7, 8, 9, 10] rfl (SP.on ((S69.box_now (i := 1) rfl).sub (j := 1) (n := 1) (c := [v0_1]) rfl) (SP.nil S69.sl)) rfl rfl (fun w' hw' => (E.load rfl (run_load0 Tryz.isAgg45 hw' rfl))) ?_
   refine FB.t (i := 5) (bs 11 63) rfl (SP.on ((S69.box_now (i := 1) rfl).sub (j := 1) (n := 1) (c := [v0_1]) rfl) (SP.nil S69.sl)) rfl (fun w' hw' => (E.load rfl (run_loadA Tryz.isAgg129 Tryz.sizeOf129 (at66.now hw') rfl))) ?_
   refine FB.all1 (i := 6) (by kernel_rfl) ?_
   ·
    obtain ⟨v70, w71, run72, S73⟩ := S69.buildSlice (P := Tryz.prog) te45 [Value.agg #[v37, Value.int .i64 r31.1.bound, Value.int .i64 6, Value.int .i64 a1, Value.int .i64 0, Value.int .i64 a2]] (parts := #[(0, Value.agg #[v37, Value.int .i64 r31.1.bound, Value.int .i64 6, Value.int .i64 a1, Value.int .i64 0, Value.int .i64 a2])]) (cells := [v37, Value.int .i64 r31.1.bound, Value.int .i64 6, Value.int .i64 a1, Value.int .i64 0, Value.int .i64 a2]) rfl (szs_cons rfl szs_nil) (fc_cons rfl fc_nil) (ones_cons h38.one (ones_cons rfl (ones_cons rfl (ones_cons rfl (ones_cons rfl (ones_cons rfl ones_nil)))))) (Nat.le_of_ble_eq_true rfl)
    have els74 : Els (up w0.heap.size H63) ePlaneStep 6 [v37, Value.int .i64 r31.1.bound, Value.int .i64 6, Value.int .i64 a1, Value.int .i64 0, Value.int .i64 a2] [(PlaneStep.mk r31.1 6 a1 0 a2)] := (Els.snoc (H := (up w0.heap.size H63)) (E := ePlaneStep) (k := 6) (c := [v37, Value.int .i64 r31.1.bound, Value.int .i64 6, Value.int .i64 a1, Value.int .i64 0, Value.int .i64 a2]) (x := (PlaneStep.mk r31.1 6 a1 0 a2)) Els.nil rfl ⟨_, rfl, (h38.mono (up_mono (i51.tr i65)))⟩)
    have nd75 : (bl [v37, Value.int .i64 r31.1.bound, Value.int .i64 6, Value.int .i64 a1, Value.int .i64 0, Value.int .i64 a2]).Nodup := by exact nd_one v37
    refine FC.val (l' := (bs 11 127)) rfl (by kernel_rfl) rfl rfl rfl (E.buildSlice (B1 rfl) run72) ?_
    refine ⟨(SP.on ((S73.box_now (i := 2) rfl).sub (j := 1) (n := 1) (c := [v0_1]) rfl) (SP.nil S73.sl)), ?_⟩
    refine FB.all1 (i := 7) (by kernel_rfl) ?_
    ·
     obtain ⟨v78, w81, n79, cs80, run82, S83, els84, ce85⟩ := S73.appendO (P := Tryz.prog) te45 (i := 3) (j := 0) rfl (p0_1.mono (up_mono ((r36.inc.tr i51).tr i65))) rfl els74 hz77
     have S83 : St H0 w0 H63 w81 (.row 129 6 v70 1 [v37, Value.int .i64 r31.1.bound, Value.int .i64 6, Value.int .i64 a1, Value.int .i64 0, Value.int .i64 a2] :: .row 3 1 (Value.slice none 0 0) 0 [] :: .box b0 118 [Value.int .i64 a0.vars, v0_1] :: .row 129 6 v78 n79 cs80 :: L) := S83
     have nd86 : (bl cs80).Nodup := by rw [ce85]; exact nd_app d0_1 nd75 (Els.dom (p0_1.mono (upI.tr (Inc.rfl _)))) (by exact nv39)
     have S87 : St H0 w0 H63 w81 (.row 3 1 (Value.slice none 0 0) 0 [] :: .box b0 118 [Value.int .i64 a0.vars, v0_1] :: .row 129 6 v78 n79 cs80 :: L) := S83.drop 0
     refine FC.val (l' := (bs 11 255)) rfl (by kernel_rfl) rfl rfl rfl (E.append rfl rfl run82) ?_
     refine ⟨(SP.on ((S87.box_now (i := 1) rfl).sub (j := 1) (n := 1) (c := [v0_1]) rfl) (SP.nil S87.sl)), ?_⟩
     refine FB.t (i := 8) (bs 11 511) rfl (SP.on ((S87.box_now (i := 1) rfl).sub (j := 1) (n := 1) (c := [v0_1]) rfl) (SP.nil S87.sl)) rfl (fun w' hw' => (E.nilCheck rfl)) ?_
     refine FB.t (i := 9) (bs 11 1023) rfl (SP.on ((S87.box_now (i := 1) rfl).sub (j := 1) (n := 1) (c := [v0_1]) rfl) (SP.nil S87.sl)) rfl (fun w' hw' => (E.fieldAddr tf118_1 rfl)) ?_
     refine FB.all1 (i := 10) (by kernel_rfl) ?_
     ·
      obtain ⟨w88, run89, S90⟩ := S87.store (P := Tryz.prog) (t := 45) (i := 1) (j := 1) (cs' := [Value.int .i64 a0.vars, v78]) (l' := (.row 3 1 (Value.slice none 0 0) 0 [] :: .box b0 118 [Value.int .i64 a0.vars, v78] :: .row 129 6 v78 n79 cs80 :: L)) (v := v78) (c := [v78]) rfl Tryz.sizeOf45 (Ln.cells (S87.row_ln (i := 2) rfl)) rfl (ones_cons (Ln.one (S87.row_ln (i := 2) rfl)) ones_nil) (Nat.le_of_ble_eq_true rfl) rfl rfl
      refine FC.act (l' := (bs 11 2047)) rfl (by kernel_rfl) rfl rfl (E.store rfl rfl run89) ?_
      refine ⟨(SP.o (SP.nil S90.sl)), ?_⟩
      exact FB.done (by kernel_rfl) ⟨_, _, _, _, S90, (Inc.rfl _), els84, nd86, rfl⟩
  ·
   rintro f100 w99 ⟨H96, v91, n92, cs93, S97, i98, els94, nd95, k101⟩
   refine FW.seq (FW.region ?_)
   refine FL.v (E.move k101) ?_
   refine FL.v (E.nilCheck rfl) ?_
   refine FL.v (E.fieldAddr tf118_1 rfl) ?_
   refine FL.v (E.load rfl (run_load1 Tryz.isAgg45 (S97.box_now (i := 1) rfl) rfl)) ?_
   refine FL.v (E.lenO te45 rfl S97 (i := 2) rfl els94 (by decide)) ?_
   refine FL.v (E.sub rfl rfl) ?_
   refine FL.v (E.assign (v := Value.int .i64 (wr ((len xs76) - 1))) rfl) ?_
   refine FL.nil ?_
   refine FW.ret ?_
   obtain rfl := Option.some.inj hp
   exact ⟨.inr rfl, res1 rfl rfl (by rw [hR53]; exact ⟨_, _, _, _, rfl, S97, (i65.tr i98), els94, nd95⟩)⟩
 clear hq53
 refine FL.call rfl rfl rfl (E.call Tryz.call140 (A2 rfl rfl)) hc53 ?_
 intro e w105 hQ53
 rw [hR53] at hQ53
 obtain ⟨H102, v54, n55, cs56, rfl, S103, i104, els57, nd58⟩ := hQ53
 refine ⟨_, rfl, ?_⟩
 refine FL.v (E.assign (v := Value.int .i64 s53.2.2) rfl) ?_
 refine FL.nil ?_
 refine FW.ret ?_
 obtain rfl := Option.some.inj hp
 exact ⟨.inr rfl, res1 rfl rfl ⟨_, _, _, _, rfl, ⟨(S103.selT (a := [.row 3 1 (Value.slice none 0 0) 0 [], .box b0 118 [Value.int .i64 s53.2.1, v54], .row 129 6 v54 n55 cs56]) (l' := [.box b0 118 [Value.int .i64 s53.2.1, v54], .row 129 6 v54 n55 cs56]) [1, 2] (by decide) rfl), ((r36.inc.tr i51).tr i104)⟩, els57, nd58⟩⟩

theorem w_impl_last_int {Ha : GH} {wa : World} (hs : Sl Ha wa) (v0 : Value) (a0 : List Int) (p0 : RSl Ha eI 1 v0 a0) {r : Int} (hp : (PF.impl_last_int a0) = some r) :
  Calls Tryz.prog 88 #[v0] wa (Sc Ha wa (Value.int .i64 r)) := by
 unfold PF.impl_last_int at hp
 have S0 := St.init hs
 refine calls_go (N := 9) (args := [v0]) Tryz.func88 rfl rfl rfl ?_
 refine FW.seq (FW.region ?_)
 refine FL.v (E.assign (v := Value.int .i64 0) rfl) ?_
 refine FL.nil (FW.seq (FW.region ?_))
 refine FL.v (E.move (v := v0) rfl) ?_
 refine FL.v (E.move (v := v0) rfl) ?_
 refine FL.v (E.lenP te73 rfl p0) ?_
 refine FL.v (E.sub rfl rfl) ?_
 obtain ⟨x27, hx28, hp⟩ := bnd hp
 obtain ⟨p21, cs22, pt23, l24, at25, rel26⟩ := p0.at hx28
 obtain rfl := eI_open rel26
 refine FL.v (E.indexAddr te73 rfl rfl pt23) ?_
 refine FL.v (E.load rfl (run_load0 Tryz.isAgg3 (at25.now S0.sl) rfl)) ?_
 refine FL.v (E.assign (v := Value.int .i64 x27) rfl) ?_
 refine FL.nil ?_
 refine FW.ret ?_
 obtain rfl := Option.some.inj hp
 exact ⟨.inr rfl, res1 rfl rfl ⟨rfl, S0.back⟩⟩

@[reducible] def p_impl_ProofToPlanes (Ha : GH) (wa : World) (r : ((List PlaneStep) × Bool)) : Ending → World → Prop :=
 fun e w' => ∃ H' : GH, ∃ v0 : Value, ∃ n0 : Nat, ∃ c0 : List Value, e = .returned (Value.tuple #[v0, Value.bool r.2]) ∧ St Ha wa H' w' [.row 129 6 v0 n0 c0] ∧ Els (up wa.heap.size H') ePlaneStep 6 c0 r.1 ∧ (bl c0).Nodup
set_option maxHeartbeats 4000000 in
theorem w_impl_ProofToPlanes {Ha : GH} {wa : World} (hs : Sl Ha wa) (a0 : Cnf) (v0_1 : Value) (p0_1 : RSl Ha (eL eI 1) 1 v0_1 a0.clauses) (v1 : Value) (a1 : List ResStep) (p1 : RSl Ha eResStep 4 v1 a1) {r : ((List PlaneStep) × Bool)} (hp : (PF.impl_ProofToPlanes a0 a1) = some r) :
  Calls Tryz.prog 25 #[Value.agg #[Value.int .i64 a0.vars, v0_1], v1] wa (p_impl_ProofToPlanes Ha wa r) := by
 unfold PF.impl_ProofToPlanes at hp
 have S0 := St.init hs
 refine calls_go (N := 112) (args := [Value.agg #[Value.int .i64 a0.vars, v0_1], v1]) Tryz.func25 rfl rfl rfl ?_
 refine FW.seq (FW.region ?_)
 obtain ⟨b21, w22, run23, S24⟩ := S0.box (P := Tryz.prog) 32 [Value.int .i64 a0.vars, v0_1] (v := Value.agg #[Value.int .i64 a0.vars, v0_1]) rfl (ones_cons rfl (ones_cons p0_1.one ones_nil))
 refine FL.v (E.box rfl run23) ?_
 obtain ⟨H25, S26, i27, at28⟩ := S24.sealBox (i := 0) (l' := []) rfl rfl
 refine FL.v (E.assign (v := Value.slice none 0 0) rfl) ?_
 refine FL.v (E.assign (v := Value.bool false) rfl) ?_
 refine FL.nil (FW.seq (FW.seq (FW.region ?_)))
 refine FL.v (E.load rfl (run_loadA Tryz.isAgg32 Tryz.sizeOf32 (at28.now S26.sl) rfl)) ?_
 refine FL.v (E.move (v := v1) rfl) ?_
 obtain ⟨r29, hr30, hp⟩ := bnd hp
 refine FL.call rfl rfl rfl (E.call Tryz.call79 (A2 rfl rfl)) (w_impl_isProof S26.sl a0 v0_1 (p0_1.mono i27) v1 a1 (p1.mono i27) hr30) ?_
 rintro e w31 ⟨rfl, r32⟩
 refine ⟨_, rfl, ?_⟩
 have S33 := S26.call r32
 refine FL.v (E.not rfl) ?_
 refine FL.nil ?_
 rcases ifB hp with ⟨c34, hp⟩ | ⟨c34, hp⟩
 ·
  refine FW.condT rfl c34 ?_
  refine FW.seq (FW.region ?_)
  refine FL.v (E.assign (v := Value.slice none 0 0) rfl) ?_
  refine FL.v (E.assign (v := Value.bool false) rfl) ?_
  refine FL.nil ?_
  refine FW.ret ?_
  obtain rfl := Option.some.inj hp
  exact ⟨.inr rfl, res2 rfl rfl rfl ⟨_, _, _, _, rfl, (S33.nil 129 6), Els.nil, List.nodup_nil⟩⟩
 ·
  refine FW.condF rfl c34 ?_
  refine FW.skip (FW.seq (FW.region ?_))
  refine FL.v (E.fieldAddr tf32_0 rfl) ?_
  refine FL.v (E.load rfl (run_load1 Tryz.isAgg3 (at28.now S33.sl) rfl)) ?_
  refine FL.v (E.build (B1 rfl) (run_build _ 118 #[(0, Value.int .i64 a0.vars)] #[Value.int .i64 a0.vars, Value.slice none 0 0] (by rfl))) ?_
  have S39 := S33.nil 129 6
  have els40 : Els (up wa.heap.size H25) ePlaneStep 6 [] [] := Els.nil
  obtain ⟨b35, w36, run37, S38⟩ := S39.box (P := Tryz.prog) 118 [Value.int .i64 a0.vars, (Value.slice none 0 0)] (v := Value.agg #[Value.int .i64 a0.vars, Value.slice none 0 0]) rfl (ones_cons rfl (ones_cons (Ln.one (S39.row_ln (i := 0) rfl)) ones_nil))
  refine FL.v (E.box rfl run37) ?_
  refine FL.v (E.assign (v := Value.pointer (some (⟨b35, 0, none⟩ : Addr))) rfl) ?_
  refine FL.nil (FW.seq (FW.region ?_))
  refine FL.v (E.move (v := v1) rfl) ?_
  refine FL.v (E.lenP te34 rfl p1) ?_
  obtain ⟨xs41, hm42, hp⟩ := bnd hp
  obtain ⟨v43, w44, n48, cs49, run45, S46, els47, hbl50⟩ := S38.makeEls (P := Tryz.prog) te73 (G := (up wa.heap.size H25)) (En := eI) (x0 := (0 : Int)) hm42 rfl (ones_cons rfl ones_nil) .i64 .i64
  refine FL.v (E.makeSlice rfl rfl run45) ?_
  refine FL.v (E.assign (v := v43) rfl) ?_
  refine FL.nil (FW.seq (FW.seq (FW.region ?_)))
  refine FL.v (E.move (v := v1) rfl) ?_
  refine FL.v (E.lenP te34 rfl p1) ?_
  refine FL.v (E.move (v := Value.int .i64 0) rfl) ?_
  refine FL.nil ?_
  obtain ⟨q52, hq, hp⟩ := bndR hp
  refine FW.block ?_
  refine FW.mono (FW.forL (S := ((List Int) × (List PlaneStep) × Int)) (X := ((List PlaneStep) × Bool)) (fun (i52 : Nat) (s52 : ((List Int) × (List PlaneStep) × Int)) f w => ∃ H : GH, ∃ v53 : Value, ∃ n54 : Nat, ∃ cs55 : List Value, ∃ v57 : Value, ∃ n58 : Nat, ∃ cs59 : List Value, St Ha wa H w [.row 3 1 v53 n54 cs55, .box b35 118 [Value.int .i64 s52.2.2, v57], .row 129 6 v57 n58 cs59] ∧ Inc H25 H ∧ Els (up wa.heap.size H) eI 1 cs55 s52.1 ∧ Els (up wa.heap.size H) ePlaneStep 6 cs59 s52.2.1 ∧ (bl cs59).Nodup ∧ f 24 = Value.int .i64 ((i52 : Nat) : Int) ∧ f 1 = v1 ∧ f 2 = Value.pointer (some ⟨b21, 0, none⟩) ∧ f 6 = Value.pointer (some (⟨b35, 0, none⟩ : Addr)) ∧ f 7 = v53 ∧ f 22 = v1 ∧ f 23 = Value.int .i64 (len a1)) (fun q e f w => match q with | .go s52 => e = Exit.exit 0 ∧ (∃ H : GH, ∃ v53 : Value, ∃ n54 : Nat, ∃ cs55 : List Value, ∃ v57 : Value, ∃ n58 : Nat, ∃ cs59 : List Value, St Ha wa H w [.row 3 1 v53 n54 cs55, .box b35 118 [Value.int .i64 s52.2.2, v57], .row 129 6 v57 n58 cs59] ∧ Inc H25 H ∧ Els (up wa.heap.size H) eI 1 cs55 s52.1 ∧ Els (up wa.heap.size H) ePlaneStep 6 cs59 s52.2.1 ∧ (bl cs59).Nodup ∧ f 6 = Value.pointer (some (⟨b35, 0, none⟩ : Addr)) ∧ f 7 = v53) | .rt x => ((e = Exit.ret) ∧ (fun e f w => (e = Exit.normal ∨ e = Exit.ret) ∧ ∀ a, Fr (δ := []) 112 a f → ∃ v, (results Tryz.f25 a.tmps).run Tryz.prog w = .ok v w ∧ (p_impl_ProofToPlanes Ha wa x) (.returned v) w) e f w)) hq ⟨_, _, _, _, _, _, _, S46, (Inc.rfl _), els47, els40, (show (bl []).Nodup from List.nodup_nil), rfl, rfl, rfl, rfl, rfl, rfl, rfl⟩ ?_ ?_) ?_
  ·
   clear hp hq
   rintro i52 y51 s52 f66 w65 ⟨H62, v53, n54, cs55, v57, n58, cs59, S63, i64, els56, els60, nd61, k67, k68, k69, k70, k71, k72, k74⟩ hx52 o483 hp
   refine FW.seq (FW.region ?_)
   refine FL.v (E.lssT k67 k74 (lss_len hx52)) ?_
   refine FL.nil (FW.seq ?_)
   refine FW.condT rfl rfl ?_
   refine FW.skip (FW.seq (FW.block (FW.seq (FW.region ?_))))
   refine FL.v (E.move k67) ?_
   obtain ⟨p75, cs76, pt77, l78, at79, rel80⟩ := p1.at (ix_nat hx52)
   obtain ⟨v81, rfl, h82⟩ := eResStep_open rel80
   refine FL.v (E.indexAddr te34 k72 k67 pt77) ?_
   refine FL.v (E.load rfl (run_loadA Tryz.isAgg88 Tryz.sizeOf88 ((at79.mono (i27.tr i64)).now S63.sl) rfl)) ?_
   obtain ⟨b83, w84, run85, S86⟩ := S63.alloc (P := Tryz.prog) 88 [Value.slice none 0 0, Value.int .i64 0, Value.int .i64 0, Value.int .i64 0] Tryz.zeroValue88 rfl (ones_cons rfl (ones_cons rfl (ones_cons rfl (ones_cons rfl ones_nil))))
   refine FL.v (E.alloc run85) ?_
   refine FL.v (E.assign (v := Value.int .i64 ((i52 : Nat) : Int)) rfl) ?_
   obtain ⟨w87, run89, S90⟩ := S86.store0 (P := Tryz.prog) (t := 88) (i := 0) (cs' := [v81, Value.int .i64 y51.left, Value.int .i64 y51.right, Value.int .i64 y51.pivot]) (l' := [.box b83 88 [v81, Value.int .i64 y51.left, Value.int .i64 y51.right, Value.int .i64 y51.pivot], .row 3 1 v53 n54 cs55, .box b35 118 [Value.int .i64 s52.2.2, v57], .row 129 6 v57 n58 cs59]) (v := Value.agg #[v81, Value.int .i64 y51.left, Value.int .i64 y51.right, Value.int .i64 y51.pivot]) (c := [v81, Value.int .i64 y51.left, Value.int .i64 y51.right, Value.int .i64 y51.pivot]) rfl Tryz.sizeOf88 rfl rfl (ones_cons h82.one (ones_cons rfl (ones_cons rfl (ones_cons rfl ones_nil)))) (Nat.le_of_ble_eq_true rfl) rfl rfl
   refine FL.act rfl rfl (E.store rfl rfl run89) ?_
   obtain ⟨H91, S92, i93, at94⟩ := S90.sealBox (i := 0) (l' := [.row 3 1 v53 n54 cs55, .box b35 118 [Value.int .i64 s52.2.2, v57], .row 129 6 v57 n58 cs59]) rfl rfl
   refine FL.nil (FW.seq ?_)
   obtain ⟨q96, hq, hp⟩ := bndR hp
   refine FW.joinE (S := ((List Int) × (List PlaneStep) × Int)) (X := Empty) (q := q96) (fun s95 f w => ∃ H : GH, ∃ v98 : Value, ∃ n99 : Nat, ∃ cs100 : List Value, ∃ v102 : Value, ∃ n103 : Nat, ∃ cs104 : List Value, St Ha wa H w [.row 3 1 v98 n99 cs100, .box b35 118 [Value.int .i64 s95.2.2, v102], .row 129 6 v102 n103 cs104] ∧ Inc H91 H ∧ Els (up wa.heap.size H) eI 1 cs100 s95.1 ∧ Els (up wa.heap.size H) ePlaneStep 6 cs104 s95.2.1 ∧ (bl cs104).Nodup ∧ f 1 = v1 ∧ f 2 = Value.pointer (some ⟨b21, 0, none⟩) ∧ f 6 = Value.pointer (some (⟨b35, 0, none⟩ : Addr)) ∧ f 7 = v98 ∧ f 22 = v1 ∧ f 23 = Value.int .i64 (len a1) ∧ f 24 = Value.int .i64 ((i52 : Nat) : Int)) (fun (_ : Empty) _ _ _ => False) ?_ ?_ ?_
   ·
    clear hp; have hp := hq; clear hq
    refine FW.block (FW.seq (FW.region ?_))
    refine FL.v (E.load rfl (run_loadA Tryz.isAgg88 Tryz.sizeOf88 (at94.now S92.sl) rfl)) ?_
    refine FL.call rfl rfl rfl (E.call Tryz.call80 (A1 rfl)) (w_impl_ResStep_isAxiom S92.sl y51 v81 (h82.mono ((i27.tr i64).tr i93))) ?_
    rintro e w107 ⟨rfl, r108⟩
    refine ⟨_, rfl, ?_⟩
    have S109 := S92.call r108
    refine FL.v (E.assign (v := Value.bool (PF.impl_ResStep_isAxiom y51)) rfl) ?_
    refine FL.nil ?_
    rcases ifB hp with ⟨c110, hp⟩ | ⟨c110, hp⟩
    ·
     refine FW.condT rfl c110 ?_
     refine FW.region ?_
     refine FL.v (E.move k71) ?_
     refine FL.v (E.move (v := Value.int .i64 ((i52 : Nat) : Int)) rfl) ?_
     refine FL.v (E.move k70) ?_
     refine FL.v (E.load k69 (run_loadA Tryz.isAgg32 Tryz.sizeOf32 ((at28.mono (i64.tr i93)).now S109.sl) rfl)) ?_
     refine FL.v (E.fieldAddr tf88_2 rfl) ?_
     refine FL.v (E.load rfl (run_load1 Tryz.isAgg3 (at94.now S109.sl) rfl)) ?_
     obtain ⟨s111, hq111, hp⟩ := bnd hp
     obtain ⟨R111, hR111⟩ : ∃ R111 : ((List PlaneStep) × Int × Int) → Ending → World → Prop, R111 = (fun s111 e w => ∃ H : GH, ∃ v112 : Value, ∃ n113 : Nat, ∃ cs114 : List Value, e = Ending.returned (Value.int .i64 s111.2.2) ∧ St Ha wa H w [.row 3 1 v53 n54 cs55, .box b35 118 [Value.int .i64 s111.2.1, v112], .row 129 6 v112 n113 cs114] ∧ Inc H91 H ∧ Els (up wa.heap.size H) ePlaneStep 6 cs114 s111.1 ∧ (bl cs114).Nodup) := ⟨_, rfl⟩
     have hc111 : Calls Tryz.prog 81 #[Value.pointer (some (⟨b35, 0, none⟩ : Addr)), Value.agg #[Value.int .i64 a0.vars, v0_1], Value.int .i64 y51.right] w107 (R111 s111) := by
      clear hp; have hp := hq111; clear hq111
      refine calls_go (N := 21) (args := [Value.pointer (some (⟨b35, 0, none⟩ : Addr)), Value.agg #[Value.int .i64 a0.vars, v0_1], Value.int .i64 y51.right]) Tryz.func81 rfl rfl rfl ?_
      refine FW.seq (FW.region ?_)
      obtain ⟨b117, w119, run120, S121⟩ := S109.box (P := Tryz.prog) 32 [Value.int .i64 a0.vars, v0_1] (v := Value.agg #[Value.int .i64 a0.vars, v0_1]) rfl (ones_cons rfl (ones_cons p0_1.one ones_nil))
      refine FL.v (E.box rfl run120) ?_
      obtain ⟨H122, S123, i124, at125⟩ := S121.sealBox (i := 0) (l' := [.row 3 1 v53 n54 cs55, .box b35 118 [Value.int .i64 s52.2.2, v57], .row 129 6 v57 n58 cs59]) rfl rfl
      refine FL.v (E.assign (v := Value.int .i64 0) rfl) ?_
      refine FL.nil (FW.seq ?_)
      obtain ⟨x135, hx136, hp⟩ := bnd hp
      obtain ⟨r139, hr140, hp⟩ := bnd hp
      obtain ⟨s195, hq195, hp⟩ := bnd hp
      refine FW.drawB (Sl H122) (fun f w => ∃ H : GH, ∃ v148 : Value, ∃ n149 : Nat, ∃ cs150 : List Value, St Ha wa H w [.row 3 1 v53 n54 cs55, .box b35 118 [Value.int .i64 s195.2.1, v148], .row 129 6 v148 n149 cs150] ∧ Inc H122 H ∧ Els (up wa.heap.size H) ePlaneStep 6 cs150 s195.1 ∧ (bl cs150).Nodup ∧ f 6 = Value.int .i64 s195.2.2) (by kernel_rfl) S123.sl ?_ ?_
      ·
       intro w126 r127
       have S128 := S123.call r127
       refine FB.phase [13] (fun w => WAt w (Addr.add ⟨b35, 0, none⟩ 0) [Value.int .i64 s52.2.2]) ?_
       refine FB.t (i := 0) (bs 15 1) rfl (SP.on ((S128.box_now (i := 1) rfl).sub (j := 0) (n := 1) (c := [Value.int .i64 s52.2.2]) rfl) (SP.nil S128.sl)) rfl (fun w' hw' => (E.move (v := Value.pointer (some (⟨b35, 0, none⟩ : Addr))) rfl)) ?_
       refine FB.t (i := 1) (bs 15 3) rfl (SP.on ((S128.box_now (i := 1) rfl).sub (j := 0) (n := 1) (c := [Value.int .i64 s52.2.2]) rfl) (SP.nil S128.sl)) rfl (fun w' hw' => (E.move (v := Value.pointer (some (⟨b35, 0, none⟩ : Addr))) rfl)) ?_
       refine FB.t (i := 2) (bs 15 7) rfl (SP.on ((S128.box_now (i := 1) rfl).sub (j := 0) (n := 1) (c := [Value.int .i64 s52.2.2]) rfl) (SP.nil S128.sl)) rfl (fun w' hw' => (E.nilCheck rfl)) ?_
       refine FB.t (i := 3) (bs 15 15) rfl (SP.on ((S128.box_now (i := 1) rfl).sub (j := 0) (n := 1) (c := [Value.int .i64 s52.2.2]) rfl) (SP.nil S128.sl)) rfl (fun w' hw' => (E.fieldAddr tf118_0 rfl)) ?_
       refine FB.p (i := 4) (bs 15 31) 0 [10, 12, 13, 14] rfl (SP.on ((S128.box_now (i := 1) rfl).sub (j := 0) (n := 1) (c := [Value.int .i64 s52.2.2]) rfl) (SP.nil S128.sl)) rfl rfl (fun w' hw' => (E.load rfl (run_load0 Tryz.isAgg3 hw' rfl))) ?_
       refine FB.t (i := 5) (bs 15 63) rfl (SP.on ((S128.box_now (i := 1) rfl).sub (j := 0) (n := 1) (c := [Value.int .i64 s52.2.2]) rfl) (SP.nil S128.sl)) rfl (fun w' hw' => (E.fieldAddr tf32_1 rfl)) ?_
       refine FB.t (i := 6) (bs 15 127) rfl (SP.on ((S128.box_now (i := 1) rfl).sub (j := 0) (n := 1) (c := [Value.int .i64 s52.2.2]) rfl) (SP.nil S128.sl)) rfl (fun w' hw' => (E.load rfl (run_load1 Tryz.isAgg22 (at125.now hw') rfl))) ?_
       refine FB.t (i := 7) (bs 15 255) rfl (SP.on ((S128.box_now (i := 1) rfl).sub (j := 0) (n := 1) (c := [Value.int .i64 s52.2.2]) rfl) (SP.nil S128.sl)) rfl (fun w' hw' => (E.move (v := Value.int .i64 y51.right) rfl)) ?_
       obtain ⟨p129, cs130, pt131, l132, at133, rel134⟩ := p0_1.at hx136
       obtain ⟨v137, rfl, h138⟩ := eL_open rel134
       refine FB.t (i := 8) (bs 15 511) rfl (SP.on ((S128.box_now (i := 1) rfl).sub (j := 0) (n := 1) (c := [Value.int .i64 s52.2.2]) rfl) (SP.nil S128.sl)) rfl (fun w' hw' => (E.indexAddr te22 rfl rfl pt131)) ?_
       refine FB.t (i := 9) (bs 15 1023) rfl (SP.on ((S128.box_now (i := 1) rfl).sub (j := 0) (n := 1) (c := [Value.int .i64 s52.2.2]) rfl) (SP.nil S128.sl)) rfl (fun w' hw' => (E.load rfl (run_load0 Tryz.isAgg73 ((at133.mono (((i27.tr i64).tr i93).tr i124)).now hw') rfl))) ?_
       refine FB.t (i := 11) (bs 15 3071) rfl (SP.on ((S128.box_now (i := 1) rfl).sub (j := 0) (n := 1) (c := [Value.int .i64 s52.2.2]) rfl) (SP.nil S128.sl)) rfl (fun w' hw' => (E.move (v := Value.int .i64 y51.right) rfl)) ?_
       refine FB.all1 (i := 10) (by kernel_rfl) ?_
       ·
        refine FC.call (l' := (bs 15 4095)) rfl (by kernel_rfl) rfl rfl rfl (E.call Tryz.call141 (A2 rfl rfl)) (w_impl_planeOf S128.sl s52.2.2 v137 x135 (h138.mono (((i27.tr i64).tr i93).tr i124)) hr140) ?_
        rintro e w142 ⟨H141, v145, rfl, r144, h146⟩
        refine ⟨_, rfl, ?_⟩
        have nv147 : New H122 [v145] := New.of_up S128.sl h146.dom
        have h146 := h146.mono (up_le S128.size)
        have S143 := S128.call r144
        refine ⟨(SP.on ((S143.box_now (i := 1) rfl).sub (j := 0) (n := 1) (c := [Value.int .i64 s52.2.2]) rfl) (SP.nil (Sl.of_inc r144.inc S143.sl))), ?_⟩
        refine FB.t (i := 12) (bs 15 8191) rfl (SP.on ((S143.box_now (i := 1) rfl).sub (j := 0) (n := 1) (c := [Value.int .i64 s52.2.2]) rfl) (SP.nil (Sl.of_inc r144.inc S143.sl))) rfl (fun w' hw' => (E.build (B3 rfl rfl rfl) (run_build _ 129 #[(0, Value.agg #[v145, Value.int .i64 r139.bound]), (1, Value.int .i64 1), (2, Value.int .i64 y51.right)] #[v145, Value.int .i64 r139.bound, Value.int .i64 1, Value.int .i64 y51.right, Value.int .i64 0, Value.int .i64 0] (by obtain ⟨_, _, rfl⟩ := RSl.ln (h146.mono upI); rfl)))) ?_
        refine FB.all1 (i := 13) (by kernel_rfl) ?_
        ·
         obtain ⟨R195, hR195⟩ : ∃ R195 : ((List PlaneStep) × Int × Int) → Ending → World → Prop, R195 = (fun s195 e w => ∃ H : GH, ∃ v196 : Value, ∃ n197 : Nat, ∃ cs198 : List Value, e = Ending.returned (Value.int .i64 s195.2.2) ∧ St Ha wa H w [.row 3 1 v53 n54 cs55, .box b35 118 [Value.int .i64 s195.2.1, v196], .row 129 6 v196 n197 cs198] ∧ Inc H141 H ∧ Els (up wa.heap.size H) ePlaneStep 6 cs198 s195.1 ∧ (bl cs198).Nodup) := ⟨_, rfl⟩
         have hc195 : Calls Tryz.prog 140 #[Value.pointer (some (⟨b35, 0, none⟩ : Addr)), Value.agg #[v145, Value.int .i64 r139.bound, Value.int .i64 1, Value.int .i64 y51.right, Value.int .i64 0, Value.int .i64 0]] w142 (R195 s195) := by
          clear hp; have hp := hq195; clear hq195
          refine calls_go (N := 21) (args := [Value.pointer (some (⟨b35, 0, none⟩ : Addr)), Value.agg #[v145, Value.int .i64 r139.bound, Value.int .i64 1, Value.int .i64 y51.right, Value.int .i64 0, Value.int .i64 0]]) Tryz.func140 rfl rfl rfl ?_
          refine FW.seq (FW.region ?_)
          obtain ⟨b201, w202, run203, S204⟩ := S143.box (P := Tryz.prog) 129 [v145, Value.int .i64 r139.bound, Value.int .i64 1, Value.int .i64 y51.right, Value.int .i64 0, Value.int .i64 0] (v := Value.agg #[v145, Value.int .i64 r139.bound, Value.int .i64 1, Value.int .i64 y51.right, Value.int .i64 0, Value.int .i64 0]) rfl (ones_cons h146.one (ones_cons rfl (ones_cons rfl (ones_cons rfl (ones_cons rfl (ones_cons rfl ones_nil))))))
          refine FL.v (E.box rfl run203) ?_
          obtain ⟨H205, S206, i207, at208⟩ := S204.sealBox (i := 0) (l' := [.row 3 1 v53 n54 cs55, .box b35 118 [Value.int .i64 s52.2.2, v57], .row 129 6 v57 n58 cs59]) rfl rfl
          refine FL.v (E.assign (v := Value.int .i64 0) rfl) ?_
          refine FL.nil (FW.seq ?_)
          obtain ⟨xs236, hz237, hp⟩ := bnd hp
          refine FW.drawB (Sl H205) (fun f w => ∃ H : GH, ∃ v302 : Value, ∃ n303 : Nat, ∃ cs304 : List Value, St Ha wa H w [.row 3 1 v53 n54 cs55, .box b35 118 [Value.int .i64 s52.2.2, v302], .row 129 6 v302 n303 cs304] ∧ Inc H205 H ∧ Els (up wa.heap.size H) ePlaneStep 6 cs304 xs236 ∧ (bl cs304).Nodup ∧ f 0 = Value.pointer (some (⟨b35, 0, none⟩ : Addr))) (by kernel_rfl) S206.sl ?_ ?_
          ·
           intro w209 r210
           have S211 := S206.call r210
           refine FB.phase [10] (fun w => WAt w (Addr.add ⟨b35, 0, none⟩ 1) [v57]) ?_
           refine FB.t (i := 0) (bs 11 1) rfl (SP.on ((S211.box_now (i := 1) rfl).sub (j := 1) (n := 1) (c := [v57]) rfl) (SP.nil S211.sl)) rfl (fun w' hw' => (E.move (v := Value.pointer (some (⟨b35, 0, none⟩ : Addr))) rfl)) ?_
           refine FB.t (i := 1) (bs 11 3) rfl (SP.on ((S211.box_now (i := 1) rfl).sub (j := 1) (n := 1) (c := [v57]) rfl) (SP.nil S211.sl)) rfl (fun w' hw' => (E.move (v := Value.pointer (some (⟨b35, 0, none⟩ : Addr))) rfl)) ?_
           refine FB.t (i := 2) (bs 11 7) rfl (SP.on ((S211.box_now (i := 1) rfl).sub (j := 1) (n := 1) (c := [v57]) rfl) (SP.nil S211.sl)) rfl (fun w' hw' => (E.nilCheck rfl)) ?_
           refine FB.t (i := 3) (bs 11 15) rfl (SP.on ((S211.box_now (i := 1) rfl).sub (j := 1) (n := 1) (c := [v57]) rfl) (SP.nil S211.sl)) rfl (fun w' hw' => (E.fieldAddr tf118_1 rfl)) ?_
           refine FB.p (i := 4) (bs 11 31) 0 [7, 8, 9, 10] rfl (SP.on ((S211.box_now (i := 1) rfl).sub (j := 1) (n := 1) (c := [v57]) rfl) (SP.nil S211.sl)) rfl rfl (fun w' hw' => (E.load rfl (run_load0 Tryz.isAgg45 hw' rfl))) ?_
           refine FB.t (i := 5) (bs 11 63) rfl (SP.on ((S211.box_now (i := 1) rfl).sub (j := 1) (n := 1) (c := [v57]) rfl) (SP.nil S211.sl)) rfl (fun w' hw' => (E.load rfl (run_loadA Tryz.isAgg129 Tryz.sizeOf129 (at208.now hw') rfl))) ?_
           refine FB.all1 (i := 6) (by kernel_rfl) ?_
           ·
            obtain ⟨v222, w223, run224, S225⟩ := S211.buildSlice (P := Tryz.prog) te45 [Value.agg #[v145, Value.int .i64 r139.bound, Value.int .i64 1, Value.int .i64 y51.right, Value.int .i64 0, Value.int .i64 0]] (parts := #[(0, Value.agg #[v145, Value.int .i64 r139.bound, Value.int .i64 1, Value.int .i64 y51.right, Value.int .i64 0, Value.int .i64 0])]) (cells := [v145, Value.int .i64 r139.bound, Value.int .i64 1, Value.int .i64 y51.right, Value.int .i64 0, Value.int .i64 0]) rfl (szs_cons rfl szs_nil) (fc_cons rfl fc_nil) (ones_cons h146.one (ones_cons rfl (ones_cons rfl (ones_cons rfl (ones_cons rfl (ones_cons rfl ones_nil)))))) (Nat.le_of_ble_eq_true rfl)
            have els226 : Els (up wa.heap.size H205) ePlaneStep 6 [v145, Value.int .i64 r139.bound, Value.int .i64 1, Value.int .i64 y51.right, Value.int .i64 0, Value.int .i64 0] [(PlaneStep.mk r139 1 y51.right 0 0)] := (Els.snoc (H := (up wa.heap.size H205)) (E := ePlaneStep) (k := 6) (c := [v145, Value.int .i64 r139.bound, Value.int .i64 1, Value.int .i64 y51.right, Value.int .i64 0, Value.int .i64 0]) (x := (PlaneStep.mk r139 1 y51.right 0 0)) Els.nil rfl ⟨_, rfl, (h146.mono (up_mono i207))⟩)
            have nd227 : (bl [v145, Value.int .i64 r139.bound, Value.int .i64 1, Value.int .i64 y51.right, Value.int .i64 0, Value.int .i64 0]).Nodup := by exact nd_one v145
            refine FC.val (l' := (bs 11 127)) rfl (by kernel_rfl) rfl rfl rfl (E.buildSlice (B1 rfl) run224) ?_
            refine ⟨(SP.on ((S225.box_now (i := 2) rfl).sub (j := 1) (n := 1) (c := [v57]) rfl) (SP.nil S225.sl)), ?_⟩
            refine FB.all1 (i := 7) (by kernel_rfl) ?_
            ·
             obtain ⟨v238, w241, n239, cs240, run242, S243, els244, ce245⟩ := S225.appendO (P := Tryz.prog) te45 (i := 3) (j := 0) rfl (els60.mono (up_mono (((i93.tr i124).tr r144.inc).tr i207))) rfl els226 hz237
             have S243 : St Ha wa H205 w241 [.row 129 6 v222 1 [v145, Value.int .i64 r139.bound, Value.int .i64 1, Value.int .i64 y51.right, Value.int .i64 0, Value.int .i64 0], .row 3 1 v53 n54 cs55, .box b35 118 [Value.int .i64 s52.2.2, v57], .row 129 6 v238 n239 cs240] := S243
             have nd246 : (bl cs240).Nodup := by rw [ce245]; exact nd_app nd61 nd227 (Els.dom (els60.mono (upI.tr (i93.tr i124)))) (by exact nv147)
             have S247 : St Ha wa H205 w241 [.row 3 1 v53 n54 cs55, .box b35 118 [Value.int .i64 s52.2.2, v57], .row 129 6 v238 n239 cs240] := S243.drop 0
             refine FC.val (l' := (bs 11 255)) rfl (by kernel_rfl) rfl rfl rfl (E.append rfl rfl run242) ?_
             refine ⟨(SP.on ((S247.box_now (i := 1) rfl).sub (j := 1) (n := 1) (c := [v57]) rfl) (SP.nil S247.sl)), ?_⟩
             refine FB.t (i := 8) (bs 11 511) rfl (SP.on ((S247.box_now (i := 1) rfl).sub (j := 1) (n := 1) (c := [v57]) rfl) (SP.nil S247.sl)) rfl (fun w' hw' => (E.nilCheck rfl)) ?_
             refine FB.t (i := 9) (bs 11 1023) rfl (SP.on ((S247.box_now (i := 1) rfl).sub (j := 1) (n := 1) (c := [v57]) rfl) (SP.nil S247.sl)) rfl (fun w' hw' => (E.fieldAddr tf118_1 rfl)) ?_
             refine FB.all1 (i := 10) (by kernel_rfl) ?_
             ·
              obtain ⟨w275, run276, S277⟩ := S247.store (P := Tryz.prog) (t := 45) (i := 1) (j := 1) (cs' := [Value.int .i64 s52.2.2, v238]) (l' := [.row 3 1 v53 n54 cs55, .box b35 118 [Value.int .i64 s52.2.2, v238], .row 129 6 v238 n239 cs240]) (v := v238) (c := [v238]) rfl Tryz.sizeOf45 (Ln.cells (S247.row_ln (i := 2) rfl)) rfl (ones_cons (Ln.one (S247.row_ln (i := 2) rfl)) ones_nil) (Nat.le_of_ble_eq_true rfl) rfl rfl
              refine FC.act (l' := (bs 11 2047)) rfl (by kernel_rfl) rfl rfl (E.store rfl rfl run276) ?_
              refine ⟨(SP.o (SP.nil S277.sl)), ?_⟩
              exact FB.done (by kernel_rfl) ⟨_, _, _, _, S277, (Inc.rfl _), els244, nd246, rfl⟩
          ·
           rintro f311 w310 ⟨H307, v302, n303, cs304, S308, i309, els305, nd306, k312⟩
           refine FW.seq (FW.region ?_)
           refine FL.v (E.move k312) ?_
           refine FL.v (E.nilCheck rfl) ?_
           refine FL.v (E.fieldAddr tf118_1 rfl) ?_
           refine FL.v (E.load rfl (run_load1 Tryz.isAgg45 (S308.box_now (i := 1) rfl) rfl)) ?_
           refine FL.v (E.lenO te45 rfl S308 (i := 2) rfl els305 (by decide)) ?_
           refine FL.v (E.sub rfl rfl) ?_
           refine FL.v (E.assign (v := Value.int .i64 (wr ((len xs236) - 1))) rfl) ?_
           refine FL.nil ?_
           refine FW.ret ?_
           obtain rfl := Option.some.inj hp
           exact ⟨.inr rfl, res1 rfl rfl (by rw [hR195]; exact ⟨_, _, _, _, rfl, S308, (i207.tr i309), els305, nd306⟩)⟩
         clear hq195
         refine FC.call (l' := (bs 15 16383)) rfl (by kernel_rfl) rfl rfl rfl (E.call Tryz.call140 (A2 rfl rfl)) hc195 ?_
         intro e w316 hQ195
         rw [hR195] at hQ195
         obtain ⟨H313, v196, n197, cs198, rfl, S314, i315, els199, nd200⟩ := hQ195
         refine ⟨_, rfl, ?_⟩
         refine ⟨(SP.o (SP.nil (Sl.of_inc (r144.inc.tr i315) S314.sl))), ?_⟩
         refine FB.t (i := 14) (bs 15 32767) rfl (SP.o (SP.nil (Sl.of_inc (r144.inc.tr i315) S314.sl))) rfl (fun w' hw' => (E.assign (v := Value.int .i64 s195.2.2) rfl)) ?_
         exact FB.done (by kernel_rfl) ⟨_, _, _, _, S314, (r144.inc.tr i315), els199, nd200, rfl⟩
      ·
       rintro f157 w156 ⟨H153, v148, n149, cs150, S154, i155, els151, nd152, k158⟩
       refine FW.ret ?_
       obtain rfl := Option.some.inj hp
       exact ⟨.inr rfl, res1 rfl k158 (by rw [hR111]; exact ⟨_, _, _, _, rfl, S154, (i124.tr i155), els151, nd152⟩)⟩
     clear hq111
     refine FL.call rfl rfl rfl (E.call Tryz.call81 (A3 rfl rfl rfl)) hc111 ?_
     intro e w162 hQ111
     rw [hR111] at hQ111
     obtain ⟨H159, v112, n113, cs114, rfl, S160, i161, els115, nd116⟩ := hQ111
     refine ⟨_, rfl, ?_⟩
     obtain ⟨x169, hx170, hp⟩ := bnd hp
     obtain ⟨p163, cs164, pt165, l166, at167, rel168⟩ := S160.row_at (i := 0) rfl els56 (by decide) hx170
     obtain rfl := eI_open rel168
     refine FL.v (E.indexAddr te73 rfl rfl pt165) ?_
     obtain ⟨xs174, hput175, hp⟩ := bnd hp
     obtain ⟨w171, cs177, run172, S173, els176, ce178⟩ := S160.putEls (P := Tryz.prog) (t := 3) (i := 0) rfl (els56.mono (up_mono (i93.tr i161))) hput175 pt165 Tryz.sizeOf3 (u := Value.int .i64 s111.2.2) (c := [Value.int .i64 s111.2.2]) rfl rfl (ones_cons rfl ones_nil) rfl
     have S173 : St Ha wa H159 w171 [.row 3 1 v53 n54 cs177, .box b35 118 [Value.int .i64 s111.2.1, v112], .row 129 6 v112 n113 cs114] := S173
     refine FL.act rfl rfl (E.store rfl rfl run172) ?_
     refine FL.nil ?_
     obtain rfl := Option.some.inj hp
     exact ⟨rfl, ⟨_, _, _, _, _, _, _, S173, i161, els176, els115, nd116, k68, k69, k70, k71, k72, k74, k67⟩⟩
    ·
     refine FW.condF rfl c110 ?_
     refine FW.seq (FW.region ?_)
     refine FL.v (E.load rfl (run_loadA Tryz.isAgg88 Tryz.sizeOf88 (at94.now S109.sl) rfl)) ?_
     refine FL.call rfl rfl rfl (E.call Tryz.call82 (A1 rfl)) (w_impl_ResStep_isWeakening S109.sl y51 v81 (h82.mono ((i27.tr i64).tr i93))) ?_
     rintro e w179 ⟨rfl, r180⟩
     refine ⟨_, rfl, ?_⟩
     have S181 := S109.call r180
     refine FL.v (E.assign (v := Value.bool (PF.impl_ResStep_isWeakening y51)) rfl) ?_
     refine FL.nil ?_
     rcases ifB hp with ⟨c182, hp⟩ | ⟨c182, hp⟩
     ·
      refine FW.condT rfl c182 ?_
      obtain ⟨x192, hx193, hp⟩ := bnd hp
      obtain ⟨x218, hx219, hp⟩ := bnd hp
      obtain ⟨r226, hr227, hp⟩ := bnd hp
      obtain ⟨r245, hr246, hp⟩ := bnd hp
      obtain ⟨x264, hx265, hp⟩ := bnd hp
      obtain ⟨xs270, hput271, hp⟩ := bnd hp
      refine FW.drawB (Sl H91) (fun f w => ∃ H : GH, ∃ v278 : Value, ∃ n279 : Nat, ∃ cs280 : List Value, ∃ v282 : Value, ∃ n283 : Nat, ∃ cs284 : List Value, St Ha wa H w [.row 3 1 v278 n279 cs280, .box b35 118 [Value.int .i64 r245.2.vars, v282], .row 129 6 v282 n283 cs284] ∧ Inc H91 H ∧ Els (up wa.heap.size H) eI 1 cs280 xs270 ∧ Els (up wa.heap.size H) ePlaneStep 6 cs284 r245.2.steps ∧ (bl cs284).Nodup ∧ f 1 = v1 ∧ f 2 = Value.pointer (some ⟨b21, 0, none⟩) ∧ f 6 = Value.pointer (some (⟨b35, 0, none⟩ : Addr)) ∧ f 7 = v278 ∧ f 22 = v1 ∧ f 23 = Value.int .i64 (len a1) ∧ f 24 = Value.int .i64 ((i52 : Nat) : Int)) (by kernel_rfl) S181.sl ?_ ?_
      ·
       intro w183 r184
       have S185 := S181.call r184
       refine FB.t (i := 0) (bs 20 1) rfl (SP.nil S185.sl) rfl (fun w' hw' => (E.move k71)) ?_
       refine FB.t (i := 1) (bs 20 3) rfl (SP.nil S185.sl) rfl (fun w' hw' => (E.move (v := Value.int .i64 ((i52 : Nat) : Int)) rfl)) ?_
       refine FB.t (i := 2) (bs 20 7) rfl (SP.nil S185.sl) rfl (fun w' hw' => (E.move k70)) ?_
       refine FB.t (i := 3) (bs 20 15) rfl (SP.nil S185.sl) rfl (fun w' hw' => (E.move k71)) ?_
       refine FB.t (i := 4) (bs 20 31) rfl (SP.nil S185.sl) rfl (fun w' hw' => (E.fieldAddr tf88_1 rfl)) ?_
       refine FB.t (i := 5) (bs 20 63) rfl (SP.nil S185.sl) rfl (fun w' hw' => (E.load rfl (run_load1 Tryz.isAgg3 (at94.now hw') rfl))) ?_
       obtain ⟨p186, cs187, pt188, l189, at190, rel191, hall194⟩ := S185.row_atA (i := 0) rfl els56 (by decide) hx193
       obtain rfl := eI_open rel191
       refine FB.t (i := 6) (bs 20 127) rfl (SP.nil S185.sl) rfl (fun w' hw' => (E.indexAddr te73 rfl rfl pt188)) ?_
       refine FB.phase [19] (fun w' => WAt w' p186 [Value.int .i64 x192]) ?_
       refine FB.p (i := 7) (bs 20 255) 0 [17, 18, 19] rfl (SP.on (hall194 _ _ _ 0 S185 rfl) (SP.nil S185.sl)) rfl rfl (fun w' hw' => (E.load rfl (run_load0 Tryz.isAgg3 hw' rfl))) ?_
       refine FB.t (i := 8) (bs 20 511) rfl (SP.on (hall194 _ _ _ 0 S185 rfl) (SP.nil S185.sl)) rfl (fun w' hw' => (E.fieldAddr tf88_0 rfl)) ?_
       refine FB.t (i := 9) (bs 20 1023) rfl (SP.on (hall194 _ _ _ 0 S185 rfl) (SP.nil S185.sl)) rfl (fun w' hw' => (E.load rfl (run_load1 Tryz.isAgg73 (at94.now hw') rfl))) ?_
       refine FB.t (i := 10) (bs 20 2047) rfl (SP.on (hall194 _ _ _ 0 S185 rfl) (SP.nil S185.sl)) rfl (fun w' hw' => (E.move k68)) ?_
       refine FB.t (i := 11) (bs 20 4095) rfl (SP.on (hall194 _ _ _ 0 S185 rfl) (SP.nil S185.sl)) rfl (fun w' hw' => (E.fieldAddr tf88_1 rfl)) ?_
       refine FB.t (i := 12) (bs 20 8191) rfl (SP.on (hall194 _ _ _ 0 S185 rfl) (SP.nil S185.sl)) rfl (fun w' hw' => (E.load rfl (run_load1 Tryz.isAgg3 (at94.now hw') rfl))) ?_
       obtain ⟨p212, cs213, pt214, l215, at216, rel217⟩ := p1.at hx219
       obtain ⟨v220, rfl, h221⟩ := eResStep_open rel217
       refine FB.t (i := 13) (bs 20 16383) rfl (SP.on (hall194 _ _ _ 0 S185 rfl) (SP.nil S185.sl)) rfl (fun w' hw' => (E.indexAddr te34 rfl rfl pt214)) ?_
       refine FB.t (i := 14) (bs 20 32767) rfl (SP.on (hall194 _ _ _ 0 S185 rfl) (SP.nil S185.sl)) rfl (fun w' hw' => (E.fieldAddr tf88_0 rfl)) ?_
       refine FB.t (i := 15) (bs 20 65535) rfl (SP.on (hall194 _ _ _ 0 S185 rfl) (SP.nil S185.sl)) rfl (fun w' hw' => (E.load rfl (run_load1 Tryz.isAgg73 ((at216.mono ((i27.tr i64).tr i93)).now hw') rfl))) ?_
       refine FB.all1 (i := 16) (by kernel_rfl) ?_
       ·
        refine FC.call (l' := (bs 20 131071)) rfl (by kernel_rfl) rfl rfl rfl (E.call Tryz.call84 (A2 rfl rfl)) (w_impl_further S185.sl v81 y51.clause (h82.mono ((i27.tr i64).tr i93)) v220 x218.clause (h221.mono ((i27.tr i64).tr i93)) hr227) ?_
        rintro e w229 ⟨H228, v232, n233, cs234, rfl, r231, els235⟩
        refine ⟨_, rfl, ?_⟩
        have els235 := els235.mono (up_le S185.size)
        have S230 := S185.join (l' := [.row 3 1 v232 n233 cs234, .row 3 1 v53 n54 cs55, .box b35 118 [Value.int .i64 s52.2.2, v57], .row 129 6 v57 n58 cs59]) r231 rfl
        refine ⟨(SP.on (hall194 _ _ _ 1 S230 rfl) (SP.nil (Sl.of_inc r231.run.inc S230.sl))), ?_⟩
        refine FB.all1 (i := 17) (by kernel_rfl) ?_
        ·
         obtain ⟨H240, S241, i242, h243, nv244⟩ := S230.sealRowU (i := 0) (l' := [.row 3 1 v53 n54 cs55, .box b35 118 [Value.int .i64 s52.2.2, v57], .row 129 6 v57 n58 cs59]) rfl els235 (by decide) rfl
         have S247 : St Ha wa H240 w229 [.row 129 6 v57 n58 cs59, .row 3 1 v53 n54 cs55, .box b35 118 [Value.int .i64 s52.2.2, v57]] := S241.front 2 rfl rfl
         have S248 : St Ha wa H240 w229 [.box b35 118 [Value.int .i64 s52.2.2, v57], .row 129 6 v57 n58 cs59, .row 3 1 v53 n54 cs55] := S247.front 2 rfl rfl
         refine FC.call (l' := (bs 20 262143)) rfl (by kernel_rfl) rfl rfl rfl (E.call Tryz.call83 (A3 rfl rfl rfl)) (w_impl_planer_literals (L := [.row 3 1 v53 n54 cs55]) S248 (a0 := (planer.mk s52.2.2 s52.2.1)) (els60.mono (up_mono ((i93.tr r231.run.inc).tr i242))) nd61 x192 v232 r226 (h243.mono upI) hr246) ?_
         rintro e w250 ⟨H249, v253, n254, cs255, rfl, ⟨S251, i252⟩, els256, nd257⟩
         refine ⟨_, rfl, ?_⟩
         have S251 : St Ha wa H249 w250 [.box b35 118 [Value.int .i64 r245.2.vars, v253], .row 129 6 v253 n254 cs255, .row 3 1 v53 n54 cs55] := S251
         refine ⟨(SP.on (hall194 _ _ _ 2 S251 rfl) (SP.nil (Sl.of_inc ((r231.run.inc.tr i242).tr i252) S251.sl))), ?_⟩
         obtain ⟨p258, cs259, pt260, l261, at262, rel263, hall266⟩ := S251.row_atA (i := 2) rfl els56 (by decide) hx265
         obtain rfl := eI_open rel263
         refine FB.t (i := 18) (bs 20 524287) rfl (SP.on (hall194 _ _ _ 2 S251 rfl) (SP.nil (Sl.of_inc ((r231.run.inc.tr i242).tr i252) S251.sl))) rfl (fun w' hw' => (E.indexAddr te73 rfl rfl pt260)) ?_
         refine FB.all1 (i := 19) (by kernel_rfl) ?_
         ·
          obtain ⟨w267, cs273, run268, S269, els272, ce274⟩ := S251.putEls (P := Tryz.prog) (t := 3) (i := 2) rfl (els56.mono (up_mono (((i93.tr r231.run.inc).tr i242).tr i252))) hput271 pt260 Tryz.sizeOf3 (u := Value.int .i64 r245.1) (c := [Value.int .i64 r245.1]) rfl rfl (ones_cons rfl ones_nil) rfl
          have S269 : St Ha wa H249 w267 [.box b35 118 [Value.int .i64 r245.2.vars, v253], .row 129 6 v253 n254 cs255, .row 3 1 v53 n54 cs273] := S269
          refine FC.act (l' := (bs 20 1048575)) rfl (by kernel_rfl) rfl rfl (E.store rfl rfl run268) ?_
          refine ⟨(SP.o (SP.nil (Sl.of_inc ((r231.run.inc.tr i242).tr i252) S269.sl))), ?_⟩
          exact FB.done (by kernel_rfl) ⟨_, _, _, _, _, _, _, (S269.sel [2, 0, 1] (by decide) rfl), ((r231.run.inc.tr i242).tr i252), els272, els256, nd257, k68, k69, k70, k71, k72, k74, k67⟩
      ·
       rintro f291 w290 ⟨H287, v278, n279, cs280, v282, n283, cs284, S288, i289, els281, els285, nd286, k292, k293, k294, k295, k296, k297, k298⟩
       obtain rfl := Option.some.inj hp
       exact ⟨rfl, ⟨_, _, _, _, _, _, _, S288, i289, els281, els285, nd286, k292, k293, k294, k295, k296, k297, k298⟩⟩
     ·
      refine FW.condF rfl c182 ?_
      refine FW.seq ?_
      obtain ⟨x323, hx324, hp⟩ := bnd hp
      obtain ⟨x332, hx333, hp⟩ := bnd hp
      obtain ⟨r335, hr336, hp⟩ := bnd hp
      refine FW.drawB (SX Ha wa H91 [.row 3 1 v53 n54 cs55]) (fun f w => ∃ H : GH, ∃ v348 : Value, ∃ n349 : Nat, ∃ cs350 : List Value, St Ha wa H w [.row 3 1 v53 n54 cs55, .box b35 118 [Value.int .i64 r335.2.vars, v348], .row 129 6 v348 n349 cs350] ∧ Inc H91 H ∧ Els (up wa.heap.size H) ePlaneStep 6 cs350 r335.2.steps ∧ (bl cs350).Nodup ∧ f 1 = v1 ∧ f 2 = Value.pointer (some ⟨b21, 0, none⟩) ∧ f 6 = Value.pointer (some (⟨b35, 0, none⟩ : Addr)) ∧ f 7 = v53 ∧ f 8 = Value.int .i64 ((i52 : Nat) : Int) ∧ f 9 = Value.pointer (some ⟨b83, 0, none⟩) ∧ f 10 = Value.int .i64 r335.1 ∧ f 22 = v1 ∧ f 23 = Value.int .i64 (len a1) ∧ f 24 = Value.int .i64 ((i52 : Nat) : Int)) (by kernel_rfl) S181.sl ?_ ?_
      ·
       intro w299 r300
       have S301 := S181.call r300
       refine FB.t (i := 0) (bs 13 1) rfl (SP.nil ⟨_, (S301.sel [0] (by decide) rfl), (Inc.rfl _)⟩) rfl (fun w' hw' => (E.move k70)) ?_
       refine FB.t (i := 1) (bs 13 3) rfl (SP.nil ⟨_, (S301.sel [0] (by decide) rfl), (Inc.rfl _)⟩) rfl (fun w' hw' => (E.move k71)) ?_
       refine FB.t (i := 2) (bs 13 7) rfl (SP.nil ⟨_, (S301.sel [0] (by decide) rfl), (Inc.rfl _)⟩) rfl (fun w' hw' => (E.fieldAddr tf88_1 rfl)) ?_
       refine FB.t (i := 3) (bs 13 15) rfl (SP.nil ⟨_, (S301.sel [0] (by decide) rfl), (Inc.rfl _)⟩) rfl (fun w' hw' => (E.load rfl (run_load1 Tryz.isAgg3 (at94.now hw'.sl) rfl))) ?_
       obtain ⟨p317, cs318, pt319, l320, at321, rel322, hall325⟩ := S301.row_atA (i := 0) rfl els56 (by decide) hx324
       obtain rfl := eI_open rel322
       refine FB.t (i := 4) (bs 13 31) rfl (SP.nil ⟨_, (S301.sel [0] (by decide) rfl), (Inc.rfl _)⟩) rfl (fun w' hw' => (E.indexAddr te73 rfl rfl pt319)) ?_
       refine FB.t (i := 5) (bs 13 63) rfl (SP.nil ⟨_, (S301.sel [0] (by decide) rfl), (Inc.rfl _)⟩) rfl (fun w' hw' => (E.load rfl (run_load0 Tryz.isAgg3 (hw'.use fun _ st => hall325 _ _ _ 0 st rfl) rfl))) ?_
       refine FB.t (i := 6) (bs 13 127) rfl (SP.nil ⟨_, (S301.sel [0] (by decide) rfl), (Inc.rfl _)⟩) rfl (fun w' hw' => (E.move k71)) ?_
       refine FB.t (i := 7) (bs 13 255) rfl (SP.nil ⟨_, (S301.sel [0] (by decide) rfl), (Inc.rfl _)⟩) rfl (fun w' hw' => (E.fieldAddr tf88_2 rfl)) ?_
       refine FB.t (i := 8) (bs 13 511) rfl (SP.nil ⟨_, (S301.sel [0] (by decide) rfl), (Inc.rfl _)⟩) rfl (fun w' hw' => (E.load rfl (run_load1 Tryz.isAgg3 (at94.now hw'.sl) rfl))) ?_
       obtain ⟨p326, cs327, pt328, l329, at330, rel331, hall334⟩ := S301.row_atA (i := 0) rfl els56 (by decide) hx333
       obtain rfl := eI_open rel331
       refine FB.t (i := 9) (bs 13 1023) rfl (SP.nil ⟨_, (S301.sel [0] (by decide) rfl), (Inc.rfl _)⟩) rfl (fun w' hw' => (E.indexAddr te73 rfl rfl pt328)) ?_
       refine FB.t (i := 10) (bs 13 2047) rfl (SP.nil ⟨_, (S301.sel [0] (by decide) rfl), (Inc.rfl _)⟩) rfl (fun w' hw' => (E.load rfl (run_load0 Tryz.isAgg3 (hw'.use fun _ st => hall334 _ _ _ 0 st rfl) rfl))) ?_
       refine FB.all1 (i := 11) (by kernel_rfl) ?_
       ·
        have S337 : St Ha wa H91 w299 [.row 129 6 v57 n58 cs59, .row 3 1 v53 n54 cs55, .box b35 118 [Value.int .i64 s52.2.2, v57]] := S301.front 2 rfl rfl
        have S338 : St Ha wa H91 w299 [.box b35 118 [Value.int .i64 s52.2.2, v57], .row 129 6 v57 n58 cs59, .row 3 1 v53 n54 cs55] := S337.front 2 rfl rfl
        refine FC.call (l' := (bs 13 4095)) rfl (by kernel_rfl) rfl rfl rfl (E.call Tryz.call85 (A3 rfl rfl rfl)) (w_impl_planer_add (L := [.row 3 1 v53 n54 cs55]) S338 (a0 := (planer.mk s52.2.2 s52.2.1)) (els60.mono (up_mono i93)) nd61 x323 x332 hr336) ?_
        rintro e w340 ⟨H339, v343, n344, cs345, rfl, ⟨S341, i342⟩, els346, nd347⟩
        refine ⟨_, rfl, ?_⟩
        have S341 : St Ha wa H339 w340 [.box b35 118 [Value.int .i64 r335.2.vars, v343], .row 129 6 v343 n344 cs345, .row 3 1 v53 n54 cs55] := S341
        refine ⟨(SP.nil ⟨_, (S341.sel [2] (by decide) rfl), i342⟩), ?_⟩
        refine FB.t (i := 12) (bs 13 8191) rfl (SP.nil ⟨_, (S341.sel [2] (by decide) rfl), i342⟩) rfl (fun w' hw' => (E.assign (v := Value.int .i64 r335.1) rfl)) ?_
        exact FB.done (by kernel_rfl) ⟨_, _, _, _, (S341.sel [2, 0, 1] (by decide) rfl), i342, els346, nd347, k68, k69, k70, k71, rfl, rfl, rfl, k72, k74, k67⟩
      ·
       rintro f357 w356 ⟨H353, v348, n349, cs350, S354, i355, els351, nd352, k358, k359, k360, k361, k362, k363, k364, k365, k366, k367⟩
       obtain ⟨x377, hx378, hp⟩ := bnd hp
       obtain ⟨x387, hx388, hp⟩ := bnd hp
       obtain ⟨r391, hr392, hp⟩ := bnd hp
       obtain ⟨r406, hr407, hp⟩ := bnd hp
       obtain ⟨r419, hr420, hp⟩ := bnd hp
       obtain ⟨x438, hx439, hp⟩ := bnd hp
       obtain ⟨xs444, hput445, hp⟩ := bnd hp
       refine FW.drawB (Sl H353) (fun f w => ∃ H : GH, ∃ v449 : Value, ∃ n450 : Nat, ∃ cs451 : List Value, ∃ v453 : Value, ∃ n454 : Nat, ∃ cs455 : List Value, St Ha wa H w [.row 3 1 v449 n450 cs451, .box b35 118 [Value.int .i64 r419.2.vars, v453], .row 129 6 v453 n454 cs455] ∧ Inc H353 H ∧ Els (up wa.heap.size H) eI 1 cs451 xs444 ∧ Els (up wa.heap.size H) ePlaneStep 6 cs455 r419.2.steps ∧ (bl cs455).Nodup ∧ f 1 = v1 ∧ f 2 = Value.pointer (some ⟨b21, 0, none⟩) ∧ f 6 = Value.pointer (some (⟨b35, 0, none⟩ : Addr)) ∧ f 7 = v449 ∧ f 22 = v1 ∧ f 23 = Value.int .i64 (len a1) ∧ f 24 = Value.int .i64 ((i52 : Nat) : Int)) (by kernel_rfl) S354.sl ?_ ?_
       ·
        intro w368 r369
        have S370 := S354.call r369
        refine FB.t (i := 0) (bs 24 1) rfl (SP.nil S370.sl) rfl (fun w' hw' => (E.move k361)) ?_
        refine FB.t (i := 1) (bs 24 3) rfl (SP.nil S370.sl) rfl (fun w' hw' => (E.move k362)) ?_
        refine FB.t (i := 2) (bs 24 7) rfl (SP.nil S370.sl) rfl (fun w' hw' => (E.move k360)) ?_
        refine FB.t (i := 3) (bs 24 15) rfl (SP.nil S370.sl) rfl (fun w' hw' => (E.move k360)) ?_
        refine FB.t (i := 4) (bs 24 31) rfl (SP.nil S370.sl) rfl (fun w' hw' => (E.move k364)) ?_
        refine FB.t (i := 5) (bs 24 63) rfl (SP.nil S370.sl) rfl (fun w' hw' => (E.fieldAddr tf88_0 k363)) ?_
        refine FB.t (i := 6) (bs 24 127) rfl (SP.nil S370.sl) rfl (fun w' hw' => (E.load rfl (run_load1 Tryz.isAgg73 ((at94.mono i355).now hw') rfl))) ?_
        refine FB.t (i := 7) (bs 24 255) rfl (SP.nil S370.sl) rfl (fun w' hw' => (E.move k358)) ?_
        refine FB.t (i := 8) (bs 24 511) rfl (SP.nil S370.sl) rfl (fun w' hw' => (E.fieldAddr tf88_1 k363)) ?_
        refine FB.t (i := 9) (bs 24 1023) rfl (SP.nil S370.sl) rfl (fun w' hw' => (E.load rfl (run_load1 Tryz.isAgg3 ((at94.mono i355).now hw') rfl))) ?_
        obtain ⟨p371, cs372, pt373, l374, at375, rel376⟩ := p1.at hx378
        obtain ⟨v379, rfl, h380⟩ := eResStep_open rel376
        refine FB.t (i := 10) (bs 24 2047) rfl (SP.nil S370.sl) rfl (fun w' hw' => (E.indexAddr te34 rfl rfl pt373)) ?_
        refine FB.t (i := 11) (bs 24 4095) rfl (SP.nil S370.sl) rfl (fun w' hw' => (E.fieldAddr tf88_0 rfl)) ?_
        refine FB.t (i := 12) (bs 24 8191) rfl (SP.nil S370.sl) rfl (fun w' hw' => (E.load rfl (run_load1 Tryz.isAgg73 ((at375.mono (((i27.tr i64).tr i93).tr i355)).now hw') rfl))) ?_
        refine FB.t (i := 13) (bs 24 16383) rfl (SP.nil S370.sl) rfl (fun w' hw' => (E.move k358)) ?_
        refine FB.t (i := 14) (bs 24 32767) rfl (SP.nil S370.sl) rfl (fun w' hw' => (E.fieldAddr tf88_2 k363)) ?_
        refine FB.t (i := 15) (bs 24 65535) rfl (SP.nil S370.sl) rfl (fun w' hw' => (E.load rfl (run_load1 Tryz.isAgg3 ((at94.mono i355).now hw') rfl))) ?_
        obtain ⟨p381, cs382, pt383, l384, at385, rel386⟩ := p1.at hx388
        obtain ⟨v389, rfl, h390⟩ := eResStep_open rel386
        refine FB.t (i := 16) (bs 24 131071) rfl (SP.nil S370.sl) rfl (fun w' hw' => (E.indexAddr te34 rfl rfl pt383)) ?_
        refine FB.t (i := 17) (bs 24 262143) rfl (SP.nil S370.sl) rfl (fun w' hw' => (E.fieldAddr tf88_0 rfl)) ?_
        refine FB.t (i := 18) (bs 24 524287) rfl (SP.nil S370.sl) rfl (fun w' hw' => (E.load rfl (run_load1 Tryz.isAgg73 ((at385.mono (((i27.tr i64).tr i93).tr i355)).now hw') rfl))) ?_
        refine FB.all1 (i := 19) (by kernel_rfl) ?_
        ·
         refine FC.call (l' := (bs 24 1048575)) rfl (by kernel_rfl) rfl rfl rfl (E.call Tryz.call87 (A3 rfl rfl rfl)) (w_impl_inOne S370.sl v81 y51.clause (h82.mono (((i27.tr i64).tr i93).tr i355)) v379 x377.clause (h380.mono (((i27.tr i64).tr i93).tr i355)) v389 x387.clause (h390.mono (((i27.tr i64).tr i93).tr i355)) hr392) ?_
         rintro e w394 ⟨H393, v397, n398, cs399, rfl, r396, els400⟩
         refine ⟨_, rfl, ?_⟩
         have els400 := els400.mono (up_le S370.size)
         have S395 := S370.join (l' := [.row 3 1 v397 n398 cs399, .row 3 1 v53 n54 cs55, .box b35 118 [Value.int .i64 r335.2.vars, v348], .row 129 6 v348 n349 cs350]) r396 rfl
         refine ⟨(SP.nil (Sl.of_inc r396.run.inc S395.sl)), ?_⟩
         refine FB.all1 (i := 20) (by kernel_rfl) ?_
         ·
          obtain ⟨H401, S402, i403, h404, nv405⟩ := S395.sealRowU (i := 0) (l' := [.row 3 1 v53 n54 cs55, .box b35 118 [Value.int .i64 r335.2.vars, v348], .row 129 6 v348 n349 cs350]) rfl els400 (by decide) rfl
          have S408 : St Ha wa H401 w394 [.row 129 6 v348 n349 cs350, .row 3 1 v53 n54 cs55, .box b35 118 [Value.int .i64 r335.2.vars, v348]] := S402.front 2 rfl rfl
          have S409 : St Ha wa H401 w394 [.box b35 118 [Value.int .i64 r335.2.vars, v348], .row 129 6 v348 n349 cs350, .row 3 1 v53 n54 cs55] := S408.front 2 rfl rfl
          refine FC.call (l' := (bs 24 2097151)) rfl (by kernel_rfl) rfl rfl rfl (E.call Tryz.call83 (A3 rfl rfl rfl)) (w_impl_planer_literals (L := [.row 3 1 v53 n54 cs55]) S409 (a0 := r335.2) (els351.mono (up_mono (r396.run.inc.tr i403))) nd352 r335.1 v397 r391 (h404.mono upI) hr407) ?_
          rintro e w411 ⟨H410, v414, n415, cs416, rfl, ⟨S412, i413⟩, els417, nd418⟩
          refine ⟨_, rfl, ?_⟩
          have S412 : St Ha wa H410 w411 [.box b35 118 [Value.int .i64 r406.2.vars, v414], .row 129 6 v414 n415 cs416, .row 3 1 v53 n54 cs55] := S412
          refine ⟨(SP.nil (Sl.of_inc ((r396.run.inc.tr i403).tr i413) S412.sl)), ?_⟩
          refine FB.all1 (i := 21) (by kernel_rfl) ?_
          ·
           have S421 : St Ha wa H410 w411 [.row 129 6 v414 n415 cs416, .box b35 118 [Value.int .i64 r406.2.vars, v414], .row 3 1 v53 n54 cs55] := S412.front 1 rfl rfl
           have S422 : St Ha wa H410 w411 [.box b35 118 [Value.int .i64 r406.2.vars, v414], .row 129 6 v414 n415 cs416, .row 3 1 v53 n54 cs55] := S421.front 1 rfl rfl
           refine FC.call (l' := (bs 24 4194303)) rfl (by kernel_rfl) rfl rfl rfl (E.call Tryz.call86 (A3 rfl rfl rfl)) (w_impl_planer_divide (L := [.row 3 1 v53 n54 cs55]) S422 (a0 := r406.2) els417 nd418 r406.1 2 hr420) ?_
           rintro e w424 ⟨H423, v427, n428, cs429, rfl, ⟨S425, i426⟩, els430, nd431⟩
           refine ⟨_, rfl, ?_⟩
           have S425 : St Ha wa H423 w424 [.box b35 118 [Value.int .i64 r419.2.vars, v427], .row 129 6 v427 n428 cs429, .row 3 1 v53 n54 cs55] := S425
           refine ⟨(SP.nil (Sl.of_inc (((r396.run.inc.tr i403).tr i413).tr i426) S425.sl)), ?_⟩
           obtain ⟨p432, cs433, pt434, l435, at436, rel437, hall440⟩ := S425.row_atA (i := 2) rfl els56 (by decide) hx439
           obtain rfl := eI_open rel437
           refine FB.t (i := 22) (bs 24 8388607) rfl (SP.nil (Sl.of_inc (((r396.run.inc.tr i403).tr i413).tr i426) S425.sl)) rfl (fun w' hw' => (E.indexAddr te73 rfl rfl pt434)) ?_
           refine FB.all1 (i := 23) (by kernel_rfl) ?_
           ·
            obtain ⟨w441, cs447, run442, S443, els446, ce448⟩ := S425.putEls (P := Tryz.prog) (t := 3) (i := 2) rfl (els56.mono (up_mono (((((i93.tr i355).tr r396.run.inc).tr i403).tr i413).tr i426))) hput445 pt434 Tryz.sizeOf3 (u := Value.int .i64 r419.1) (c := [Value.int .i64 r419.1]) rfl rfl (ones_cons rfl ones_nil) rfl
            have S443 : St Ha wa H423 w441 [.box b35 118 [Value.int .i64 r419.2.vars, v427], .row 129 6 v427 n428 cs429, .row 3 1 v53 n54 cs447] := S443
            refine FC.act (l' := (bs 24 16777215)) rfl (by kernel_rfl) rfl rfl (E.store rfl rfl run442) ?_
            refine ⟨(SP.nil (Sl.of_inc (((r396.run.inc.tr i403).tr i413).tr i426) S443.sl)), ?_⟩
            exact FB.done (by kernel_rfl) ⟨_, _, _, _, _, _, _, (S443.sel [2, 0, 1] (by decide) rfl), (((r396.run.inc.tr i403).tr i413).tr i426), els446, els430, nd431, k358, k359, k360, k361, k365, k366, k367⟩
       ·
        rintro f462 w461 ⟨H458, v449, n450, cs451, v453, n454, cs455, S459, i460, els452, els456, nd457, k463, k464, k465, k466, k467, k468, k469⟩
        obtain rfl := Option.some.inj hp
        exact ⟨rfl, ⟨_, _, _, _, _, _, _, S459, (i355.tr i460), els452, els456, nd457, k463, k464, k465, k466, k467, k468, k469⟩⟩
   ·
    rintro s95 rfl f474 w473 ⟨H470, v98, n99, cs100, v102, n103, cs104, S471, i472, els101, els105, nd106, k475, k476, k477, k478, k479, k480, k481⟩
    replace hp := el_go hp
    refine FW.seq (FW.region ?_)
    refine FL.v (E.move k477) ?_
    refine FL.v (E.nilCheck rfl) ?_
    refine FL.v (E.fieldAddr tf118_1 rfl) ?_
    refine FL.v (E.load rfl (run_load1 Tryz.isAgg45 (S471.box_now (i := 1) rfl) rfl)) ?_
    refine FL.v (E.lenO te45 rfl S471 (i := 2) rfl els105 (by decide)) ?_
    refine FL.v (E.gtr rfl rfl) ?_
    refine FL.nil ?_
    rcases ifB hp with ⟨c482, hp⟩ | ⟨c482, hp⟩
    ·
     refine FW.condT rfl c482 ?_
     refine FW.seq (FW.region ?_)
     refine FL.v (E.assign (v := Value.slice none 0 0) rfl) ?_
     refine FL.v (E.assign (v := Value.bool false) rfl) ?_
     refine FL.nil ?_
     refine FW.ret ?_
     obtain rfl := Option.some.inj hp
     exact ⟨nofun, rfl, ⟨.inr rfl, res2 rfl rfl rfl ⟨_, _, _, _, rfl, ((S471.nil 129 6).sel [0] (by decide) rfl), Els.nil, List.nodup_nil⟩⟩⟩
    ·
     refine FW.condF rfl c482 ?_
     refine FW.skip (FW.region ?_)
     refine FL.v (E.add k481 rfl) ?_
     refine FL.v (E.move (v := Value.int .i64 (wr (((i52 : Nat) : Int) + 1))) rfl) ?_
     refine FL.nil ?_
     obtain rfl := Option.some.inj hp
     exact ⟨rfl, ⟨_, _, _, _, _, _, _, S471, ((i64.tr i93).tr i472), els101, els105, nd106, (nat_succ rfl (lt_of_get hx52) (p1.mono (((i27.tr i64).tr i93).tr i472)).le), k475, k476, k477, k478, k479, k480⟩⟩
   ·
    intro x97; exact x97.elim
  ·
   clear hp hq
   rintro s52 f529 w528 ⟨H525, v53, n54, cs55, v57, n58, cs59, S526, i527, els56, els60, nd61, k530, k531, k532, k533, k534, k535, k536⟩
   refine FW.seq (FW.region ?_)
   refine FL.v (E.lss k530 k536) ?_
   refine FL.nil (FW.seq ?_)
   refine FW.condF rfl dlt_len ?_
   refine FW.exit ?_
   exact ⟨nofun, rfl, ⟨_, _, _, _, _, _, _, S526, i527, els56, els60, nd61, k533, k534⟩⟩
  ·
   clear hq
   intro e f488 w487 hD
   rcases q52 with s52 | x52
   ·
    obtain ⟨rfl, hD⟩ := hD
    obtain ⟨H484, v53, n54, cs55, v57, n58, cs59, S485, i486, els56, els60, nd61, k489, k490⟩ := hD
    replace hp := el_go hp
    refine FW.seq ?_
    obtain ⟨r499, hr500, hp⟩ := bnd hp
    obtain ⟨xs504, hc505, hp⟩ := bnd hp
    refine FW.drawB (SX Ha wa H484 [.box b35 118 [Value.int .i64 s52.2.2, v57]]) (fun f w => ∃ H : GH, ∃ v513 : Value, ∃ n514 : Nat, ∃ cs515 : List Value, St Ha wa H w [.row 129 6 v513 n514 cs515] ∧ Inc H484 H ∧ Els (up wa.heap.size H) ePlaneStep 6 cs515 xs504 ∧ (bl cs515).Nodup ∧ f 4 = v513 ∧ f 5 = Value.bool true) (by kernel_rfl) S485.sl ?_ ?_
    ·
     intro w491 r492
     have S493 := S485.call r492
     refine FB.t (i := 0) (bs 10 1) rfl (SP.nil ⟨_, (S493.sel [1] (by decide) rfl), (Inc.rfl _)⟩) rfl (fun w' hw' => (E.move k489)) ?_
     refine FB.t (i := 1) (bs 10 3) rfl (SP.nil ⟨_, (S493.sel [1] (by decide) rfl), (Inc.rfl _)⟩) rfl (fun w' hw' => (E.nilCheck rfl)) ?_
     refine FB.t (i := 2) (bs 10 7) rfl (SP.nil ⟨_, (S493.sel [1] (by decide) rfl), (Inc.rfl _)⟩) rfl (fun w' hw' => (E.fieldAddr tf118_1 rfl)) ?_
     refine FB.t (i := 3) (bs 10 15) rfl (SP.nil ⟨_, (S493.sel [1] (by decide) rfl), (Inc.rfl _)⟩) rfl (fun w' hw' => (E.load rfl (run_load1 Tryz.isAgg45 (SX.box_now hw' (i := 0) rfl) rfl))) ?_
     refine FB.t (i := 4) (bs 10 31) rfl (SP.nil ⟨_, (S493.sel [1] (by decide) rfl), (Inc.rfl _)⟩) rfl (fun w' hw' => (E.move k490)) ?_
     refine FB.all1 (i := 5) (by kernel_rfl) ?_
     ·
      obtain ⟨H494, S495, i496, h497, nv498⟩ := S493.sealRowU (i := 0) (l' := [.box b35 118 [Value.int .i64 s52.2.2, v57], .row 129 6 v57 n58 cs59]) rfl els56 (by decide) rfl
      refine FC.call (l' := (bs 10 63)) rfl (by kernel_rfl) rfl rfl rfl (E.call Tryz.call88 (A1 rfl)) (w_impl_last_int S495.sl v53 s52.1 (h497.mono upI) hr500) ?_
      rintro e w501 ⟨rfl, r502⟩
      refine ⟨_, rfl, ?_⟩
      have r502 := Run.lend i496 S493.sl r502
      have S503 := S493.call r502
      refine ⟨(SP.nil ⟨_, (S503.sel [1] (by decide) rfl), (Inc.rfl _)⟩), ?_⟩
      refine FB.t (i := 6) (bs 10 127) rfl (SP.nil ⟨_, (S503.sel [1] (by decide) rfl), (Inc.rfl _)⟩) rfl (fun w' hw' => (E.add rfl rfl)) ?_
      refine FB.phase [] (fun w' => w' = w501) ?_
      obtain ⟨v506, n507, cs508, run509, S510, els511, nd512⟩ := S503.cutRow te45 (kk := .i64) (i := 2) rfl els60 hc505
      have S510 : St Ha wa H484 w501 [.row 3 1 v53 n54 cs55, .box b35 118 [Value.int .i64 s52.2.2, v57], .row 129 6 v506 n507 cs508] := S510
      refine FB.u (i := 7) (bs 10 255) [8, 9] rfl (SP.on rfl (SP.nil ⟨_, (S503.sel [1] (by decide) rfl), (Inc.rfl _)⟩)) rfl (E.slice te45 rfl rfl (congrArg some rfl) rfl (run509 _)) ?_
      refine FB.t (i := 8) (bs 10 511) rfl (SP.on rfl (SP.nil ⟨_, (S510.sel [1] (by decide) rfl), (Inc.rfl _)⟩)) rfl (fun w' hw' => (E.assign (v := v506) rfl)) ?_
      refine FB.t (i := 9) (bs 10 1023) rfl (SP.on rfl (SP.nil ⟨_, (S510.sel [1] (by decide) rfl), (Inc.rfl _)⟩)) rfl (fun w' hw' => (E.assign (v := Value.bool true) rfl)) ?_
      exact FB.done (by kernel_rfl) ⟨_, _, _, _, (S510.sel [2] (by decide) rfl), (Inc.rfl _), els511, (nd512 nd61), rfl, rfl⟩
    ·
     rintro f522 w521 ⟨H518, v513, n514, cs515, S519, i520, els516, nd517, k523, k524⟩
     refine FW.ret ?_
     obtain rfl := Option.some.inj hp
     exact ⟨.inr rfl, res2 rfl k523 k524 ⟨_, _, _, _, rfl, S519, els516, nd517⟩⟩
   ·
    obtain ⟨he, hL⟩ := hD
    replace hp := el_rt hp
    obtain rfl := Option.some.inj hp
    subst he
    exact hL

theorem w_laws_eqIntS {Ha : GH} {wa : World} (hs : Sl Ha wa) (v0 : Value) (a0 : List Int) (p0 : RSl Ha eI 1 v0 a0) (v1 : Value) (a1 : List Int) (p1 : RSl Ha eI 1 v1 a1) {r : Bool} (hp : (PF.laws_eqIntS a0 a1) = some r) :
  Calls Tryz.prog 52 #[v0, v1] wa (Sc Ha wa (Value.bool r)) := by
 unfold PF.laws_eqIntS at hp
 have S0 := St.init hs
 refine calls_go (N := 26) (args := [v0, v1]) Tryz.func52 rfl rfl rfl ?_
 refine FW.seq (FW.region ?_)
 refine FL.v (E.assign (v := Value.bool false) rfl) ?_
 refine FL.nil (FW.seq (FW.seq (FW.region ?_)))
 refine FL.v (E.move (v := v0) rfl) ?_
 refine FL.v (E.lenP te73 rfl p0) ?_
 refine FL.v (E.move (v := v1) rfl) ?_
 refine FL.v (E.lenP te73 rfl p1) ?_
 refine FL.v (E.neq rfl rfl) ?_
 refine FL.nil ?_
 rcases ifB hp with ⟨c21, hp⟩ | ⟨c21, hp⟩
 ·
  refine FW.condT rfl c21 ?_
  refine FW.seq (FW.region ?_)
  refine FL.v (E.assign (v := Value.bool false) rfl) ?_
  refine FL.nil ?_
  refine FW.ret ?_
  obtain rfl := Option.some.inj hp
  exact ⟨.inr rfl, res1 rfl rfl ⟨rfl, S0.back⟩⟩
 ·
  refine FW.condF rfl c21 ?_
  refine FW.skip (FW.seq (FW.seq (FW.region ?_)))
  refine FL.v (E.assign (v := Value.int .i64 0) rfl) ?_
  refine FL.nil ?_
  obtain ⟨q23, hq, hp⟩ := bndR hp
  refine FW.block ?_
  refine FW.mono (FW.forL (S := Unit) (X := Bool) (fun (i23 : Nat) (s23 : Unit) f w => ∃ H : GH, St Ha wa H w [] ∧ Inc Ha H ∧ f 5 = Value.int .i64 ((i23 : Nat) : Int) ∧ f 0 = v0 ∧ f 1 = v1) (fun q e f w => match q with | .go s23 => e = Exit.exit 0 ∧ (∃ H : GH, St Ha wa H w [] ∧ Inc Ha H) | .rt x => ((e = Exit.ret) ∧ (fun e f w => (e = Exit.normal ∨ e = Exit.ret) ∧ ∀ a, Fr (δ := []) 26 a f → ∃ v, (results Tryz.f52 a.tmps).run Tryz.prog w = .ok v w ∧ (Sc Ha wa (Value.bool x)) (.returned v) w) e f w)) hq ⟨_, S0, (Inc.rfl _), rfl, rfl, rfl⟩ ?_ ?_) ?_
  ·
   clear hp hq
   rintro i23 y22 s23 f55 w54 ⟨H51, S52, i53, k56, k57, k58⟩ hx23 o78 hp
   refine FW.seq (FW.seq (FW.region ?_))
   refine FL.v (E.move k56) ?_
   refine FL.v (E.move k57) ?_
   refine FL.v (E.lenP te73 rfl p0) ?_
   refine FL.v (E.lssT rfl rfl (lss_len hx23)) ?_
   refine FL.nil ?_
   refine FW.condT rfl rfl ?_
   refine FW.skip (FW.seq (FW.block (FW.seq ?_)))
   refine FW.draw (fun w' => Run w54.heap.size H51 w54 H51 w') (by kernel_rfl) (by kernel_rfl) (run_drew S52.sl) ?_
   refine FD.val rfl rfl rfl (fun w' hw' => (E.move k57)) ?_
   refine FD.val rfl rfl rfl (fun w' hw' => (E.move k56)) ?_
   obtain ⟨p60, cs61, pt62, l63, at64, rel65⟩ := p0.at (ix_nat hx23)
   obtain rfl := eI_open rel65
   refine FD.val rfl rfl rfl (fun w' hw' => (E.indexAddr te73 rfl rfl pt62)) ?_
   refine FD.val rfl rfl rfl (fun w' hw' => (E.load rfl (run_load0 Tryz.isAgg3 ((at64.mono i53).now (S52.call hw').sl) rfl))) ?_
   refine FD.val rfl rfl rfl (fun w' hw' => (E.move k58)) ?_
   refine FD.val rfl rfl rfl (fun w' hw' => (E.move k56)) ?_
   obtain ⟨x72, hx73, hp⟩ := bnd hp
   obtain ⟨p66, cs67, pt68, l69, at70, rel71⟩ := p1.at hx73
   obtain rfl := eI_open rel71
   refine FD.val rfl rfl rfl (fun w' hw' => (E.indexAddr te73 rfl rfl pt68)) ?_
   refine FD.val rfl rfl rfl (fun w' hw' => (E.load rfl (run_load0 Tryz.isAgg3 ((at70.mono i53).now (S52.call hw').sl) rfl))) ?_
   refine FD.val rfl rfl rfl (fun w' hw' => (E.neq rfl rfl)) ?_
   refine FD.nil ?_
   intro w74 r76
   have S75 := S52.call r76
   rcases ifB hp with ⟨c77, hp⟩ | ⟨c77, hp⟩
   ·
    refine FW.condT rfl c77 ?_
    refine FW.seq (FW.region ?_)
    refine FL.v (E.assign (v := Value.bool false) rfl) ?_
    refine FL.nil ?_
    refine FW.ret ?_
    obtain rfl := Option.some.inj hp
    exact ⟨nofun, rfl, ⟨.inr rfl, res1 rfl rfl ⟨rfl, S75.back⟩⟩⟩
   ·
    refine FW.condF rfl c77 ?_
    refine FW.skip (FW.region ?_)
    refine FL.v (E.move k56) ?_
    refine FL.v (E.add rfl rfl) ?_
    refine FL.v (E.assign (v := Value.int .i64 (wr (((i23 : Nat) : Int) + 1))) rfl) ?_
    refine FL.nil ?_
    obtain rfl := Option.some.inj hp
    exact ⟨rfl, ⟨_, S75, i53, (nat_succ rfl (lt_of_get hx23) (p0.mono i53).le), k57, k58⟩⟩
  ·
   clear hp hq
   rintro s23 f88 w87 ⟨H84, S85, i86, k89, k90, k91⟩
   refine FW.seq (FW.seq (FW.region ?_))
   refine FL.v (E.move k89) ?_
   refine FL.v (E.move k90) ?_
   refine FL.v (E.lenP te73 rfl p0) ?_
   refine FL.v (E.lss rfl rfl) ?_
   refine FL.nil ?_
   refine FW.condF rfl dlt_len ?_
   refine FW.exit ?_
   exact ⟨nofun, rfl, ⟨_, S85, i86⟩⟩
  ·
   clear hq
   intro e f83 w82 hD
   rcases q23 with s23 | x23
   ·
    obtain ⟨rfl, hD⟩ := hD
    obtain ⟨H79, S80, i81⟩ := hD
    replace hp := el_go hp
    refine FW.seq (FW.region ?_)
    refine FL.v (E.assign (v := Value.bool true) rfl) ?_
    refine FL.nil ?_
    refine FW.ret ?_
    obtain rfl := Option.some.inj hp
    exact ⟨.inr rfl, res1 rfl rfl ⟨rfl, S80.back⟩⟩
   ·
    obtain ⟨he, hL⟩ := hD
    replace hp := el_rt hp
    obtain rfl := Option.some.inj hp
    subst he
    exact hL

theorem w_laws_eqInequality {Ha : GH} {wa : World} (hs : Sl Ha wa) (a0 : Inequality) (v0_0 : Value) (p0_0 : RSl Ha eI 1 v0_0 a0.coeffs) (a1 : Inequality) (v1_0 : Value) (p1_0 : RSl Ha eI 1 v1_0 a1.coeffs) {r : Bool} (hp : (PF.laws_eqInequality a0 a1) = some r) :
  Calls Tryz.prog 150 #[Value.agg #[v0_0, Value.int .i64 a0.bound], Value.agg #[v1_0, Value.int .i64 a1.bound]] wa (Sc Ha wa (Value.bool r)) := by
 unfold PF.laws_eqInequality at hp
 have S0 := St.init hs
 refine calls_go (N := 16) (args := [Value.agg #[v0_0, Value.int .i64 a0.bound], Value.agg #[v1_0, Value.int .i64 a1.bound]]) Tryz.func150 rfl rfl rfl ?_
 refine FW.seq (FW.region ?_)
 obtain ⟨b21, w22, run23, S24⟩ := S0.box (P := Tryz.prog) 127 [v0_0, Value.int .i64 a0.bound] (v := Value.agg #[v0_0, Value.int .i64 a0.bound]) rfl (ones_cons p0_0.one (ones_cons rfl ones_nil))
 refine FL.v (E.box rfl run23) ?_
 obtain ⟨H25, S26, i27, at28⟩ := S24.sealBox (i := 0) (l' := []) rfl rfl
 obtain ⟨b29, w30, run31, S32⟩ := S26.box (P := Tryz.prog) 127 [v1_0, Value.int .i64 a1.bound] (v := Value.agg #[v1_0, Value.int .i64 a1.bound]) rfl (ones_cons p1_0.one (ones_cons rfl ones_nil))
 refine FL.v (E.box rfl run31) ?_
 obtain ⟨H33, S34, i35, at36⟩ := S32.sealBox (i := 0) (l' := []) rfl rfl
 refine FL.v (E.assign (v := Value.bool false) rfl) ?_
 refine FL.nil (FW.seq (FW.seq (FW.region ?_)))
 refine FL.v (E.fieldAddr tf127_0 rfl) ?_
 refine FL.v (E.load rfl (run_load1 Tryz.isAgg73 ((at28.mono i35).now S34.sl) rfl)) ?_
 refine FL.v (E.fieldAddr tf127_0 rfl) ?_
 refine FL.v (E.load rfl (run_load1 Tryz.isAgg73 (at36.now S34.sl) rfl)) ?_
 obtain ⟨r37, hr38, hp⟩ := bnd hp
 refine FL.call rfl rfl rfl (E.call Tryz.call52 (A2 rfl rfl)) (w_laws_eqIntS S34.sl v0_0 a0.coeffs (p0_0.mono (i27.tr i35)) v1_0 a1.coeffs (p1_0.mono (i27.tr i35)) hr38) ?_
 rintro e w39 ⟨rfl, r40⟩
 refine ⟨_, rfl, ?_⟩
 have S41 := S34.call r40
 refine FL.v (E.not rfl) ?_
 refine FL.nil ?_
 rcases ifB hp with ⟨c42, hp⟩ | ⟨c42, hp⟩
 ·
  refine FW.condT rfl c42 ?_
  refine FW.seq (FW.region ?_)
  refine FL.v (E.assign (v := Value.bool false) rfl) ?_
  refine FL.nil ?_
  refine FW.ret ?_
  obtain rfl := Option.some.inj hp
  exact ⟨.inr rfl, res1 rfl rfl ⟨rfl, S41.back⟩⟩
 ·
  refine FW.condF rfl c42 ?_
  refine FW.skip (FW.seq (FW.seq (FW.region ?_)))
  refine FL.v (E.fieldAddr tf127_1 rfl) ?_
  refine FL.v (E.load rfl (run_load1 Tryz.isAgg3 ((at28.mono i35).now S41.sl) rfl)) ?_
  refine FL.v (E.fieldAddr tf127_1 rfl) ?_
  refine FL.v (E.load rfl (run_load1 Tryz.isAgg3 (at36.now S41.sl) rfl)) ?_
  refine FL.v (E.neq rfl rfl) ?_
  refine FL.nil ?_
  rcases ifB hp with ⟨c43, hp⟩ | ⟨c43, hp⟩
  ·
   refine FW.condT rfl c43 ?_
   refine FW.seq (FW.region ?_)
   refine FL.v (E.assign (v := Value.bool false) rfl) ?_
   refine FL.nil ?_
   refine FW.ret ?_
   obtain rfl := Option.some.inj hp
   exact ⟨.inr rfl, res1 rfl rfl ⟨rfl, S41.back⟩⟩
  ·
   refine FW.condF rfl c43 ?_
   refine FW.skip (FW.seq (FW.region ?_))
   refine FL.v (E.assign (v := Value.bool true) rfl) ?_
   refine FL.nil ?_
   refine FW.ret ?_
   obtain rfl := Option.some.inj hp
   exact ⟨.inr rfl, res1 rfl rfl ⟨rfl, S41.back⟩⟩

theorem w_laws_eqPlaneStep {Ha : GH} {wa : World} (hs : Sl Ha wa) (a0 : PlaneStep) (v0_0 : Value) (p0_0 : RSl Ha eI 1 v0_0 a0.ineq.coeffs) (a1 : PlaneStep) (v1_0 : Value) (p1_0 : RSl Ha eI 1 v1_0 a1.ineq.coeffs) {r : Bool} (hp : (PF.laws_eqPlaneStep a0 a1) = some r) :
  Calls Tryz.prog 89 #[Value.agg #[v0_0, Value.int .i64 a0.ineq.bound, Value.int .i64 a0.kind, Value.int .i64 a0.a, Value.int .i64 a0.b, Value.int .i64 a0.k], Value.agg #[v1_0, Value.int .i64 a1.ineq.bound, Value.int .i64 a1.kind, Value.int .i64 a1.a, Value.int .i64 a1.b, Value.int .i64 a1.k]] wa (Sc Ha wa (Value.bool r)) := by
 unfold PF.laws_eqPlaneStep at hp
 have S0 := St.init hs
 refine calls_go (N := 31) (args := [Value.agg #[v0_0, Value.int .i64 a0.ineq.bound, Value.int .i64 a0.kind, Value.int .i64 a0.a, Value.int .i64 a0.b, Value.int .i64 a0.k], Value.agg #[v1_0, Value.int .i64 a1.ineq.bound, Value.int .i64 a1.kind, Value.int .i64 a1.a, Value.int .i64 a1.b, Value.int .i64 a1.k]]) Tryz.func89 rfl rfl rfl ?_
 refine FW.seq (FW.region ?_)
 obtain ⟨b21, w22, run23, S24⟩ := S0.box (P := Tryz.prog) 129 [v0_0, Value.int .i64 a0.ineq.bound, Value.int .i64 a0.kind, Value.int .i64 a0.a, Value.int .i64 a0.b, Value.int .i64 a0.k] (v := Value.agg #[v0_0, Value.int .i64 a0.ineq.bound, Value.int .i64 a0.kind, Value.int .i64 a0.a, Value.int .i64 a0.b, Value.int .i64 a0.k]) rfl (ones_cons p0_0.one (ones_cons rfl (ones_cons rfl (ones_cons rfl (ones_cons rfl (ones_cons rfl ones_nil))))))
 refine FL.v (E.box rfl run23) ?_
 obtain ⟨H25, S26, i27, at28⟩ := S24.sealBox (i := 0) (l' := []) rfl rfl
 obtain ⟨b29, w30, run31, S32⟩ := S26.box (P := Tryz.prog) 129 [v1_0, Value.int .i64 a1.ineq.bound, Value.int .i64 a1.kind, Value.int .i64 a1.a, Value.int .i64 a1.b, Value.int .i64 a1.k] (v := Value.agg #[v1_0, Value.int .i64 a1.ineq.bound, Value.int .i64 a1.kind, Value.int .i64 a1.a, Value.int .i64 a1.b, Value.int .i64 a1.k]) rfl (ones_cons p1_0.one (ones_cons rfl (ones_cons rfl (ones_cons rfl (ones_cons rfl (ones_cons rfl ones_nil))))))
 refine FL.v (E.box rfl run31) ?_
 obtain ⟨H33, S34, i35, at36⟩ := S32.sealBox (i := 0) (l' := []) rfl rfl
 refine FL.v (E.assign (v := Value.bool false) rfl) ?_
 refine FL.nil (FW.seq (FW.seq (FW.region ?_)))
 refine FL.v (E.fieldAddr tf129_0 rfl) ?_
 refine FL.v (E.load rfl (run_loadA Tryz.isAgg127 Tryz.sizeOf127 (((at28.mono i35).now S34.sl).sub (j := 0) (n := 2) (c := [v0_0, Value.int .i64 a0.ineq.bound]) rfl) rfl)) ?_
 refine FL.v (E.fieldAddr tf129_0 rfl) ?_
 refine FL.v (E.load rfl (run_loadA Tryz.isAgg127 Tryz.sizeOf127 ((at36.now S34.sl).sub (j := 0) (n := 2) (c := [v1_0, Value.int .i64 a1.ineq.bound]) rfl) rfl)) ?_
 obtain ⟨r37, hr38, hp⟩ := bnd hp
 refine FL.call rfl rfl rfl (E.call Tryz.call150 (A2 rfl rfl)) (w_laws_eqInequality S34.sl a0.ineq v0_0 (p0_0.mono (i27.tr i35)) a1.ineq v1_0 (p1_0.mono (i27.tr i35)) hr38) ?_
 rintro e w39 ⟨rfl, r40⟩
 refine ⟨_, rfl, ?_⟩
 have S41 := S34.call r40
 refine FL.v (E.not rfl) ?_
 refine FL.nil ?_
 rcases ifB hp with ⟨c42, hp⟩ | ⟨c42, hp⟩
 ·
  refine FW.condT rfl c42 ?_
  refine FW.seq (FW.region ?_)
  refine FL.v (E.assign (v := Value.bool false) rfl) ?_
  refine FL.nil ?_
  refine FW.ret ?_
  obtain rfl := Option.some.inj hp
  exact ⟨.inr rfl, res1 rfl rfl ⟨rfl, S41.back⟩⟩
 ·
  refine FW.condF rfl c42 ?_
  refine FW.skip (FW.seq (FW.seq (FW.region ?_)))
  refine FL.v (E.fieldAddr tf129_1 rfl) ?_
  refine FL.v (E.load rfl (run_load1 Tryz.isAgg3 ((at28.mono i35).now S41.sl) rfl)) ?_
  refine FL.v (E.fieldAddr tf129_1 rfl) ?_
  refine FL.v (E.load rfl (run_load1 Tryz.isAgg3 (at36.now S41.sl) rfl)) ?_
  refine FL.v (E.neq rfl rfl) ?_
  refine FL.nil ?_
  rcases ifB hp with ⟨c43, hp⟩ | ⟨c43, hp⟩
  ·
   refine FW.condT rfl c43 ?_
   refine FW.seq (FW.region ?_)
   refine FL.v (E.assign (v := Value.bool false) rfl) ?_
   refine FL.nil ?_
   refine FW.ret ?_
   obtain rfl := Option.some.inj hp
   exact ⟨.inr rfl, res1 rfl rfl ⟨rfl, S41.back⟩⟩
  ·
   refine FW.condF rfl c43 ?_
   refine FW.skip (FW.seq (FW.seq (FW.region ?_)))
   refine FL.v (E.fieldAddr tf129_2 rfl) ?_
   refine FL.v (E.load rfl (run_load1 Tryz.isAgg3 ((at28.mono i35).now S41.sl) rfl)) ?_
   refine FL.v (E.fieldAddr tf129_2 rfl) ?_
   refine FL.v (E.load rfl (run_load1 Tryz.isAgg3 (at36.now S41.sl) rfl)) ?_
   refine FL.v (E.neq rfl rfl) ?_
   refine FL.nil ?_
   rcases ifB hp with ⟨c44, hp⟩ | ⟨c44, hp⟩
   ·
    refine FW.condT rfl c44 ?_
    refine FW.seq (FW.region ?_)
    refine FL.v (E.assign (v := Value.bool false) rfl) ?_
    refine FL.nil ?_
    refine FW.ret ?_
    obtain rfl := Option.some.inj hp
    exact ⟨.inr rfl, res1 rfl rfl ⟨rfl, S41.back⟩⟩
   ·
    refine FW.condF rfl c44 ?_
    refine FW.skip (FW.seq (FW.seq (FW.region ?_)))
    refine FL.v (E.fieldAddr tf129_3 rfl) ?_
    refine FL.v (E.load rfl (run_load1 Tryz.isAgg3 ((at28.mono i35).now S41.sl) rfl)) ?_
    refine FL.v (E.fieldAddr tf129_3 rfl) ?_
    refine FL.v (E.load rfl (run_load1 Tryz.isAgg3 (at36.now S41.sl) rfl)) ?_
    refine FL.v (E.neq rfl rfl) ?_
    refine FL.nil ?_
    rcases ifB hp with ⟨c45, hp⟩ | ⟨c45, hp⟩
    ·
     refine FW.condT rfl c45 ?_
     refine FW.seq (FW.region ?_)
     refine FL.v (E.assign (v := Value.bool false) rfl) ?_
     refine FL.nil ?_
     refine FW.ret ?_
     obtain rfl := Option.some.inj hp
     exact ⟨.inr rfl, res1 rfl rfl ⟨rfl, S41.back⟩⟩
    ·
     refine FW.condF rfl c45 ?_
     refine FW.skip (FW.seq (FW.seq (FW.region ?_)))
     refine FL.v (E.fieldAddr tf129_4 rfl) ?_
     refine FL.v (E.load rfl (run_load1 Tryz.isAgg3 ((at28.mono i35).now S41.sl) rfl)) ?_
     refine FL.v (E.fieldAddr tf129_4 rfl) ?_
     refine FL.v (E.load rfl (run_load1 Tryz.isAgg3 (at36.now S41.sl) rfl)) ?_
     refine FL.v (E.neq rfl rfl) ?_
     refine FL.nil ?_
     rcases ifB hp with ⟨c46, hp⟩ | ⟨c46, hp⟩
     ·
      refine FW.condT rfl c46 ?_
      refine FW.seq (FW.region ?_)
      refine FL.v (E.assign (v := Value.bool false) rfl) ?_
      refine FL.nil ?_
      refine FW.ret ?_
      obtain rfl := Option.some.inj hp
      exact ⟨.inr rfl, res1 rfl rfl ⟨rfl, S41.back⟩⟩
     ·
      refine FW.condF rfl c46 ?_
      refine FW.skip (FW.seq (FW.region ?_))
      refine FL.v (E.assign (v := Value.bool true) rfl) ?_
      refine FL.nil ?_
      refine FW.ret ?_
      obtain rfl := Option.some.inj hp
      exact ⟨.inr rfl, res1 rfl rfl ⟨rfl, S41.back⟩⟩

theorem w_laws_eqPlaneStepS {Ha : GH} {wa : World} (hs : Sl Ha wa) (v0 : Value) (a0 : List PlaneStep) (p0 : RSl Ha ePlaneStep 6 v0 a0) (v1 : Value) (a1 : List PlaneStep) (p1 : RSl Ha ePlaneStep 6 v1 a1) {r : Bool} (hp : (PF.laws_eqPlaneStepS a0 a1) = some r) :
  Calls Tryz.prog 26 #[v0, v1] wa (Sc Ha wa (Value.bool r)) := by
 unfold PF.laws_eqPlaneStepS at hp
 have S0 := St.init hs
 refine calls_go (N := 27) (args := [v0, v1]) Tryz.func26 rfl rfl rfl ?_
 refine FW.seq (FW.region ?_)
 refine FL.v (E.assign (v := Value.bool false) rfl) ?_
 refine FL.nil (FW.seq (FW.seq (FW.region ?_)))
 refine FL.v (E.move (v := v0) rfl) ?_
 refine FL.v (E.lenP te45 rfl p0) ?_
 refine FL.v (E.move (v := v1) rfl) ?_
 refine FL.v (E.lenP te45 rfl p1) ?_
 refine FL.v (E.neq rfl rfl) ?_
 refine FL.nil ?_
 rcases ifB hp with ⟨c21, hp⟩ | ⟨c21, hp⟩
 ·
  refine FW.condT rfl c21 ?_
  refine FW.seq (FW.region ?_)
  refine FL.v (E.assign (v := Value.bool false) rfl) ?_
  refine FL.nil ?_
  refine FW.ret ?_
  obtain rfl := Option.some.inj hp
  exact ⟨.inr rfl, res1 rfl rfl ⟨rfl, S0.back⟩⟩
 ·
  refine FW.condF rfl c21 ?_
  refine FW.skip (FW.seq (FW.seq (FW.region ?_)))
  refine FL.v (E.assign (v := Value.int .i64 0) rfl) ?_
  refine FL.nil ?_
  obtain ⟨q23, hq, hp⟩ := bndR hp
  refine FW.block ?_
  refine FW.mono (FW.forL (S := Unit) (X := Bool) (fun (i23 : Nat) (s23 : Unit) f w => ∃ H : GH, St Ha wa H w [] ∧ Inc Ha H ∧ f 5 = Value.int .i64 ((i23 : Nat) : Int) ∧ f 0 = v0 ∧ f 1 = v1) (fun q e f w => match q with | .go s23 => e = Exit.exit 0 ∧ (∃ H : GH, St Ha wa H w [] ∧ Inc Ha H) | .rt x => ((e = Exit.ret) ∧ (fun e f w => (e = Exit.normal ∨ e = Exit.ret) ∧ ∀ a, Fr (δ := []) 27 a f → ∃ v, (results Tryz.f26 a.tmps).run Tryz.prog w = .ok v w ∧ (Sc Ha wa (Value.bool x)) (.returned v) w) e f w)) hq ⟨_, S0, (Inc.rfl _), rfl, rfl, rfl⟩ ?_ ?_) ?_
  ·
   clear hp hq
   rintro i23 y22 s23 f61 w60 ⟨H57, S58, i59, k62, k63, k64⟩ hx23 o90 hp
   refine FW.seq (FW.seq (FW.region ?_))
   refine FL.v (E.move k62) ?_
   refine FL.v (E.move k63) ?_
   refine FL.v (E.lenP te45 rfl p0) ?_
   refine FL.v (E.lssT rfl rfl (lss_len hx23)) ?_
   refine FL.nil ?_
   refine FW.condT rfl rfl ?_
   refine FW.skip (FW.seq (FW.block (FW.seq ?_)))
   refine FW.draw (fun w' => Run w60.heap.size H57 w60 H57 w') (by kernel_rfl) (by kernel_rfl) (run_drew S58.sl) ?_
   refine FD.val rfl rfl rfl (fun w' hw' => (E.move k63)) ?_
   refine FD.val rfl rfl rfl (fun w' hw' => (E.move k62)) ?_
   obtain ⟨p66, cs67, pt68, l69, at70, rel71⟩ := p0.at (ix_nat hx23)
   obtain ⟨v72, rfl, h73⟩ := ePlaneStep_open rel71
   refine FD.val rfl rfl rfl (fun w' hw' => (E.indexAddr te45 rfl rfl pt68)) ?_
   refine FD.val rfl rfl rfl (fun w' hw' => (E.load rfl (run_loadA Tryz.isAgg129 Tryz.sizeOf129 ((at70.mono i59).now (S58.call hw').sl) rfl))) ?_
   refine FD.val rfl rfl rfl (fun w' hw' => (E.move k64)) ?_
   refine FD.val rfl rfl rfl (fun w' hw' => (E.move k62)) ?_
   obtain ⟨x80, hx81, hp⟩ := bnd hp
   obtain ⟨p74, cs75, pt76, l77, at78, rel79⟩ := p1.at hx81
   obtain ⟨v82, rfl, h83⟩ := ePlaneStep_open rel79
   refine FD.val rfl rfl rfl (fun w' hw' => (E.indexAddr te45 rfl rfl pt76)) ?_
   refine FD.val rfl rfl rfl (fun w' hw' => (E.load rfl (run_loadA Tryz.isAgg129 Tryz.sizeOf129 ((at78.mono i59).now (S58.call hw').sl) rfl))) ?_
   obtain ⟨r84, hr85, hp⟩ := bnd hp
   refine FD.call rfl rfl rfl (fun w' hw' => (E.call Tryz.call89 (A2 rfl rfl))) (fun w' hw' => Calls.cls hw' (w_laws_eqPlaneStep (S58.call hw').sl y22 v72 (h73.mono i59) x80 v82 (h83.mono i59) hr85)) ?_
   refine FD.val rfl rfl rfl (fun w' hw' => (E.not rfl)) ?_
   refine FD.nil ?_
   intro w86 r88
   have S87 := S58.call r88
   rcases ifB hp with ⟨c89, hp⟩ | ⟨c89, hp⟩
   ·
    refine FW.condT rfl c89 ?_
    refine FW.seq (FW.region ?_)
    refine FL.v (E.assign (v := Value.bool false) rfl) ?_
    refine FL.nil ?_
    refine FW.ret ?_
    obtain rfl := Option.some.inj hp
    exact ⟨nofun, rfl, ⟨.inr rfl, res1 rfl rfl ⟨rfl, S87.back⟩⟩⟩
   ·
    refine FW.condF rfl c89 ?_
    refine FW.skip (FW.region ?_)
    refine FL.v (E.move k62) ?_
    refine FL.v (E.add rfl rfl) ?_
    refine FL.v (E.assign (v := Value.int .i64 (wr (((i23 : Nat) : Int) + 1))) rfl) ?_
    refine FL.nil ?_
    obtain rfl := Option.some.inj hp
    exact ⟨rfl, ⟨_, S87, i59, (nat_succ rfl (lt_of_get hx23) (p0.mono i59).le), k63, k64⟩⟩
  ·
   clear hp hq
   rintro s23 f100 w99 ⟨H96, S97, i98, k101, k102, k103⟩
   refine FW.seq (FW.seq (FW.region ?_))
   refine FL.v (E.move k101) ?_
   refine FL.v (E.move k102) ?_
   refine FL.v (E.lenP te45 rfl p0) ?_
   refine FL.v (E.lss rfl rfl) ?_
   refine FL.nil ?_
   refine FW.condF rfl dlt_len ?_
   refine FW.exit ?_
   exact ⟨nofun, rfl, ⟨_, S97, i98⟩⟩
  ·
   clear hq
   intro e f95 w94 hD
   rcases q23 with s23 | x23
   ·
    obtain ⟨rfl, hD⟩ := hD
    obtain ⟨H91, S92, i93⟩ := hD
    replace hp := el_go hp
    refine FW.seq (FW.region ?_)
    refine FL.v (E.assign (v := Value.bool true) rfl) ?_
    refine FL.nil ?_
    refine FW.ret ?_
    obtain rfl := Option.some.inj hp
    exact ⟨.inr rfl, res1 rfl rfl ⟨rfl, S92.back⟩⟩
   ·
    obtain ⟨he, hL⟩ := hD
    replace hp := el_rt hp
    obtain rfl := Option.some.inj hp
    subst he
    exact hL

theorem w_laws_eqIntSS {Ha : GH} {wa : World} (hs : Sl Ha wa) (v0 : Value) (a0 : List (List Int)) (p0 : RSl Ha (eL eI 1) 1 v0 a0) (v1 : Value) (a1 : List (List Int)) (p1 : RSl Ha (eL eI 1) 1 v1 a1) {r : Bool} (hp : (PF.laws_eqIntSS a0 a1) = some r) :
  Calls Tryz.prog 47 #[v0, v1] wa (Sc Ha wa (Value.bool r)) := by
 unfold PF.laws_eqIntSS at hp
 have S0 := St.init hs
 refine calls_go (N := 27) (args := [v0, v1]) Tryz.func47 rfl rfl rfl ?_
 refine FW.seq (FW.region ?_)
 refine FL.v (E.assign (v := Value.bool false) rfl) ?_
 refine FL.nil (FW.seq (FW.seq (FW.region ?_)))
 refine FL.v (E.move (v := v0) rfl) ?_
 refine FL.v (E.lenP te22 rfl p0) ?_
 refine FL.v (E.move (v := v1) rfl) ?_
 refine FL.v (E.lenP te22 rfl p1) ?_
 refine FL.v (E.neq rfl rfl) ?_
 refine FL.nil ?_
 rcases ifB hp with ⟨c21, hp⟩ | ⟨c21, hp⟩
 ·
  refine FW.condT rfl c21 ?_
  refine FW.seq (FW.region ?_)
  refine FL.v (E.assign (v := Value.bool false) rfl) ?_
  refine FL.nil ?_
  refine FW.ret ?_
  obtain rfl := Option.some.inj hp
  exact ⟨.inr rfl, res1 rfl rfl ⟨rfl, S0.back⟩⟩
 ·
  refine FW.condF rfl c21 ?_
  refine FW.skip (FW.seq (FW.seq (FW.region ?_)))
  refine FL.v (E.assign (v := Value.int .i64 0) rfl) ?_
  refine FL.nil ?_
  obtain ⟨q23, hq, hp⟩ := bndR hp
  refine FW.block ?_
  refine FW.mono (FW.forL (S := Unit) (X := Bool) (fun (i23 : Nat) (s23 : Unit) f w => ∃ H : GH, St Ha wa H w [] ∧ Inc Ha H ∧ f 5 = Value.int .i64 ((i23 : Nat) : Int) ∧ f 0 = v0 ∧ f 1 = v1) (fun q e f w => match q with | .go s23 => e = Exit.exit 0 ∧ (∃ H : GH, St Ha wa H w [] ∧ Inc Ha H) | .rt x => ((e = Exit.ret) ∧ (fun e f w => (e = Exit.normal ∨ e = Exit.ret) ∧ ∀ a, Fr (δ := []) 27 a f → ∃ v, (results Tryz.f47 a.tmps).run Tryz.prog w = .ok v w ∧ (Sc Ha wa (Value.bool x)) (.returned v) w) e f w)) hq ⟨_, S0, (Inc.rfl _), rfl, rfl, rfl⟩ ?_ ?_) ?_
  ·
   clear hp hq
   rintro i23 y22 s23 f61 w60 ⟨H57, S58, i59, k62, k63, k64⟩ hx23 o90 hp
   refine FW.seq (FW.seq (FW.region ?_))
   refine FL.v (E.move k62) ?_
   refine FL.v (E.move k63) ?_
   refine FL.v (E.lenP te22 rfl p0) ?_
   refine FL.v (E.lssT rfl rfl (lss_len hx23)) ?_
   refine FL.nil ?_
   refine FW.condT rfl rfl ?_
   refine FW.skip (FW.seq (FW.block (FW.seq ?_)))
   refine FW.draw (fun w' => Run w60.heap.size H57 w60 H57 w') (by kernel_rfl) (by kernel_rfl) (run_drew S58.sl) ?_
   refine FD.val rfl rfl rfl (fun w' hw' => (E.move k63)) ?_
   refine FD.val rfl rfl rfl (fun w' hw' => (E.move k62)) ?_
   obtain ⟨p66, cs67, pt68, l69, at70, rel71⟩ := p0.at (ix_nat hx23)
   obtain ⟨v72, rfl, h73⟩ := eL_open rel71
   refine FD.val rfl rfl rfl (fun w' hw' => (E.indexAddr te22 rfl rfl pt68)) ?_
   refine FD.val rfl rfl rfl (fun w' hw' => (E.load rfl (run_load0 Tryz.isAgg73 ((at70.mono i59).now (S58.call hw').sl) rfl))) ?_
   refine FD.val rfl rfl rfl (fun w' hw' => (E.move k64)) ?_
   refine FD.val rfl rfl rfl (fun w' hw' => (E.move k62)) ?_
   obtain ⟨x80, hx81, hp⟩ := bnd hp
   obtain ⟨p74, cs75, pt76, l77, at78, rel79⟩ := p1.at hx81
   obtain ⟨v82, rfl, h83⟩ := eL_open rel79
   refine FD.val rfl rfl rfl (fun w' hw' => (E.indexAddr te22 rfl rfl pt76)) ?_
   refine FD.val rfl rfl rfl (fun w' hw' => (E.load rfl (run_load0 Tryz.isAgg73 ((at78.mono i59).now (S58.call hw').sl) rfl))) ?_
   obtain ⟨r84, hr85, hp⟩ := bnd hp
   refine FD.call rfl rfl rfl (fun w' hw' => (E.call Tryz.call52 (A2 rfl rfl))) (fun w' hw' => Calls.cls hw' (w_laws_eqIntS (S58.call hw').sl v72 y22 (h73.mono i59) v82 x80 (h83.mono i59) hr85)) ?_
   refine FD.val rfl rfl rfl (fun w' hw' => (E.not rfl)) ?_
   refine FD.nil ?_
   intro w86 r88
   have S87 := S58.call r88
   rcases ifB hp with ⟨c89, hp⟩ | ⟨c89, hp⟩
   ·
    refine FW.condT rfl c89 ?_
    refine FW.seq (FW.region ?_)
    refine FL.v (E.assign (v := Value.bool false) rfl) ?_
    refine FL.nil ?_
    refine FW.ret ?_
    obtain rfl := Option.some.inj hp
    exact ⟨nofun, rfl, ⟨.inr rfl, res1 rfl rfl ⟨rfl, S87.back⟩⟩⟩
   ·
    refine FW.condF rfl c89 ?_
    refine FW.skip (FW.region ?_)
    refine FL.v (E.move k62) ?_
    refine FL.v (E.add rfl rfl) ?_
    refine FL.v (E.assign (v := Value.int .i64 (wr (((i23 : Nat) : Int) + 1))) rfl) ?_
    refine FL.nil ?_
    obtain rfl := Option.some.inj hp
    exact ⟨rfl, ⟨_, S87, i59, (nat_succ rfl (lt_of_get hx23) (p0.mono i59).le), k63, k64⟩⟩
  ·
   clear hp hq
   rintro s23 f100 w99 ⟨H96, S97, i98, k101, k102, k103⟩
   refine FW.seq (FW.seq (FW.region ?_))
   refine FL.v (E.move k101) ?_
   refine FL.v (E.move k102) ?_
   refine FL.v (E.lenP te22 rfl p0) ?_
   refine FL.v (E.lss rfl rfl) ?_
   refine FL.nil ?_
   refine FW.condF rfl dlt_len ?_
   refine FW.exit ?_
   exact ⟨nofun, rfl, ⟨_, S97, i98⟩⟩
  ·
   clear hq
   intro e f95 w94 hD
   rcases q23 with s23 | x23
   ·
    obtain ⟨rfl, hD⟩ := hD
    obtain ⟨H91, S92, i93⟩ := hD
    replace hp := el_go hp
    refine FW.seq (FW.region ?_)
    refine FL.v (E.assign (v := Value.bool true) rfl) ?_
    refine FL.nil ?_
    refine FW.ret ?_
    obtain rfl := Option.some.inj hp
    exact ⟨.inr rfl, res1 rfl rfl ⟨rfl, S92.back⟩⟩
   ·
    obtain ⟨he, hL⟩ := hD
    replace hp := el_rt hp
    obtain rfl := Option.some.inj hp
    subst he
    exact hL

theorem w_laws_eqCnf {Ha : GH} {wa : World} (hs : Sl Ha wa) (a0 : Cnf) (v0_1 : Value) (p0_1 : RSl Ha (eL eI 1) 1 v0_1 a0.clauses) (a1 : Cnf) (v1_1 : Value) (p1_1 : RSl Ha (eL eI 1) 1 v1_1 a1.clauses) {r : Bool} (hp : (PF.laws_eqCnf a0 a1) = some r) :
  Calls Tryz.prog 19 #[Value.agg #[Value.int .i64 a0.vars, v0_1], Value.agg #[Value.int .i64 a1.vars, v1_1]] wa (Sc Ha wa (Value.bool r)) := by
 unfold PF.laws_eqCnf at hp
 have S0 := St.init hs
 refine calls_go (N := 16) (args := [Value.agg #[Value.int .i64 a0.vars, v0_1], Value.agg #[Value.int .i64 a1.vars, v1_1]]) Tryz.func19 rfl rfl rfl ?_
 refine FW.seq (FW.region ?_)
 obtain ⟨b21, w22, run23, S24⟩ := S0.box (P := Tryz.prog) 32 [Value.int .i64 a0.vars, v0_1] (v := Value.agg #[Value.int .i64 a0.vars, v0_1]) rfl (ones_cons rfl (ones_cons p0_1.one ones_nil))
 refine FL.v (E.box rfl run23) ?_
 obtain ⟨H25, S26, i27, at28⟩ := S24.sealBox (i := 0) (l' := []) rfl rfl
 obtain ⟨b29, w30, run31, S32⟩ := S26.box (P := Tryz.prog) 32 [Value.int .i64 a1.vars, v1_1] (v := Value.agg #[Value.int .i64 a1.vars, v1_1]) rfl (ones_cons rfl (ones_cons p1_1.one ones_nil))
 refine FL.v (E.box rfl run31) ?_
 obtain ⟨H33, S34, i35, at36⟩ := S32.sealBox (i := 0) (l' := []) rfl rfl
 refine FL.v (E.assign (v := Value.bool false) rfl) ?_
 refine FL.nil (FW.seq (FW.seq (FW.region ?_)))
 refine FL.v (E.fieldAddr tf32_0 rfl) ?_
 refine FL.v (E.load rfl (run_load1 Tryz.isAgg3 ((at28.mono i35).now S34.sl) rfl)) ?_
 refine FL.v (E.fieldAddr tf32_0 rfl) ?_
 refine FL.v (E.load rfl (run_load1 Tryz.isAgg3 (at36.now S34.sl) rfl)) ?_
 refine FL.v (E.neq rfl rfl) ?_
 refine FL.nil ?_
 rcases ifB hp with ⟨c37, hp⟩ | ⟨c37, hp⟩
 ·
  refine FW.condT rfl c37 ?_
  refine FW.seq (FW.region ?_)
  refine FL.v (E.assign (v := Value.bool false) rfl) ?_
  refine FL.nil ?_
  refine FW.ret ?_
  obtain rfl := Option.some.inj hp
  exact ⟨.inr rfl, res1 rfl rfl ⟨rfl, S34.back⟩⟩
 ·
  refine FW.condF rfl c37 ?_
  refine FW.skip (FW.seq (FW.seq (FW.region ?_)))
  refine FL.v (E.fieldAddr tf32_1 rfl) ?_
  refine FL.v (E.load rfl (run_load1 Tryz.isAgg22 ((at28.mono i35).now S34.sl) rfl)) ?_
  refine FL.v (E.fieldAddr tf32_1 rfl) ?_
  refine FL.v (E.load rfl (run_load1 Tryz.isAgg22 (at36.now S34.sl) rfl)) ?_
  obtain ⟨r38, hr39, hp⟩ := bnd hp
  refine FL.call rfl rfl rfl (E.call Tryz.call47 (A2 rfl rfl)) (w_laws_eqIntSS S34.sl v0_1 a0.clauses (p0_1.mono (i27.tr i35)) v1_1 a1.clauses (p1_1.mono (i27.tr i35)) hr39) ?_
  rintro e w40 ⟨rfl, r41⟩
  refine ⟨_, rfl, ?_⟩
  have S42 := S34.call r41
  refine FL.v (E.not rfl) ?_
  refine FL.nil ?_
  rcases ifB hp with ⟨c43, hp⟩ | ⟨c43, hp⟩
  ·
   refine FW.condT rfl c43 ?_
   refine FW.seq (FW.region ?_)
   refine FL.v (E.assign (v := Value.bool false) rfl) ?_
   refine FL.nil ?_
   refine FW.ret ?_
   obtain rfl := Option.some.inj hp
   exact ⟨.inr rfl, res1 rfl rfl ⟨rfl, S42.back⟩⟩
  ·
   refine FW.condF rfl c43 ?_
   refine FW.skip (FW.seq (FW.region ?_))
   refine FL.v (E.assign (v := Value.bool true) rfl) ?_
   refine FL.nil ?_
   refine FW.ret ?_
   obtain rfl := Option.some.inj hp
   exact ⟨.inr rfl, res1 rfl rfl ⟨rfl, S42.back⟩⟩

theorem w_laws_eqResStep {Ha : GH} {wa : World} (hs : Sl Ha wa) (a0 : ResStep) (v0_0 : Value) (p0_0 : RSl Ha eI 1 v0_0 a0.clause) (a1 : ResStep) (v1_0 : Value) (p1_0 : RSl Ha eI 1 v1_0 a1.clause) {r : Bool} (hp : (PF.laws_eqResStep a0 a1) = some r) :
  Calls Tryz.prog 71 #[Value.agg #[v0_0, Value.int .i64 a0.left, Value.int .i64 a0.right, Value.int .i64 a0.pivot], Value.agg #[v1_0, Value.int .i64 a1.left, Value.int .i64 a1.right, Value.int .i64 a1.pivot]] wa (Sc Ha wa (Value.bool r)) := by
 unfold PF.laws_eqResStep at hp
 have S0 := St.init hs
 refine calls_go (N := 26) (args := [Value.agg #[v0_0, Value.int .i64 a0.left, Value.int .i64 a0.right, Value.int .i64 a0.pivot], Value.agg #[v1_0, Value.int .i64 a1.left, Value.int .i64 a1.right, Value.int .i64 a1.pivot]]) Tryz.func71 rfl rfl rfl ?_
 refine FW.seq (FW.region ?_)
 obtain ⟨b21, w22, run23, S24⟩ := S0.box (P := Tryz.prog) 88 [v0_0, Value.int .i64 a0.left, Value.int .i64 a0.right, Value.int .i64 a0.pivot] (v := Value.agg #[v0_0, Value.int .i64 a0.left, Value.int .i64 a0.right, Value.int .i64 a0.pivot]) rfl (ones_cons p0_0.one (ones_cons rfl (ones_cons rfl (ones_cons rfl ones_nil))))
 refine FL.v (E.box rfl run23) ?_
 obtain ⟨H25, S26, i27, at28⟩ := S24.sealBox (i := 0) (l' := []) rfl rfl
 obtain ⟨b29, w30, run31, S32⟩ := S26.box (P := Tryz.prog) 88 [v1_0, Value.int .i64 a1.left, Value.int .i64 a1.right, Value.int .i64 a1.pivot] (v := Value.agg #[v1_0, Value.int .i64 a1.left, Value.int .i64 a1.right, Value.int .i64 a1.pivot]) rfl (ones_cons p1_0.one (ones_cons rfl (ones_cons rfl (ones_cons rfl ones_nil))))
 refine FL.v (E.box rfl run31) ?_
 obtain ⟨H33, S34, i35, at36⟩ := S32.sealBox (i := 0) (l' := []) rfl rfl
 refine FL.v (E.assign (v := Value.bool false) rfl) ?_
 refine FL.nil (FW.seq (FW.seq (FW.region ?_)))
 refine FL.v (E.fieldAddr tf88_0 rfl) ?_
 refine FL.v (E.load rfl (run_load1 Tryz.isAgg73 ((at28.mono i35).now S34.sl) rfl)) ?_
 refine FL.v (E.fieldAddr tf88_0 rfl) ?_
 refine FL.v (E.load rfl (run_load1 Tryz.isAgg73 (at36.now S34.sl) rfl)) ?_
 obtain ⟨r37, hr38, hp⟩ := bnd hp
 refine FL.call rfl rfl rfl (E.call Tryz.call52 (A2 rfl rfl)) (w_laws_eqIntS S34.sl v0_0 a0.clause (p0_0.mono (i27.tr i35)) v1_0 a1.clause (p1_0.mono (i27.tr i35)) hr38) ?_
 rintro e w39 ⟨rfl, r40⟩
 refine ⟨_, rfl, ?_⟩
 have S41 := S34.call r40
 refine FL.v (E.not rfl) ?_
 refine FL.nil ?_
 rcases ifB hp with ⟨c42, hp⟩ | ⟨c42, hp⟩
 ·
  refine FW.condT rfl c42 ?_
  refine FW.seq (FW.region ?_)
  refine FL.v (E.assign (v := Value.bool false) rfl) ?_
  refine FL.nil ?_
  refine FW.ret ?_
  obtain rfl := Option.some.inj hp
  exact ⟨.inr rfl, res1 rfl rfl ⟨rfl, S41.back⟩⟩
 ·
  refine FW.condF rfl c42 ?_
  refine FW.skip (FW.seq (FW.seq (FW.region ?_)))
  refine FL.v (E.fieldAddr tf88_1 rfl) ?_
  refine FL.v (E.load rfl (run_load1 Tryz.isAgg3 ((at28.mono i35).now S41.sl) rfl)) ?_
  refine FL.v (E.fieldAddr tf88_1 rfl) ?_
  refine FL.v (E.load rfl (run_load1 Tryz.isAgg3 (at36.now S41.sl) rfl)) ?_
  refine FL.v (E.neq rfl rfl) ?_
  refine FL.nil ?_
  rcases ifB hp with ⟨c43, hp⟩ | ⟨c43, hp⟩
  ·
   refine FW.condT rfl c43 ?_
   refine FW.seq (FW.region ?_)
   refine FL.v (E.assign (v := Value.bool false) rfl) ?_
   refine FL.nil ?_
   refine FW.ret ?_
   obtain rfl := Option.some.inj hp
   exact ⟨.inr rfl, res1 rfl rfl ⟨rfl, S41.back⟩⟩
  ·
   refine FW.condF rfl c43 ?_
   refine FW.skip (FW.seq (FW.seq (FW.region ?_)))
   refine FL.v (E.fieldAddr tf88_2 rfl) ?_
   refine FL.v (E.load rfl (run_load1 Tryz.isAgg3 ((at28.mono i35).now S41.sl) rfl)) ?_
   refine FL.v (E.fieldAddr tf88_2 rfl) ?_
   refine FL.v (E.load rfl (run_load1 Tryz.isAgg3 (at36.now S41.sl) rfl)) ?_
   refine FL.v (E.neq rfl rfl) ?_
   refine FL.nil ?_
   rcases ifB hp with ⟨c44, hp⟩ | ⟨c44, hp⟩
   ·
    refine FW.condT rfl c44 ?_
    refine FW.seq (FW.region ?_)
    refine FL.v (E.assign (v := Value.bool false) rfl) ?_
    refine FL.nil ?_
    refine FW.ret ?_
    obtain rfl := Option.some.inj hp
    exact ⟨.inr rfl, res1 rfl rfl ⟨rfl, S41.back⟩⟩
   ·
    refine FW.condF rfl c44 ?_
    refine FW.skip (FW.seq (FW.seq (FW.region ?_)))
    refine FL.v (E.fieldAddr tf88_3 rfl) ?_
    refine FL.v (E.load rfl (run_load1 Tryz.isAgg3 ((at28.mono i35).now S41.sl) rfl)) ?_
    refine FL.v (E.fieldAddr tf88_3 rfl) ?_
    refine FL.v (E.load rfl (run_load1 Tryz.isAgg3 (at36.now S41.sl) rfl)) ?_
    refine FL.v (E.neq rfl rfl) ?_
    refine FL.nil ?_
    rcases ifB hp with ⟨c45, hp⟩ | ⟨c45, hp⟩
    ·
     refine FW.condT rfl c45 ?_
     refine FW.seq (FW.region ?_)
     refine FL.v (E.assign (v := Value.bool false) rfl) ?_
     refine FL.nil ?_
     refine FW.ret ?_
     obtain rfl := Option.some.inj hp
     exact ⟨.inr rfl, res1 rfl rfl ⟨rfl, S41.back⟩⟩
    ·
     refine FW.condF rfl c45 ?_
     refine FW.skip (FW.seq (FW.region ?_))
     refine FL.v (E.assign (v := Value.bool true) rfl) ?_
     refine FL.nil ?_
     refine FW.ret ?_
     obtain rfl := Option.some.inj hp
     exact ⟨.inr rfl, res1 rfl rfl ⟨rfl, S41.back⟩⟩

theorem w_laws_eqResStepS {Ha : GH} {wa : World} (hs : Sl Ha wa) (v0 : Value) (a0 : List ResStep) (p0 : RSl Ha eResStep 4 v0 a0) (v1 : Value) (a1 : List ResStep) (p1 : RSl Ha eResStep 4 v1 a1) {r : Bool} (hp : (PF.laws_eqResStepS a0 a1) = some r) :
  Calls Tryz.prog 20 #[v0, v1] wa (Sc Ha wa (Value.bool r)) := by
 unfold PF.laws_eqResStepS at hp
 have S0 := St.init hs
 refine calls_go (N := 27) (args := [v0, v1]) Tryz.func20 rfl rfl rfl ?_
 refine FW.seq (FW.region ?_)
 refine FL.v (E.assign (v := Value.bool false) rfl) ?_
 refine FL.nil (FW.seq (FW.seq (FW.region ?_)))
 refine FL.v (E.move (v := v0) rfl) ?_
 refine FL.v (E.lenP te34 rfl p0) ?_
 refine FL.v (E.move (v := v1) rfl) ?_
 refine FL.v (E.lenP te34 rfl p1) ?_
 refine FL.v (E.neq rfl rfl) ?_
 refine FL.nil ?_
 rcases ifB hp with ⟨c21, hp⟩ | ⟨c21, hp⟩
 ·
  refine FW.condT rfl c21 ?_
  refine FW.seq (FW.region ?_)
  refine FL.v (E.assign (v := Value.bool false) rfl) ?_
  refine FL.nil ?_
  refine FW.ret ?_
  obtain rfl := Option.some.inj hp
  exact ⟨.inr rfl, res1 rfl rfl ⟨rfl, S0.back⟩⟩
 ·
  refine FW.condF rfl c21 ?_
  refine FW.skip (FW.seq (FW.seq (FW.region ?_)))
  refine FL.v (E.assign (v := Value.int .i64 0) rfl) ?_
  refine FL.nil ?_
  obtain ⟨q23, hq, hp⟩ := bndR hp
  refine FW.block ?_
  refine FW.mono (FW.forL (S := Unit) (X := Bool) (fun (i23 : Nat) (s23 : Unit) f w => ∃ H : GH, St Ha wa H w [] ∧ Inc Ha H ∧ f 5 = Value.int .i64 ((i23 : Nat) : Int) ∧ f 0 = v0 ∧ f 1 = v1) (fun q e f w => match q with | .go s23 => e = Exit.exit 0 ∧ (∃ H : GH, St Ha wa H w [] ∧ Inc Ha H) | .rt x => ((e = Exit.ret) ∧ (fun e f w => (e = Exit.normal ∨ e = Exit.ret) ∧ ∀ a, Fr (δ := []) 27 a f → ∃ v, (results Tryz.f20 a.tmps).run Tryz.prog w = .ok v w ∧ (Sc Ha wa (Value.bool x)) (.returned v) w) e f w)) hq ⟨_, S0, (Inc.rfl _), rfl, rfl, rfl⟩ ?_ ?_) ?_
  ·
   clear hp hq
   rintro i23 y22 s23 f61 w60 ⟨H57, S58, i59, k62, k63, k64⟩ hx23 o90 hp
   refine FW.seq (FW.seq (FW.region ?_))
   refine FL.v (E.move k62) ?_
   refine FL.v (E.move k63) ?_
   refine FL.v (E.lenP te34 rfl p0) ?_
   refine FL.v (E.lssT rfl rfl (lss_len hx23)) ?_
   refine FL.nil ?_
   refine FW.condT rfl rfl ?_
   refine FW.skip (FW.seq (FW.block (FW.seq ?_)))
   refine FW.draw (fun w' => Run w60.heap.size H57 w60 H57 w') (by kernel_rfl) (by kernel_rfl) (run_drew S58.sl) ?_
   refine FD.val rfl rfl rfl (fun w' hw' => (E.move k63)) ?_
   refine FD.val rfl rfl rfl (fun w' hw' => (E.move k62)) ?_
   obtain ⟨p66, cs67, pt68, l69, at70, rel71⟩ := p0.at (ix_nat hx23)
   obtain ⟨v72, rfl, h73⟩ := eResStep_open rel71
   refine FD.val rfl rfl rfl (fun w' hw' => (E.indexAddr te34 rfl rfl pt68)) ?_
   refine FD.val rfl rfl rfl (fun w' hw' => (E.load rfl (run_loadA Tryz.isAgg88 Tryz.sizeOf88 ((at70.mono i59).now (S58.call hw').sl) rfl))) ?_
   refine FD.val rfl rfl rfl (fun w' hw' => (E.move k64)) ?_
   refine FD.val rfl rfl rfl (fun w' hw' => (E.move k62)) ?_
   obtain ⟨x80, hx81, hp⟩ := bnd hp
   obtain ⟨p74, cs75, pt76, l77, at78, rel79⟩ := p1.at hx81
   obtain ⟨v82, rfl, h83⟩ := eResStep_open rel79
   refine FD.val rfl rfl rfl (fun w' hw' => (E.indexAddr te34 rfl rfl pt76)) ?_
   refine FD.val rfl rfl rfl (fun w' hw' => (E.load rfl (run_loadA Tryz.isAgg88 Tryz.sizeOf88 ((at78.mono i59).now (S58.call hw').sl) rfl))) ?_
   obtain ⟨r84, hr85, hp⟩ := bnd hp
   refine FD.call rfl rfl rfl (fun w' hw' => (E.call Tryz.call71 (A2 rfl rfl))) (fun w' hw' => Calls.cls hw' (w_laws_eqResStep (S58.call hw').sl y22 v72 (h73.mono i59) x80 v82 (h83.mono i59) hr85)) ?_
   refine FD.val rfl rfl rfl (fun w' hw' => (E.not rfl)) ?_
   refine FD.nil ?_
   intro w86 r88
   have S87 := S58.call r88
   rcases ifB hp with ⟨c89, hp⟩ | ⟨c89, hp⟩
   ·
    refine FW.condT rfl c89 ?_
    refine FW.seq (FW.region ?_)
    refine FL.v (E.assign (v := Value.bool false) rfl) ?_
    refine FL.nil ?_
    refine FW.ret ?_
    obtain rfl := Option.some.inj hp
    exact ⟨nofun, rfl, ⟨.inr rfl, res1 rfl rfl ⟨rfl, S87.back⟩⟩⟩
   ·
    refine FW.condF rfl c89 ?_
    refine FW.skip (FW.region ?_)
    refine FL.v (E.move k62) ?_
    refine FL.v (E.add rfl rfl) ?_
    refine FL.v (E.assign (v := Value.int .i64 (wr (((i23 : Nat) : Int) + 1))) rfl) ?_
    refine FL.nil ?_
    obtain rfl := Option.some.inj hp
    exact ⟨rfl, ⟨_, S87, i59, (nat_succ rfl (lt_of_get hx23) (p0.mono i59).le), k63, k64⟩⟩
  ·
   clear hp hq
   rintro s23 f100 w99 ⟨H96, S97, i98, k101, k102, k103⟩
   refine FW.seq (FW.seq (FW.region ?_))
   refine FL.v (E.move k101) ?_
   refine FL.v (E.move k102) ?_
   refine FL.v (E.lenP te34 rfl p0) ?_
   refine FL.v (E.lss rfl rfl) ?_
   refine FL.nil ?_
   refine FW.condF rfl dlt_len ?_
   refine FW.exit ?_
   exact ⟨nofun, rfl, ⟨_, S97, i98⟩⟩
  ·
   clear hq
   intro e f95 w94 hD
   rcases q23 with s23 | x23
   ·
    obtain ⟨rfl, hD⟩ := hD
    obtain ⟨H91, S92, i93⟩ := hD
    replace hp := el_go hp
    refine FW.seq (FW.region ?_)
    refine FL.v (E.assign (v := Value.bool true) rfl) ?_
    refine FL.nil ?_
    refine FW.ret ?_
    obtain rfl := Option.some.inj hp
    exact ⟨.inr rfl, res1 rfl rfl ⟨rfl, S92.back⟩⟩
   ·
    obtain ⟨he, hL⟩ := hD
    replace hp := el_rt hp
    obtain rfl := Option.some.inj hp
    subst he
    exact hL

theorem w_laws_markIntS {H0 Ha : GH} {w0 wa : World} {l : List MO} (S0 : St H0 w0 Ha wa l) (hs0 : Sl H0 w0) (v0 : Value) (a0 : List Int) (p0 : RSl (up w0.heap.size Ha) eI 1 v0 a0) (a1 : Int) :
  Calls Tryz.prog 53 #[v0, Value.int .i64 a1] wa (M1 H0 w0 Ha l eI 1 v0 (PF.laws_markIntS a0 a1)) := by
 obtain ⟨c0, n0, hc0⟩ := p0.nest eI_flat (by decide)
 have hln := p0.ln
 have hle := p0.le
 refine calls_go (N := 19) (args := [v0, Value.int .i64 a1]) Tryz.func53 rfl rfl rfl ?_
 refine FW.seq (FW.region ?_)
 refine FL.v (E.assign (v := Value.int .i64 0) rfl) ?_
 refine FL.nil (FW.seq (FW.seq (FW.region ?_)))
 refine FL.v (E.assign (v := Value.int .i64 0) rfl) ?_
 refine FL.nil (FW.block ?_)
 refine FW.mono (FW.mark (F := fun y m => (m, (wr (m + 1)))) (a0 := a0) (k0 := a1) (fun (i : Nat) (xs : List Int) (k : Int) f w => ∃ (H : GH) (c : List Value), St H0 w0 H w l ∧ Nest (up w0.heap.size H) eI 1 v0 xs c ∧ bl c = bl c0 ∧ (∀ b, b ∉ bl [v0] → b ∉ bl c0 → H b = Ha b) ∧ f 0 = v0 ∧ f 1 = Value.int .i64 k ∧ f 5 = Value.int .i64 ((i : Nat) : Int)) (fun e f w => e = Exit.exit 0 ∧ ∃ (H : GH) (c : List Value), St H0 w0 H w l ∧ Nest (up w0.heap.size H) eI 1 v0 (markFrom (fun y m => (m, (wr (m + 1)))) a0 a1).1 c ∧ bl c = bl c0 ∧ (∀ b, b ∉ bl [v0] → b ∉ bl c0 → H b = Ha b) ∧ f 0 = v0 ∧ f 1 = Value.int .i64 (markFrom (fun y m => (m, (wr (m + 1)))) a0 a1).2) ⟨_, _, S0, n0, rfl, fun _ _ _ => rfl, rfl, rfl, rfl⟩ ?_ ?_) ?_
 ·
  rintro i y xs m f1 w1 ⟨H1, c1, S1, n1, hb, ho, kv, kk, kc⟩ hx hy
  obtain ⟨p, hpt, wr0, hB, hr, nd⟩ := n1.begin hy (by decide)
  have hci := eI_open hr
  have rd := wr0.opens hci
  refine FW.seq (FW.seq (FW.region ?_))
  refine FL.v (E.move kc) ?_
  refine FL.v (E.move kv) ?_
  refine FL.v (E.len te73 rfl hln) ?_
  refine FL.v (E.lssT rfl rfl (lss_len hx)) ?_
  refine FL.nil ?_
  refine FW.condT rfl rfl ?_
  refine FW.skip (FW.seq (FW.block (FW.seq (FW.region ?_))))
  refine FL.v (E.move kv) ?_
  refine FL.v (E.move kc) ?_
  refine FL.v (E.move kk) ?_
  refine FL.v (E.indexAddr te73 rfl rfl hpt) ?_
  obtain ⟨w21, H22, run24, S23, wr25, o26⟩ := rd.poke0 (P := Tryz.prog) (t := 3) (u := Value.int .i64 m) S1 hs0 hB rfl rfl rfl Tryz.sizeOf3 rfl rfl (c2 := [Value.int .i64 m]) rfl
  refine FL.act rfl rfl (E.store rfl rfl run24) ?_
  refine FL.nil (FW.region ?_)
  refine FL.v (E.move kk) ?_
  refine FL.v (E.add rfl rfl) ?_
  refine FL.v (E.assign (v := Value.int .i64 (wr (m + 1))) rfl) ?_
  refine FL.nil (FW.region ?_)
  refine FL.v (E.move kc) ?_
  refine FL.v (E.add rfl rfl) ?_
  refine FL.v (E.assign (v := Value.int .i64 (wr (((i : Nat) : Int) + 1))) rfl) ?_
  refine FL.nil ?_
  obtain ⟨c2, n2, hb2, ho2⟩ := n1.round eI_flat.loc hy (by decide) hpt wr25 (y' := m) rfl
  exact ⟨rfl, _, _, S23, n2, hb2.trans hb, fun b q1 q2 => (ho2 b q1 (by rw [hb]; exact q2)).trans (ho b q1 q2), kv, rfl, nat_succ rfl (lt_of_get hx) hle⟩
 ·
  rintro f1 w1 ⟨H1, c1, S1, n1, hb, ho, kv, kk, kc⟩
  refine FW.seq (FW.seq (FW.region ?_))
  refine FL.v (E.move kc) ?_
  refine FL.v (E.move kv) ?_
  refine FL.v (E.len te73 rfl hln) ?_
  refine FL.v (E.lss rfl rfl) ?_
  refine FL.nil ?_
  refine FW.condF rfl dlt_len ?_
  refine FW.exit ?_
  exact ⟨nofun, rfl, _, _, S1, n1, hb, ho, kv, kk⟩
 ·
  rintro e f2 w2 ⟨rfl, H2, c2, S2, n2, hb, ho, kv, kk⟩
  refine FW.seq (FW.region ?_)
  refine FL.v (E.move kk) ?_
  refine FL.v (E.assign (v := Value.int .i64 ((markFrom (fun y m => (m, (wr (m + 1)))) a0 a1).2)) rfl) ?_
  refine FL.nil ?_
  refine FW.ret ?_
  exact ⟨.inr rfl, res1 rfl rfl ⟨_, rfl, S2, n2.rsl, fun b q => ho b q (by rw [hc0]; simp)⟩⟩

theorem w_laws_markIntSS {H0 Ha : GH} {w0 wa : World} {l : List MO} (S0 : St H0 w0 Ha wa l) (hs0 : Sl H0 w0) (v0 : Value) (a0 : List (List Int)) (c0 : List Value) (n0 : Nest (up w0.heap.size Ha) (eL eI 1) 1 v0 a0 c0) (a1 : Int) :
  Calls Tryz.prog 48 #[v0, Value.int .i64 a1] wa (M2 H0 w0 Ha l (eL eI 1) 1 v0 c0 (PF.laws_markIntSS a0 a1)) := by
 have hln := n0.rsl.ln
 have hle := n0.rsl.le
 refine calls_go (N := 19) (args := [v0, Value.int .i64 a1]) Tryz.func48 rfl rfl rfl ?_
 refine FW.seq (FW.region ?_)
 refine FL.v (E.assign (v := Value.int .i64 0) rfl) ?_
 refine FL.nil (FW.seq (FW.seq (FW.region ?_)))
 refine FL.v (E.assign (v := Value.int .i64 0) rfl) ?_
 refine FL.nil (FW.block ?_)
 refine FW.mono (FW.mark (F := fun y m => ((PF.laws_markIntS y m).1, (PF.laws_markIntS y m).2)) (a0 := a0) (k0 := a1) (fun (i : Nat) (xs : List (List Int)) (k : Int) f w => ∃ (H : GH) (c : List Value), St H0 w0 H w l ∧ Nest (up w0.heap.size H) (eL eI 1) 1 v0 xs c ∧ bl c = bl c0 ∧ (∀ b, b ∉ bl [v0] → b ∉ bl c0 → H b = Ha b) ∧ f 0 = v0 ∧ f 1 = Value.int .i64 k ∧ f 5 = Value.int .i64 ((i : Nat) : Int)) (fun e f w => e = Exit.exit 0 ∧ ∃ (H : GH) (c : List Value), St H0 w0 H w l ∧ Nest (up w0.heap.size H) (eL eI 1) 1 v0 (markFrom (fun y m => ((PF.laws_markIntS y m).1, (PF.laws_markIntS y m).2)) a0 a1).1 c ∧ bl c = bl c0 ∧ (∀ b, b ∉ bl [v0] → b ∉ bl c0 → H b = Ha b) ∧ f 0 = v0 ∧ f 1 = Value.int .i64 (markFrom (fun y m => ((PF.laws_markIntS y m).1, (PF.laws_markIntS y m).2)) a0 a1).2) ⟨_, _, S0, n0, rfl, fun _ _ _ => rfl, rfl, rfl, rfl⟩ ?_ ?_) ?_
 ·
  rintro i y xs m f1 w1 ⟨H1, c1, S1, n1, hb, ho, kv, kk, kc⟩ hx hy
  obtain ⟨p, hpt, wr0, hB, hr, nd⟩ := n1.begin hy (by decide)
  obtain ⟨u0, hci, hu0⟩ := eL_open hr
  have rd := wr0.opens hci
  refine FW.seq (FW.seq (FW.region ?_))
  refine FL.v (E.move kc) ?_
  refine FL.v (E.move kv) ?_
  refine FL.v (E.len te22 rfl hln) ?_
  refine FL.v (E.lssT rfl rfl (lss_len hx)) ?_
  refine FL.nil ?_
  refine FW.condT rfl rfl ?_
  refine FW.skip (FW.seq (FW.block (FW.region ?_)))
  refine FL.v (E.move kv) ?_
  refine FL.v (E.move kc) ?_
  refine FL.v (E.indexAddr te22 rfl rfl hpt) ?_
  refine FL.v (E.load rfl (run_load0 Tryz.isAgg73 (rd.now S1.sl) rfl)) ?_
  refine FL.v (E.move kk) ?_
  refine FL.call rfl rfl rfl (E.call Tryz.call53 (A2 rfl rfl)) (w_laws_markIntS S1 hs0 u0 y hu0 m) ?_
  rintro e w22 ⟨H21, rfl, S23, h24, o25⟩
  refine ⟨_, rfl, ?_⟩
  have wr26 := rd.inner (j := 0) rfl o25
  refine FL.v (E.assign (v := Value.int .i64 ((PF.laws_markIntS y m).2)) rfl) ?_
  refine FL.nil (FW.region ?_)
  refine FL.v (E.move kc) ?_
  refine FL.v (E.add rfl rfl) ?_
  refine FL.v (E.assign (v := Value.int .i64 (wr (((i : Nat) : Int) + 1))) rfl) ?_
  refine FL.nil ?_
  obtain ⟨c2, n2, hb2, ho2⟩ := n1.round (eL_loc eI_flat) hy (by decide) hpt wr26 (y' := (PF.laws_markIntS y m).1) ⟨_, rfl, h24⟩
  exact ⟨rfl, _, _, S23, n2, hb2.trans hb, fun b q1 q2 => (ho2 b q1 (by rw [hb]; exact q2)).trans (ho b q1 q2), kv, rfl, nat_succ rfl (lt_of_get hx) hle⟩
 ·
  rintro f1 w1 ⟨H1, c1, S1, n1, hb, ho, kv, kk, kc⟩
  refine FW.seq (FW.seq (FW.region ?_))
  refine FL.v (E.move kc) ?_
  refine FL.v (E.move kv) ?_
  refine FL.v (E.len te22 rfl hln) ?_
  refine FL.v (E.lss rfl rfl) ?_
  refine FL.nil ?_
  refine FW.condF rfl dlt_len ?_
  refine FW.exit ?_
  exact ⟨nofun, rfl, _, _, S1, n1, hb, ho, kv, kk⟩
 ·
  rintro e f2 w2 ⟨rfl, H2, c2, S2, n2, hb, ho, kv, kk⟩
  refine FW.seq (FW.region ?_)
  refine FL.v (E.move kk) ?_
  refine FL.v (E.assign (v := Value.int .i64 ((markFrom (fun y m => ((PF.laws_markIntS y m).1, (PF.laws_markIntS y m).2)) a0 a1).2)) rfl) ?_
  refine FL.nil ?_
  refine FW.ret ?_
  exact ⟨.inr rfl, res1 rfl rfl ⟨_, _, rfl, S2, n2, hb, fun b q1 q2 => weak (F := fun b => b ∉ bl [v0] ∧ b ∉ bl c0) (fun b q => ho b q.1 q.2) b ⟨q1, q2⟩⟩⟩

@[reducible] def p_laws_markCnf (H0 : GH) (w0 : World) (Ha : GH) (l : List MO) (v0 : Value) (c0 : List Value) (r : Cnf × Int) : Ending → World → Prop := fun e w' =>
 ∃ (H' : GH) (c' : List Value), e = .returned (.int .i64 r.2) ∧ St H0 w0 H' w' l ∧ Nest (up w0.heap.size H') (eL eI 1) 1 v0 r.1.clauses c' ∧ bl c' = bl c0 ∧ ∀ b, b ∉ bl [v0] → b ∉ bl c0 → ∀ o, Ha b = some o → H' b = some o
theorem w_laws_markCnf {H0 Ha : GH} {w0 wa : World} {l : List MO} (S0 : St H0 w0 Ha wa l) (hs0 : Sl H0 w0) (a0 : Cnf) (v0 : Value) (c0 : List Value) (n0 : Nest (up w0.heap.size Ha) (eL eI 1) 1 v0 a0.clauses c0) (a1 : Int) :
  Calls Tryz.prog 27 #[.agg #[Value.int .i64 a0.vars, v0], Value.int .i64 a1] wa (p_laws_markCnf H0 w0 Ha l v0 c0 (PF.laws_markCnf a0 a1)) := by
 refine calls_go (N := 10) (args := [.agg #[Value.int .i64 a0.vars, v0], Value.int .i64 a1]) Tryz.func27 rfl rfl rfl ?_
 refine FW.seq (FW.region ?_)
 obtain ⟨b21, w22, run23, S24⟩ := S0.box (P := Tryz.prog) 32 [Value.int .i64 a0.vars, v0] (v := Value.agg #[Value.int .i64 a0.vars, v0]) rfl (ones_cons rfl (ones_cons n0.rsl.one ones_nil))
 refine FL.v (E.box rfl run23) ?_
 obtain ⟨H25, S26, i27, at28⟩ := S24.sealBox (i := 0) (l' := l) rfl rfl
 refine FL.v (E.assign (v := Value.int .i64 0) rfl) ?_
 refine FL.nil (FW.seq (FW.region ?_))
 refine FL.v (E.fieldAddr tf32_1 rfl) ?_
 refine FL.v (E.load rfl (run_load1 Tryz.isAgg22 (at28.now S26.sl) rfl)) ?_
 refine FL.v (E.move (v := Value.int .i64 a1) rfl) ?_
 refine FL.call rfl rfl rfl (E.call Tryz.call48 (A2 rfl rfl)) (w_laws_markIntSS S26 hs0 v0 a0.clauses c0 (n0.mono (up_mono i27)) a1) ?_
 rintro e w30 ⟨H29, c34, rfl, S31, h32, hb35, o33⟩
 refine ⟨_, rfl, ?_⟩
 refine FL.v (E.assign (v := Value.int .i64 ((PF.laws_markIntSS a0.clauses a1).2)) rfl) ?_
 refine FL.nil (FW.seq (FW.region ?_))
 refine FL.v (E.move (v := Value.int .i64 ((PF.laws_markIntSS a0.clauses a1).2)) rfl) ?_
 refine FL.v (E.assign (v := Value.int .i64 ((PF.laws_markIntSS a0.clauses a1).2)) rfl) ?_
 refine FL.nil ?_
 refine FW.ret ?_
 exact ⟨.inr rfl, res1 rfl rfl ⟨_, _, rfl, S31, h32, hb35, fun b q1 q2 o ho => o33 b q1 q2 o (i27 b o ho)⟩⟩

theorem w_laws_markResStepS {H0 Ha : GH} {w0 wa : World} {l : List MO} (S0 : St H0 w0 Ha wa l) (hs0 : Sl H0 w0) (v0 : Value) (a0 : List ResStep) (c0 : List Value) (n0 : Nest (up w0.heap.size Ha) eResStep 4 v0 a0 c0) (a1 : Int) :
  Calls Tryz.prog 28 #[v0, Value.int .i64 a1] wa (M2 H0 w0 Ha l eResStep 4 v0 c0 (PF.laws_markResStepS a0 a1)) := by
 have hln := n0.rsl.ln
 have hle := n0.rsl.le
 refine calls_go (N := 41) (args := [v0, Value.int .i64 a1]) Tryz.func28 rfl rfl rfl ?_
 refine FW.seq (FW.region ?_)
 refine FL.v (E.assign (v := Value.int .i64 0) rfl) ?_
 refine FL.nil (FW.seq (FW.seq (FW.region ?_)))
 refine FL.v (E.assign (v := Value.int .i64 0) rfl) ?_
 refine FL.nil (FW.block ?_)
 refine FW.mono (FW.mark (F := fun y m => ((ResStep.mk ((PF.laws_markIntS y.clause m).1) ((PF.laws_markIntS y.clause m).2) (wr ((PF.laws_markIntS y.clause m).2 + 1)) (wr ((wr ((PF.laws_markIntS y.clause m).2 + 1)) + 1))), (wr ((wr ((wr ((PF.laws_markIntS y.clause m).2 + 1)) + 1)) + 1)))) (a0 := a0) (k0 := a1) (fun (i : Nat) (xs : List ResStep) (k : Int) f w => ∃ (H : GH) (c : List Value), St H0 w0 H w l ∧ Nest (up w0.heap.size H) eResStep 4 v0 xs c ∧ bl c = bl c0 ∧ (∀ b, b ∉ bl [v0] → b ∉ bl c0 → H b = Ha b) ∧ f 0 = v0 ∧ f 1 = Value.int .i64 k ∧ f 5 = Value.int .i64 ((i : Nat) : Int)) (fun e f w => e = Exit.exit 0 ∧ ∃ (H : GH) (c : List Value), St H0 w0 H w l ∧ Nest (up w0.heap.size H) eResStep 4 v0 (markFrom (fun y m => ((ResStep.mk ((PF.laws_markIntS y.clause m).1) ((PF.laws_markIntS y.clause m).2) (wr ((PF.laws_markIntS y.clause m).2 + 1)) (wr ((wr ((PF.laws_markIntS y.clause m).2 + 1)) + 1))), (wr ((wr ((wr ((PF.laws_markIntS y.clause m).2 + 1)) + 1)) + 1)))) a0 a1).1 c ∧ bl c = bl c0 ∧ (∀ b, b ∉ bl [v0] → b ∉ bl c0 → H b = Ha b) ∧ f 0 = v0 ∧ f 1 = Value.int .i64 (markFrom (fun y m => ((ResStep.mk ((PF.laws_markIntS y.clause m).1) ((PF.laws_markIntS y.clause m).2) (wr ((PF.laws_markIntS y.clause m).2 + 1)) (wr ((wr ((PF.laws_markIntS y.clause m).2 + 1)) + 1))), (wr ((wr ((wr ((PF.laws_markIntS y.clause m).2 + 1)) + 1)) + 1)))) a0 a1).2) ⟨_, _, S0, n0, rfl, fun _ _ _ => rfl, rfl, rfl, rfl⟩ ?_ ?_) ?_
 ·
  rintro i y xs m f1 w1 ⟨H1, c1, S1, n1, hb, ho, kv, kk, kc⟩ hx hy
  obtain ⟨p, hpt, wr0, hB, hr, nd⟩ := n1.begin hy (by decide)
  obtain ⟨u0, hci, hu0⟩ := eResStep_open hr
  have rd := wr0.opens hci
  refine FW.seq (FW.seq (FW.region ?_))
  refine FL.v (E.move kc) ?_
  refine FL.v (E.move kv) ?_
  refine FL.v (E.len te34 rfl hln) ?_
  refine FL.v (E.lssT rfl rfl (lss_len hx)) ?_
  refine FL.nil ?_
  refine FW.condT rfl rfl ?_
  refine FW.skip (FW.seq (FW.block (FW.seq (FW.region ?_))))
  refine FL.v (E.move kv) ?_
  refine FL.v (E.move kc) ?_
  refine FL.v (E.indexAddr te34 rfl rfl hpt) ?_
  refine FL.v (E.fieldAddr tf88_0 rfl) ?_
  refine FL.v (E.load rfl (run_load1 Tryz.isAgg73 (rd.now S1.sl) rfl)) ?_
  refine FL.v (E.move kk) ?_
  refine FL.call rfl rfl rfl (E.call Tryz.call53 (A2 rfl rfl)) (w_laws_markIntS S1 hs0 u0 y.clause hu0 m) ?_
  rintro e w22 ⟨H21, rfl, S23, h24, o25⟩
  refine ⟨_, rfl, ?_⟩
  have wr26 := rd.inner (j := 0) rfl o25
  refine FL.v (E.assign (v := Value.int .i64 ((PF.laws_markIntS y.clause m).2)) rfl) ?_
  refine FL.nil (FW.seq (FW.region ?_))
  refine FL.v (E.move kv) ?_
  refine FL.v (E.move kc) ?_
  refine FL.v (E.move (v := Value.int .i64 ((PF.laws_markIntS y.clause m).2)) rfl) ?_
  refine FL.v (E.indexAddr te34 rfl rfl hpt) ?_
  refine FL.v (E.fieldAddr tf88_1 rfl) ?_
  obtain ⟨w27, H28, run30, S29, wr31, o32⟩ := wr26.poke (P := Tryz.prog) (t := 3) (u := Value.int .i64 ((PF.laws_markIntS y.clause m).2)) S23 hs0 hB (j := 1) rfl rfl rfl Tryz.sizeOf3 rfl rfl (c2 := [u0, Value.int .i64 ((PF.laws_markIntS y.clause m).2), Value.int .i64 y.right, Value.int .i64 y.pivot]) rfl
  have h33 := wr26.kept (j := 0) rfl h24 eI_flat o32
  refine FL.act rfl rfl (E.store rfl rfl run30) ?_
  refine FL.nil (FW.seq (FW.region ?_))
  refine FL.v (E.move (v := Value.int .i64 ((PF.laws_markIntS y.clause m).2)) rfl) ?_
  refine FL.v (E.add rfl rfl) ?_
  refine FL.v (E.assign (v := Value.int .i64 (wr ((PF.laws_markIntS y.clause m).2 + 1))) rfl) ?_
  refine FL.nil (FW.seq (FW.region ?_))
  refine FL.v (E.move kv) ?_
  refine FL.v (E.move kc) ?_
  refine FL.v (E.move (v := Value.int .i64 (wr ((PF.laws_markIntS y.clause m).2 + 1))) rfl) ?_
  refine FL.v (E.indexAddr te34 rfl rfl hpt) ?_
  refine FL.v (E.fieldAddr tf88_2 rfl) ?_
  obtain ⟨w34, H35, run37, S36, wr38, o39⟩ := wr31.poke (P := Tryz.prog) (t := 3) (u := Value.int .i64 (wr ((PF.laws_markIntS y.clause m).2 + 1))) S29 hs0 hB (j := 2) rfl rfl rfl Tryz.sizeOf3 rfl rfl (c2 := [u0, Value.int .i64 ((PF.laws_markIntS y.clause m).2), Value.int .i64 (wr ((PF.laws_markIntS y.clause m).2 + 1)), Value.int .i64 y.pivot]) rfl
  have h40 := wr31.kept (j := 0) rfl h33 eI_flat o39
  refine FL.act rfl rfl (E.store rfl rfl run37) ?_
  refine FL.nil (FW.seq (FW.region ?_))
  refine FL.v (E.move (v := Value.int .i64 (wr ((PF.laws_markIntS y.clause m).2 + 1))) rfl) ?_
  refine FL.v (E.add rfl rfl) ?_
  refine FL.v (E.assign (v := Value.int .i64 (wr ((wr ((PF.laws_markIntS y.clause m).2 + 1)) + 1))) rfl) ?_
  refine FL.nil (FW.seq (FW.region ?_))
  refine FL.v (E.move kv) ?_
  refine FL.v (E.move kc) ?_
  refine FL.v (E.move (v := Value.int .i64 (wr ((wr ((PF.laws_markIntS y.clause m).2 + 1)) + 1))) rfl) ?_
  refine FL.v (E.indexAddr te34 rfl rfl hpt) ?_
  refine FL.v (E.fieldAddr tf88_3 rfl) ?_
  obtain ⟨w41, H42, run44, S43, wr45, o46⟩ := wr38.poke (P := Tryz.prog) (t := 3) (u := Value.int .i64 (wr ((wr ((PF.laws_markIntS y.clause m).2 + 1)) + 1))) S36 hs0 hB (j := 3) rfl rfl rfl Tryz.sizeOf3 rfl rfl (c2 := [u0, Value.int .i64 ((PF.laws_markIntS y.clause m).2), Value.int .i64 (wr ((PF.laws_markIntS y.clause m).2 + 1)), Value.int .i64 (wr ((wr ((PF.laws_markIntS y.clause m).2 + 1)) + 1))]) rfl
  have h47 := wr38.kept (j := 0) rfl h40 eI_flat o46
  refine FL.act rfl rfl (E.store rfl rfl run44) ?_
  refine FL.nil (FW.region ?_)
  refine FL.v (E.move (v := Value.int .i64 (wr ((wr ((PF.laws_markIntS y.clause m).2 + 1)) + 1))) rfl) ?_
  refine FL.v (E.add rfl rfl) ?_
  refine FL.v (E.assign (v := Value.int .i64 (wr ((wr ((wr ((PF.laws_markIntS y.clause m).2 + 1)) + 1)) + 1))) rfl) ?_
  refine FL.nil (FW.region ?_)
  refine FL.v (E.move kc) ?_
  refine FL.v (E.add rfl rfl) ?_
  refine FL.v (E.assign (v := Value.int .i64 (wr (((i : Nat) : Int) + 1))) rfl) ?_
  refine FL.nil ?_
  obtain ⟨c2, n2, hb2, ho2⟩ := n1.round eResStep_loc hy (by decide) hpt wr45 (y' := (ResStep.mk ((PF.laws_markIntS y.clause m).1) ((PF.laws_markIntS y.clause m).2) (wr ((PF.laws_markIntS y.clause m).2 + 1)) (wr ((wr ((PF.laws_markIntS y.clause m).2 + 1)) + 1)))) ⟨_, rfl, h47⟩
  exact ⟨rfl, _, _, S43, n2, hb2.trans hb, fun b q1 q2 => (ho2 b q1 (by rw [hb]; exact q2)).trans (ho b q1 q2), kv, rfl, nat_succ rfl (lt_of_get hx) hle⟩
 ·
  rintro f1 w1 ⟨H1, c1, S1, n1, hb, ho, kv, kk, kc⟩
  refine FW.seq (FW.seq (FW.region ?_))
  refine FL.v (E.move kc) ?_
  refine FL.v (E.move kv) ?_
  refine FL.v (E.len te34 rfl hln) ?_
  refine FL.v (E.lss rfl rfl) ?_
  refine FL.nil ?_
  refine FW.condF rfl dlt_len ?_
  refine FW.exit ?_
  exact ⟨nofun, rfl, _, _, S1, n1, hb, ho, kv, kk⟩
 ·
  rintro e f2 w2 ⟨rfl, H2, c2, S2, n2, hb, ho, kv, kk⟩
  refine FW.seq (FW.region ?_)
  refine FL.v (E.move kk) ?_
  refine FL.v (E.assign (v := Value.int .i64 ((markFrom (fun y m => ((ResStep.mk ((PF.laws_markIntS y.clause m).1) ((PF.laws_markIntS y.clause m).2) (wr ((PF.laws_markIntS y.clause m).2 + 1)) (wr ((wr ((PF.laws_markIntS y.clause m).2 + 1)) + 1))), (wr ((wr ((wr ((PF.laws_markIntS y.clause m).2 + 1)) + 1)) + 1)))) a0 a1).2)) rfl) ?_
  refine FL.nil ?_
  refine FW.ret ?_
  exact ⟨.inr rfl, res1 rfl rfl ⟨_, _, rfl, S2, n2, hb, fun b q1 q2 => weak (F := fun b => b ∉ bl [v0] ∧ b ∉ bl c0) (fun b q => ho b q.1 q.2) b ⟨q1, q2⟩⟩⟩

theorem w_laws_markPlaneStepS {H0 Ha : GH} {w0 wa : World} {l : List MO} (S0 : St H0 w0 Ha wa l) (hs0 : Sl H0 w0) (v0 : Value) (a0 : List PlaneStep) (c0 : List Value) (n0 : Nest (up w0.heap.size Ha) ePlaneStep 6 v0 a0 c0) (a1 : Int) :
  Calls Tryz.prog 29 #[v0, Value.int .i64 a1] wa (M2 H0 w0 Ha l ePlaneStep 6 v0 c0 (PF.laws_markPlaneStepS a0 a1)) := by
 have hln := n0.rsl.ln
 have hle := n0.rsl.le
 refine calls_go (N := 57) (args := [v0, Value.int .i64 a1]) Tryz.func29 rfl rfl rfl ?_
 refine FW.seq (FW.region ?_)
 refine FL.v (E.assign (v := Value.int .i64 0) rfl) ?_
 refine FL.nil (FW.seq (FW.seq (FW.region ?_)))
 refine FL.v (E.assign (v := Value.int .i64 0) rfl) ?_
 refine FL.nil (FW.block ?_)
 refine FW.mono (FW.mark (F := fun y m => ((PlaneStep.mk (Inequality.mk ((PF.laws_markIntS y.ineq.coeffs m).1) ((PF.laws_markIntS y.ineq.coeffs m).2)) (wr ((PF.laws_markIntS y.ineq.coeffs m).2 + 1)) (wr ((wr ((PF.laws_markIntS y.ineq.coeffs m).2 + 1)) + 1)) (wr ((wr ((wr ((PF.laws_markIntS y.ineq.coeffs m).2 + 1)) + 1)) + 1)) (wr ((wr ((wr ((wr ((PF.laws_markIntS y.ineq.coeffs m).2 + 1)) + 1)) + 1)) + 1))), (wr ((wr ((wr ((wr ((wr ((PF.laws_markIntS y.ineq.coeffs m).2 + 1)) + 1)) + 1)) + 1)) + 1)))) (a0 := a0) (k0 := a1) (fun (i : Nat) (xs : List PlaneStep) (k : Int) f w => ∃ (H : GH) (c : List Value), St H0 w0 H w l ∧ Nest (up w0.heap.size H) ePlaneStep 6 v0 xs c ∧ bl c = bl c0 ∧ (∀ b, b ∉ bl [v0] → b ∉ bl c0 → H b = Ha b) ∧ f 0 = v0 ∧ f 1 = Value.int .i64 k ∧ f 5 = Value.int .i64 ((i : Nat) : Int)) (fun e f w => e = Exit.exit 0 ∧ ∃ (H : GH) (c : List Value), St H0 w0 H w l ∧ Nest (up w0.heap.size H) ePlaneStep 6 v0 (markFrom (fun y m => ((PlaneStep.mk (Inequality.mk ((PF.laws_markIntS y.ineq.coeffs m).1) ((PF.laws_markIntS y.ineq.coeffs m).2)) (wr ((PF.laws_markIntS y.ineq.coeffs m).2 + 1)) (wr ((wr ((PF.laws_markIntS y.ineq.coeffs m).2 + 1)) + 1)) (wr ((wr ((wr ((PF.laws_markIntS y.ineq.coeffs m).2 + 1)) + 1)) + 1)) (wr ((wr ((wr ((wr ((PF.laws_markIntS y.ineq.coeffs m).2 + 1)) + 1)) + 1)) + 1))), (wr ((wr ((wr ((wr ((wr ((PF.laws_markIntS y.ineq.coeffs m).2 + 1)) + 1)) + 1)) + 1)) + 1)))) a0 a1).1 c ∧ bl c = bl c0 ∧ (∀ b, b ∉ bl [v0] → b ∉ bl c0 → H b = Ha b) ∧ f 0 = v0 ∧ f 1 = Value.int .i64 (markFrom (fun y m => ((PlaneStep.mk (Inequality.mk ((PF.laws_markIntS y.ineq.coeffs m).1) ((PF.laws_markIntS y.ineq.coeffs m).2)) (wr ((PF.laws_markIntS y.ineq.coeffs m).2 + 1)) (wr ((wr ((PF.laws_markIntS y.ineq.coeffs m).2 + 1)) + 1)) (wr ((wr ((wr ((PF.laws_markIntS y.ineq.coeffs m).2 + 1)) + 1)) + 1)) (wr ((wr ((wr ((wr ((PF.laws_markIntS y.ineq.coeffs m).2 + 1)) + 1)) + 1)) + 1))), (wr ((wr ((wr ((wr ((wr ((PF.laws_markIntS y.ineq.coeffs m).2 + 1)) + 1)) + 1)) + 1)) + 1)))) a0 a1).2) ⟨_, _, S0, n0, rfl, fun _ _ _ => rfl, rfl, rfl, rfl⟩ ?_ ?_) ?_
 ·
  rintro i y xs m f1 w1 ⟨H1, c1, S1, n1, hb, ho, kv, kk, kc⟩ hx hy
  obtain ⟨p, hpt, wr0, hB, hr, nd⟩ := n1.begin hy (by decide)
  obtain ⟨u0, hci, hu0⟩ := ePlaneStep_open hr
  have rd := wr0.opens hci
  refine FW.seq (FW.seq (FW.region ?_))
  refine FL.v (E.move kc) ?_
  refine FL.v (E.move kv) ?_
  refine FL.v (E.len te45 rfl hln) ?_
  refine FL.v (E.lssT rfl rfl (lss_len hx)) ?_
  refine FL.nil ?_
  refine FW.condT rfl rfl ?_
  refine FW.skip (FW.seq (FW.block (FW.seq (FW.region ?_))))
  refine FL.v (E.move kv) ?_
  refine FL.v (E.move kc) ?_
  refine FL.v (E.indexAddr te45 rfl rfl hpt) ?_
  refine FL.v (E.fieldAddr tf129_0 rfl) ?_
  refine FL.v (E.fieldAddrN tf127_0 rfl rfl) ?_
  refine FL.v (E.load rfl (run_load1 Tryz.isAgg73 (rd.now S1.sl) rfl)) ?_
  refine FL.v (E.move kk) ?_
  refine FL.call rfl rfl rfl (E.call Tryz.call53 (A2 rfl rfl)) (w_laws_markIntS S1 hs0 u0 y.ineq.coeffs hu0 m) ?_
  rintro e w22 ⟨H21, rfl, S23, h24, o25⟩
  refine ⟨_, rfl, ?_⟩
  have wr26 := rd.inner (j := 0) rfl o25
  refine FL.v (E.assign (v := Value.int .i64 ((PF.laws_markIntS y.ineq.coeffs m).2)) rfl) ?_
  refine FL.nil (FW.seq (FW.region ?_))
  refine FL.v (E.move kv) ?_
  refine FL.v (E.move kc) ?_
  refine FL.v (E.move (v := Value.int .i64 ((PF.laws_markIntS y.ineq.coeffs m).2)) rfl) ?_
  refine FL.v (E.indexAddr te45 rfl rfl hpt) ?_
  refine FL.v (E.fieldAddr tf129_0 rfl) ?_
  refine FL.v (E.fieldAddrN tf127_1 rfl rfl) ?_
  obtain ⟨w27, H28, run30, S29, wr31, o32⟩ := wr26.poke (P := Tryz.prog) (t := 3) (u := Value.int .i64 ((PF.laws_markIntS y.ineq.coeffs m).2)) S23 hs0 hB (j := 1) rfl rfl rfl Tryz.sizeOf3 rfl rfl (c2 := [u0, Value.int .i64 ((PF.laws_markIntS y.ineq.coeffs m).2), Value.int .i64 y.kind, Value.int .i64 y.a, Value.int .i64 y.b, Value.int .i64 y.k]) rfl
  have h33 := wr26.kept (j := 0) rfl h24 eI_flat o32
  refine FL.act rfl rfl (E.store rfl rfl run30) ?_
  refine FL.nil (FW.seq (FW.region ?_))
  refine FL.v (E.move (v := Value.int .i64 ((PF.laws_markIntS y.ineq.coeffs m).2)) rfl) ?_
  refine FL.v (E.add rfl rfl) ?_
  refine FL.v (E.assign (v := Value.int .i64 (wr ((PF.laws_markIntS y.ineq.coeffs m).2 + 1))) rfl) ?_
  refine FL.nil (FW.seq (FW.region ?_))
  refine FL.v (E.move kv) ?_
  refine FL.v (E.move kc) ?_
  refine FL.v (E.move (v := Value.int .i64 (wr ((PF.laws_markIntS y.ineq.coeffs m).2 + 1))) rfl) ?_
  refine FL.v (E.indexAddr te45 rfl rfl hpt) ?_
  refine FL.v (E.fieldAddr tf129_1 rfl) ?_
  obtain ⟨w34, H35, run37, S36, wr38, o39⟩ := wr31.poke (P := Tryz.prog) (t := 3) (u := Value.int .i64 (wr ((PF.laws_markIntS y.ineq.coeffs m).2 + 1))) S29 hs0 hB (j := 2) rfl rfl rfl Tryz.sizeOf3 rfl rfl (c2 := [u0, Value.int .i64 ((PF.laws_markIntS y.ineq.coeffs m).2), Value.int .i64 (wr ((PF.laws_markIntS y.ineq.coeffs m).2 + 1)), Value.int .i64 y.a, Value.int .i64 y.b, Value.int .i64 y.k]) rfl
  have h40 := wr31.kept (j := 0) rfl h33 eI_flat o39
  refine FL.act rfl rfl (E.store rfl rfl run37) ?_
  refine FL.nil (FW.seq (FW.region ?_))
  refine FL.v (E.move (v := Value.int .i64 (wr ((PF.laws_markIntS y.ineq.coeffs m).2 + 1))) rfl) ?_
  refine FL.v (E.add rfl rfl) ?_
  refine FL.v (E.assign (v := Value.int .i64 (wr ((wr ((PF.laws_markIntS y.ineq.coeffs m).2 + 1)) + 1))) rfl) ?_
  refine FL.nil (FW.seq (FW.region ?_))
  refine FL.v (E.move kv) ?_
  refine FL.v (E.move kc) ?_
  refine FL.v (E.move (v := Value.int .i64 (wr ((wr ((PF.laws_markIntS y.ineq.coeffs m).2 + 1)) + 1))) rfl) ?_
  refine FL.v (E.indexAddr te45 rfl rfl hpt) ?_
  refine FL.v (E.fieldAddr tf129_2 rfl) ?_
  obtain ⟨w41, H42, run44, S43, wr45, o46⟩ := wr38.poke (P := Tryz.prog) (t := 3) (u := Value.int .i64 (wr ((wr ((PF.laws_markIntS y.ineq.coeffs m).2 + 1)) + 1))) S36 hs0 hB (j := 3) rfl rfl rfl Tryz.sizeOf3 rfl rfl (c2 := [u0, Value.int .i64 ((PF.laws_markIntS y.ineq.coeffs m).2), Value.int .i64 (wr ((PF.laws_markIntS y.ineq.coeffs m).2 + 1)), Value.int .i64 (wr ((wr ((PF.laws_markIntS y.ineq.coeffs m).2 + 1)) + 1)), Value.int .i64 y.b, Value.int .i64 y.k]) rfl
  have h47 := wr38.kept (j := 0) rfl h40 eI_flat o46
  refine FL.act rfl rfl (E.store rfl rfl run44) ?_
  refine FL.nil (FW.seq (FW.region ?_))
  refine FL.v (E.move (v := Value.int .i64 (wr ((wr ((PF.laws_markIntS y.ineq.coeffs m).2 + 1)) + 1))) rfl) ?_
  refine FL.v (E.add rfl rfl) ?_
  refine FL.v (E.assign (v := Value.int .i64 (wr ((wr ((wr ((PF.laws_markIntS y.ineq.coeffs m).2 + 1)) + 1)) + 1))) rfl) ?_
  refine FL.nil (FW.seq (FW.region ?_))
  refine FL.v (E.move kv) ?_
  refine FL.v (E.move kc) ?_
  refine FL.v (E.move (v := Value.int .i64 (wr ((wr ((wr ((PF.laws_markIntS y.ineq.coeffs m).2 + 1)) + 1)) + 1))) rfl) ?_
  refine FL.v (E.indexAddr te45 rfl rfl hpt) ?_
  refine FL.v (E.fieldAddr tf129_3 rfl) ?_
  obtain ⟨w48, H49, run51, S50, wr52, o53⟩ := wr45.poke (P := Tryz.prog) (t := 3) (u := Value.int .i64 (wr ((wr ((wr ((PF.laws_markIntS y.ineq.coeffs m).2 + 1)) + 1)) + 1))) S43 hs0 hB (j := 4) rfl rfl rfl Tryz.sizeOf3 rfl rfl (c2 := [u0, Value.int .i64 ((PF.laws_markIntS y.ineq.coeffs m).2), Value.int .i64 (wr ((PF.laws_markIntS y.ineq.coeffs m).2 + 1)), Value.int .i64 (wr ((wr ((PF.laws_markIntS y.ineq.coeffs m).2 + 1)) + 1)), Value.int .i64 (wr ((wr ((wr ((PF.laws_markIntS y.ineq.coeffs m).2 + 1)) + 1)) + 1)), Value.int .i64 y.k]) rfl
  have h54 := wr45.kept (j := 0) rfl h47 eI_flat o53
  refine FL.act rfl rfl (E.store rfl rfl run51) ?_
  refine FL.nil (FW.seq (FW.region ?_))
  refine FL.v (E.move (v := Value.int .i64 (wr ((wr ((wr ((PF.laws_markIntS y.ineq.coeffs m).2 + 1)) + 1)) + 1))) rfl) ?_
  refine FL.v (E.add rfl rfl) ?_
  refine FL.v (E.assign (v := Value.int .i64 (wr ((wr ((wr ((wr ((PF.laws_markIntS y.ineq.coeffs m).2 + 1)) + 1)) + 1)) + 1))) rfl) ?_
  refine FL.nil (FW.seq (FW.region ?_))
  refine FL.v (E.move kv) ?_
  refine FL.v (E.move kc) ?_
  refine FL.v (E.move (v := Value.int .i64 (wr ((wr ((wr ((wr ((PF.laws_markIntS y.ineq.coeffs m).2 + 1)) + 1)) + 1)) + 1))) rfl) ?_
  refine FL.v (E.indexAddr te45 rfl rfl hpt) ?_
  refine FL.v (E.fieldAddr tf129_4 rfl) ?_
  obtain ⟨w55, H56, run58, S57, wr59, o60⟩ := wr52.poke (P := Tryz.prog) (t := 3) (u := Value.int .i64 (wr ((wr ((wr ((wr ((PF.laws_markIntS y.ineq.coeffs m).2 + 1)) + 1)) + 1)) + 1))) S50 hs0 hB (j := 5) rfl rfl rfl Tryz.sizeOf3 rfl rfl (c2 := [u0, Value.int .i64 ((PF.laws_markIntS y.ineq.coeffs m).2), Value.int .i64 (wr ((PF.laws_markIntS y.ineq.coeffs m).2 + 1)), Value.int .i64 (wr ((wr ((PF.laws_markIntS y.ineq.coeffs m).2 + 1)) + 1)), Value.int .i64 (wr ((wr ((wr ((PF.laws_markIntS y.ineq.coeffs m).2 + 1)) + 1)) + 1)), Value.int .i64 (wr ((wr ((wr ((wr ((PF.laws_markIntS y.ineq.coeffs m).2 + 1)) + 1)) + 1)) + 1))]) rfl
  have h61 := wr52.kept (j := 0) rfl h54 eI_flat o60
  refine FL.act rfl rfl (E.store rfl rfl run58) ?_
  refine FL.nil (FW.region ?_)
  refine FL.v (E.move (v := Value.int .i64 (wr ((wr ((wr ((wr ((PF.laws_markIntS y.ineq.coeffs m).2 + 1)) + 1)) + 1)) + 1))) rfl) ?_
  refine FL.v (E.add rfl rfl) ?_
  refine FL.v (E.assign (v := Value.int .i64 (wr ((wr ((wr ((wr ((wr ((PF.laws_markIntS y.ineq.coeffs m).2 + 1)) + 1)) + 1)) + 1)) + 1))) rfl) ?_
  refine FL.nil (FW.region ?_)
  refine FL.v (E.move kc) ?_
  refine FL.v (E.add rfl rfl) ?_
  refine FL.v (E.assign (v := Value.int .i64 (wr (((i : Nat) : Int) + 1))) rfl) ?_
  refine FL.nil ?_
  obtain ⟨c2, n2, hb2, ho2⟩ := n1.round ePlaneStep_loc hy (by decide) hpt wr59 (y' := (PlaneStep.mk (Inequality.mk ((PF.laws_markIntS y.ineq.coeffs m).1) ((PF.laws_markIntS y.ineq.coeffs m).2)) (wr ((PF.laws_markIntS y.ineq.coeffs m).2 + 1)) (wr ((wr ((PF.laws_markIntS y.ineq.coeffs m).2 + 1)) + 1)) (wr ((wr ((wr ((PF.laws_markIntS y.ineq.coeffs m).2 + 1)) + 1)) + 1)) (wr ((wr ((wr ((wr ((PF.laws_markIntS y.ineq.coeffs m).2 + 1)) + 1)) + 1)) + 1)))) ⟨_, rfl, h61⟩
  exact ⟨rfl, _, _, S57, n2, hb2.trans hb, fun b q1 q2 => (ho2 b q1 (by rw [hb]; exact q2)).trans (ho b q1 q2), kv, rfl, nat_succ rfl (lt_of_get hx) hle⟩
 ·
  rintro f1 w1 ⟨H1, c1, S1, n1, hb, ho, kv, kk, kc⟩
  refine FW.seq (FW.seq (FW.region ?_))
  refine FL.v (E.move kc) ?_
  refine FL.v (E.move kv) ?_
  refine FL.v (E.len te45 rfl hln) ?_
  refine FL.v (E.lss rfl rfl) ?_
  refine FL.nil ?_
  refine FW.condF rfl dlt_len ?_
  refine FW.exit ?_
  exact ⟨nofun, rfl, _, _, S1, n1, hb, ho, kv, kk⟩
 ·
  rintro e f2 w2 ⟨rfl, H2, c2, S2, n2, hb, ho, kv, kk⟩
  refine FW.seq (FW.region ?_)
  refine FL.v (E.move kk) ?_
  refine FL.v (E.assign (v := Value.int .i64 ((markFrom (fun y m => ((PlaneStep.mk (Inequality.mk ((PF.laws_markIntS y.ineq.coeffs m).1) ((PF.laws_markIntS y.ineq.coeffs m).2)) (wr ((PF.laws_markIntS y.ineq.coeffs m).2 + 1)) (wr ((wr ((PF.laws_markIntS y.ineq.coeffs m).2 + 1)) + 1)) (wr ((wr ((wr ((PF.laws_markIntS y.ineq.coeffs m).2 + 1)) + 1)) + 1)) (wr ((wr ((wr ((wr ((PF.laws_markIntS y.ineq.coeffs m).2 + 1)) + 1)) + 1)) + 1))), (wr ((wr ((wr ((wr ((wr ((PF.laws_markIntS y.ineq.coeffs m).2 + 1)) + 1)) + 1)) + 1)) + 1)))) a0 a1).2)) rfl) ?_
  refine FL.nil ?_
  refine FW.ret ?_
  exact ⟨.inr rfl, res1 rfl rfl ⟨_, _, rfl, S2, n2, hb, fun b q1 q2 => weak (F := fun b => b ∉ bl [v0] ∧ b ∉ bl c0) (fun b q => ho b q.1 q.2) b ⟨q1, q2⟩⟩⟩

theorem w_laws_heldIntS {Ha : GH} {wa : World} (hs : Sl Ha wa) (v0 : Value) (a0 : List Int) (p0 : RSl Ha eI 1 v0 a0) (a1 : Int) {r : Int} (hp : (PF.laws_heldIntS a0 a1) = some r) :
  Calls Tryz.prog 54 #[v0, Value.int .i64 a1] wa (Sc Ha wa (Value.int .i64 r)) := by
 unfold PF.laws_heldIntS at hp
 have S0 := St.init hs
 refine calls_go (N := 21) (args := [v0, Value.int .i64 a1]) Tryz.func54 rfl rfl rfl ?_
 refine FW.seq (FW.region ?_)
 refine FL.v (E.assign (v := Value.int .i64 0) rfl) ?_
 refine FL.nil (FW.seq (FW.seq (FW.region ?_)))
 refine FL.v (E.assign (v := Value.int .i64 0) rfl) ?_
 refine FL.nil ?_
 obtain ⟨q22, hq, hp⟩ := bndR hp
 refine FW.block ?_
 refine FW.mono (FW.forL (S := Int) (X := Int) (fun (i22 : Nat) (s22 : Int) f w => ∃ H : GH, St Ha wa H w [] ∧ Inc Ha H ∧ f 5 = Value.int .i64 ((i22 : Nat) : Int) ∧ f 0 = v0 ∧ f 1 = Value.int .i64 s22) (fun q e f w => match q with | .go s22 => e = Exit.exit 0 ∧ (∃ H : GH, St Ha wa H w [] ∧ Inc Ha H ∧ f 1 = Value.int .i64 s22) | .rt x => ((e = Exit.ret) ∧ (fun e f w => (e = Exit.normal ∨ e = Exit.ret) ∧ ∀ a, Fr (δ := []) 21 a f → ∃ v, (results Tryz.f54 a.tmps).run Tryz.prog w = .ok v w ∧ (Sc Ha wa (Value.int .i64 x)) (.returned v) w) e f w)) hq ⟨_, S0, (Inc.rfl _), rfl, rfl, rfl⟩ ?_ ?_) ?_
 ·
  clear hp hq
  rintro i22 y21 s22 f42 w41 ⟨H38, S39, i40, k43, k44, k45⟩ hx22 o53 hp
  refine FW.seq (FW.seq (FW.region ?_))
  refine FL.v (E.move k43) ?_
  refine FL.v (E.move k44) ?_
  refine FL.v (E.lenP te73 rfl p0) ?_
  refine FL.v (E.lssT rfl rfl (lss_len hx22)) ?_
  refine FL.nil ?_
  refine FW.condT rfl rfl ?_
  refine FW.skip (FW.seq (FW.block (FW.seq (FW.seq (FW.region ?_)))))
  refine FL.v (E.move k44) ?_
  refine FL.v (E.move k43) ?_
  obtain ⟨p46, cs47, pt48, l49, at50, rel51⟩ := p0.at (ix_nat hx22)
  obtain rfl := eI_open rel51
  refine FL.v (E.indexAddr te73 rfl rfl pt48) ?_
  refine FL.v (E.load rfl (run_load0 Tryz.isAgg3 ((at50.mono i40).now S39.sl) rfl)) ?_
  refine FL.v (E.move k45) ?_
  refine FL.v (E.neq rfl rfl) ?_
  refine FL.nil ?_
  rcases ifB hp with ⟨c52, hp⟩ | ⟨c52, hp⟩
  ·
   refine FW.condT rfl c52 ?_
   refine FW.seq (FW.region ?_)
   refine FL.v (E.assign (v := Value.int .i64 (-1)) rfl) ?_
   refine FL.nil ?_
   refine FW.ret ?_
   obtain rfl := Option.some.inj hp
   exact ⟨nofun, rfl, ⟨.inr rfl, res1 rfl rfl ⟨rfl, S39.back⟩⟩⟩
  ·
   refine FW.condF rfl c52 ?_
   refine FW.skip (FW.region ?_)
   refine FL.v (E.move k45) ?_
   refine FL.v (E.add rfl rfl) ?_
   refine FL.v (E.assign (v := Value.int .i64 (wr (s22 + 1))) rfl) ?_
   refine FL.nil (FW.region ?_)
   refine FL.v (E.move k43) ?_
   refine FL.v (E.add rfl rfl) ?_
   refine FL.v (E.assign (v := Value.int .i64 (wr (((i22 : Nat) : Int) + 1))) rfl) ?_
   refine FL.nil ?_
   obtain rfl := Option.some.inj hp
   exact ⟨rfl, ⟨_, S39, i40, (nat_succ rfl (lt_of_get hx22) (p0.mono i40).le), k44, rfl⟩⟩
 ·
  clear hp hq
  rintro s22 f64 w63 ⟨H60, S61, i62, k65, k66, k67⟩
  refine FW.seq (FW.seq (FW.region ?_))
  refine FL.v (E.move k65) ?_
  refine FL.v (E.move k66) ?_
  refine FL.v (E.lenP te73 rfl p0) ?_
  refine FL.v (E.lss rfl rfl) ?_
  refine FL.nil ?_
  refine FW.condF rfl dlt_len ?_
  refine FW.exit ?_
  exact ⟨nofun, rfl, ⟨_, S61, i62, k67⟩⟩
 ·
  clear hq
  intro e f58 w57 hD
  rcases q22 with s22 | x22
  ·
   obtain ⟨rfl, hD⟩ := hD
   obtain ⟨H54, S55, i56, k59⟩ := hD
   replace hp := el_go hp
   refine FW.seq (FW.region ?_)
   refine FL.v (E.move k59) ?_
   refine FL.v (E.assign (v := Value.int .i64 s22) rfl) ?_
   refine FL.nil ?_
   refine FW.ret ?_
   obtain rfl := Option.some.inj hp
   exact ⟨.inr rfl, res1 rfl rfl ⟨rfl, S55.back⟩⟩
  ·
   obtain ⟨he, hL⟩ := hD
   replace hp := el_rt hp
   obtain rfl := Option.some.inj hp
   subst he
   exact hL

set_option maxHeartbeats 4000000 in
theorem w_laws_heldPlaneStepS {Ha : GH} {wa : World} (hs : Sl Ha wa) (v0 : Value) (a0 : List PlaneStep) (p0 : RSl Ha ePlaneStep 6 v0 a0) (a1 : Int) {r : Int} (hp : (PF.laws_heldPlaneStepS a0 a1) = some r) :
  Calls Tryz.prog 30 #[v0, Value.int .i64 a1] wa (Sc Ha wa (Value.int .i64 r)) := by
 unfold PF.laws_heldPlaneStepS at hp
 have S0 := St.init hs
 refine calls_go (N := 69) (args := [v0, Value.int .i64 a1]) Tryz.func30 rfl rfl rfl ?_
 refine FW.seq (FW.region ?_)
 refine FL.v (E.assign (v := Value.int .i64 0) rfl) ?_
 refine FL.nil (FW.seq (FW.seq (FW.region ?_)))
 refine FL.v (E.assign (v := Value.int .i64 0) rfl) ?_
 refine FL.nil ?_
 obtain ⟨q22, hq, hp⟩ := bndR hp
 refine FW.block ?_
 refine FW.mono (FW.forL (S := Int) (X := Int) (fun (i22 : Nat) (s22 : Int) f w => ∃ H : GH, St Ha wa H w [] ∧ Inc Ha H ∧ f 5 = Value.int .i64 ((i22 : Nat) : Int) ∧ f 0 = v0 ∧ f 1 = Value.int .i64 s22) (fun q e f w => match q with | .go s22 => e = Exit.exit 0 ∧ (∃ H : GH, St Ha wa H w [] ∧ Inc Ha H ∧ f 1 = Value.int .i64 s22) | .rt x => ((e = Exit.ret) ∧ (fun e f w => (e = Exit.normal ∨ e = Exit.ret) ∧ ∀ a, Fr (δ := []) 69 a f → ∃ v, (results Tryz.f30 a.tmps).run Tryz.prog w = .ok v w ∧ (Sc Ha wa (Value.int .i64 x)) (.returned v) w) e f w)) hq ⟨_, S0, (Inc.rfl _), rfl, rfl, rfl⟩ ?_ ?_) ?_
 ·
  clear hp hq
  rintro i22 y21 s22 f94 w93 ⟨H90, S91, i92, k95, k96, k97⟩ hx22 o157 hp
  refine FW.seq (FW.seq (FW.region ?_))
  refine FL.v (E.move k95) ?_
  refine FL.v (E.move k96) ?_
  refine FL.v (E.lenP te45 rfl p0) ?_
  refine FL.v (E.lssT rfl rfl (lss_len hx22)) ?_
  refine FL.nil ?_
  refine FW.condT rfl rfl ?_
  refine FW.skip (FW.seq (FW.block (FW.seq (FW.region ?_))))
  refine FL.v (E.move k96) ?_
  refine FL.v (E.move k95) ?_
  obtain ⟨p98, cs99, pt100, l101, at102, rel103⟩ := p0.at (ix_nat hx22)
  obtain ⟨v104, rfl, h105⟩ := ePlaneStep_open rel103
  refine FL.v (E.indexAddr te45 rfl rfl pt100) ?_
  refine FL.v (E.fieldAddr tf129_0 rfl) ?_
  refine FL.v (E.fieldAddrN tf127_0 rfl rfl) ?_
  refine FL.v (E.load rfl (run_load1 Tryz.isAgg73 ((at102.mono i92).now S91.sl) rfl)) ?_
  refine FL.v (E.move k97) ?_
  obtain ⟨r106, hr107, hp⟩ := bnd hp
  refine FL.call rfl rfl rfl (E.call Tryz.call54 (A2 rfl rfl)) (w_laws_heldIntS S91.sl v104 y21.ineq.coeffs (h105.mono i92) s22 hr107) ?_
  rintro e w108 ⟨rfl, r109⟩
  refine ⟨_, rfl, ?_⟩
  have S110 := S91.call r109
  refine FL.v (E.assign (v := Value.int .i64 r106) rfl) ?_
  refine FL.nil (FW.seq (FW.seq (FW.region ?_)))
  refine FL.v (E.move (v := Value.int .i64 r106) rfl) ?_
  refine FL.v (E.lss rfl rfl) ?_
  refine FL.nil ?_
  rcases ifB hp with ⟨c111, hp⟩ | ⟨c111, hp⟩
  ·
   refine FW.condT rfl c111 ?_
   refine FW.seq (FW.region ?_)
   refine FL.v (E.assign (v := Value.int .i64 (-1)) rfl) ?_
   refine FL.nil ?_
   refine FW.ret ?_
   obtain rfl := Option.some.inj hp
   exact ⟨nofun, rfl, ⟨.inr rfl, res1 rfl rfl ⟨rfl, S110.back⟩⟩⟩
  ·
   refine FW.condF rfl c111 ?_
   refine FW.skip (FW.seq (FW.seq (FW.region ?_)))
   refine FL.v (E.move k96) ?_
   refine FL.v (E.move k95) ?_
   obtain ⟨p112, cs113, pt114, l115, at116, rel117⟩ := p0.at (ix_nat hx22)
   obtain ⟨v118, rfl, h119⟩ := ePlaneStep_open rel117
   refine FL.v (E.indexAddr te45 rfl rfl pt114) ?_
   refine FL.v (E.fieldAddr tf129_0 rfl) ?_
   refine FL.v (E.fieldAddrN tf127_1 rfl rfl) ?_
   refine FL.v (E.load rfl (run_load1 Tryz.isAgg3 ((at116.mono i92).now S110.sl) rfl)) ?_
   refine FL.v (E.move (v := Value.int .i64 r106) rfl) ?_
   refine FL.v (E.neq rfl rfl) ?_
   refine FL.nil ?_
   rcases ifB hp with ⟨c120, hp⟩ | ⟨c120, hp⟩
   ·
    refine FW.condT rfl c120 ?_
    refine FW.seq (FW.region ?_)
    refine FL.v (E.assign (v := Value.int .i64 (-1)) rfl) ?_
    refine FL.nil ?_
    refine FW.ret ?_
    obtain rfl := Option.some.inj hp
    exact ⟨nofun, rfl, ⟨.inr rfl, res1 rfl rfl ⟨rfl, S110.back⟩⟩⟩
   ·
    refine FW.condF rfl c120 ?_
    refine FW.skip (FW.seq (FW.region ?_))
    refine FL.v (E.move (v := Value.int .i64 r106) rfl) ?_
    refine FL.v (E.add rfl rfl) ?_
    refine FL.v (E.assign (v := Value.int .i64 (wr (r106 + 1))) rfl) ?_
    refine FL.nil (FW.seq (FW.seq (FW.region ?_)))
    refine FL.v (E.move k96) ?_
    refine FL.v (E.move k95) ?_
    obtain ⟨p121, cs122, pt123, l124, at125, rel126⟩ := p0.at (ix_nat hx22)
    obtain ⟨v127, rfl, h128⟩ := ePlaneStep_open rel126
    refine FL.v (E.indexAddr te45 rfl rfl pt123) ?_
    refine FL.v (E.fieldAddr tf129_1 rfl) ?_
    refine FL.v (E.load rfl (run_load1 Tryz.isAgg3 ((at125.mono i92).now S110.sl) rfl)) ?_
    refine FL.v (E.move (v := Value.int .i64 (wr (r106 + 1))) rfl) ?_
    refine FL.v (E.neq rfl rfl) ?_
    refine FL.nil ?_
    rcases ifB hp with ⟨c129, hp⟩ | ⟨c129, hp⟩
    ·
     refine FW.condT rfl c129 ?_
     refine FW.seq (FW.region ?_)
     refine FL.v (E.assign (v := Value.int .i64 (-1)) rfl) ?_
     refine FL.nil ?_
     refine FW.ret ?_
     obtain rfl := Option.some.inj hp
     exact ⟨nofun, rfl, ⟨.inr rfl, res1 rfl rfl ⟨rfl, S110.back⟩⟩⟩
    ·
     refine FW.condF rfl c129 ?_
     refine FW.skip (FW.seq (FW.region ?_))
     refine FL.v (E.move (v := Value.int .i64 (wr (r106 + 1))) rfl) ?_
     refine FL.v (E.add rfl rfl) ?_
     refine FL.v (E.assign (v := Value.int .i64 (wr ((wr (r106 + 1)) + 1))) rfl) ?_
     refine FL.nil (FW.seq (FW.seq (FW.region ?_)))
     refine FL.v (E.move k96) ?_
     refine FL.v (E.move k95) ?_
     obtain ⟨p130, cs131, pt132, l133, at134, rel135⟩ := p0.at (ix_nat hx22)
     obtain ⟨v136, rfl, h137⟩ := ePlaneStep_open rel135
     refine FL.v (E.indexAddr te45 rfl rfl pt132) ?_
     refine FL.v (E.fieldAddr tf129_2 rfl) ?_
     refine FL.v (E.load rfl (run_load1 Tryz.isAgg3 ((at134.mono i92).now S110.sl) rfl)) ?_
     refine FL.v (E.move (v := Value.int .i64 (wr ((wr (r106 + 1)) + 1))) rfl) ?_
     refine FL.v (E.neq rfl rfl) ?_
     refine FL.nil ?_
     rcases ifB hp with ⟨c138, hp⟩ | ⟨c138, hp⟩
     ·
      refine FW.condT rfl c138 ?_
      refine FW.seq (FW.region ?_)
      refine FL.v (E.assign (v := Value.int .i64 (-1)) rfl) ?_
      refine FL.nil ?_
      refine FW.ret ?_
      obtain rfl := Option.some.inj hp
      exact ⟨nofun, rfl, ⟨.inr rfl, res1 rfl rfl ⟨rfl, S110.back⟩⟩⟩
     ·
      refine FW.condF rfl c138 ?_
      refine FW.skip (FW.seq (FW.region ?_))
      refine FL.v (E.move (v := Value.int .i64 (wr ((wr (r106 + 1)) + 1))) rfl) ?_
      refine FL.v (E.add rfl rfl) ?_
      refine FL.v (E.assign (v := Value.int .i64 (wr ((wr ((wr (r106 + 1)) + 1)) + 1))) rfl) ?_
      refine FL.nil (FW.seq (FW.seq (FW.region ?_)))
      refine FL.v (E.move k96) ?_
      refine FL.v (E.move k95) ?_
      obtain ⟨p139, cs140, pt141, l142, at143, rel144⟩ := p0.at (ix_nat hx22)
      obtain ⟨v145, rfl, h146⟩ := ePlaneStep_open rel144
      refine FL.v (E.indexAddr te45 rfl rfl pt141) ?_
      refine FL.v (E.fieldAddr tf129_3 rfl) ?_
      refine FL.v (E.load rfl (run_load1 Tryz.isAgg3 ((at143.mono i92).now S110.sl) rfl)) ?_
      refine FL.v (E.move (v := Value.int .i64 (wr ((wr ((wr (r106 + 1)) + 1)) + 1))) rfl) ?_
      refine FL.v (E.neq rfl rfl) ?_
      refine FL.nil ?_
      rcases ifB hp with ⟨c147, hp⟩ | ⟨c147, hp⟩
      ·
       refine FW.condT rfl c147 ?_
       refine FW.seq (FW.region ?_)
       refine FL.v (E.assign (v := Value.int .i64 (-1)) rfl) ?_
       refine FL.nil ?_
       refine FW.ret ?_
       obtain rfl := Option.some.inj hp
       exact ⟨nofun, rfl, ⟨.inr rfl, res1 rfl rfl ⟨rfl, S110.back⟩⟩⟩
      ·
       refine FW.condF rfl c147 ?_
       refine FW.skip (FW.seq (FW.region ?_))
       refine FL.v (E.move (v := Value.int .i64 (wr ((wr ((wr (r106 + 1)) + 1)) + 1))) rfl) ?_
       refine FL.v (E.add rfl rfl) ?_
       refine FL.v (E.assign (v := Value.int .i64 (wr ((wr ((wr ((wr (r106 + 1)) + 1)) + 1)) + 1))) rfl) ?_
       refine FL.nil (FW.seq (FW.seq (FW.region ?_)))
       refine FL.v (E.move k96) ?_
       refine FL.v (E.move k95) ?_
       obtain ⟨p148, cs149, pt150, l151, at152, rel153⟩ := p0.at (ix_nat hx22)
       obtain ⟨v154, rfl, h155⟩ := ePlaneStep_open rel153
       refine FL.v (E.indexAddr te45 rfl rfl pt150) ?_
       refine FL.v (E.fieldAddr tf129_4 rfl) ?_
       refine FL.v (E.load rfl (run_load1 Tryz.isAgg3 ((at152.mono i92).now S110.sl) rfl)) ?_
       refine FL.v (E.move (v := Value.int .i64 (wr ((wr ((wr ((wr (r106 + 1)) + 1)) + 1)) + 1))) rfl) ?_
       refine FL.v (E.neq rfl rfl) ?_
       refine FL.nil ?_
       rcases ifB hp with ⟨c156, hp⟩ | ⟨c156, hp⟩
       ·
        refine FW.condT rfl c156 ?_
        refine FW.seq (FW.region ?_)
        refine FL.v (E.assign (v := Value.int .i64 (-1)) rfl) ?_
        refine FL.nil ?_
        refine FW.ret ?_
        obtain rfl := Option.some.inj hp
        exact ⟨nofun, rfl, ⟨.inr rfl, res1 rfl rfl ⟨rfl, S110.back⟩⟩⟩
       ·
        refine FW.condF rfl c156 ?_
        refine FW.skip (FW.region ?_)
        refine FL.v (E.move (v := Value.int .i64 (wr ((wr ((wr ((wr (r106 + 1)) + 1)) + 1)) + 1))) rfl) ?_
        refine FL.v (E.add rfl rfl) ?_
        refine FL.v (E.assign (v := Value.int .i64 (wr ((wr ((wr ((wr ((wr (r106 + 1)) + 1)) + 1)) + 1)) + 1))) rfl) ?_
        refine FL.nil (FW.region ?_)
        refine FL.v (E.move k95) ?_
        refine FL.v (E.add rfl rfl) ?_
        refine FL.v (E.assign (v := Value.int .i64 (wr (((i22 : Nat) : Int) + 1))) rfl) ?_
        refine FL.nil ?_
        obtain rfl := Option.some.inj hp
        exact ⟨rfl, ⟨_, S110, i92, (nat_succ rfl (lt_of_get hx22) (p0.mono i92).le), k96, rfl⟩⟩
 ·
  clear hp hq
  rintro s22 f168 w167 ⟨H164, S165, i166, k169, k170, k171⟩
  refine FW.seq (FW.seq (FW.region ?_))
  refine FL.v (E.move k169) ?_
  refine FL.v (E.move k170) ?_
  refine FL.v (E.lenP te45 rfl p0) ?_
  refine FL.v (E.lss rfl rfl) ?_
  refine FL.nil ?_
  refine FW.condF rfl dlt_len ?_
  refine FW.exit ?_
  exact ⟨nofun, rfl, ⟨_, S165, i166, k171⟩⟩
 ·
  clear hq
  intro e f162 w161 hD
  rcases q22 with s22 | x22
  ·
   obtain ⟨rfl, hD⟩ := hD
   obtain ⟨H158, S159, i160, k163⟩ := hD
   replace hp := el_go hp
   refine FW.seq (FW.region ?_)
   refine FL.v (E.move k163) ?_
   refine FL.v (E.assign (v := Value.int .i64 s22) rfl) ?_
   refine FL.nil ?_
   refine FW.ret ?_
   obtain rfl := Option.some.inj hp
   exact ⟨.inr rfl, res1 rfl rfl ⟨rfl, S159.back⟩⟩
  ·
   obtain ⟨he, hL⟩ := hD
   replace hp := el_rt hp
   obtain rfl := Option.some.inj hp
   subst he
   exact hL

set_option maxHeartbeats 4000000 in
theorem w_laws_FnExactProofToPlanes {Ha : GH} {wa : World} (hs : Sl Ha wa) (a0 : Cnf) (v0_1 : Value) (p0_1 : RSl Ha (eL eI 1) 1 v0_1 a0.clauses) (v1 : Value) (a1 : List ResStep) (p1 : RSl Ha eResStep 4 v1 a1) {r : Bool} (hp : (PF.laws_FnExactProofToPlanes a0 a1) = some r) :
  Calls Tryz.prog 5 #[Value.agg #[Value.int .i64 a0.vars, v0_1], v1] wa (Sc Ha wa (Value.bool r)) := by
 unfold PF.laws_FnExactProofToPlanes at hp
 have S0 := St.init hs
 refine calls_go (N := 119) (args := [Value.agg #[Value.int .i64 a0.vars, v0_1], v1]) Tryz.func5 rfl rfl rfl ?_
 refine FW.seq (FW.region ?_)
 obtain ⟨w21, run22, S23, z24⟩ := S0.boxB (P := Tryz.prog) 24 [Value.int .i64 a0.vars, v0_1] (v := Value.agg #[Value.int .i64 a0.vars, v0_1]) rfl (ones_cons rfl (ones_cons p0_1.one ones_nil))
 refine FL.v (E.box rfl run22) ?_
 obtain ⟨H25, S26, i27, at28⟩ := S23.sealBoxB (i := 0) (l' := []) rfl rfl
 refine FL.v (E.assign (v := Value.bool false) rfl) ?_
 refine FL.nil (FW.seq (FW.region ?_))
 refine FL.v (E.assign (v := Value.int .i64 1048576) rfl) ?_
 refine FL.nil (FW.seq (FW.region ?_))
 refine FL.v (E.load rfl (run_loadA Tryz.isAgg24 Tryz.sizeOf24 ((at28.mono sgI).now S26.sl) rfl)) ?_
 refine FL.v (E.move (v := Value.int .i64 1048576) rfl) ?_
 obtain ⟨r29, hr30, hp⟩ := bnd hp
 refine FL.call rfl rfl rfl (E.call Tryz.call11 (A2 rfl rfl)) (w_laws_szCnf S26.sl a0 v0_1 (p0_1.mono i27) 1048576 hr30) ?_
 rintro e w31 ⟨rfl, r32⟩
 refine ⟨_, rfl, ?_⟩
 have S33 := S26.call r32
 have z34 := r32.bel.size
 refine FL.v (E.assign (v := Value.int .i64 r29) rfl) ?_
 refine FL.nil (FW.seq (FW.seq (FW.region ?_)))
 refine FL.v (E.move (v := Value.int .i64 r29) rfl) ?_
 refine FL.v (E.lss rfl rfl) ?_
 refine FL.nil ?_
 rcases ifB hp with ⟨c35, hp⟩ | ⟨c35, hp⟩
 ·
  refine FW.condT rfl c35 ?_
  refine FW.seq (FW.region ?_)
  refine FL.v (E.assign (v := Value.bool true) rfl) ?_
  refine FL.nil ?_
  refine FW.ret ?_
  obtain rfl := Option.some.inj hp
  exact ⟨.inr rfl, res1 rfl rfl ⟨rfl, S33.back⟩⟩
 ·
  refine FW.condF rfl c35 ?_
  refine FW.skip (FW.seq (FW.region ?_))
  refine FL.v (E.move (v := v1) rfl) ?_
  refine FL.v (E.move (v := Value.int .i64 r29) rfl) ?_
  obtain ⟨r36, hr37, hp⟩ := bnd hp
  refine FL.call rfl rfl rfl (E.call Tryz.call12 (A2 rfl rfl)) (w_laws_szResStepS S33.sl v1 a1 (p1.mono i27) r29 hr37) ?_
  rintro e w38 ⟨rfl, r39⟩
  refine ⟨_, rfl, ?_⟩
  have S40 := S33.call r39
  have z41 := r39.bel.size
  refine FL.v (E.assign (v := Value.int .i64 r36) rfl) ?_
  refine FL.nil (FW.seq (FW.seq (FW.region ?_)))
  refine FL.v (E.move (v := Value.int .i64 r36) rfl) ?_
  refine FL.v (E.lss rfl rfl) ?_
  refine FL.nil ?_
  rcases ifB hp with ⟨c42, hp⟩ | ⟨c42, hp⟩
  ·
   refine FW.condT rfl c42 ?_
   refine FW.seq (FW.region ?_)
   refine FL.v (E.assign (v := Value.bool true) rfl) ?_
   refine FL.nil ?_
   refine FW.ret ?_
   obtain rfl := Option.some.inj hp
   exact ⟨.inr rfl, res1 rfl rfl ⟨rfl, S40.back⟩⟩
  ·
   refine FW.condF rfl c42 ?_
   refine FW.skip (FW.seq (FW.region ?_))
   refine FL.v (E.load rfl (run_loadA Tryz.isAgg24 Tryz.sizeOf24 ((at28.mono sgI).now S40.sl) rfl)) ?_
   obtain ⟨r43, hr44, hp⟩ := bnd hp
   refine FL.call rfl rfl rfl (E.call Tryz.call15 (A1 rfl)) (w_laws_toCnf S40.sl a0 v0_1 (p0_1.mono i27) hr44) ?_
   rintro e w46 ⟨H45, v49, rfl, r48, ⟨c52, ns51⟩⟩
   refine ⟨_, rfl, ?_⟩
   have h50 := ns51.rsl
   have nv53 : New H25 [v49] := New.of_up S40.sl h50.dom
   have S47 := S40.call r48
   have z54 := r48.bel.size
   have h50 := h50.mono (sg_of S47.sl)
   have ns51 := ns51.mono (sg_of S47.sl)
   refine FL.v (E.move (v := v1) rfl) ?_
   obtain ⟨r55, hr56, hp⟩ := bnd hp
   refine FL.call rfl rfl rfl (E.call Tryz.call16 (A1 rfl)) (w_laws_toResStepS S47.sl v1 a1 (p1.mono (i27.tr r48.inc)) hr56) ?_
   rintro e w58 ⟨H57, v61, n62, cs63, rfl, r60, els64, nd65⟩
   refine ⟨_, rfl, ?_⟩
   have nv66 : New H45 cs63 := New.of_up S47.sl els64.dom
   obtain ⟨H67, r68, i69, ns72, nv71⟩ := r60.sealRowN (i := 0) (l' := []) rfl els64 nd65 (by decide) rfl
   have h70 := ns72.rsl
   have S59 := S47.call r68.run
   have z73 := r68.run.bel.size
   have h70 := h70.mono (sg_of S59.sl)
   have ns72 := ns72.mono (sg_of S59.sl)
   obtain ⟨r74, hr75, hp⟩ := bnd hp
   refine FL.call rfl rfl rfl (E.call Tryz.call24 (A2 rfl rfl)) (w_spec_ProofToPlanes S59.sl r43 v49 (h50.mono (sgI.tr r68.run.inc)) v61 r55 (h70.mono sgI) hr75) ?_
   rintro e w77 ⟨H76, v80, n81, cs82, rfl, r79, els83⟩
   refine ⟨_, rfl, ?_⟩
   obtain ⟨H84, r85, i86, h87⟩ := r79.sealRow (i := 0) (l' := []) rfl els83 (by decide) rfl
   have S78 := S59.call r85.run
   have z89 := r85.run.bel.size
   have h87 := h87.mono (bw_of S78.sl)
   refine FL.v (E.move (v := Value.tuple #[v80, Value.bool r74.2]) rfl) ?_
   refine FL.v (E.extract (i := 0) rfl rfl) ?_
   refine FL.v (E.extract (i := 1) rfl rfl) ?_
   refine FL.v (E.assign (v := v80) rfl) ?_
   refine FL.v (E.assign (v := Value.bool r74.2) rfl) ?_
   refine FL.nil (FW.seq (FW.region ?_))
   refine FL.v (E.load rfl (run_loadA Tryz.isAgg24 Tryz.sizeOf24 ((at28.mono (sgI.tr ((r48.inc.tr r68.run.inc).tr r85.run.inc))).now S78.sl) rfl)) ?_
   obtain ⟨r90, hr91, hp⟩ := bnd hp
   refine FL.call rfl rfl rfl (E.call Tryz.call15 (A1 rfl)) (w_laws_toCnf S78.sl a0 v0_1 (p0_1.mono (((i27.tr r48.inc).tr r68.run.inc).tr r85.run.inc)) hr91) ?_
   rintro e w93 ⟨H92, v96, rfl, r95, ⟨c99, ns98⟩⟩
   refine ⟨_, rfl, ?_⟩
   have h97 := ns98.rsl
   have nv100 : New H84 [v96] := New.of_up S78.sl h97.dom
   have S94 := S78.call r95
   have z101 := r95.bel.size
   have h97 := h97.mono (sg_of S94.sl)
   have ns98 := ns98.mono (sg_of S94.sl)
   obtain ⟨w102, run103, S104, z105⟩ := S94.allocB (P := Tryz.prog) 32 [Value.int .i64 0, Value.slice none 0 0] Tryz.zeroValue32 rfl (ones_cons rfl (ones_cons rfl ones_nil))
   refine FL.v (E.alloc run103) ?_
   obtain ⟨w106, run107, S108, z109⟩ := S104.store0B (P := Tryz.prog) (t := 32) (i := 0) (cs' := [Value.int .i64 r90.vars, v96]) (l' := [.box w93.heap.size 32 [Value.int .i64 r90.vars, v96]]) (v := Value.agg #[Value.int .i64 r90.vars, v96]) (c := [Value.int .i64 r90.vars, v96]) rfl Tryz.sizeOf32 rfl rfl (ones_cons rfl (ones_cons h97.one ones_nil)) (Nat.le_of_ble_eq_true rfl) rfl rfl
   refine FL.act rfl rfl (E.store rfl rfl run107) ?_
   obtain ⟨H110, S111, i112, at113⟩ := S108.sealBoxB (i := 0) (l' := []) rfl rfl
   refine FL.nil (FW.seq (FW.region ?_))
   refine FL.v (E.move (v := v1) rfl) ?_
   obtain ⟨r114, hr115, hp⟩ := bnd hp
   refine FL.call rfl rfl rfl (E.call Tryz.call16 (A1 rfl)) (w_laws_toResStepS S111.sl v1 a1 (p1.mono (((((i27.tr r48.inc).tr r68.run.inc).tr r85.run.inc).tr r95.inc).tr i112)) hr115) ?_
   rintro e w117 ⟨H116, v120, n121, cs122, rfl, r119, els123, nd124⟩
   refine ⟨_, rfl, ?_⟩
   have nv125 : New H110 cs122 := New.of_up S111.sl els123.dom
   obtain ⟨H126, r127, i128, ns131, nv130⟩ := r119.sealRowN (i := 0) (l' := []) rfl els123 nd124 (by decide) rfl
   have h129 := ns131.rsl
   have S118 := S111.call r127.run
   have z132 := r127.run.bel.size
   have h129 := h129.mono (sg_of S118.sl)
   have ns131 := ns131.mono (sg_of S118.sl)
   refine FL.v (E.assign (v := v120) rfl) ?_
   refine FL.nil (FW.seq (FW.region ?_))
   refine FL.v (E.load rfl (run_loadA Tryz.isAgg32 Tryz.sizeOf32 ((at113.mono (sgI.tr r127.run.inc)).now S118.sl) rfl)) ?_
   refine FL.v (E.move (v := v120) rfl) ?_
   obtain ⟨r133, hr134, hp⟩ := bnd hp
   refine FL.call rfl rfl rfl (E.call Tryz.call25 (A2 rfl rfl)) (w_impl_ProofToPlanes S118.sl r90 v96 (h97.mono (sgI.tr (i112.tr r127.run.inc))) v120 r114 (h129.mono sgI) hr134) ?_
   rintro e w136 ⟨H135, v139, n140, cs141, rfl, r138, els142, nd143⟩
   refine ⟨_, rfl, ?_⟩
   have nv144 : New H126 cs141 := New.of_up S118.sl els142.dom
   obtain ⟨H145, r146, i147, ns150, nv149⟩ := r138.sealRowN (i := 0) (l' := []) rfl els142 nd143 (by decide) rfl
   have h148 := ns150.rsl
   have S137 := S118.call r146.run
   have z151 := r146.run.bel.size
   have h148 := h148.mono (sg_of S137.sl)
   have ns150 := ns150.mono (sg_of S137.sl)
   refine FL.v (E.move (v := Value.tuple #[v139, Value.bool r133.2]) rfl) ?_
   refine FL.v (E.extract (i := 0) rfl rfl) ?_
   refine FL.v (E.extract (i := 1) rfl rfl) ?_
   refine FL.v (E.assign (v := v139) rfl) ?_
   refine FL.v (E.assign (v := Value.bool r133.2) rfl) ?_
   refine FL.nil (FW.seq (FW.seq (FW.region ?_)))
   refine FL.v (E.move (v := v139) rfl) ?_
   refine FL.v (E.move (v := v80) rfl) ?_
   obtain ⟨r152, hr153, hp⟩ := bnd hp
   refine FL.call rfl rfl rfl (E.call Tryz.call26 (A2 rfl rfl)) (w_laws_eqPlaneStepS S137.sl v139 r133.1 (h148.mono sgI) v80 r74.1 (h87.mono (bwI.tr (((r95.inc.tr i112).tr r127.run.inc).tr r146.run.inc))) hr153) ?_
   rintro e w154 ⟨rfl, r155⟩
   refine ⟨_, rfl, ?_⟩
   have S156 := S137.call r155
   have z157 := r155.bel.size
   refine FL.v (E.not rfl) ?_
   refine FL.v (E.move (v := Value.bool (!r152)) rfl) ?_
   refine FL.cut 4 (fun f w => ∃ H : GH, St Ha wa H w [] ∧ Inc H145 H ∧ f 1 = v1 ∧ f 2 = Value.pointer (some ⟨wa.heap.size, 0, none⟩) ∧ f 6 = v80 ∧ f 7 = Value.bool r74.2 ∧ f 8 = Value.pointer (some ⟨w93.heap.size, 0, none⟩) ∧ f 9 = v120 ∧ f 10 = v139 ∧ f 11 = Value.bool r133.2 ∧ f 53 = Value.bool (bif (!r152) then true else (!(r133.2 == r74.2)))) ?_ ?_
   ·
    rcases bcase (!r152) with c164 | c164
    ·
     refine FL.skip (wF_no rfl rfl rfl c164) rfl ?_
     refine FL.skip (wF_no rfl rfl rfl c164) rfl ?_
     refine FL.skip (wF_no rfl rfl rfl c164) rfl ?_
     refine FL.v (E.pickT rfl c164 rfl) ?_
     exact FL.nil ⟨rfl, _, S156, (Inc.rfl _), rfl, rfl, rfl, rfl, rfl, rfl, rfl, rfl, (congrArg Value.bool (bifT c164).symm)⟩
    ·
     refine FL.val (wF_yes rfl rfl rfl c164) rfl rfl (E.move (v := Value.bool r133.2) rfl) ?_
     refine FL.val (wF_yes rfl rfl rfl c164) rfl rfl (E.move (v := Value.bool r74.2) rfl) ?_
     refine FL.val (wF_yes rfl rfl rfl c164) rfl rfl (E.neqB Tryz.runUnderlying4 rfl rfl) ?_
     refine FL.v (E.pickF rfl c164 rfl) ?_
     exact FL.nil ⟨rfl, _, S156, (Inc.rfl _), rfl, rfl, rfl, rfl, rfl, rfl, rfl, rfl, (congrArg Value.bool (bifF c164).symm)⟩
   rintro f163 w162 ⟨H159, S160, i161, k165, k166, k167, k168, k169, k170, k171, k172, k173⟩
   refine FL.nil ?_
   rcases ifB hp with ⟨c174, hp⟩ | ⟨c174, hp⟩
   ·
    refine FW.condT k173 c174 ?_
    refine FW.seq (FW.region ?_)
    refine FL.v (E.assign (v := Value.bool false) rfl) ?_
    refine FL.nil ?_
    refine FW.ret ?_
    obtain rfl := Option.some.inj hp
    exact ⟨.inr rfl, res1 rfl rfl ⟨rfl, S160.back⟩⟩
   ·
    refine FW.condF k173 c174 ?_
    refine FW.skip (FW.seq (FW.seq ?_))
    obtain ⟨r88, hr158, hp⟩ := bnd hp
    obtain ⟨r188, hr189, hp⟩ := bnd hp
    refine FW.drawB (Sl H159) (fun f w => ∃ H : GH, St Ha wa H w [] ∧ Inc H159 H ∧ f 1 = v1 ∧ f 2 = Value.pointer (some ⟨wa.heap.size, 0, none⟩) ∧ f 6 = v80 ∧ f 7 = Value.bool r74.2 ∧ f 8 = Value.pointer (some ⟨w93.heap.size, 0, none⟩) ∧ f 9 = v120 ∧ f 10 = v139 ∧ f 11 = Value.bool r133.2 ∧ f 58 = Value.bool (!r188)) (by kernel_rfl) S160.sl ?_ ?_
    ·
     intro w175 r176
     have S177 := S160.call r176
     refine FB.t (i := 0) (bs 5 1) rfl (SP.nil S177.sl) rfl (fun w' hw' => (E.load k169 (run_loadA Tryz.isAgg32 Tryz.sizeOf32 ((at113.mono (sgI.tr ((r127.run.inc.tr r146.run.inc).tr i161))).now hw') rfl))) ?_
     refine FB.t (i := 1) (bs 5 3) rfl (SP.nil S177.sl) rfl (fun w' hw' => (E.load k166 (run_loadA Tryz.isAgg24 Tryz.sizeOf24 ((at28.mono (sgI.tr (((((((r48.inc.tr r68.run.inc).tr r85.run.inc).tr r95.inc).tr i112).tr r127.run.inc).tr r146.run.inc).tr i161))).now hw') rfl))) ?_
     refine FB.all1 (i := 2) (by kernel_rfl) ?_
     ·
      refine FC.call (l' := (bs 5 7)) rfl (by kernel_rfl) rfl rfl rfl (E.call Tryz.call15 (A1 rfl)) (w_laws_toCnf S177.sl a0 v0_1 (p0_1.mono ((((((((i27.tr r48.inc).tr r68.run.inc).tr r85.run.inc).tr r95.inc).tr i112).tr r127.run.inc).tr r146.run.inc).tr i161)) hr158) ?_
      rintro e w179 ⟨H178, v182, rfl, r181, ⟨c185, ns184⟩⟩
      refine ⟨_, rfl, ?_⟩
      have h183 := ns184.rsl
      have nv186 : New H159 [v182] := New.of_up S177.sl h183.dom
      have S180 := S177.call r181
      have z187 := r181.bel.size
      have h183 := h183.mono (sg_of S180.sl)
      have ns184 := ns184.mono (sg_of S180.sl)
      refine ⟨(SP.nil (Sl.of_inc r181.inc S180.sl)), ?_⟩
      refine FB.all1 (i := 3) (by kernel_rfl) ?_
      ·
       refine FC.call (l' := (bs 5 15)) rfl (by kernel_rfl) rfl rfl rfl (E.call Tryz.call19 (A2 rfl rfl)) (w_laws_eqCnf S180.sl r90 v96 (h97.mono (sgI.tr ((((i112.tr r127.run.inc).tr r146.run.inc).tr i161).tr r181.inc))) r88 v182 (h183.mono sgI) hr189) ?_
       rintro e w190 ⟨rfl, r191⟩
       refine ⟨_, rfl, ?_⟩
       have S192 := S180.call r191
       have z193 := r191.bel.size
       refine ⟨(SP.nil (Sl.of_inc r181.inc S192.sl)), ?_⟩
       refine FB.t (i := 4) (bs 5 31) rfl (SP.nil (Sl.of_inc r181.inc S192.sl)) rfl (fun w' hw' => (E.not rfl)) ?_
       exact FB.done (by kernel_rfl) ⟨_, S192, r181.inc, k165, k166, k167, k168, k169, k170, k171, k172, rfl⟩
    ·
     rintro f198 w197 ⟨H194, S195, i196, k199, k200, k201, k202, k203, k204, k205, k206, k207⟩
     rcases ifB hp with ⟨c208, hp⟩ | ⟨c208, hp⟩
     ·
      refine FW.condT k207 c208 ?_
      refine FW.seq (FW.region ?_)
      refine FL.v (E.assign (v := Value.bool false) rfl) ?_
      refine FL.nil ?_
      refine FW.ret ?_
      obtain rfl := Option.some.inj hp
      exact ⟨.inr rfl, res1 rfl rfl ⟨rfl, S195.back⟩⟩
     ·
      refine FW.condF k207 c208 ?_
      refine FW.skip (FW.seq (FW.seq (FW.region ?_)))
      refine FL.v (E.move k204) ?_
      refine FL.v (E.move k199) ?_
      obtain ⟨r209, hr210, hp⟩ := bnd hp
      refine FL.call rfl rfl rfl (E.call Tryz.call16 (A1 rfl)) (w_laws_toResStepS S195.sl v1 a1 (p1.mono (((((((((i27.tr r48.inc).tr r68.run.inc).tr r85.run.inc).tr r95.inc).tr i112).tr r127.run.inc).tr r146.run.inc).tr i161).tr i196)) hr210) ?_
      rintro e w212 ⟨H211, v215, n216, cs217, rfl, r214, els218, nd219⟩
      refine ⟨_, rfl, ?_⟩
      have nv220 : New H194 cs217 := New.of_up S195.sl els218.dom
      obtain ⟨H221, r222, i223, ns226, nv225⟩ := r214.sealRowN (i := 0) (l' := []) rfl els218 nd219 (by decide) rfl
      have h224 := ns226.rsl
      have S213 := S195.call r222.run
      have z227 := r222.run.bel.size
      have h224 := h224.mono (sg_of S213.sl)
      have ns226 := ns226.mono (sg_of S213.sl)
      obtain ⟨r228, hr229, hp⟩ := bnd hp
      refine FL.call rfl rfl rfl (E.call Tryz.call20 (A2 rfl rfl)) (w_laws_eqResStepS S213.sl v120 r114 (h129.mono (sgI.tr (((r146.run.inc.tr i161).tr i196).tr r222.run.inc))) v215 r209 (h224.mono sgI) hr229) ?_
      rintro e w230 ⟨rfl, r231⟩
      refine ⟨_, rfl, ?_⟩
      have S232 := S213.call r231
      have z233 := r231.bel.size
      refine FL.v (E.not rfl) ?_
      refine FL.nil ?_
      rcases ifB hp with ⟨c234, hp⟩ | ⟨c234, hp⟩
      ·
       refine FW.condT rfl c234 ?_
       refine FW.seq (FW.region ?_)
       refine FL.v (E.assign (v := Value.bool false) rfl) ?_
       refine FL.nil ?_
       refine FW.ret ?_
       obtain rfl := Option.some.inj hp
       exact ⟨.inr rfl, res1 rfl rfl ⟨rfl, S232.back⟩⟩
      ·
       refine FW.condF rfl c234 ?_
       refine FW.skip (FW.seq (FW.region ?_))
       refine FL.v (E.assign (v := Value.int .i64 1) rfl) ?_
       refine FL.nil (FW.seq (FW.region ?_))
       refine FL.v (E.load k203 (run_loadA Tryz.isAgg32 Tryz.sizeOf32 ((at113.mono (sgI.tr ((((r127.run.inc.tr r146.run.inc).tr i161).tr i196).tr r222.run.inc))).now S232.sl) rfl)) ?_
       refine FL.v (E.move (v := Value.int .i64 1) rfl) ?_
       refine FL.call rfl rfl rfl (E.call Tryz.call27 (A2 rfl rfl)) (w_laws_markCnf S232 hs r90 v96 c99 (ns98.mono (sg_up (by omega) (((((i112.tr r127.run.inc).tr r146.run.inc).tr i161).tr i196).tr r222.run.inc))) 1) ?_
       rintro e w236 ⟨H235, c241, rfl, S237, ns243, hb242, o239⟩
       refine ⟨_, rfl, ?_⟩
       have o240 := (ns98.mono (sg_mono (hi := w93.heap.size) (((((i112.tr r127.run.inc).tr r146.run.inc).tr i161).tr i196).tr r222.run.inc))).outside o239
       have ns243 := ns98.span (eL_loc eI_flat) (by omega) ns243 hb242
       have h238 := ns243.rsl
       have f244 := at28.mono ((sg_mono (lo := wa.heap.size) (hi := wa.heap.size + 1) (((((((((r48.inc.tr r68.run.inc).tr r85.run.inc).tr r95.inc).tr i112).tr r127.run.inc).tr r146.run.inc).tr i161).tr i196).tr r222.run.inc)).tr (sg_keep o240 (by omega)))
       have f245 := h87.mono ((bw_mono (hi := w77.heap.size) ((((((r95.inc.tr i112).tr r127.run.inc).tr r146.run.inc).tr i161).tr i196).tr r222.run.inc)).tr (bw_keep o240 (by omega)))
       have f246 := at113.mono ((sg_mono (lo := w93.heap.size) (hi := w93.heap.size + 1) ((((r127.run.inc.tr r146.run.inc).tr i161).tr i196).tr r222.run.inc)).tr (sg_keep o240 (by omega)))
       have f247 := h129.mono ((sg_mono (lo := w106.heap.size) (hi := w117.heap.size) (((r146.run.inc.tr i161).tr i196).tr r222.run.inc)).tr (sg_keep o240 (by omega)))
       have f248 := ns131.mono ((sg_mono (lo := w106.heap.size) (hi := w117.heap.size) (((r146.run.inc.tr i161).tr i196).tr r222.run.inc)).tr (sg_keep o240 (by omega)))
       have f249 := h148.mono ((sg_mono (lo := w117.heap.size) (hi := w136.heap.size) ((i161.tr i196).tr r222.run.inc)).tr (sg_keep o240 (by omega)))
       have f250 := ns150.mono ((sg_mono (lo := w117.heap.size) (hi := w136.heap.size) ((i161.tr i196).tr r222.run.inc)).tr (sg_keep o240 (by omega)))
       refine FL.v (E.assign (v := Value.int .i64 ((PF.laws_markCnf r90 1).2)) rfl) ?_
       refine FL.nil (FW.seq (FW.region ?_))
       refine FL.v (E.move k204) ?_
       refine FL.v (E.move (v := Value.int .i64 ((PF.laws_markCnf r90 1).2)) rfl) ?_
       refine FL.call rfl rfl rfl (E.call Tryz.call28 (A2 rfl rfl)) (w_laws_markResStepS S237 hs v120 r114 cs122 (f248.mono (sg_up (by omega) (Inc.rfl _))) ((PF.laws_markCnf r90 1).2)) ?_
       rintro e w252 ⟨H251, c257, rfl, S253, ns259, hb258, o255⟩
       refine ⟨_, rfl, ?_⟩
       have o256 := (f248.mono (sg_mono (hi := w117.heap.size) (Inc.rfl _))).outside o255
       have ns259 := f248.span eResStep_loc (by omega) ns259 hb258
       have h254 := ns259.rsl
       have f260 := f244.mono ((sg_mono (lo := wa.heap.size) (hi := wa.heap.size + 1) (Inc.rfl _)).tr (sg_keep o256 (by omega)))
       have f261 := f245.mono ((bw_mono (hi := w77.heap.size) (Inc.rfl _)).tr (bw_keep o256 (by omega)))
       have f262 := f246.mono ((sg_mono (lo := w93.heap.size) (hi := w93.heap.size + 1) (Inc.rfl _)).tr (sg_keep o256 (by omega)))
       have f263 := h238.mono ((sg_mono (lo := w77.heap.size) (hi := w93.heap.size) (Inc.rfl _)).tr (sg_keep o256 (by omega)))
       have f264 := ns243.mono ((sg_mono (lo := w77.heap.size) (hi := w93.heap.size) (Inc.rfl _)).tr (sg_keep o256 (by omega)))
       have f265 := f249.mono ((sg_mono (lo := w117.heap.size) (hi := w136.heap.size) (Inc.rfl _)).tr (sg_keep o256 (by omega)))
       have f266 := f250.mono ((sg_mono (lo := w117.heap.size) (hi := w136.heap.size) (Inc.rfl _)).tr (sg_keep o256 (by omega)))
       refine FL.v (E.assign (v := Value.int .i64 ((PF.laws_markResStepS r114 ((PF.laws_markCnf r90 1).2)).2)) rfl) ?_
       refine FL.nil (FW.seq (FW.seq (FW.region ?_)))
       refine FL.v (E.move (v := Value.int .i64 ((PF.laws_markResStepS r114 ((PF.laws_markCnf r90 1).2)).2)) rfl) ?_
       refine FL.v (E.lss rfl rfl) ?_
       refine FL.v (E.move (v := Value.bool (decide ((PF.laws_markResStepS r114 ((PF.laws_markCnf r90 1).2)).2 < 0))) rfl) ?_
       obtain ⟨t267, hqt267, hp⟩ := bnd hp
       refine FL.cut 5 (fun f w => ∃ H : GH, St Ha wa H w [] ∧ Inc H251 H ∧ f 1 = v1 ∧ f 2 = Value.pointer (some ⟨wa.heap.size, 0, none⟩) ∧ f 6 = v80 ∧ f 7 = Value.bool r74.2 ∧ f 10 = v139 ∧ f 11 = Value.bool r133.2 ∧ f 77 = Value.bool t267) ?_ ?_
       ·
        clear hp; have hp := hqt267; clear hqt267
        rcases ifB hp with ⟨c273, hp⟩ | ⟨c273, hp⟩
        ·
         refine FL.skip (wF_no rfl rfl rfl c273) rfl ?_
         refine FL.skip (wF_no rfl rfl rfl c273) rfl ?_
         refine FL.skip (wF_no rfl rfl rfl c273) rfl ?_
         refine FL.skip (wF_no rfl rfl rfl c273) rfl ?_
         obtain rfl := Option.some.inj hp
         refine FL.v (E.pickT rfl c273 rfl) ?_
         exact FL.nil ⟨rfl, _, S253, (Inc.rfl _), k199, k200, k201, k202, k205, k206, rfl⟩
        ·
         refine FL.val (wF_yes rfl rfl rfl c273) rfl rfl (E.move k205) ?_
         refine FL.val (wF_yes rfl rfl rfl c273) rfl rfl (E.move k201) ?_
         obtain ⟨r274, hr275, hp⟩ := bnd hp
         refine FL.call (wF_yes rfl rfl rfl c273) rfl rfl (E.call Tryz.call26 (A2 rfl rfl)) (w_laws_eqPlaneStepS S253.sl v139 r133.1 (f265.mono sgI) v80 r74.1 (f261.mono bwI) hr275) ?_
         rintro e w276 ⟨rfl, r277⟩
         refine ⟨_, rfl, ?_⟩
         have S278 := S253.call r277
         have z279 := r277.bel.size
         refine FL.val (wF_yes rfl rfl rfl c273) rfl rfl (E.not rfl) ?_
         obtain rfl := Option.some.inj hp
         refine FL.v (E.pickF rfl c273 rfl) ?_
         exact FL.nil ⟨rfl, _, S278, (Inc.rfl _), k199, k200, k201, k202, k205, k206, rfl⟩
       rintro f272 w271 ⟨H268, S269, i270, k280, k281, k282, k283, k284, k285, k286⟩
       refine FL.v (E.move k286) ?_
       refine FL.cut 4 (fun f w => ∃ H : GH, St Ha wa H w [] ∧ Inc H268 H ∧ f 1 = v1 ∧ f 2 = Value.pointer (some ⟨wa.heap.size, 0, none⟩) ∧ f 6 = v80 ∧ f 7 = Value.bool r74.2 ∧ f 10 = v139 ∧ f 82 = Value.bool (bif t267 then true else (!(r133.2 == r74.2)))) ?_ ?_
       ·
        rcases bcase t267 with c292 | c292
        ·
         refine FL.skip (wF_no rfl rfl rfl c292) rfl ?_
         refine FL.skip (wF_no rfl rfl rfl c292) rfl ?_
         refine FL.skip (wF_no rfl rfl rfl c292) rfl ?_
         refine FL.v (E.pickT rfl c292 rfl) ?_
         exact FL.nil ⟨rfl, _, S269, (Inc.rfl _), k280, k281, k282, k283, k284, (congrArg Value.bool (bifT c292).symm)⟩
        ·
         refine FL.val (wF_yes rfl rfl rfl c292) rfl rfl (E.move k285) ?_
         refine FL.val (wF_yes rfl rfl rfl c292) rfl rfl (E.move k283) ?_
         refine FL.val (wF_yes rfl rfl rfl c292) rfl rfl (E.neqB Tryz.runUnderlying4 rfl rfl) ?_
         refine FL.v (E.pickF rfl c292 rfl) ?_
         exact FL.nil ⟨rfl, _, S269, (Inc.rfl _), k280, k281, k282, k283, k284, (congrArg Value.bool (bifF c292).symm)⟩
       rintro f291 w290 ⟨H287, S288, i289, k293, k294, k295, k296, k297, k298⟩
       refine FL.nil ?_
       rcases ifB hp with ⟨c299, hp⟩ | ⟨c299, hp⟩
       ·
        refine FW.condT k298 c299 ?_
        refine FW.seq (FW.region ?_)
        refine FL.v (E.assign (v := Value.bool false) rfl) ?_
        refine FL.nil ?_
        refine FW.ret ?_
        obtain rfl := Option.some.inj hp
        exact ⟨.inr rfl, res1 rfl rfl ⟨rfl, S288.back⟩⟩
       ·
        refine FW.condF k298 c299 ?_
        refine FW.skip (FW.seq (FW.region ?_))
        refine FL.v (E.assign (v := Value.int .i64 1) rfl) ?_
        refine FL.nil (FW.seq (FW.region ?_))
        refine FL.v (E.move k297) ?_
        refine FL.v (E.move (v := Value.int .i64 1) rfl) ?_
        refine FL.call rfl rfl rfl (E.call Tryz.call29 (A2 rfl rfl)) (w_laws_markPlaneStepS S288 hs v139 r133.1 cs141 (f266.mono (sg_up (by omega) (i270.tr i289))) 1) ?_
        rintro e w301 ⟨H300, c306, rfl, S302, ns308, hb307, o304⟩
        refine ⟨_, rfl, ?_⟩
        have o305 := (f266.mono (sg_mono (hi := w136.heap.size) (i270.tr i289))).outside o304
        have ns308 := f266.span ePlaneStep_loc (by omega) ns308 hb307
        have h303 := ns308.rsl
        have f309 := f260.mono ((sg_mono (lo := wa.heap.size) (hi := wa.heap.size + 1) (i270.tr i289)).tr (sg_keep o305 (by omega)))
        have f310 := f261.mono ((bw_mono (hi := w77.heap.size) (i270.tr i289)).tr (bw_keep o305 (by omega)))
        refine FL.v (E.assign (v := Value.int .i64 ((PF.laws_markPlaneStepS r133.1 1).2)) rfl) ?_
        refine FL.nil (FW.seq (FW.region ?_))
        refine FL.v (E.assign (v := Value.int .i64 1) rfl) ?_
        refine FL.nil (FW.seq (FW.region ?_))
        refine FL.v (E.move k297) ?_
        refine FL.v (E.move (v := Value.int .i64 1) rfl) ?_
        obtain ⟨r311, hr312, hp⟩ := bnd hp
        refine FL.call rfl rfl rfl (E.call Tryz.call30 (A2 rfl rfl)) (w_laws_heldPlaneStepS S302.sl v139 ((PF.laws_markPlaneStepS r133.1 1).1) (h303.mono sgI) 1 hr312) ?_
        rintro e w313 ⟨rfl, r314⟩
        refine ⟨_, rfl, ?_⟩
        have S315 := S302.call r314
        have z316 := r314.bel.size
        refine FL.v (E.assign (v := Value.int .i64 r311) rfl) ?_
        refine FL.nil (FW.seq (FW.seq (FW.region ?_)))
        refine FL.v (E.move (v := Value.int .i64 r311) rfl) ?_
        refine FL.v (E.lss rfl rfl) ?_
        refine FL.nil ?_
        rcases ifB hp with ⟨c317, hp⟩ | ⟨c317, hp⟩
        ·
         refine FW.condT rfl c317 ?_
         refine FW.seq (FW.region ?_)
         refine FL.v (E.assign (v := Value.bool false) rfl) ?_
         refine FL.nil ?_
         refine FW.ret ?_
         obtain rfl := Option.some.inj hp
         exact ⟨.inr rfl, res1 rfl rfl ⟨rfl, S315.back⟩⟩
        ·
         refine FW.condF rfl c317 ?_
         refine FW.skip (FW.seq (FW.seq (FW.region ?_)))
         refine FL.v (E.move (v := Value.int .i64 r311) rfl) ?_
         refine FL.v (E.move (v := Value.int .i64 ((PF.laws_markPlaneStepS r133.1 1).2)) rfl) ?_
         refine FL.v (E.neq rfl rfl) ?_
         refine FL.nil ?_
         rcases ifB hp with ⟨c318, hp⟩ | ⟨c318, hp⟩
         ·
          refine FW.condT rfl c318 ?_
          refine FW.seq (FW.region ?_)
          refine FL.v (E.assign (v := Value.bool false) rfl) ?_
          refine FL.nil ?_
          refine FW.ret ?_
          obtain rfl := Option.some.inj hp
          exact ⟨.inr rfl, res1 rfl rfl ⟨rfl, S315.back⟩⟩
         ·
          refine FW.condF rfl c318 ?_
          refine FW.skip (FW.seq (FW.region ?_))
          refine FL.v (E.load k294 (run_loadA Tryz.isAgg24 Tryz.sizeOf24 ((f309.mono sgI).now S315.sl) rfl)) ?_
          obtain ⟨r319, hr320, hp⟩ := bnd hp
          refine FL.call rfl rfl rfl (E.call Tryz.call15 (A1 rfl)) (w_laws_toCnf S315.sl a0 v0_1 (p0_1.mono S302.inc) hr320) ?_
          rintro e w322 ⟨H321, v325, rfl, r324, ⟨c328, ns327⟩⟩
          refine ⟨_, rfl, ?_⟩
          have h326 := ns327.rsl
          have nv329 : New H300 [v325] := New.of_up S315.sl h326.dom
          have S323 := S315.call r324
          have z330 := r324.bel.size
          have h326 := h326.mono (sg_of S323.sl)
          have ns327 := ns327.mono (sg_of S323.sl)
          refine FL.v (E.move k293) ?_
          obtain ⟨r331, hr332, hp⟩ := bnd hp
          refine FL.call rfl rfl rfl (E.call Tryz.call16 (A1 rfl)) (w_laws_toResStepS S323.sl v1 a1 (p1.mono (S302.inc.tr r324.inc)) hr332) ?_
          rintro e w334 ⟨H333, v337, n338, cs339, rfl, r336, els340, nd341⟩
          refine ⟨_, rfl, ?_⟩
          have nv342 : New H321 cs339 := New.of_up S323.sl els340.dom
          obtain ⟨H343, r344, i345, ns348, nv347⟩ := r336.sealRowN (i := 0) (l' := []) rfl els340 nd341 (by decide) rfl
          have h346 := ns348.rsl
          have S335 := S323.call r344.run
          have z349 := r344.run.bel.size
          have h346 := h346.mono (sg_of S335.sl)
          have ns348 := ns348.mono (sg_of S335.sl)
          obtain ⟨r350, hr351, hp⟩ := bnd hp
          refine FL.call rfl rfl rfl (E.call Tryz.call25 (A2 rfl rfl)) (w_impl_ProofToPlanes S335.sl r319 v325 (h326.mono (sgI.tr r344.run.inc)) v337 r331 (h346.mono sgI) hr351) ?_
          rintro e w353 ⟨H352, v356, n357, cs358, rfl, r355, els359, nd360⟩
          refine ⟨_, rfl, ?_⟩
          have nv361 : New H343 cs358 := New.of_up S335.sl els359.dom
          obtain ⟨H362, r363, i364, ns367, nv366⟩ := r355.sealRowN (i := 0) (l' := []) rfl els359 nd360 (by decide) rfl
          have h365 := ns367.rsl
          have S354 := S335.call r363.run
          have z368 := r363.run.bel.size
          have h365 := h365.mono (sg_of S354.sl)
          have ns367 := ns367.mono (sg_of S354.sl)
          refine FL.v (E.move (v := Value.tuple #[v356, Value.bool r350.2]) rfl) ?_
          refine FL.v (E.extract (i := 0) rfl rfl) ?_
          refine FL.v (E.extract (i := 1) rfl rfl) ?_
          refine FL.v (E.assign (v := v356) rfl) ?_
          refine FL.v (E.assign (v := Value.bool r350.2) rfl) ?_
          refine FL.nil (FW.seq (FW.seq (FW.region ?_)))
          refine FL.v (E.move (v := v356) rfl) ?_
          refine FL.v (E.move k295) ?_
          obtain ⟨r369, hr370, hp⟩ := bnd hp
          refine FL.call rfl rfl rfl (E.call Tryz.call26 (A2 rfl rfl)) (w_laws_eqPlaneStepS S354.sl v356 r350.1 (h365.mono sgI) v80 r74.1 (f310.mono (bwI.tr ((r324.inc.tr r344.run.inc).tr r363.run.inc))) hr370) ?_
          rintro e w371 ⟨rfl, r372⟩
          refine ⟨_, rfl, ?_⟩
          have S373 := S354.call r372
          have z374 := r372.bel.size
          refine FL.v (E.not rfl) ?_
          refine FL.v (E.move (v := Value.bool (!r369)) rfl) ?_
          refine FL.cut 4 (fun f w => ∃ H : GH, St Ha wa H w [] ∧ Inc H362 H ∧ f 10 = v139 ∧ f 13 = Value.int .i64 ((PF.laws_markPlaneStepS r133.1 1).2) ∧ f 110 = Value.bool (bif (!r369) then true else (!(r350.2 == r74.2)))) ?_ ?_
          ·
           rcases bcase (!r369) with c380 | c380
           ·
            refine FL.skip (wF_no rfl rfl rfl c380) rfl ?_
            refine FL.skip (wF_no rfl rfl rfl c380) rfl ?_
            refine FL.skip (wF_no rfl rfl rfl c380) rfl ?_
            refine FL.v (E.pickT rfl c380 rfl) ?_
            exact FL.nil ⟨rfl, _, S373, (Inc.rfl _), k297, rfl, (congrArg Value.bool (bifT c380).symm)⟩
           ·
            refine FL.val (wF_yes rfl rfl rfl c380) rfl rfl (E.move (v := Value.bool r350.2) rfl) ?_
            refine FL.val (wF_yes rfl rfl rfl c380) rfl rfl (E.move k296) ?_
            refine FL.val (wF_yes rfl rfl rfl c380) rfl rfl (E.neqB Tryz.runUnderlying4 rfl rfl) ?_
            refine FL.v (E.pickF rfl c380 rfl) ?_
            exact FL.nil ⟨rfl, _, S373, (Inc.rfl _), k297, rfl, (congrArg Value.bool (bifF c380).symm)⟩
          rintro f379 w378 ⟨H375, S376, i377, k381, k382, k383⟩
          refine FL.nil ?_
          rcases ifB hp with ⟨c384, hp⟩ | ⟨c384, hp⟩
          ·
           refine FW.condT k383 c384 ?_
           refine FW.seq (FW.region ?_)
           refine FL.v (E.assign (v := Value.bool false) rfl) ?_
           refine FL.nil ?_
           refine FW.ret ?_
           obtain rfl := Option.some.inj hp
           exact ⟨.inr rfl, res1 rfl rfl ⟨rfl, S376.back⟩⟩
          ·
           refine FW.condF k383 c384 ?_
           refine FW.skip (FW.seq (FW.region ?_))
           refine FL.v (E.assign (v := Value.int .i64 1) rfl) ?_
           refine FL.nil (FW.seq (FW.region ?_))
           refine FL.v (E.move k381) ?_
           refine FL.v (E.move (v := Value.int .i64 1) rfl) ?_
           obtain ⟨r385, hr386, hp⟩ := bnd hp
           refine FL.call rfl rfl rfl (E.call Tryz.call30 (A2 rfl rfl)) (w_laws_heldPlaneStepS S376.sl v139 ((PF.laws_markPlaneStepS r133.1 1).1) (h303.mono (sgI.tr (((r324.inc.tr r344.run.inc).tr r363.run.inc).tr i377))) 1 hr386) ?_
           rintro e w387 ⟨rfl, r388⟩
           refine ⟨_, rfl, ?_⟩
           have S389 := S376.call r388
           have z390 := r388.bel.size
           refine FL.v (E.assign (v := Value.int .i64 r385) rfl) ?_
           refine FL.nil (FW.seq (FW.seq (FW.region ?_)))
           refine FL.v (E.move (v := Value.int .i64 r385) rfl) ?_
           refine FL.v (E.lss rfl rfl) ?_
           refine FL.nil ?_
           rcases ifB hp with ⟨c391, hp⟩ | ⟨c391, hp⟩
           ·
            refine FW.condT rfl c391 ?_
            refine FW.seq (FW.region ?_)
            refine FL.v (E.assign (v := Value.bool false) rfl) ?_
            refine FL.nil ?_
            refine FW.ret ?_
            obtain rfl := Option.some.inj hp
            exact ⟨.inr rfl, res1 rfl rfl ⟨rfl, S389.back⟩⟩
           ·
            refine FW.condF rfl c391 ?_
            refine FW.skip (FW.seq (FW.seq (FW.region ?_)))
            refine FL.v (E.move (v := Value.int .i64 r385) rfl) ?_
            refine FL.v (E.move k382) ?_
            refine FL.v (E.neq rfl rfl) ?_
            refine FL.nil ?_
            rcases ifB hp with ⟨c392, hp⟩ | ⟨c392, hp⟩
            ·
             refine FW.condT rfl c392 ?_
             refine FW.seq (FW.region ?_)
             refine FL.v (E.assign (v := Value.bool false) rfl) ?_
             refine FL.nil ?_
             refine FW.ret ?_
             obtain rfl := Option.some.inj hp
             exact ⟨.inr rfl, res1 rfl rfl ⟨rfl, S389.back⟩⟩
            ·
             refine FW.condF rfl c392 ?_
             refine FW.skip (FW.seq (FW.region ?_))
             refine FL.v (E.assign (v := Value.bool true) rfl) ?_
             refine FL.nil ?_
             refine FW.ret ?_
             obtain rfl := Option.some.inj hp
             exact ⟨.inr rfl, res1 rfl rfl ⟨rfl, S389.back⟩⟩

end Go.Proofs
