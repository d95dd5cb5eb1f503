/- Part of the walks and plain laws behind the claim: it proves helpers, under no condition beyond their own. -/
import Derived.Test.YtofdolgiondolaaGreatDoorDiWk2
set_option linter.unusedVariables false
set_option maxRecDepth 100000
namespace Go.Proofs
open Go.Mr Go.Pu Go.PF Go.RowKit

@[reducible] def p_slices_Reverse_int_int (H0 : GH) (w0 : World) (Ha : GH) (L : List MO) (v0 : Value) (n0 : Nat) (r : (List Int)) : Ending → World → Prop :=
 fun e w' => ∃ H' : GH, ∃ c0k : List Value, e = .returned (Value.tuple #[]) ∧ (St H0 w0 H' w' (.row 3 1 v0 n0 c0k :: L) ∧ Inc Ha H') ∧ Els (up w0.heap.size H') eI 1 c0k r
set_option maxHeartbeats 4000000 in
theorem w_slices_Reverse_int_int {H0 Ha : GH} {w0 wa : World} {L : List MO} {v0 : Value} {n0 : Nat} {k0 : List Value} (S0 : St H0 w0 Ha wa (.row 3 1 v0 n0 k0 :: L)) (a0 : List Int) (p0 : Els (up w0.heap.size Ha) eI 1 k0 a0) {r : (List Int)} (hp : (PF.slices_Reverse_int_int a0) = some r) :
  Calls Tryz.prog 72 #[v0] wa (p_slices_Reverse_int_int H0 w0 Ha L v0 n0 r) := by
 unfold PF.slices_Reverse_int_int at hp
 refine calls_go (N := 28) (args := [v0]) Tryz.func72 rfl rfl rfl ?_
 refine FW.seq (FW.region ?_)
 refine FL.v (E.move (v := v0) rfl) ?_
 refine FL.v (E.lenO te33 rfl S0 (i := 0) rfl p0 (by decide)) ?_
 refine FL.v (E.sub rfl rfl) ?_
 refine FL.v (E.assign (v := Value.int .i64 0) rfl) ?_
 refine FL.v (E.assign (v := Value.int .i64 (wr ((len a0) - 1))) rfl) ?_
 refine FL.nil ?_
 obtain ⟨q21, hq, hp⟩ := bndR hp
 refine FW.block ?_
 refine FW.mono (FW.iter (S := ((List Int) × Int × Int)) (X := Empty) (fun (s21 : ((List Int) × Int × Int)) f w => ∃ H : GH, ∃ cs22 : List Value, St H0 w0 H w (.row 3 1 v0 n0 cs22 :: L) ∧ Inc Ha H ∧ Els (up w0.heap.size H) eI 1 cs22 s21.1 ∧ f 0 = v0 ∧ f 2 = Value.int .i64 s21.2.1 ∧ f 3 = Value.int .i64 s21.2.2) (fun (q : Rs ((List Int) × Int × Int) Empty) e f w => match q with | .go s21 => e = Exit.exit 0 ∧ (∃ H : GH, ∃ cs22 : List Value, St H0 w0 H w (.row 3 1 v0 n0 cs22 :: L) ∧ Inc Ha H ∧ Els (up w0.heap.size H) eI 1 cs22 s21.1) | .rt x => x.elim) hq ⟨_, _, S0, (Inc.rfl _), p0, rfl, rfl, rfl⟩ ?_) ?_
 ·
  clear hp hq
  rintro s21 f28 w27 ⟨H24, cs22, S25, i26, els23, k29, k30, k31⟩ o99 hp
  refine FW.seq (FW.seq (FW.region ?_))
  refine FL.v (E.move k30) ?_
  refine FL.v (E.move k31) ?_
  refine FL.v (E.lss rfl rfl) ?_
  refine FL.nil ?_
  rcases ifB hp with ⟨c32, hp⟩ | ⟨c32, hp⟩
  ·
   refine FW.condT rfl c32 ?_
   refine FW.skip (FW.seq (FW.block ?_))
   obtain ⟨x43, hx44, hp⟩ := bnd hp
   obtain ⟨x52, hx53, hp⟩ := bnd hp
   obtain ⟨x61, hx62, hp⟩ := bnd hp
   obtain ⟨xs67, hput68, hp⟩ := bnd hp
   obtain ⟨x78, hx79, hp⟩ := bnd hp
   obtain ⟨xs84, hput85, hp⟩ := bnd hp
   refine FW.drawB (Sl H24) (fun f w => ∃ H : GH, ∃ cs89 : List Value, St H0 w0 H w (.row 3 1 v0 n0 cs89 :: L) ∧ Inc H24 H ∧ Els (up w0.heap.size H) eI 1 cs89 xs84 ∧ f 0 = v0 ∧ f 2 = Value.int .i64 s21.2.1 ∧ f 3 = Value.int .i64 s21.2.2) (by kernel_rfl) S25.sl ?_ ?_
   ·
    intro w34 r35
    have S36 := S25.call r35
    refine FB.t (i := 0) (bs 16 1) rfl (SP.nil S36.sl) rfl (fun w' hw' => (E.move k29)) ?_
    refine FB.t (i := 1) (bs 16 3) rfl (SP.nil S36.sl) rfl (fun w' hw' => (E.move k30)) ?_
    refine FB.t (i := 2) (bs 16 7) rfl (SP.nil S36.sl) rfl (fun w' hw' => (E.move k29)) ?_
    refine FB.t (i := 3) (bs 16 15) rfl (SP.nil S36.sl) rfl (fun w' hw' => (E.move k31)) ?_
    refine FB.t (i := 4) (bs 16 31) rfl (SP.nil S36.sl) rfl (fun w' hw' => (E.move k29)) ?_
    refine FB.t (i := 5) (bs 16 63) rfl (SP.nil S36.sl) rfl (fun w' hw' => (E.move k31)) ?_
    obtain ⟨p37, cs38, pt39, l40, at41, rel42, hall45⟩ := S36.row_atA (i := 0) rfl els23 (by decide) hx44
    obtain rfl := eI_open rel42
    refine FB.t (i := 6) (bs 16 127) rfl (SP.nil S36.sl) rfl (fun w' hw' => (E.indexAddr te33 rfl rfl pt39)) ?_
    refine FB.phase [13, 15] (fun w' => WAt w' p37 [Value.int .i64 x43]) ?_
    refine FB.p (i := 7) (bs 16 255) 0 [12, 13, 14, 15] rfl (SP.on (hall45 _ _ _ 0 S36 rfl) (SP.nil S36.sl)) rfl rfl (fun w' hw' => (E.load rfl (run_load0 Tryz.isAgg3 hw' rfl))) ?_
    refine FB.t (i := 8) (bs 16 511) rfl (SP.on (hall45 _ _ _ 0 S36 rfl) (SP.nil S36.sl)) rfl (fun w' hw' => (E.move k29)) ?_
    refine FB.t (i := 9) (bs 16 1023) rfl (SP.on (hall45 _ _ _ 0 S36 rfl) (SP.nil S36.sl)) rfl (fun w' hw' => (E.move k30)) ?_
    obtain ⟨p46, cs47, pt48, l49, at50, rel51, hall54⟩ := S36.row_atA (i := 0) rfl els23 (by decide) hx53
    obtain rfl := eI_open rel51
    refine FB.t (i := 10) (bs 16 2047) rfl (SP.on (hall45 _ _ _ 0 S36 rfl) (SP.nil S36.sl)) rfl (fun w' hw' => (E.indexAddr te33 rfl rfl pt48)) ?_
    refine FB.phase [13, 15] (fun w' => WAt w' p46 [Value.int .i64 x52]) ?_
    refine FB.p (i := 11) (bs 16 4095) 0 [12, 13, 14, 15] rfl (SP.on (hall54 _ _ _ 0 S36 rfl) (SP.on (hall45 _ _ _ 0 S36 rfl) (SP.nil S36.sl))) rfl rfl (fun w' hw' => (E.load rfl (run_load0 Tryz.isAgg3 hw' rfl))) ?_
    obtain ⟨p55, cs56, pt57, l58, at59, rel60, hall63⟩ := S36.row_atA (i := 0) rfl els23 (by decide) hx62
    obtain rfl := eI_open rel60
    refine FB.t (i := 12) (bs 16 8191) rfl (SP.on (hall54 _ _ _ 0 S36 rfl) (SP.on (hall45 _ _ _ 0 S36 rfl) (SP.nil S36.sl))) rfl (fun w' hw' => (E.indexAddr te33 rfl rfl pt57)) ?_
    refine FB.all1 (i := 13) (by kernel_rfl) ?_
    ·
     obtain ⟨w64, cs70, run65, S66, els69, ce71⟩ := S36.putEls (P := Tryz.prog) (t := 3) (i := 0) rfl els23 hput68 pt57 Tryz.sizeOf3 (u := Value.int .i64 x43) (c := [Value.int .i64 x43]) rfl rfl (ones_cons rfl ones_nil) rfl
     have S66 : St H0 w0 H24 w64 (.row 3 1 v0 n0 cs70 :: L) := S66
     refine FC.act (l' := (bs 16 16383)) rfl (by kernel_rfl) rfl rfl (E.store rfl rfl run65) ?_
     refine ⟨(SP.o (SP.o (SP.nil S66.sl))), ?_⟩
     obtain ⟨p72, cs73, pt74, l75, at76, rel77, hall80⟩ := S66.row_atA (i := 0) rfl els69 (by decide) hx79
     obtain rfl := eI_open rel77
     refine FB.t (i := 14) (bs 16 32767) rfl (SP.o (SP.o (SP.nil S66.sl))) rfl (fun w' hw' => (E.indexAddr te33 rfl rfl pt74)) ?_
     refine FB.all1 (i := 15) (by kernel_rfl) ?_
     ·
      obtain ⟨w81, cs87, run82, S83, els86, ce88⟩ := S66.putEls (P := Tryz.prog) (t := 3) (i := 0) rfl els69 hput85 pt74 Tryz.sizeOf3 (u := Value.int .i64 x52) (c := [Value.int .i64 x52]) rfl rfl (ones_cons rfl ones_nil) rfl
      have S83 : St H0 w0 H24 w81 (.row 3 1 v0 n0 cs87 :: L) := S83
      refine FC.act (l' := (bs 16 65535)) rfl (by kernel_rfl) rfl rfl (E.store rfl rfl run82) ?_
      refine ⟨(SP.o (SP.o (SP.nil S83.sl))), ?_⟩
      exact FB.done (by kernel_rfl) ⟨_, _, S83, (Inc.rfl _), els86, k29, k30, k31⟩
   ·
    rintro f95 w94 ⟨H91, cs89, S92, i93, els90, k96, k97, k98⟩
    refine FW.region ?_
    refine FL.v (E.move k97) ?_
    refine FL.v (E.add rfl rfl) ?_
    refine FL.v (E.move k98) ?_
    refine FL.v (E.sub rfl rfl) ?_
    refine FL.v (E.assign (v := Value.int .i64 (wr (s21.2.1 + 1))) rfl) ?_
    refine FL.v (E.assign (v := Value.int .i64 (wr (s21.2.2 - 1))) rfl) ?_
    refine FL.nil ?_
    obtain rfl := Option.some.inj hp
    exact ⟨rfl, ⟨_, _, S92, (i26.tr i93), els90, k96, rfl, rfl⟩⟩
  ·
   refine FW.condF rfl c32 ?_
   refine FW.exit ?_
   obtain rfl := Option.some.inj hp
   exact ⟨nofun, rfl, ⟨_, _, S25, i26, els23⟩⟩
 ·
  clear hq
  intro e f104 w103 hD
  rcases q21 with s21 | x21
  ·
   obtain ⟨rfl, hD⟩ := hD
   obtain ⟨H100, cs22, S101, i102, els23⟩ := hD
   replace hp := el_go hp
   obtain rfl := Option.some.inj hp
   exact ⟨.inl rfl, res0 rfl ⟨_, _, rfl, ⟨S101, i102⟩, els23⟩⟩
  ·
   exact x21.elim

@[reducible] def p_impl_fregeRests (Ha : GH) (wa : World) (r : (List Int)) : Ending → World → Prop :=
 fun e w' => ∃ H' : GH, ∃ v0 : Value, ∃ n0 : Nat, ∃ c0 : List Value, e = .returned (v0) ∧ St Ha wa H' w' [.row 3 1 v0 n0 c0] ∧ Els (up wa.heap.size H') eI 1 c0 r
set_option maxHeartbeats 4000000 in
theorem w_impl_fregeRests {Ha : GH} {wa : World} (hs : Sl Ha wa) (v0 : Value) (a0 : List FregeStep) (p0 : RSl Ha eFregeStep 4 v0 a0) {r : (List Int)} (hp : (PF.impl_fregeRests a0) = some r) :
  Calls Tryz.prog 33 #[v0] wa (p_impl_fregeRests Ha wa r) := by
 unfold PF.impl_fregeRests at hp
 have S0 := St.init hs
 refine calls_go (N := 7) (args := [v0]) Tryz.func33 rfl rfl rfl ?_
 refine FW.seq (FW.region ?_)
 obtain ⟨b21, w22, run23, S24⟩ := S0.box (P := Tryz.prog) 25 [v0] (v := v0) p0.cells (ones_cons p0.one ones_nil)
 refine FL.v (E.box rfl run23) ?_
 obtain ⟨H25, S26, i27, at28⟩ := S24.sealBox (i := 0) (l' := []) rfl rfl
 refine FL.v (E.assign (v := Value.slice none 0 0) rfl) ?_
 refine FL.nil (FW.seq (FW.region ?_))
 refine FL.v (E.load rfl (run_load0 Tryz.isAgg25 (at28.now S26.sl) rfl)) ?_
 refine FL.v (E.lenP te25 rfl p0) ?_
 refine FL.v (E.makeFunc A0 (A1 rfl)) ?_
 obtain ⟨s401, hq401, hp⟩ := bnd hp
 obtain ⟨R401, hR401⟩ : ∃ R401 : (List Int) → Ending → World → Prop, R401 = (fun s401 e w => ∃ H : GH, ∃ v402 : Value, ∃ n403 : Nat, ∃ cs404 : List Value, e = Ending.returned (v402) ∧ St Ha wa H w [.row 3 1 v402 n403 cs404] ∧ Inc H25 H ∧ Els (up wa.heap.size H) eI 1 cs404 s401) := ⟨_, rfl⟩
 have hc401 : Calls Tryz.prog 54 #[Value.int .i64 (len a0), Value.func (.func 55) #[] #[Value.pointer (some ⟨b21, 0, none⟩)]] w22 (R401 s401) := by
  clear hp; have hp := hq401; clear hq401
  refine calls_go (N := 48) (args := [Value.int .i64 (len a0), Value.func (.func 55) #[] #[Value.pointer (some ⟨b21, 0, none⟩)]]) Tryz.func54 rfl rfl rfl ?_
  refine FW.seq (FW.region ?_)
  refine FL.v (E.assign (v := Value.slice none 0 0) rfl) ?_
  refine FL.nil (FW.seq (FW.region ?_))
  refine FL.v (E.move (v := Value.int .i64 (len a0)) rfl) ?_
  obtain ⟨xs406, hm407, hp⟩ := bnd hp
  obtain ⟨v408, w409, n413, cs414, run410, S411, els412, hbl415⟩ := S26.makeEls (P := Tryz.prog) te102 (G := (up wa.heap.size H25)) (En := eB) (x0 := (false : Bool)) hm407 rfl (ones_cons rfl ones_nil) .i64 .i64
  refine FL.v (E.makeSlice rfl rfl run410) ?_
  refine FL.v (E.assign (v := v408) rfl) ?_
  refine FL.nil (FW.seq (FW.region ?_))
  refine FL.v (E.assign (v := Value.slice none 0 0) rfl) ?_
  refine FL.nil (FW.seq (FW.seq (FW.region ?_)))
  refine FL.v (E.move (v := Value.int .i64 (len a0)) rfl) ?_
  refine FL.v (E.sub rfl rfl) ?_
  refine FL.v (E.assign (v := Value.int .i64 (wr ((len a0) - 1))) rfl) ?_
  refine FL.nil ?_
  obtain ⟨q416, hq, hp⟩ := bndR hp
  refine FW.block ?_
  refine FW.mono (FW.iter (S := ((List Bool) × (List Int) × Int)) (X := Empty) (fun (s416 : ((List Bool) × (List Int) × Int)) f w => ∃ H : GH, ∃ v583 : Value, ∃ n584 : Nat, ∃ cs585 : List Value, ∃ v587 : Value, ∃ n588 : Nat, ∃ cs589 : List Value, St Ha wa H w [.row 4 1 v583 n584 cs585, .row 3 1 v587 n588 cs589] ∧ Inc H25 H ∧ Els (up wa.heap.size H) eB 1 cs585 s416.1 ∧ Els (up wa.heap.size H) eI 1 cs589 s416.2.1 ∧ f 0 = Value.int .i64 (len a0) ∧ f 1 = Value.func (.func 55) #[] #[Value.pointer (some ⟨b21, 0, none⟩)] ∧ f 5 = v583 ∧ f 6 = v587 ∧ f 7 = Value.int .i64 s416.2.2) (fun (q : Rs ((List Bool) × (List Int) × Int) Empty) e f w => match q with | .go s416 => e = Exit.exit 0 ∧ (∃ H : GH, ∃ v583 : Value, ∃ n584 : Nat, ∃ cs585 : List Value, ∃ v587 : Value, ∃ n588 : Nat, ∃ cs589 : List Value, St Ha wa H w [.row 4 1 v583 n584 cs585, .row 3 1 v587 n588 cs589] ∧ Inc H25 H ∧ Els (up wa.heap.size H) eB 1 cs585 s416.1 ∧ Els (up wa.heap.size H) eI 1 cs589 s416.2.1 ∧ f 6 = v587) | .rt x => x.elim) hq ⟨_, _, _, _, _, _, _, ((S411.nil 3 1).sel [1, 0] (by decide) rfl), (Inc.rfl _), els412, Els.nil, rfl, rfl, rfl, rfl, rfl⟩ ?_) ?_
  ·
   clear hp hq
   rintro s416 f757 w756 ⟨H753, v583, n584, cs585, v587, n588, cs589, S754, i755, els586, els590, k758, k759, k760, k761, k762⟩ o953 hp
   refine FW.seq (FW.seq (FW.region ?_))
   refine FL.v (E.move k762) ?_
   refine FL.v (E.geq rfl rfl) ?_
   refine FL.nil ?_
   rcases ifB hp with ⟨c763, hp⟩ | ⟨c763, hp⟩
   ·
    refine FW.condT rfl c763 ?_
    refine FW.skip (FW.seq (FW.block (FW.seq (FW.seq (FW.region ?_)))))
    refine FL.v (E.move k760) ?_
    refine FL.v (E.move k762) ?_
    obtain ⟨x770, hx771, hp⟩ := bnd hp
    obtain ⟨p764, cs765, pt766, l767, at768, rel769⟩ := S754.row_at (i := 0) rfl els586 (by decide) hx771
    obtain rfl := eB_open rel769
    refine FL.v (E.indexAddr te102 rfl rfl pt766) ?_
    refine FL.v (E.load rfl (run_load0 Tryz.isAgg4 at768 rfl)) ?_
    refine FL.v (E.not rfl) ?_
    refine FL.v (E.move (v := Value.bool (!x770)) rfl) ?_
    refine FL.cut 5 (fun f w => ∃ H : GH, St Ha wa H w [.row 4 1 v583 n584 cs585, .row 3 1 v587 n588 cs589] ∧ Inc H753 H ∧ f 0 = Value.int .i64 (len a0) ∧ f 1 = Value.func (.func 55) #[] #[Value.pointer (some ⟨b21, 0, none⟩)] ∧ f 5 = v583 ∧ f 6 = v587 ∧ f 7 = Value.int .i64 s416.2.2 ∧ f 28 = Value.bool (bif (!x770) then (decide (s416.2.2 < (wr ((len a0) - 1)))) else false)) ?_ ?_
    ·
     rcases bcase (!x770) with c778 | c778
     ·
      refine FL.val (wF_yes rfl rfl rfl c778) rfl rfl (E.move k762) ?_
      refine FL.val (wF_yes rfl rfl rfl c778) rfl rfl (E.move k758) ?_
      refine FL.val (wF_yes rfl rfl rfl c778) rfl rfl (E.sub rfl rfl) ?_
      refine FL.val (wF_yes rfl rfl rfl c778) rfl rfl (E.lss rfl rfl) ?_
      refine FL.v (E.pickT rfl c778 rfl) ?_
      exact FL.nil ⟨rfl, _, S754, (Inc.rfl _), k758, k759, k760, k761, k762, (congrArg Value.bool (bifT c778).symm)⟩
     ·
      refine FL.skip (wF_no rfl rfl rfl c778) rfl ?_
      refine FL.skip (wF_no rfl rfl rfl c778) rfl ?_
      refine FL.skip (wF_no rfl rfl rfl c778) rfl ?_
      refine FL.skip (wF_no rfl rfl rfl c778) rfl ?_
      refine FL.v (E.pickF rfl c778 rfl) ?_
      exact FL.nil ⟨rfl, _, S754, (Inc.rfl _), k758, k759, k760, k761, k762, (congrArg Value.bool (bifF c778).symm)⟩
    rintro f777 w776 ⟨H773, S774, i775, k779, k780, k781, k782, k783, k784⟩
    refine FL.nil ?_
    rcases ifB hp with ⟨c785, hp⟩ | ⟨c785, hp⟩
    ·
     refine FW.condT k784 c785 ?_
     refine FW.exit ?_
     refine FW.region ?_
     refine FL.v (E.move k783) ?_
     refine FL.v (E.sub rfl rfl) ?_
     refine FL.v (E.assign (v := Value.int .i64 (wr (s416.2.2 - 1))) rfl) ?_
     refine FL.nil ?_
     obtain rfl := Option.some.inj hp
     exact ⟨rfl, ⟨_, _, _, _, _, _, _, S774, (i755.tr i775), (els586.mono (up_mono i775)), (els590.mono (up_mono i775)), k779, k780, k781, k782, rfl⟩⟩
    ·
     refine FW.condF k784 c785 ?_
     refine FW.skip (FW.seq (FW.region ?_))
     refine FL.v (E.move k782) ?_
     refine FL.v (E.move k783) ?_
     obtain ⟨v786, w787, run788, S789, els790⟩ := S774.ints (P := Tryz.prog) te33 (up wa.heap.size H773) 1 [s416.2.2]
     refine FL.v (E.buildSlice (B1 rfl) run788) ?_
     obtain ⟨xs791, hz792, hp⟩ := bnd hp
     obtain ⟨v793, w796, n794, cs795, run797, S798, els799, ce800⟩ := S789.appendO (P := Tryz.prog) te33 (i := 2) (j := 0) rfl (els590.mono (up_mono i775)) rfl els790 hz792
     have S798 : St Ha wa H773 w796 [.row 3 1 v786 1 (iC [s416.2.2]), .row 4 1 v583 n584 cs585, .row 3 1 v793 n794 cs795] := S798
     have S801 : St Ha wa H773 w796 [.row 4 1 v583 n584 cs585, .row 3 1 v793 n794 cs795] := S798.drop 0
     refine FL.v (E.append rfl rfl run797) ?_
     refine FL.v (E.assign (v := v793) rfl) ?_
     refine FL.nil (FW.seq (FW.region ?_))
     refine FL.v (E.move k780) ?_
     refine FL.v (E.move k783) ?_
     obtain ⟨r802, hr803, hp⟩ := bnd hp
     refine FL.call rfl rfl rfl (E.callV Tryz.call55 rfl (appA (A1 rfl) #[Value.pointer (some ⟨b21, 0, none⟩)])) (w_impl_fregeRests_1 S801.sl s416.2.2 ⟨b21, 0, none⟩ a0 v0 (p0.mono ((i27.tr i755).tr i775)) (at28.mono (i755.tr i775)) hr803) ?_
     rintro e w805 ⟨H804, v808, n809, cs810, rfl, r807, els811⟩
     refine ⟨_, rfl, ?_⟩
     have els811 := els811.mono (up_le S801.size)
     have S806 := S801.join (l' := [.row 3 1 v808 n809 cs810, .row 4 1 v583 n584 cs585, .row 3 1 v793 n794 cs795]) r807 rfl
     refine FL.v (E.lenO te33 rfl S806 (i := 0) rfl els811 (by decide)) ?_
     refine FL.v (E.move (v := Value.int .i64 0) rfl) ?_
     refine FL.nil ?_
     obtain ⟨m812, hchk813, hp⟩ := bnd hp
     obtain ⟨q813, hq, hp⟩ := bndR hp
     refine FW.block ?_
     refine FW.mono (FW.forR (S := (List Bool)) (X := Empty) (fun (i813 : Nat) (s813 : (List Bool)) f w => ∃ H : GH, ∃ v851 : Value, ∃ n852 : Nat, ∃ cs853 : List Value, St Ha wa H w [.row 3 1 v808 n809 cs810, .row 4 1 v851 n852 cs853, .row 3 1 v793 n794 cs795] ∧ Inc H804 H ∧ Els (up wa.heap.size H) eB 1 cs853 s813 ∧ f 37 = Value.int .i64 ((i813 : Nat) : Int) ∧ f 0 = Value.int .i64 (len a0) ∧ f 1 = Value.func (.func 55) #[] #[Value.pointer (some ⟨b21, 0, none⟩)] ∧ f 5 = v851 ∧ f 6 = v793 ∧ f 7 = Value.int .i64 s416.2.2 ∧ f 35 = v808 ∧ f 36 = Value.int .i64 (len r802)) (fun (q : Rs (List Bool) Empty) e f w => match q with | .go s813 => e = Exit.exit 2 ∧ (∃ H : GH, ∃ v851 : Value, ∃ n852 : Nat, ∃ cs853 : List Value, St Ha wa H w [.row 3 1 v808 n809 cs810, .row 4 1 v851 n852 cs853, .row 3 1 v793 n794 cs795] ∧ Inc H804 H ∧ Els (up wa.heap.size H) eB 1 cs853 s813 ∧ f 0 = Value.int .i64 (len a0) ∧ f 1 = Value.func (.func 55) #[] #[Value.pointer (some ⟨b21, 0, none⟩)] ∧ f 5 = v851 ∧ f 6 = v793 ∧ f 7 = Value.int .i64 s416.2.2) | .rt x => x.elim) hq ⟨_, _, _, _, S806, (Inc.rfl _), (els586.mono (up_mono (i775.tr r807.run.inc))), rfl, k779, k780, k781, rfl, k783, rfl, rfl⟩ ?_ ?_) ?_
     ·
      clear hp hq
      rintro i813 s813 f896 w895 ⟨H892, v851, n852, cs853, S893, i894, els854, k897, k898, k899, k900, k901, k902, k903, k904⟩ hi813 hj813 o929 hp
      refine FW.seq (FW.region ?_)
      refine FL.v (E.lssT k897 k904 (lss_chk hj813 hchk813)) ?_
      refine FL.nil (FW.seq ?_)
      refine FW.condT rfl rfl ?_
      refine FW.skip (FW.seq (FW.block (FW.seq (FW.region ?_))))
      obtain ⟨x911, hx912, hp⟩ := bnd hp
      obtain ⟨p905, cs906, pt907, l908, at909, rel910⟩ := S893.row_at (i := 0) rfl els811 (by decide) hx912
      obtain rfl := eI_open rel910
      refine FL.v (E.indexAddr te33 k903 k897 pt907) ?_
      refine FL.v (E.load rfl (run_load0 Tryz.isAgg3 at909 rfl)) ?_
      refine FL.v (E.assign (v := Value.int .i64 x911) rfl) ?_
      refine FL.nil (FW.region ?_)
      refine FL.v (E.move k900) ?_
      refine FL.v (E.move (v := Value.int .i64 x911) rfl) ?_
      obtain ⟨x919, hx920, hp⟩ := bnd hp
      obtain ⟨p913, cs914, pt915, l916, at917, rel918⟩ := S893.row_at (i := 1) rfl els854 (by decide) hx920
      obtain rfl := eB_open rel918
      refine FL.v (E.indexAddr te102 rfl rfl pt915) ?_
      obtain ⟨xs924, hput925, hp⟩ := bnd hp
      obtain ⟨w921, cs927, run922, S923, els926, ce928⟩ := S893.putEls (P := Tryz.prog) (t := 4) (i := 1) rfl els854 hput925 pt915 Tryz.sizeOf4 (u := Value.bool true) (c := [Value.bool true]) rfl rfl (ones_cons rfl ones_nil) rfl
      have S923 : St Ha wa H892 w921 [.row 3 1 v808 n809 cs810, .row 4 1 v851 n852 cs927, .row 3 1 v793 n794 cs795] := S923
      refine FL.act rfl rfl (E.store rfl rfl run922) ?_
      refine FL.nil (FW.region ?_)
      refine FL.v (E.add k897 rfl) ?_
      refine FL.v (E.move (v := Value.int .i64 (wr (((i813 : Nat) : Int) + 1))) rfl) ?_
      refine FL.nil ?_
      obtain rfl := Option.some.inj hp
      exact ⟨rfl, ⟨_, _, _, _, S923, i894, els926, (nat_succ rfl hj813 (chk_le hchk813)), k898, k899, k900, k901, k902, k903, k904⟩⟩
     ·
      clear hp hq
      rintro s813 f944 w943 ⟨H940, v851, n852, cs853, S941, i942, els854, k945, k946, k947, k948, k949, k950, k951, k952⟩
      refine FW.seq (FW.region ?_)
      refine FL.v (E.lss k945 k952) ?_
      refine FL.nil (FW.seq ?_)
      refine FW.condF rfl (dlt_maxchk hchk813) ?_
      refine FW.exit ?_
      exact ⟨nofun, rfl, ⟨_, _, _, _, S941, i942, els854, k946, k947, k948, k949, k950⟩⟩
     ·
      clear hq
      intro e f934 w933 hD
      rcases q813 with s813 | x813
      ·
       obtain ⟨rfl, hD⟩ := hD
       obtain ⟨H930, v851, n852, cs853, S931, i932, els854, k935, k936, k937, k938, k939⟩ := hD
       replace hp := el_go hp
       refine FW.region ?_
       refine FL.v (E.move k939) ?_
       refine FL.v (E.sub rfl rfl) ?_
       refine FL.v (E.assign (v := Value.int .i64 (wr (s416.2.2 - 1))) rfl) ?_
       refine FL.nil ?_
       obtain rfl := Option.some.inj hp
       exact ⟨rfl, ⟨_, _, _, _, _, _, _, (S931.sel [1, 2] (by decide) rfl), (((i755.tr i775).tr r807.run.inc).tr i932), els854, (els799.mono (up_mono (r807.run.inc.tr i932))), k935, k936, k937, k938, rfl⟩⟩
      ·
       exact x813.elim
   ·
    refine FW.condF rfl c763 ?_
    refine FW.exit ?_
    obtain rfl := Option.some.inj hp
    exact ⟨nofun, rfl, ⟨_, _, _, _, _, _, _, S754, i755, els586, els590, k761⟩⟩
  ·
   clear hq
   intro e f958 w957 hD
   rcases q416 with s416 | x416
   ·
    obtain ⟨rfl, hD⟩ := hD
    obtain ⟨H954, v583, n584, cs585, v587, n588, cs589, S955, i956, els586, els590, k959⟩ := hD
    replace hp := el_go hp
    refine FW.seq (FW.region ?_)
    refine FL.v (E.move k959) ?_
    obtain ⟨r960, hr961, hp⟩ := bnd hp
    have S962 : St Ha wa H954 w957 [.row 3 1 v587 n588 cs589, .row 4 1 v583 n584 cs585] := S955.front 1 rfl rfl
    refine FL.call rfl rfl rfl (E.call Tryz.call72 (A1 rfl)) (w_slices_Reverse_int_int (L := [.row 4 1 v583 n584 cs585]) S962 s416.2.1 els590 hr961) ?_
    rintro e w964 ⟨H963, cs967, rfl, ⟨S965, i966⟩, els968⟩
    refine ⟨_, rfl, ?_⟩
    have S965 : St Ha wa H963 w964 [.row 3 1 v587 n588 cs967, .row 4 1 v583 n584 cs585] := S965
    refine FL.nil (FW.seq (FW.region ?_))
    refine FL.v (E.move k959) ?_
    refine FL.v (E.assign (v := v587) rfl) ?_
    refine FL.nil ?_
    refine FW.ret ?_
    obtain rfl := Option.some.inj hp
    exact ⟨.inr rfl, res1 rfl rfl (by rw [hR401]; exact ⟨_, _, _, _, rfl, (S965.sel [0] (by decide) rfl), (i956.tr i966), els968⟩)⟩
   ·
    exact x416.elim
 clear hq401
 refine FL.call rfl rfl rfl (E.call Tryz.call54 (A2 rfl rfl)) hc401 ?_
 intro e w972 hQ401
 rw [hR401] at hQ401
 obtain ⟨H969, v402, n403, cs404, rfl, S970, i971, els405⟩ := hQ401
 refine ⟨_, rfl, ?_⟩
 refine FL.v (E.assign (v := v402) rfl) ?_
 refine FL.nil ?_
 refine FW.ret ?_
 obtain rfl := Option.some.inj hp
 exact ⟨.inr rfl, res1 rfl rfl ⟨_, _, _, _, rfl, S970, els405⟩⟩

@[reducible] def p_slices_Sort_int_int (H0 : GH) (w0 : World) (Ha : GH) (L : List MO) (v0 : Value) (n0 : Nat) (r : (List Int)) : Ending → World → Prop :=
 fun e w' => ∃ H' : GH, ∃ c0k : List Value, e = .returned (Value.tuple #[]) ∧ (St H0 w0 H' w' (.row 3 1 v0 n0 c0k :: L) ∧ Inc Ha H') ∧ Els (up w0.heap.size H') eI 1 c0k r
theorem w_slices_Sort_int_int {H0 Ha : GH} {w0 wa : World} {L : List MO} {v0 : Value} {n0 : Nat} {k0 : List Value} (S0 : St H0 w0 Ha wa (.row 3 1 v0 n0 k0 :: L)) (a0 : List Int) (p0 : Els (up w0.heap.size Ha) eI 1 k0 a0) {r : (List Int)} (hp : (PF.slices_Sort_int_int a0) = some r) :
  Calls Tryz.prog 34 #[v0] wa (p_slices_Sort_int_int H0 w0 Ha L v0 n0 r) := by
 refine (St.sortInts (l := .row 3 1 v0 n0 k0 :: L) (i := 0) S0 rfl p0 (fun p cap w => Any.slices_Sort_int_none Tryz.sint34 p cap w) (fun blk off cap zs w hH hb hs => Any.slices_Sort_int Tryz.sint34 blk off cap zs w hH hb hs) hp).mono ?_
 rintro e w' ⟨rfl, c', h1, h2⟩
 exact ⟨_, _, rfl, ⟨h1, Inc.rfl _⟩, h2⟩

@[reducible] def p_slices_Compact_int_int (H0 : GH) (w0 : World) (Ha : GH) (L : List MO) (r : (List Int)) : Ending → World → Prop :=
 fun e w' => ∃ H' : GH, ∃ v0r : Value, ∃ n0r : Nat, ∃ c0r : List Value, e = .returned (v0r) ∧ (St H0 w0 H' w' (.row 3 1 v0r n0r c0r :: L) ∧ Inc Ha H') ∧ Els (up w0.heap.size H') eI 1 c0r r
theorem w_slices_Compact_int_int {H0 Ha : GH} {w0 wa : World} {L : List MO} {v0 : Value} {n0 : Nat} {k0 : List Value} (S0 : St H0 w0 Ha wa (.row 3 1 v0 n0 k0 :: L)) (a0 : List Int) (p0 : Els (up w0.heap.size Ha) eI 1 k0 a0) {r : (List Int)} (hp : (PF.slices_Compact_int_int a0) = some r) :
  Calls Tryz.prog 35 #[v0] wa (p_slices_Compact_int_int H0 w0 Ha L r) := by
 cases hp
 refine (St.compactF (l := .row 3 1 v0 n0 k0 :: L) (i := 0) S0 rfl p0 (enc := Value.int .i64) (fun _ => rfl) (fun _ _ _ h => by cases eI_open h; rfl) (fun _ _ => rfl) 0 (fun w => compact_none Tryz.comp35 w) (fun blk off cap d w hH hs hc => AnyE.slices_Compact Tryz.comp35 (Value.int .i64) (fun _ => rfl) (EqlAt.intD _ _ _) (NeqAt.intD _ _ _) 0 (fun w => Tryz.zeroValue3 w) blk off cap d w hH hs hc)).mono ?_
 rintro e w' ⟨v', n', c', rfl, h1, h2⟩
 exact ⟨_, _, _, _, rfl, ⟨h1, Inc.rfl _⟩, h2⟩

@[reducible] def p_impl_UsedFormulas (Ha : GH) (wa : World) (r : ((List Int) × Bool)) : Ending → World → Prop :=
 fun e w' => ∃ H' : GH, ∃ v0 : Value, ∃ n0 : Nat, ∃ c0 : List Value, e = .returned (Value.tuple #[v0, Value.bool r.2]) ∧ St Ha wa H' w' [.row 3 1 v0 n0 c0] ∧ Els (up wa.heap.size H') eI 1 c0 r.1
set_option maxHeartbeats 4000000 in
theorem w_impl_UsedFormulas {Ha : GH} {wa : World} (hs : Sl Ha wa) (v0 : Value) (a0 : List ByteArray) (p0 : RSl Ha eS 1 v0 a0) (v1 : Value) (a1 : List FregeStep) (p1 : RSl Ha eFregeStep 4 v1 a1) (hT : TabS 0 PF.glob0 Ha) {r : ((List Int) × Bool)} (hp : (PF.impl_UsedFormulas a0 a1) = some r) :
  Calls Tryz.prog 10 #[v0, v1] wa (p_impl_UsedFormulas Ha wa r) := by
 unfold PF.impl_UsedFormulas at hp
 have S0 := St.init hs
 refine calls_go (N := 39) (args := [v0, v1]) Tryz.func10 rfl rfl rfl ?_
 refine FW.seq (FW.region ?_)
 refine FL.v (E.assign (v := Value.slice none 0 0) rfl) ?_
 refine FL.v (E.assign (v := Value.bool false) rfl) ?_
 refine FL.nil (FW.seq (FW.seq (FW.region ?_)))
 refine FL.v (E.move (v := v0) rfl) ?_
 refine FL.v (E.move (v := v1) rfl) ?_
 obtain ⟨r21, hr22, hp⟩ := bnd hp
 refine FL.call rfl rfl rfl (E.call Tryz.call19 (A2 rfl rfl)) (w_impl_fregeProof S0.sl v0 a0 p0 v1 a1 p1 hT hr22) ?_
 rintro e w23 ⟨rfl, r24⟩
 refine ⟨_, rfl, ?_⟩
 have S25 := S0.call r24
 refine FL.v (E.not rfl) ?_
 refine FL.nil ?_
 rcases ifB hp with ⟨c26, hp⟩ | ⟨c26, hp⟩
 ·
  refine FW.condT rfl c26 ?_
  refine FW.seq (FW.region ?_)
  refine FL.v (E.assign (v := Value.slice none 0 0) rfl) ?_
  refine FL.v (E.assign (v := Value.bool false) rfl) ?_
  refine FL.nil ?_
  refine FW.ret ?_
  obtain rfl := Option.some.inj hp
  exact ⟨.inr rfl, res2 rfl rfl rfl ⟨_, _, _, _, rfl, (S25.nil 3 1), Els.nil⟩⟩
 ·
  refine FW.condF rfl c26 ?_
  refine FW.skip (FW.seq (FW.region ?_))
  refine FL.v (E.assign (v := Value.slice none 0 0) rfl) ?_
  refine FL.nil (FW.seq (FW.seq (FW.region ?_)))
  refine FL.v (E.move (v := v1) rfl) ?_
  obtain ⟨r27, hr28, hp⟩ := bnd hp
  refine FL.call rfl rfl rfl (E.call Tryz.call33 (A1 rfl)) (w_impl_fregeRests S25.sl v1 a1 p1 hr28) ?_
  rintro e w30 ⟨H29, v33, n34, cs35, rfl, r32, els36⟩
  refine ⟨_, rfl, ?_⟩
  have els36 := els36.mono (up_le S25.size)
  have S31 := S25.join (l' := [.row 3 1 v33 n34 cs35]) r32 rfl
  refine FL.v (E.lenO te33 rfl S31 (i := 0) rfl els36 (by decide)) ?_
  refine FL.v (E.move (v := Value.int .i64 0) rfl) ?_
  refine FL.nil ?_
  obtain ⟨m37, hchk38, hp⟩ := bnd hp
  obtain ⟨q38, hq, hp⟩ := bndR hp
  refine FW.block ?_
  refine FW.mono (FW.forR (S := (List Int)) (X := Empty) (fun (i38 : Nat) (s38 : (List Int)) f w => ∃ H : GH, ∃ v39 : Value, ∃ n40 : Nat, ∃ cs41 : List Value, St Ha wa H w [.row 3 1 v33 n34 cs35, .row 3 1 v39 n40 cs41] ∧ Inc H29 H ∧ Els (up wa.heap.size H) eI 1 cs41 s38 ∧ f 16 = Value.int .i64 ((i38 : Nat) : Int) ∧ f 1 = v1 ∧ f 6 = v39 ∧ f 14 = v33 ∧ f 15 = Value.int .i64 (len r27)) (fun (q : Rs (List Int) Empty) e f w => match q with | .go s38 => e = Exit.exit 0 ∧ (∃ H : GH, ∃ v39 : Value, ∃ n40 : Nat, ∃ cs41 : List Value, St Ha wa H w [.row 3 1 v33 n34 cs35, .row 3 1 v39 n40 cs41] ∧ Inc H29 H ∧ Els (up wa.heap.size H) eI 1 cs41 s38 ∧ f 6 = v39) | .rt x => x.elim) hq ⟨_, _, _, _, ((S31.nil 3 1).sel [1, 0] (by decide) rfl), (Inc.rfl _), Els.nil, rfl, rfl, rfl, rfl, rfl⟩ ?_ ?_) ?_
  ·
   clear hp hq
   rintro i38 s38 f98 w97 ⟨H94, v39, n40, cs41, S95, i96, els42, k99, k100, k101, k102, k103⟩ hi38 hj38 o145 hp
   refine FW.seq (FW.region ?_)
   refine FL.v (E.lssT k99 k103 (lss_chk hj38 hchk38)) ?_
   refine FL.nil (FW.seq ?_)
   refine FW.condT rfl rfl ?_
   refine FW.skip (FW.seq (FW.block (FW.seq (FW.region ?_))))
   obtain ⟨x110, hx111, hp⟩ := bnd hp
   obtain ⟨p104, cs105, pt106, l107, at108, rel109⟩ := S95.row_at (i := 0) rfl els36 (by decide) hx111
   obtain rfl := eI_open rel109
   refine FL.v (E.indexAddr te33 k102 k99 pt106) ?_
   refine FL.v (E.load rfl (run_load0 Tryz.isAgg3 at108 rfl)) ?_
   refine FL.v (E.assign (v := Value.int .i64 x110) rfl) ?_
   refine FL.nil (FW.seq (FW.region ?_))
   refine FL.v (E.move k100) ?_
   refine FL.v (E.move (v := Value.int .i64 x110) rfl) ?_
   obtain ⟨x118, hx119, hp⟩ := bnd hp
   obtain ⟨p112, cs113, pt114, l115, at116, rel117⟩ := p1.at hx119
   obtain rfl := eFregeStep_open rel117
   refine FL.v (E.indexAddr te25 rfl rfl pt114) ?_
   refine FL.v (E.fieldAddr tf39_1 rfl) ?_
   refine FL.v (E.load rfl (run_load1 Tryz.isAgg3 ((at116.mono (r32.run.inc.tr i96)).now S95.sl) rfl)) ?_
   refine FL.v (E.eql rfl rfl) ?_
   refine FL.nil ?_
   rcases ifB hp with ⟨c120, hp⟩ | ⟨c120, hp⟩
   ·
    refine FW.condT rfl c120 ?_
    refine FW.region ?_
    refine FL.v (E.move k101) ?_
    refine FL.v (E.move k100) ?_
    refine FL.v (E.move (v := Value.int .i64 x110) rfl) ?_
    obtain ⟨x127, hx128, hp⟩ := bnd hp
    obtain ⟨p121, cs122, pt123, l124, at125, rel126⟩ := p1.at hx128
    obtain rfl := eFregeStep_open rel126
    refine FL.v (E.indexAddr te25 rfl rfl pt123) ?_
    refine FL.v (E.fieldAddr tf39_2 rfl) ?_
    refine FL.v (E.load rfl (run_load1 Tryz.isAgg3 ((at125.mono (r32.run.inc.tr i96)).now S95.sl) rfl)) ?_
    obtain ⟨v129, w130, run131, S132, els133⟩ := S95.ints (P := Tryz.prog) te33 (up wa.heap.size H94) 1 [x127.a]
    refine FL.v (E.buildSlice (B1 rfl) run131) ?_
    obtain ⟨xs134, hz135, hp⟩ := bnd hp
    obtain ⟨v136, w139, n137, cs138, run140, S141, els142, ce143⟩ := S132.appendO (P := Tryz.prog) te33 (i := 2) (j := 0) rfl els42 rfl els133 hz135
    have S141 : St Ha wa H94 w139 [.row 3 1 v129 1 (iC [x127.a]), .row 3 1 v33 n34 cs35, .row 3 1 v136 n137 cs138] := S141
    have S144 : St Ha wa H94 w139 [.row 3 1 v33 n34 cs35, .row 3 1 v136 n137 cs138] := S141.drop 0
    refine FL.v (E.append rfl rfl run140) ?_
    refine FL.v (E.assign (v := v136) rfl) ?_
    refine FL.nil (FW.region ?_)
    refine FL.v (E.add k99 rfl) ?_
    refine FL.v (E.move (v := Value.int .i64 (wr (((i38 : Nat) : Int) + 1))) rfl) ?_
    refine FL.nil ?_
    obtain rfl := Option.some.inj hp
    exact ⟨rfl, ⟨_, _, _, _, S144, i96, els142, (nat_succ rfl hj38 (chk_le hchk38)), k100, rfl, k102, k103⟩⟩
   ·
    refine FW.condF rfl c120 ?_
    refine FW.skip (FW.region ?_)
    refine FL.v (E.add k99 rfl) ?_
    refine FL.v (E.move (v := Value.int .i64 (wr (((i38 : Nat) : Int) + 1))) rfl) ?_
    refine FL.nil ?_
    obtain rfl := Option.some.inj hp
    exact ⟨rfl, ⟨_, _, _, _, S95, i96, els42, (nat_succ rfl hj38 (chk_le hchk38)), k100, k101, k102, k103⟩⟩
  ·
   clear hp hq
   rintro s38 f175 w174 ⟨H171, v39, n40, cs41, S172, i173, els42, k176, k177, k178, k179, k180⟩
   refine FW.seq (FW.region ?_)
   refine FL.v (E.lss k176 k180) ?_
   refine FL.nil (FW.seq ?_)
   refine FW.condF rfl (dlt_maxchk hchk38) ?_
   refine FW.exit ?_
   exact ⟨nofun, rfl, ⟨_, _, _, _, S172, i173, els42, k178⟩⟩
  ·
   clear hq
   intro e f150 w149 hD
   rcases q38 with s38 | x38
   ·
    obtain ⟨rfl, hD⟩ := hD
    obtain ⟨H146, v39, n40, cs41, S147, i148, els42, k151⟩ := hD
    replace hp := el_go hp
    refine FW.seq (FW.region ?_)
    refine FL.v (E.move k151) ?_
    obtain ⟨r152, hr153, hp⟩ := bnd hp
    have S154 : St Ha wa H146 w149 [.row 3 1 v39 n40 cs41, .row 3 1 v33 n34 cs35] := S147.front 1 rfl rfl
    refine FL.call rfl rfl rfl (E.call Tryz.call34 (A1 rfl)) (w_slices_Sort_int_int (L := [.row 3 1 v33 n34 cs35]) S154 s38 els42 hr153) ?_
    rintro e w156 ⟨H155, cs159, rfl, ⟨S157, i158⟩, els160⟩
    refine ⟨_, rfl, ?_⟩
    have S157 : St Ha wa H155 w156 [.row 3 1 v39 n40 cs159, .row 3 1 v33 n34 cs35] := S157
    refine FL.nil (FW.seq (FW.region ?_))
    refine FL.v (E.move k151) ?_
    obtain ⟨r161, hr162, hp⟩ := bnd hp
    refine FL.call rfl rfl rfl (E.call Tryz.call35 (A1 rfl)) (w_slices_Compact_int_int (L := [.row 3 1 v33 n34 cs35]) S157 r152 els160 hr162) ?_
    rintro e w164 ⟨H163, v167, n168, cs169, rfl, ⟨S165, i166⟩, els170⟩
    refine ⟨_, rfl, ?_⟩
    have S165 : St Ha wa H163 w164 [.row 3 1 v167 n168 cs169, .row 3 1 v33 n34 cs35] := S165
    refine FL.v (E.assign (v := v167) rfl) ?_
    refine FL.v (E.assign (v := Value.bool true) rfl) ?_
    refine FL.nil ?_
    refine FW.ret ?_
    obtain rfl := Option.some.inj hp
    exact ⟨.inr rfl, res2 rfl rfl rfl ⟨_, _, _, _, rfl, (S165.sel [0] (by decide) rfl), els170⟩⟩
   ·
    exact x38.elim

theorem w_laws_vHas {Ha : GH} {wa : World} (hs : Sl Ha wa) (v0 : Value) (a0 : List Int) (p0 : RSl Ha eI 1 v0 a0) (a1 : Int) {r : Bool} (hp : (PF.laws_vHas a0 a1) = some r) :
  Calls Tryz.prog 11 #[v0, Value.int .i64 a1] wa (Sc Ha wa (Value.bool r)) := by
 unfold PF.laws_vHas at hp
 have S0 := St.init hs
 refine calls_go (N := 18) (args := [v0, Value.int .i64 a1]) Tryz.func11 rfl rfl rfl ?_
 refine FW.seq (FW.region ?_)
 refine FL.v (E.assign (v := Value.bool false) rfl) ?_
 refine FL.nil (FW.seq (FW.seq (FW.region ?_)))
 refine FL.v (E.assign (v := Value.int .i64 0) rfl) ?_
 refine FL.nil ?_
 obtain ⟨q22, hq, hp⟩ := bndR hp
 refine FW.block ?_
 refine FW.mono (FW.forL (S := Unit) (X := Bool) (fun (i22 : Nat) (s22 : Unit) f w => ∃ H : GH, St Ha wa H w [] ∧ Inc Ha H ∧ f 5 = Value.int .i64 ((i22 : Nat) : Int) ∧ f 0 = v0 ∧ f 1 = Value.int .i64 a1) (fun q e f w => match q with | .go s22 => e = Exit.exit 0 ∧ (∃ H : GH, St Ha wa H w [] ∧ Inc Ha H) | .rt x => ((e = Exit.ret) ∧ (fun e f w => (e = Exit.normal ∨ e = Exit.ret) ∧ ∀ a, Fr (δ := []) 18 a f → ∃ v, (results Tryz.f11 a.tmps).run Tryz.prog w = .ok v w ∧ (Sc Ha wa (Value.bool x)) (.returned v) w) e f w)) hq ⟨_, S0, (Inc.rfl _), rfl, rfl, rfl⟩ ?_ ?_) ?_
 ·
  clear hp hq
  rintro i22 y21 s22 f42 w41 ⟨H38, S39, i40, k43, k44, k45⟩ hx22 o53 hp
  refine FW.seq (FW.seq (FW.region ?_))
  refine FL.v (E.move k43) ?_
  refine FL.v (E.move k44) ?_
  refine FL.v (E.lenP te33 rfl p0) ?_
  refine FL.v (E.lssT rfl rfl (lss_len hx22)) ?_
  refine FL.nil ?_
  refine FW.condT rfl rfl ?_
  refine FW.skip (FW.seq (FW.block (FW.seq (FW.region ?_))))
  refine FL.v (E.move k44) ?_
  refine FL.v (E.move k43) ?_
  obtain ⟨p46, cs47, pt48, l49, at50, rel51⟩ := p0.at (ix_nat hx22)
  obtain rfl := eI_open rel51
  refine FL.v (E.indexAddr te33 rfl rfl pt48) ?_
  refine FL.v (E.load rfl (run_load0 Tryz.isAgg3 ((at50.mono i40).now S39.sl) rfl)) ?_
  refine FL.v (E.move k45) ?_
  refine FL.v (E.eql rfl rfl) ?_
  refine FL.nil ?_
  rcases ifB hp with ⟨c52, hp⟩ | ⟨c52, hp⟩
  ·
   refine FW.condT rfl c52 ?_
   refine FW.seq (FW.region ?_)
   refine FL.v (E.assign (v := Value.bool true) rfl) ?_
   refine FL.nil ?_
   refine FW.ret ?_
   obtain rfl := Option.some.inj hp
   exact ⟨nofun, rfl, ⟨.inr rfl, res1 rfl rfl ⟨rfl, S39.back⟩⟩⟩
  ·
   refine FW.condF rfl c52 ?_
   refine FW.skip (FW.region ?_)
   refine FL.v (E.move k43) ?_
   refine FL.v (E.add rfl rfl) ?_
   refine FL.v (E.assign (v := Value.int .i64 (wr (((i22 : Nat) : Int) + 1))) rfl) ?_
   refine FL.nil ?_
   obtain rfl := Option.some.inj hp
   exact ⟨rfl, ⟨_, S39, i40, (nat_succ rfl (lt_of_get hx22) (p0.mono i40).le), k44, k45⟩⟩
 ·
  clear hp hq
  rintro s22 f63 w62 ⟨H59, S60, i61, k64, k65, k66⟩
  refine FW.seq (FW.seq (FW.region ?_))
  refine FL.v (E.move k64) ?_
  refine FL.v (E.move k65) ?_
  refine FL.v (E.lenP te33 rfl p0) ?_
  refine FL.v (E.lss rfl rfl) ?_
  refine FL.nil ?_
  refine FW.condF rfl dlt_len ?_
  refine FW.exit ?_
  exact ⟨nofun, rfl, ⟨_, S60, i61⟩⟩
 ·
  clear hq
  intro e f58 w57 hD
  rcases q22 with s22 | x22
  ·
   obtain ⟨rfl, hD⟩ := hD
   obtain ⟨H54, S55, i56⟩ := hD
   replace hp := el_go hp
   refine FW.seq (FW.region ?_)
   refine FL.v (E.assign (v := Value.bool false) rfl) ?_
   refine FL.nil ?_
   refine FW.ret ?_
   obtain rfl := Option.some.inj hp
   exact ⟨.inr rfl, res1 rfl rfl ⟨rfl, S55.back⟩⟩
  ·
   obtain ⟨he, hL⟩ := hD
   replace hp := el_rt hp
   obtain rfl := Option.some.inj hp
   subst he
   exact hL

@[reducible] def p_slices_Clone_impl_FregeStep_impl_FregeStep (Ha : GH) (wa : World) (r : (List FregeStep)) : Ending → World → Prop :=
 fun e w' => ∃ H' : GH, ∃ v0 : Value, ∃ n0 : Nat, ∃ c0 : List Value, e = .returned (v0) ∧ St Ha wa H' w' [.row 39 4 v0 n0 c0] ∧ Els (up wa.heap.size H') eFregeStep 4 c0 r
theorem w_slices_Clone_impl_FregeStep_impl_FregeStep {Ha : GH} {wa : World} (hs : Sl Ha wa) (v0 : Value) (a0 : List FregeStep) (p0 : RSl Ha eFregeStep 4 v0 a0) {r : (List FregeStep)} (hp : (PF.slices_Clone_impl_FregeStep_impl_FregeStep a0) = some r) :
  Calls Tryz.prog 36 #[v0] wa (p_slices_Clone_impl_FregeStep_impl_FregeStep Ha wa r) := by
 unfold PF.slices_Clone_impl_FregeStep_impl_FregeStep at hp
 have S0 := St.init hs
 refine calls_go (N := 8) (args := [v0]) Tryz.func36 rfl rfl rfl ?_
 refine FW.seq (FW.region ?_)
 refine FL.v (E.assign (v := Value.slice none 0 0) rfl) ?_
 refine FL.nil (FW.seq (FW.seq (FW.region ?_)))
 refine FL.v (E.move (v := v0) rfl) ?_
 obtain ⟨nb21, run22, hn23⟩ := RSl.nilTest te25 p0
 refine FL.v (run22 _ _ _ _ _ _ _ _ _ _ _ _ rfl rfl) ?_
 refine FL.nil ?_
 rcases bcase nb21 with c24 | c24
 ·
  refine FW.condT (b := nb21) rfl c24 ?_
  rw [hn23 c24, app_nil2] at hp
  refine FW.seq (FW.region ?_)
  refine FL.v (E.assign (v := Value.slice none 0 0) rfl) ?_
  refine FL.nil ?_
  refine FW.ret ?_
  obtain rfl := Option.some.inj hp
  exact ⟨.inr rfl, res1 rfl rfl ⟨_, _, _, _, rfl, (S0.nil 39 4), Els.nil⟩⟩
 ·
  refine FW.condF (b := nb21) rfl c24 ?_
  refine FW.skip (FW.seq (FW.region ?_))
  obtain ⟨v25, w26, run27, S28⟩ := S0.buildSlice (P := Tryz.prog) te25 [] (parts := #[]) (cells := []) rfl szs_nil fc_nil ones_nil (Nat.le_of_ble_eq_true rfl)
  have els29 : Els (up wa.heap.size Ha) eFregeStep 4 [] [] := Els.nil
  refine FL.v (E.buildSlice (B0) run27) ?_
  refine FL.v (E.move (v := v0) rfl) ?_
  obtain ⟨xs30, hz31, hp⟩ := bnd hp
  obtain ⟨v32, w35, n33, cs34, run36, S37, els38⟩ := S28.appendP (P := Tryz.prog) (Inc.rfl _) te25 (i := 0) rfl (els29.mono upI) p0 hz31
  have S37 : St Ha wa Ha w35 [.row 39 4 v32 n33 cs34] := S37
  have els38 : Els (up wa.heap.size Ha) eFregeStep 4 cs34 xs30 := els38.any (fun _ _ _ _ h => h)
  refine FL.v (E.append rfl rfl run36) ?_
  refine FL.v (E.assign (v := v32) rfl) ?_
  refine FL.nil ?_
  refine FW.ret ?_
  obtain rfl := Option.some.inj hp
  exact ⟨.inr rfl, res1 rfl rfl ⟨_, _, _, _, rfl, S37, els38⟩⟩

@[reducible] def p_impl_AddModus (Ha : GH) (wa : World) (r : ((List FregeStep) × Bool)) : Ending → World → Prop :=
 fun e w' => ∃ H' : GH, ∃ v0 : Value, ∃ n0 : Nat, ∃ c0 : List Value, e = .returned (Value.tuple #[v0, Value.bool r.2]) ∧ St Ha wa H' w' [.row 39 4 v0 n0 c0] ∧ Els (up wa.heap.size H') eFregeStep 4 c0 r.1
set_option maxHeartbeats 4000000 in
theorem w_impl_AddModus {Ha : GH} {wa : World} (hs : Sl Ha wa) (v0 : Value) (a0 : List ByteArray) (p0 : RSl Ha eS 1 v0 a0) (v1 : Value) (a1 : List FregeStep) (p1 : RSl Ha eFregeStep 4 v1 a1) (v2 : Value) (a2 : List FregeStep) (p2 : RSl Ha eFregeStep 4 v2 a2) (hT : TabS 0 PF.glob0 Ha) {r : ((List FregeStep) × Bool)} (hp : (PF.impl_AddModus a0 a1 a2) = some r) :
  Calls Tryz.prog 12 #[v0, v1, v2] wa (p_impl_AddModus Ha wa r) := by
 unfold PF.impl_AddModus at hp
 have S0 := St.init hs
 refine calls_go (N := 101) (args := [v0, v1, v2]) Tryz.func12 rfl rfl rfl ?_
 refine FW.seq (FW.region ?_)
 refine FL.v (E.assign (v := Value.slice none 0 0) rfl) ?_
 refine FL.v (E.assign (v := Value.bool false) rfl) ?_
 refine FL.nil (FW.seq (FW.region ?_))
 refine FL.v (E.move (v := v1) rfl) ?_
 refine FL.v (E.lenP te25 rfl p1) ?_
 refine FL.v (E.assign (v := Value.int .i64 (len a1)) rfl) ?_
 refine FL.nil (FW.seq (FW.seq (FW.region ?_)))
 refine FL.v (E.move (v := v0) rfl) ?_
 refine FL.v (E.move (v := v1) rfl) ?_
 obtain ⟨r21, hr22, hp⟩ := bnd hp
 refine FL.call rfl rfl rfl (E.call Tryz.call19 (A2 rfl rfl)) (w_impl_fregeProof S0.sl v0 a0 p0 v1 a1 p1 hT hr22) ?_
 rintro e w23 ⟨rfl, r24⟩
 refine ⟨_, rfl, ?_⟩
 have S25 := S0.call r24
 refine FL.v (E.not rfl) ?_
 refine FL.v (E.move (v := Value.bool (!r21)) rfl) ?_
 obtain ⟨t31, hqt31, hp⟩ := bnd hp
 refine FL.cut 5 (fun f w => ∃ H : GH, St Ha wa H w [] ∧ Inc Ha H ∧ f 1 = v1 ∧ f 2 = v2 ∧ f 8 = Value.int .i64 (len a1) ∧ f 25 = Value.bool t31) ?_ ?_
 ·
  clear hp; have hp := hqt31; clear hqt31
  rcases ifB hp with ⟨c37, hp⟩ | ⟨c37, hp⟩
  ·
   refine FL.skip (wF_no rfl rfl rfl c37) rfl ?_
   refine FL.skip (wF_no rfl rfl rfl c37) rfl ?_
   refine FL.skip (wF_no rfl rfl rfl c37) rfl ?_
   refine FL.skip (wF_no rfl rfl rfl c37) rfl ?_
   obtain rfl := Option.some.inj hp
   refine FL.v (E.pickT rfl c37 rfl) ?_
   exact FL.nil ⟨rfl, _, S25, (Inc.rfl _), rfl, rfl, rfl, rfl⟩
  ·
   refine FL.val (wF_yes rfl rfl rfl c37) rfl rfl (E.move (v := v0) rfl) ?_
   refine FL.val (wF_yes rfl rfl rfl c37) rfl rfl (E.move (v := v2) rfl) ?_
   obtain ⟨r38, hr39, hp⟩ := bnd hp
   refine FL.call (wF_yes rfl rfl rfl c37) rfl rfl (E.call Tryz.call19 (A2 rfl rfl)) (w_impl_fregeProof S25.sl v0 a0 p0 v2 a2 p2 hT hr39) ?_
   rintro e w40 ⟨rfl, r41⟩
   refine ⟨_, rfl, ?_⟩
   have S42 := S25.call r41
   refine FL.val (wF_yes rfl rfl rfl c37) rfl rfl (E.not rfl) ?_
   obtain rfl := Option.some.inj hp
   refine FL.v (E.pickF rfl c37 rfl) ?_
   exact FL.nil ⟨rfl, _, S42, (Inc.rfl _), rfl, rfl, rfl, rfl⟩
 rintro f36 w35 ⟨H32, S33, i34, k43, k44, k45, k46⟩
 refine FL.v (E.move k46) ?_
 refine FL.cut 7 (fun f w => ∃ H : GH, St Ha wa H w [] ∧ Inc H32 H ∧ f 1 = v1 ∧ f 2 = v2 ∧ f 8 = Value.int .i64 (len a1) ∧ f 33 = Value.bool (bif t31 then true else (decide (80 < (wr ((wr ((len a1) + (len a2))) + 1)))))) ?_ ?_
 ·
  rcases bcase t31 with c53 | c53
  ·
   refine FL.skip (wF_no rfl rfl rfl c53) rfl ?_
   refine FL.skip (wF_no rfl rfl rfl c53) rfl ?_
   refine FL.skip (wF_no rfl rfl rfl c53) rfl ?_
   refine FL.skip (wF_no rfl rfl rfl c53) rfl ?_
   refine FL.skip (wF_no rfl rfl rfl c53) rfl ?_
   refine FL.skip (wF_no rfl rfl rfl c53) rfl ?_
   refine FL.v (E.pickT rfl c53 rfl) ?_
   exact FL.nil ⟨rfl, _, S33, (Inc.rfl _), k43, k44, k45, (congrArg Value.bool (bifT c53).symm)⟩
  ·
   refine FL.val (wF_yes rfl rfl rfl c53) rfl rfl (E.move k45) ?_
   refine FL.val (wF_yes rfl rfl rfl c53) rfl rfl (E.move k44) ?_
   refine FL.val (wF_yes rfl rfl rfl c53) rfl rfl (E.lenP te25 rfl p2) ?_
   refine FL.val (wF_yes rfl rfl rfl c53) rfl rfl (E.add rfl rfl) ?_
   refine FL.val (wF_yes rfl rfl rfl c53) rfl rfl (E.add rfl rfl) ?_
   refine FL.val (wF_yes rfl rfl rfl c53) rfl rfl (E.gtr rfl rfl) ?_
   refine FL.v (E.pickF rfl c53 rfl) ?_
   exact FL.nil ⟨rfl, _, S33, (Inc.rfl _), k43, k44, k45, (congrArg Value.bool (bifF c53).symm)⟩
 rintro f52 w51 ⟨H48, S49, i50, k54, k55, k56, k57⟩
 refine FL.nil ?_
 rcases ifB hp with ⟨c58, hp⟩ | ⟨c58, hp⟩
 ·
  refine FW.condT k57 c58 ?_
  refine FW.seq (FW.region ?_)
  refine FL.v (E.assign (v := Value.slice none 0 0) rfl) ?_
  refine FL.v (E.assign (v := Value.bool false) rfl) ?_
  refine FL.nil ?_
  refine FW.ret ?_
  obtain rfl := Option.some.inj hp
  exact ⟨.inr rfl, res2 rfl rfl rfl ⟨_, _, _, _, rfl, (S49.nil 39 4), Els.nil⟩⟩
 ·
  refine FW.condF k57 c58 ?_
  refine FW.skip (FW.seq (FW.region ?_))
  refine FL.v (E.move k55) ?_
  obtain ⟨r59, hr60, hp⟩ := bnd hp
  refine FL.call rfl rfl rfl (E.call Tryz.call32 (A1 rfl)) (w_impl_last_impl_FregeStep S49.sl v2 a2 (p2.mono (i34.tr i50)) hr60) ?_
  rintro e w61 ⟨rfl, r62⟩
  refine ⟨_, rfl, ?_⟩
  have S63 := S49.call r62
  refine FL.v (E.field (fd39_0 rfl) rfl) ?_
  obtain ⟨r64, hr65, hp⟩ := bnd hp
  refine FL.call rfl rfl rfl (E.call Tryz.call21 (A1 rfl)) (w_impl_parse S63.sl r59.formula hr65) ?_
  rintro e w67 ⟨H66, v70, rfl, r69, h71⟩
  refine ⟨_, rfl, ?_⟩
  have S68 := S63.call r69
  refine FL.v (E.move (v := Value.tuple #[v70, Value.bool r64.2]) rfl) ?_
  refine FL.v (E.extract (i := 0) rfl rfl) ?_
  refine FL.v (E.extract (i := 1) rfl rfl) ?_
  refine FL.v (E.assign (v := v70) rfl) ?_
  refine FL.v (E.assign (v := Value.bool r64.2) rfl) ?_
  refine FL.nil (FW.seq (FW.seq ?_))
  refine FW.draw (fun w' => Run w67.heap.size H66 w67 H66 w') (by kernel_rfl) (by kernel_rfl) (run_drew S68.sl) ?_
  refine FD.val rfl rfl rfl (fun w' hw' => (E.move (v := v70) rfl)) ?_
  obtain ⟨y73, hy74, hp⟩ := bnd hp
  obtain ⟨q75, v77, v78, rfl, at76, h79, h80⟩ := FAt.open h71 hy74
  refine FD.val rfl rfl rfl (fun w' hw' => (E.nilCheck rfl)) ?_
  refine FD.val rfl rfl rfl (fun w' hw' => (E.fieldAddr tf70_0 rfl)) ?_
  refine FD.val rfl rfl rfl (fun w' hw' => (E.load rfl (run_load1 Tryz.isAgg5 (at76.now (S68.call hw').sl) rfl))) ?_
  refine FD.val rfl rfl rfl (fun w' hw' => (E.neq rfl rfl)) ?_
  refine FD.val rfl rfl rfl (fun w' hw' => (E.move (v := Value.bool (!(y73.op == 62))) rfl)) ?_
  obtain ⟨t91, hqt91, hp⟩ := bnd hp
  refine FD.cut 12 (fun f => f 1 = v1 ∧ f 2 = v2 ∧ f 8 = Value.int .i64 (len a1) ∧ f 9 = Value.pointer (some q75) ∧ f 58 = Value.bool t91) ?_ ?_
  ·
   clear hp; have hp := hqt91; clear hqt91
   rcases ifB hp with ⟨c97, hp⟩ | ⟨c97, hp⟩
   ·
    refine FD.skip (wF_no rfl rfl rfl c97) rfl ?_
    refine FD.skip (wF_no rfl rfl rfl c97) rfl ?_
    refine FD.skip (wF_no rfl rfl rfl c97) rfl ?_
    refine FD.skip (wF_no rfl rfl rfl c97) rfl ?_
    refine FD.skip (wF_no rfl rfl rfl c97) rfl ?_
    refine FD.skip (wF_no rfl rfl rfl c97) rfl ?_
    refine FD.skip (wF_no rfl rfl rfl c97) rfl ?_
    refine FD.skip (wF_no rfl rfl rfl c97) rfl ?_
    refine FD.skip (wF_no rfl rfl rfl c97) rfl ?_
    refine FD.skip (wF_no rfl rfl rfl c97) rfl ?_
    refine FD.skip (wF_no rfl rfl rfl c97) rfl ?_
    obtain rfl := Option.some.inj hp
    refine FD.val rfl rfl rfl (fun w' hw' => (E.pickT rfl c97 rfl)) ?_
    exact FD.nil ⟨k54, k55, k56, rfl, rfl⟩
   ·
    refine FD.val (wF_yes rfl rfl rfl c97) rfl rfl (fun w' hw' => (E.move (v := Value.pointer (some q75)) rfl)) ?_
    refine FD.val (wF_yes rfl rfl rfl c97) rfl rfl (fun w' hw' => (E.nilCheck rfl)) ?_
    refine FD.val (wF_yes rfl rfl rfl c97) rfl rfl (fun w' hw' => (E.fieldAddr tf70_1 rfl)) ?_
    refine FD.val (wF_yes rfl rfl rfl c97) rfl rfl (fun w' hw' => (E.load rfl (run_load1 Tryz.isAgg51 (at76.now (S68.call hw').sl) rfl))) ?_
    obtain ⟨y98, hy99, hp⟩ := bnd hp
    obtain ⟨q100, v102, v103, rfl, at101, h104, h105⟩ := FAt.open h79 hy99
    refine FD.val (wF_yes rfl rfl rfl c97) rfl rfl (fun w' hw' => (E.nilCheck rfl)) ?_
    refine FD.val (wF_yes rfl rfl rfl c97) rfl rfl (fun w' hw' => (E.fieldAddr tf70_3 rfl)) ?_
    refine FD.val (wF_yes rfl rfl rfl c97) rfl rfl (fun w' hw' => (E.load rfl (run_load1 Tryz.isAgg9 (at101.now (S68.call hw').sl) rfl))) ?_
    refine FD.val (wF_yes rfl rfl rfl c97) rfl rfl (fun w' hw' => (E.move k54)) ?_
    obtain ⟨r106, hr107, hp⟩ := bnd hp
    refine FD.call (wF_yes rfl rfl rfl c97) rfl rfl (fun w' hw' => (E.call Tryz.call32 (A1 rfl))) (fun w' hw' => Calls.cls hw' (w_impl_last_impl_FregeStep (S68.call hw').sl v1 a1 (p1.mono ((i34.tr i50).tr r69.inc)) hr107)) ?_
    refine FD.val (wF_yes rfl rfl rfl c97) rfl rfl (fun w' hw' => (E.field (fd39_0 rfl) rfl)) ?_
    refine FD.val (wF_yes rfl rfl rfl c97) rfl rfl (fun w' hw' => (E.neqS rfl rfl)) ?_
    obtain rfl := Option.some.inj hp
    refine FD.val rfl rfl rfl (fun w' hw' => (E.pickF rfl c97 rfl)) ?_
    exact FD.nil ⟨k54, k55, k56, rfl, rfl⟩
  rintro f96 ⟨k108, k109, k110, k111, k112⟩
  refine FD.nil ?_
  intro w113 r115
  have S114 := S68.call r115
  rcases ifB hp with ⟨c116, hp⟩ | ⟨c116, hp⟩
  ·
   refine FW.condT k112 c116 ?_
   refine FW.seq (FW.region ?_)
   refine FL.v (E.assign (v := Value.slice none 0 0) rfl) ?_
   refine FL.v (E.assign (v := Value.bool false) rfl) ?_
   refine FL.nil ?_
   refine FW.ret ?_
   obtain rfl := Option.some.inj hp
   exact ⟨.inr rfl, res2 rfl rfl rfl ⟨_, _, _, _, rfl, (S114.nil 39 4), Els.nil⟩⟩
  ·
   refine FW.condF k112 c116 ?_
   refine FW.skip (FW.seq (FW.region ?_))
   refine FL.v (E.move k108) ?_
   obtain ⟨r117, hr118, hp⟩ := bnd hp
   refine FL.call rfl rfl rfl (E.call Tryz.call36 (A1 rfl)) (w_slices_Clone_impl_FregeStep_impl_FregeStep S114.sl v1 a1 (p1.mono ((i34.tr i50).tr r69.inc)) hr118) ?_
   rintro e w120 ⟨H119, v123, n124, cs125, rfl, r122, els126⟩
   refine ⟨_, rfl, ?_⟩
   have els126 := els126.mono (up_le S114.size)
   have S121 := S114.join (l' := [.row 39 4 v123 n124 cs125]) r122 rfl
   refine FL.v (E.assign (v := v123) rfl) ?_
   refine FL.nil (FW.seq (FW.seq (FW.region ?_)))
   refine FL.v (E.move k109) ?_
   refine FL.v (E.lenP te25 rfl p2) ?_
   refine FL.v (E.move (v := Value.int .i64 0) rfl) ?_
   refine FL.nil ?_
   obtain ⟨q128, hq, hp⟩ := bndR hp
   refine FW.block ?_
   refine FW.mono (FW.forL (S := (List FregeStep)) (X := Empty) (fun (i128 : Nat) (s128 : (List FregeStep)) f w => ∃ H : GH, ∃ v129 : Value, ∃ n130 : Nat, ∃ cs131 : List Value, St Ha wa H w [.row 39 4 v129 n130 cs131] ∧ Inc H119 H ∧ Els (up wa.heap.size H) eFregeStep 4 cs131 s128 ∧ f 63 = Value.int .i64 ((i128 : Nat) : Int) ∧ f 8 = Value.int .i64 (len a1) ∧ f 9 = Value.pointer (some q75) ∧ f 11 = v129 ∧ f 61 = v2 ∧ f 62 = Value.int .i64 (len a2)) (fun (q : Rs (List FregeStep) Empty) e f w => match q with | .go s128 => e = Exit.exit 0 ∧ (∃ H : GH, ∃ v129 : Value, ∃ n130 : Nat, ∃ cs131 : List Value, St Ha wa H w [.row 39 4 v129 n130 cs131] ∧ Inc H119 H ∧ Els (up wa.heap.size H) eFregeStep 4 cs131 s128 ∧ f 8 = Value.int .i64 (len a1) ∧ f 9 = Value.pointer (some q75) ∧ f 11 = v129) | .rt x => x.elim) hq ⟨_, _, _, _, S121, (Inc.rfl _), els126, rfl, k110, k111, rfl, rfl, rfl⟩ ?_ ?_) ?_
   ·
    clear hp hq
    rintro i128 y127 s128 f204 w203 ⟨H200, v129, n130, cs131, S201, i202, els132, k205, k206, k207, k208, k209, k210⟩ hx128 o267 hp
    refine FW.seq (FW.region ?_)
    refine FL.v (E.lssT k205 k210 (lss_len hx128)) ?_
    refine FL.nil (FW.seq ?_)
    refine FW.condT rfl rfl ?_
    refine FW.skip (FW.seq (FW.block (FW.seq (FW.region ?_))))
    obtain ⟨p211, cs212, pt213, l214, at215, rel216⟩ := p2.at (ix_nat hx128)
    obtain rfl := eFregeStep_open rel216
    refine FL.v (E.indexAddr te25 k209 k205 pt213) ?_
    refine FL.v (E.load rfl (run_loadA Tryz.isAgg39 Tryz.sizeOf39 ((at215.mono ((((i34.tr i50).tr r69.inc).tr r122.run.inc).tr i202)).now S201.sl) rfl)) ?_
    obtain ⟨b217, w218, run219, S220⟩ := S201.alloc (P := Tryz.prog) 39 [Value.string ByteArray.empty, Value.int .i64 0, Value.int .i64 0, Value.int .i64 0] Tryz.zeroValue39 rfl (ones_cons rfl (ones_cons rfl (ones_cons rfl (ones_cons rfl ones_nil))))
    refine FL.v (E.alloc run219) ?_
    obtain ⟨w221, run222, S223⟩ := S220.store0 (P := Tryz.prog) (t := 39) (i := 0) (cs' := [Value.string y127.formula, Value.int .i64 y127.rule, Value.int .i64 y127.a, Value.int .i64 y127.b]) (l' := [.box b217 39 [Value.string y127.formula, Value.int .i64 y127.rule, Value.int .i64 y127.a, Value.int .i64 y127.b], .row 39 4 v129 n130 cs131]) (v := Value.agg #[Value.string y127.formula, Value.int .i64 y127.rule, Value.int .i64 y127.a, Value.int .i64 y127.b]) (c := [Value.string y127.formula, Value.int .i64 y127.rule, Value.int .i64 y127.a, Value.int .i64 y127.b]) rfl Tryz.sizeOf39 rfl rfl (ones_cons rfl (ones_cons rfl (ones_cons rfl (ones_cons rfl ones_nil)))) (Nat.le_of_ble_eq_true rfl) rfl rfl
    refine FL.act rfl rfl (E.store rfl rfl run222) ?_
    refine FL.nil (FW.seq (FW.seq (FW.region ?_)))
    refine FL.v (E.fieldAddr tf39_1 rfl) ?_
    refine FL.v (E.load rfl (run_load1 Tryz.isAgg3 (S223.box_now (i := 0) rfl) rfl)) ?_
    refine FL.v (E.eql rfl rfl) ?_
    refine FL.nil ?_
    rcases ifB hp with ⟨c224, hp⟩ | ⟨c224, hp⟩
    ·
     refine FW.condT rfl c224 ?_
     refine FW.seq (FW.region ?_)
     refine FL.v (E.fieldAddr tf39_2 rfl) ?_
     refine FL.v (E.load rfl (run_load1 Tryz.isAgg3 (S223.box_now (i := 0) rfl) rfl)) ?_
     refine FL.v (E.move k206) ?_
     refine FL.v (E.add rfl rfl) ?_
     refine FL.v (E.fieldAddr tf39_2 rfl) ?_
     obtain ⟨w225, run226, S227⟩ := S223.store (P := Tryz.prog) (t := 3) (i := 0) (j := 2) (cs' := [Value.string y127.formula, Value.int .i64 y127.rule, Value.int .i64 (wr (y127.a + (len a1))), Value.int .i64 y127.b]) (l' := [.box b217 39 [Value.string y127.formula, Value.int .i64 y127.rule, Value.int .i64 (wr (y127.a + (len a1))), Value.int .i64 y127.b], .row 39 4 v129 n130 cs131]) (v := Value.int .i64 (wr (y127.a + (len a1)))) (c := [Value.int .i64 (wr (y127.a + (len a1)))]) rfl Tryz.sizeOf3 rfl rfl (ones_cons rfl ones_nil) (Nat.le_of_ble_eq_true rfl) rfl rfl
     refine FL.act rfl rfl (E.store rfl rfl run226) ?_
     refine FL.nil (FW.region ?_)
     refine FL.v (E.fieldAddr tf39_3 rfl) ?_
     refine FL.v (E.load rfl (run_load1 Tryz.isAgg3 (S227.box_now (i := 0) rfl) rfl)) ?_
     refine FL.v (E.move k206) ?_
     refine FL.v (E.add rfl rfl) ?_
     refine FL.v (E.fieldAddr tf39_3 rfl) ?_
     obtain ⟨w228, run229, S230⟩ := S227.store (P := Tryz.prog) (t := 3) (i := 0) (j := 3) (cs' := [Value.string y127.formula, Value.int .i64 y127.rule, Value.int .i64 (wr (y127.a + (len a1))), Value.int .i64 (wr (y127.b + (len a1)))]) (l' := [.box b217 39 [Value.string y127.formula, Value.int .i64 y127.rule, Value.int .i64 (wr (y127.a + (len a1))), Value.int .i64 (wr (y127.b + (len a1)))], .row 39 4 v129 n130 cs131]) (v := Value.int .i64 (wr (y127.b + (len a1)))) (c := [Value.int .i64 (wr (y127.b + (len a1)))]) rfl Tryz.sizeOf3 rfl rfl (ones_cons rfl ones_nil) (Nat.le_of_ble_eq_true rfl) rfl rfl
     refine FL.act rfl rfl (E.store rfl rfl run229) ?_
     obtain ⟨H231, S232, i233, at234⟩ := S230.sealBox (i := 0) (l' := [.row 39 4 v129 n130 cs131]) rfl rfl
     refine FL.nil (FW.region ?_)
     refine FL.v (E.move k208) ?_
     refine FL.v (E.load rfl (run_loadA Tryz.isAgg39 Tryz.sizeOf39 (at234.now S232.sl) rfl)) ?_
     obtain ⟨v235, w236, run237, S238⟩ := S232.buildSlice (P := Tryz.prog) te25 [Value.agg #[Value.string y127.formula, Value.int .i64 y127.rule, Value.int .i64 (wr (y127.a + (len a1))), Value.int .i64 (wr (y127.b + (len a1)))]] (parts := #[(0, Value.agg #[Value.string y127.formula, Value.int .i64 y127.rule, Value.int .i64 (wr (y127.a + (len a1))), Value.int .i64 (wr (y127.b + (len a1)))])]) (cells := [Value.string y127.formula, Value.int .i64 y127.rule, Value.int .i64 (wr (y127.a + (len a1))), Value.int .i64 (wr (y127.b + (len a1)))]) rfl (szs_cons rfl szs_nil) (fc_cons rfl fc_nil) (ones_cons rfl (ones_cons rfl (ones_cons rfl (ones_cons rfl ones_nil)))) (Nat.le_of_ble_eq_true rfl)
     have els239 : Els (up wa.heap.size H231) eFregeStep 4 [Value.string y127.formula, Value.int .i64 y127.rule, Value.int .i64 (wr (y127.a + (len a1))), Value.int .i64 (wr (y127.b + (len a1)))] [(FregeStep.mk y127.formula y127.rule (wr (y127.a + (len a1))) (wr (y127.b + (len a1))))] := (Els.snoc (H := (up wa.heap.size H231)) (E := eFregeStep) (k := 4) (c := [Value.string y127.formula, Value.int .i64 y127.rule, Value.int .i64 (wr (y127.a + (len a1))), Value.int .i64 (wr (y127.b + (len a1)))]) (x := (FregeStep.mk y127.formula y127.rule (wr (y127.a + (len a1))) (wr (y127.b + (len a1))))) Els.nil rfl rfl)
     refine FL.v (E.buildSlice (B1 rfl) run237) ?_
     obtain ⟨xs240, hz241, hp⟩ := bnd hp
     obtain ⟨v242, w245, n243, cs244, run246, S247, els248, ce249⟩ := S238.appendO (P := Tryz.prog) te25 (i := 1) (j := 0) rfl (els132.mono (up_mono i233)) rfl els239 hz241
     have S247 : St Ha wa H231 w245 [.row 39 4 v235 1 [Value.string y127.formula, Value.int .i64 y127.rule, Value.int .i64 (wr (y127.a + (len a1))), Value.int .i64 (wr (y127.b + (len a1)))], .row 39 4 v242 n243 cs244] := S247
     have S250 : St Ha wa H231 w245 [.row 39 4 v242 n243 cs244] := S247.drop 0
     refine FL.v (E.append rfl rfl run246) ?_
     refine FL.v (E.assign (v := v242) rfl) ?_
     refine FL.nil (FW.region ?_)
     refine FL.v (E.add k205 rfl) ?_
     refine FL.v (E.move (v := Value.int .i64 (wr (((i128 : Nat) : Int) + 1))) rfl) ?_
     refine FL.nil ?_
     obtain rfl := Option.some.inj hp
     exact ⟨rfl, ⟨_, _, _, _, S250, (i202.tr i233), els248, (nat_succ rfl (lt_of_get hx128) (p2.mono (((((i34.tr i50).tr r69.inc).tr r122.run.inc).tr i202).tr i233)).le), k206, k207, rfl, k209, k210⟩⟩
    ·
     refine FW.condF rfl c224 ?_
     refine FW.skip (FW.region ?_)
     refine FL.v (E.move k208) ?_
     refine FL.v (E.load rfl (run_loadA Tryz.isAgg39 Tryz.sizeOf39 (S223.box_now (i := 0) rfl) rfl)) ?_
     obtain ⟨v251, w252, run253, S254⟩ := S223.buildSlice (P := Tryz.prog) te25 [Value.agg #[Value.string y127.formula, Value.int .i64 y127.rule, Value.int .i64 y127.a, Value.int .i64 y127.b]] (parts := #[(0, Value.agg #[Value.string y127.formula, Value.int .i64 y127.rule, Value.int .i64 y127.a, Value.int .i64 y127.b])]) (cells := [Value.string y127.formula, Value.int .i64 y127.rule, Value.int .i64 y127.a, Value.int .i64 y127.b]) rfl (szs_cons rfl szs_nil) (fc_cons rfl fc_nil) (ones_cons rfl (ones_cons rfl (ones_cons rfl (ones_cons rfl ones_nil)))) (Nat.le_of_ble_eq_true rfl)
     have els255 : Els (up wa.heap.size H200) eFregeStep 4 [Value.string y127.formula, Value.int .i64 y127.rule, Value.int .i64 y127.a, Value.int .i64 y127.b] [y127] := (Els.snoc (H := (up wa.heap.size H200)) (E := eFregeStep) (k := 4) (c := [Value.string y127.formula, Value.int .i64 y127.rule, Value.int .i64 y127.a, Value.int .i64 y127.b]) (x := y127) Els.nil rfl rfl)
     refine FL.v (E.buildSlice (B1 rfl) run253) ?_
     obtain ⟨xs256, hz257, hp⟩ := bnd hp
     obtain ⟨v258, w261, n259, cs260, run262, S263, els264, ce265⟩ := S254.appendO (P := Tryz.prog) te25 (i := 2) (j := 0) rfl els132 rfl els255 hz257
     have S263 : St Ha wa H200 w261 [.row 39 4 v251 1 [Value.string y127.formula, Value.int .i64 y127.rule, Value.int .i64 y127.a, Value.int .i64 y127.b], .box b217 39 [Value.string y127.formula, Value.int .i64 y127.rule, Value.int .i64 y127.a, Value.int .i64 y127.b], .row 39 4 v258 n259 cs260] := S263
     have S266 : St Ha wa H200 w261 [.box b217 39 [Value.string y127.formula, Value.int .i64 y127.rule, Value.int .i64 y127.a, Value.int .i64 y127.b], .row 39 4 v258 n259 cs260] := S263.drop 0
     refine FL.v (E.append rfl rfl run262) ?_
     refine FL.v (E.assign (v := v258) rfl) ?_
     refine FL.nil (FW.region ?_)
     refine FL.v (E.add k205 rfl) ?_
     refine FL.v (E.move (v := Value.int .i64 (wr (((i128 : Nat) : Int) + 1))) rfl) ?_
     refine FL.nil ?_
     obtain rfl := Option.some.inj hp
     exact ⟨rfl, ⟨_, _, _, _, (S266.sel [1] (by decide) rfl), i202, els264, (nat_succ rfl (lt_of_get hx128) (p2.mono ((((i34.tr i50).tr r69.inc).tr r122.run.inc).tr i202)).le), k206, k207, rfl, k209, k210⟩⟩
   ·
    clear hp hq
    rintro s128 f304 w303 ⟨H300, v129, n130, cs131, S301, i302, els132, k305, k306, k307, k308, k309, k310⟩
    refine FW.seq (FW.region ?_)
    refine FL.v (E.lss k305 k310) ?_
    refine FL.nil (FW.seq ?_)
    refine FW.condF rfl dlt_len ?_
    refine FW.exit ?_
    exact ⟨nofun, rfl, ⟨_, _, _, _, S301, i302, els132, k306, k307, k308⟩⟩
   ·
    clear hq
    intro e f272 w271 hD
    rcases q128 with s128 | x128
    ·
     obtain ⟨rfl, hD⟩ := hD
     obtain ⟨H268, v129, n130, cs131, S269, i270, els132, k273, k274, k275⟩ := hD
     replace hp := el_go hp
     refine FW.seq (FW.region ?_)
     refine FL.v (E.move k275) ?_
     refine FL.v (E.move k274) ?_
     refine FL.v (E.nilCheck rfl) ?_
     refine FL.v (E.fieldAddr tf70_2 rfl) ?_
     refine FL.v (E.load rfl (run_load1 Tryz.isAgg51 ((at76.mono (r122.run.inc.tr i270)).now S269.sl) rfl)) ?_
     obtain ⟨y276, hy277, hp⟩ := bnd hp
     obtain ⟨q278, v280, v281, rfl, at279, h282, h283⟩ := FAt.open h80 hy277
     refine FL.v (E.nilCheck rfl) ?_
     refine FL.v (E.fieldAddr tf70_3 rfl) ?_
     refine FL.v (E.load rfl (run_load1 Tryz.isAgg9 ((at279.mono (r122.run.inc.tr i270)).now S269.sl) rfl)) ?_
     refine FL.v (E.move k273) ?_
     refine FL.v (E.sub rfl rfl) ?_
     refine FL.v (E.move k275) ?_
     refine FL.v (E.lenO te25 rfl S269 (i := 0) rfl els132 (by decide)) ?_
     refine FL.v (E.sub rfl rfl) ?_
     refine FL.v (E.build (B4 rfl rfl rfl rfl) (run_build _ 39 #[(0, Value.string y276.text), (1, Value.int .i64 (-1)), (2, Value.int .i64 (wr ((len a1) - 1))), (3, Value.int .i64 (wr ((len s128) - 1)))] #[Value.string y276.text, Value.int .i64 (-1), Value.int .i64 (wr ((len a1) - 1)), Value.int .i64 (wr ((len s128) - 1))] (by rfl))) ?_
     obtain ⟨v284, w285, run286, S287⟩ := S269.buildSlice (P := Tryz.prog) te25 [Value.agg #[Value.string y276.text, Value.int .i64 (-1), Value.int .i64 (wr ((len a1) - 1)), Value.int .i64 (wr ((len s128) - 1))]] (parts := #[(0, Value.agg #[Value.string y276.text, Value.int .i64 (-1), Value.int .i64 (wr ((len a1) - 1)), Value.int .i64 (wr ((len s128) - 1))])]) (cells := [Value.string y276.text, Value.int .i64 (-1), Value.int .i64 (wr ((len a1) - 1)), Value.int .i64 (wr ((len s128) - 1))]) rfl (szs_cons rfl szs_nil) (fc_cons rfl fc_nil) (ones_cons rfl (ones_cons rfl (ones_cons rfl (ones_cons rfl ones_nil)))) (Nat.le_of_ble_eq_true rfl)
     have els288 : Els (up wa.heap.size H268) eFregeStep 4 [Value.string y276.text, Value.int .i64 (-1), Value.int .i64 (wr ((len a1) - 1)), Value.int .i64 (wr ((len s128) - 1))] [(FregeStep.mk y276.text (-1) (wr ((len a1) - 1)) (wr ((len s128) - 1)))] := (Els.snoc (H := (up wa.heap.size H268)) (E := eFregeStep) (k := 4) (c := [Value.string y276.text, Value.int .i64 (-1), Value.int .i64 (wr ((len a1) - 1)), Value.int .i64 (wr ((len s128) - 1))]) (x := (FregeStep.mk y276.text (-1) (wr ((len a1) - 1)) (wr ((len s128) - 1)))) Els.nil rfl rfl)
     refine FL.v (E.buildSlice (B1 rfl) run286) ?_
     obtain ⟨xs289, hz290, hp⟩ := bnd hp
     obtain ⟨v291, w294, n292, cs293, run295, S296, els297, ce298⟩ := S287.appendO (P := Tryz.prog) te25 (i := 1) (j := 0) rfl els132 rfl els288 hz290
     have S296 : St Ha wa H268 w294 [.row 39 4 v284 1 [Value.string y276.text, Value.int .i64 (-1), Value.int .i64 (wr ((len a1) - 1)), Value.int .i64 (wr ((len s128) - 1))], .row 39 4 v291 n292 cs293] := S296
     have S299 : St Ha wa H268 w294 [.row 39 4 v291 n292 cs293] := S296.drop 0
     refine FL.v (E.append rfl rfl run295) ?_
     refine FL.v (E.assign (v := v291) rfl) ?_
     refine FL.v (E.assign (v := Value.bool true) rfl) ?_
     refine FL.nil ?_
     refine FW.ret ?_
     obtain rfl := Option.some.inj hp
     exact ⟨.inr rfl, res2 rfl rfl rfl ⟨_, _, _, _, rfl, S299, els297⟩⟩
    ·
     exact x128.elim

theorem w_spec_DrawIdentityProof {Ha : GH} {wa : World} (hs : Sl Ha wa) (v0 : Value) (a0 : List Int) (p0 : RSl Ha (eN .u8) 1 v0 a0) {r : ByteArray} (hp : (PF.spec_DrawIdentityProof a0) = some r) :
  Calls Tryz.prog 13 #[v0] wa (Sc Ha wa (Value.string r)) := by
 unfold PF.spec_DrawIdentityProof at hp
 have S0 := St.init hs
 refine calls_go (N := 13) (args := [v0]) Tryz.func13 rfl rfl rfl ?_
 refine FW.seq (FW.region ?_)
 refine FL.v (E.assign (v := Value.string (ByteArray.mk #[])) rfl) ?_
 refine FL.nil (FW.seq (FW.region ?_))
 refine FL.v (E.move (v := v0) rfl) ?_
 refine FL.v (E.build (B1 rfl) (run_build _ 45 #[(0, v0)] #[v0, Value.int .i64 0, Value.int .u64 0] (by obtain ⟨_, _, rfl⟩ := RSl.ln p0; rfl))) ?_
 obtain ⟨b21, w22, run23, S24⟩ := S0.box (P := Tryz.prog) 45 [v0, Value.int .i64 0, Value.int .u64 0] (v := Value.agg #[v0, Value.int .i64 0, Value.int .u64 0]) rfl (ones_cons p0.one (ones_cons rfl (ones_cons rfl ones_nil)))
 refine FL.v (E.box rfl run23) ?_
 refine FL.v (E.assign (v := Value.pointer (some (⟨b21, 0, none⟩ : Addr))) rfl) ?_
 refine FL.nil (FW.seq (FW.seq (FW.region ?_)))
 refine FL.v (E.move (v := Value.pointer (some (⟨b21, 0, none⟩ : Addr))) rfl) ?_
 obtain ⟨r25, hr26, hp⟩ := bnd hp
 refine FL.call rfl rfl rfl (E.call Tryz.call37 (A2 rfl rfl)) (w_spec_l1Cur_one (L := []) S24 (a0 := (l1Cur.mk a0 0 0)) p0 3 hr26) ?_
 rintro e w28 ⟨H27, v31, rfl, ⟨S29, i30⟩, h32⟩
 refine ⟨_, rfl, ?_⟩
 have S29 : St Ha wa H27 w28 [.box b21 45 [v31, Value.int .i64 r25.2.at_, Value.int .u64 r25.2.seed]] := S29
 refine FL.nil ?_
 rcases ifB hp with ⟨c33, hp⟩ | ⟨c33, hp⟩
 ·
  refine FW.condT rfl c33 ?_
  refine FW.seq (FW.region ?_)
  refine FL.v (E.move (v := Value.pointer (some (⟨b21, 0, none⟩ : Addr))) rfl) ?_
  obtain ⟨r34, hr35, hp⟩ := bnd hp
  refine FL.call rfl rfl rfl (E.call Tryz.call38 (A1 rfl)) (w_spec_l1Cur_formulaText (L := []) S29 (a0 := r25.2) h32 hr35) ?_
  rintro e w37 ⟨H36, v40, rfl, ⟨S38, i39⟩, h41⟩
  refine ⟨_, rfl, ?_⟩
  have S38 : St Ha wa H36 w37 [.box b21 45 [v40, Value.int .i64 r34.2.at_, Value.int .u64 r34.2.seed]] := S38
  refine FL.v (E.assign (v := Value.string r34.1) rfl) ?_
  refine FL.nil ?_
  refine FW.ret ?_
  obtain rfl := Option.some.inj hp
  exact ⟨.inr rfl, res1 rfl rfl ⟨rfl, S38.back⟩⟩
 ·
  refine FW.condF rfl c33 ?_
  refine FW.skip (FW.seq (FW.region ?_))
  refine FL.v (E.move (v := Value.pointer (some (⟨b21, 0, none⟩ : Addr))) rfl) ?_
  obtain ⟨r42, hr43, hp⟩ := bnd hp
  refine FL.call rfl rfl rfl (E.call Tryz.call39 (A1 rfl)) (w_spec_l1Cur_short24 (L := []) S29 (a0 := r25.2) h32 hr43) ?_
  rintro e w45 ⟨H44, v48, rfl, ⟨S46, i47⟩, h49⟩
  refine ⟨_, rfl, ?_⟩
  have S46 : St Ha wa H44 w45 [.box b21 45 [v48, Value.int .i64 r42.2.at_, Value.int .u64 r42.2.seed]] := S46
  refine FL.v (E.assign (v := Value.string r42.1) rfl) ?_
  refine FL.nil ?_
  refine FW.ret ?_
  obtain rfl := Option.some.inj hp
  exact ⟨.inr rfl, res1 rfl rfl ⟨rfl, S46.back⟩⟩

@[reducible] def p_impl_IdentityProof (Ha : GH) (wa : World) (r : ((List FregeStep) × Bool)) : Ending → World → Prop :=
 fun e w' => ∃ H' : GH, ∃ v0 : Value, ∃ n0 : Nat, ∃ c0 : List Value, e = .returned (Value.tuple #[v0, Value.bool r.2]) ∧ St Ha wa H' w' [.row 39 4 v0 n0 c0] ∧ Els (up wa.heap.size H') eFregeStep 4 c0 r.1
set_option maxHeartbeats 4000000 in
theorem w_impl_IdentityProof {Ha : GH} {wa : World} (hs : Sl Ha wa) (a0 : ByteArray) (hT : TabS 0 PF.glob0 Ha) {r : ((List FregeStep) × Bool)} (hp : (PF.impl_IdentityProof a0) = some r) :
  Calls Tryz.prog 14 #[Value.string a0] wa (p_impl_IdentityProof Ha wa r) := by
 unfold PF.impl_IdentityProof at hp
 have S0 := St.init hs
 refine calls_go (N := 23) (args := [Value.string a0]) Tryz.func14 rfl rfl rfl ?_
 refine FW.seq (FW.region ?_)
 refine FL.v (E.assign (v := Value.slice none 0 0) rfl) ?_
 refine FL.v (E.assign (v := Value.bool false) rfl) ?_
 refine FL.nil (FW.seq (FW.region ?_))
 refine FL.v (E.move (v := Value.string a0) rfl) ?_
 obtain ⟨r21, hr22, hp⟩ := bnd hp
 refine FL.call rfl rfl rfl (E.call Tryz.call21 (A1 rfl)) (w_impl_parse S0.sl a0 hr22) ?_
 rintro e w24 ⟨H23, v27, rfl, r26, h28⟩
 refine ⟨_, rfl, ?_⟩
 have S25 := S0.call r26
 refine FL.v (E.move (v := Value.tuple #[v27, Value.bool r21.2]) rfl) ?_
 refine FL.v (E.extract (i := 0) rfl rfl) ?_
 refine FL.v (E.extract (i := 1) rfl rfl) ?_
 refine FL.v (E.assign (v := v27) rfl) ?_
 refine FL.v (E.assign (v := Value.bool r21.2) rfl) ?_
 refine FL.nil (FW.seq (FW.seq (FW.region ?_)))
 refine FL.v (E.move (v := Value.bool r21.2) rfl) ?_
 refine FL.v (E.not rfl) ?_
 refine FL.nil ?_
 rcases ifB hp with ⟨c29, hp⟩ | ⟨c29, hp⟩
 ·
  refine FW.condT rfl c29 ?_
  refine FW.seq (FW.region ?_)
  refine FL.v (E.assign (v := Value.slice none 0 0) rfl) ?_
  refine FL.v (E.assign (v := Value.bool false) rfl) ?_
  refine FL.nil ?_
  refine FW.ret ?_
  obtain rfl := Option.some.inj hp
  exact ⟨.inr rfl, res2 rfl rfl rfl ⟨_, _, _, _, rfl, (S25.nil 39 4), Els.nil⟩⟩
 ·
  refine FW.condF rfl c29 ?_
  refine FW.skip (FW.seq (FW.region ?_))
  refine FL.v (E.build (B0) (run_build _ 56 #[] #[Value.slice none 0 0, Value.bool false] (by rfl))) ?_
  have S34 := S25.nil 39 4
  have els35 : Els (up wa.heap.size H23) eFregeStep 4 [] [] := Els.nil
  obtain ⟨b30, w31, run32, S33⟩ := S34.box (P := Tryz.prog) 56 [(Value.slice none 0 0), Value.bool false] (v := Value.agg #[Value.slice none 0 0, Value.bool false]) rfl (ones_cons (Ln.one (S34.row_ln (i := 0) rfl)) (ones_cons rfl ones_nil))
  refine FL.v (E.box rfl run32) ?_
  refine FL.v (E.assign (v := Value.pointer (some (⟨b30, 0, none⟩ : Addr))) rfl) ?_
  refine FL.nil (FW.seq (FW.region ?_))
  refine FL.v (E.move (v := Value.pointer (some (⟨b30, 0, none⟩ : Addr))) rfl) ?_
  refine FL.v (E.move (v := v27) rfl) ?_
  obtain ⟨r36, hr37, hp⟩ := bnd hp
  have S38 : St Ha wa H23 w31 [.row 39 4 (Value.slice none 0 0) 0 [], .box b30 56 [(Value.slice none 0 0), Value.bool false]] := S33.front 1 rfl rfl
  have S39 : St Ha wa H23 w31 [.box b30 56 [(Value.slice none 0 0), Value.bool false], .row 39 4 (Value.slice none 0 0) 0 []] := S38.front 1 rfl rfl
  refine FL.call rfl rfl rfl (E.call Tryz.call22 (A2 rfl rfl)) (w_impl_freger_identity (L := []) S39 (a0 := (freger.mk [] false)) els35 v27 r21.1 h28 (hT.mono r26.inc) hr37) ?_
  rintro e w41 ⟨H40, v44, n45, cs46, rfl, ⟨S42, i43⟩, els47⟩
  refine ⟨_, rfl, ?_⟩
  have S42 : St Ha wa H40 w41 [.box b30 56 [v44, Value.bool r36.2.long], .row 39 4 v44 n45 cs46] := S42
  refine FL.nil (FW.seq (FW.region ?_))
  refine FL.v (E.move (v := Value.pointer (some (⟨b30, 0, none⟩ : Addr))) rfl) ?_
  obtain ⟨s49, hq49, hp⟩ := bnd hp
  obtain ⟨R49, hR49⟩ : ∃ R49 : (Bool × (List FregeStep)) → Ending → World → Prop, R49 = (fun s49 e w => ∃ H : GH, ∃ v50 : Value, ∃ n51 : Nat, ∃ cs52 : List Value, e = Ending.returned (Value.tuple #[v50, Value.bool s49.1]) ∧ St Ha wa H w [.box b30 56 [v44, Value.bool r36.2.long], .row 39 4 v50 n51 cs52] ∧ Inc H40 H ∧ Els (up wa.heap.size H) eFregeStep 4 cs52 s49.2) := ⟨_, rfl⟩
  have hc49 : Calls Tryz.prog 27 #[Value.pointer (some (⟨b30, 0, none⟩ : Addr))] w41 (R49 s49) := by
   clear hp; have hp := hq49; clear hq49
   refine calls_go (N := 12) (args := [Value.pointer (some (⟨b30, 0, none⟩ : Addr))]) Tryz.func27 rfl rfl rfl ?_
   refine FW.seq (FW.region ?_)
   refine FL.v (E.assign (v := Value.slice none 0 0) rfl) ?_
   refine FL.v (E.assign (v := Value.bool false) rfl) ?_
   refine FL.nil (FW.seq (FW.seq (FW.region ?_)))
   refine FL.v (E.move (v := Value.pointer (some (⟨b30, 0, none⟩ : Addr))) rfl) ?_
   refine FL.v (E.nilCheck rfl) ?_
   refine FL.v (E.fieldAddr tf56_1 rfl) ?_
   refine FL.v (E.load rfl (run_load1 Tryz.isAgg4 (S42.box_now (i := 0) rfl) rfl)) ?_
   refine FL.nil ?_
   rcases ifB hp with ⟨c54, hp⟩ | ⟨c54, hp⟩
   ·
    refine FW.condT rfl c54 ?_
    refine FW.seq (FW.region ?_)
    refine FL.v (E.assign (v := Value.slice none 0 0) rfl) ?_
    refine FL.v (E.assign (v := Value.bool false) rfl) ?_
    refine FL.nil ?_
    refine FW.ret ?_
    obtain rfl := Option.some.inj hp
    exact ⟨.inr rfl, res2 rfl rfl rfl (by rw [hR49]; exact ⟨_, _, _, _, rfl, ((S42.nil 39 4).sel [1, 0] (by decide) rfl), (Inc.rfl _), Els.nil⟩)⟩
   ·
    refine FW.condF rfl c54 ?_
    refine FW.skip (FW.seq (FW.region ?_))
    refine FL.v (E.move (v := Value.pointer (some (⟨b30, 0, none⟩ : Addr))) rfl) ?_
    refine FL.v (E.nilCheck rfl) ?_
    refine FL.v (E.fieldAddr tf56_0 rfl) ?_
    refine FL.v (E.load rfl (run_load1 Tryz.isAgg25 (S42.box_now (i := 0) rfl) rfl)) ?_
    refine FL.v (E.assign (v := v44) rfl) ?_
    refine FL.v (E.assign (v := Value.bool true) rfl) ?_
    refine FL.nil ?_
    refine FW.ret ?_
    obtain rfl := Option.some.inj hp
    exact ⟨.inr rfl, res2 rfl rfl rfl (by rw [hR49]; exact ⟨_, _, _, _, rfl, S42, (Inc.rfl _), els47⟩)⟩
  clear hq49
  refine FL.call rfl rfl rfl (E.call Tryz.call27 (A1 rfl)) hc49 ?_
  intro e w58 hQ49
  rw [hR49] at hQ49
  obtain ⟨H55, v50, n51, cs52, rfl, S56, i57, els53⟩ := hQ49
  refine ⟨_, rfl, ?_⟩
  refine FL.v (E.extract (i := 0) rfl rfl) ?_
  refine FL.v (E.extract (i := 1) rfl rfl) ?_
  refine FL.v (E.assign (v := v50) rfl) ?_
  refine FL.v (E.assign (v := Value.bool s49.1) rfl) ?_
  refine FL.nil ?_
  refine FW.ret ?_
  obtain rfl := Option.some.inj hp
  exact ⟨.inr rfl, res2 rfl rfl rfl ⟨_, _, _, _, rfl, (S56.sel [1] (by decide) rfl), els53⟩⟩

@[reducible] def p_spec_IdentityProof (Ha : GH) (wa : World) (r : ((List FregeStep) × Bool)) : Ending → World → Prop :=
 fun e w' => ∃ H' : GH, ∃ v0 : Value, e = .returned (Value.tuple #[v0, Value.bool r.2]) ∧ Run wa.heap.size Ha wa H' w' ∧ RSl H' eFregeStep 4 v0 r.1
theorem w_spec_IdentityProof {Ha : GH} {wa : World} (hs : Sl Ha wa) (a0 : ByteArray) {r : ((List FregeStep) × Bool)} (hp : (PF.spec_IdentityProof a0) = some r) :
  Calls Tryz.prog 15 #[Value.string a0] wa (p_spec_IdentityProof Ha wa r) := by
 unfold PF.spec_IdentityProof at hp
 have S0 := St.init hs
 refine calls_go (N := 14) (args := [Value.string a0]) Tryz.func15 rfl rfl rfl ?_
 refine FW.seq (FW.region ?_)
 refine FL.v (E.assign (v := Value.slice none 0 0) rfl) ?_
 refine FL.v (E.assign (v := Value.bool false) rfl) ?_
 refine FL.nil (FW.seq (FW.seq (FW.region ?_)))
 refine FL.v (E.move (v := Value.string a0) rfl) ?_
 obtain ⟨r21, hr22, hp⟩ := bnd hp
 refine FL.call rfl rfl rfl (E.call Tryz.call40 (A1 rfl)) (w_spec_l22Good S0.sl a0 hr22) ?_
 rintro e w23 ⟨rfl, r24⟩
 refine ⟨_, rfl, ?_⟩
 have S25 := S0.call r24
 refine FL.v (E.not rfl) ?_
 refine FL.nil ?_
 rcases ifB hp with ⟨c26, hp⟩ | ⟨c26, hp⟩
 ·
  refine FW.condT rfl c26 ?_
  refine FW.seq (FW.region ?_)
  obtain ⟨v27, w28, run29, S30⟩ := S25.buildSlice (P := Tryz.prog) te25 [] (parts := #[]) (cells := []) rfl szs_nil fc_nil ones_nil (Nat.le_of_ble_eq_true rfl)
  have els31 : Els (up wa.heap.size Ha) eFregeStep 4 [] [] := Els.nil
  refine FL.v (E.buildSlice (B0) run29) ?_
  refine FL.v (E.assign (v := v27) rfl) ?_
  refine FL.v (E.assign (v := Value.bool false) rfl) ?_
  refine FL.nil ?_
  refine FW.ret ?_
  obtain ⟨H32, S33, i34, h35, nv36⟩ := S30.sealRowU (i := 0) (l' := []) rfl els31 (by decide) rfl
  obtain rfl := Option.some.inj hp
  exact ⟨.inr rfl, res2 rfl rfl rfl ⟨_, _, rfl, S33.run, (h35.mono upI)⟩⟩
 ·
  refine FW.condF rfl c26 ?_
  refine FW.skip (FW.seq (FW.region ?_))
  obtain ⟨v37, w38, run39, S40⟩ := S25.buildSlice (P := Tryz.prog) te25 [] (parts := #[]) (cells := []) rfl szs_nil fc_nil ones_nil (Nat.le_of_ble_eq_true rfl)
  have els41 : Els (up wa.heap.size Ha) eFregeStep 4 [] [] := Els.nil
  refine FL.v (E.buildSlice (B0) run39) ?_
  refine FL.v (E.move (v := Value.string a0) rfl) ?_
  obtain ⟨r42, hr43, hp⟩ := bnd hp
  refine FL.call rfl rfl rfl (E.call Tryz.call41 (A2 rfl rfl)) (w_spec_l24Identity (L := []) S40 [] els41 a0 hr43) ?_
  rintro e w45 ⟨H44, v48, n49, cs50, rfl, ⟨S46, i47⟩, els51⟩
  refine ⟨_, rfl, ?_⟩
  have S46 : St Ha wa H44 w45 [.row 39 4 v48 n49 cs50] := S46
  obtain ⟨H52, S53, i54, h55, nv56⟩ := S46.sealRowU (i := 0) (l' := []) rfl els51 (by decide) rfl
  obtain ⟨r57, hr58, hp⟩ := bnd hp
  refine FL.call rfl rfl rfl (E.call Tryz.call30 (A1 rfl)) (w_spec_l24Give S53.sl v48 r42 (h55.mono upI) hr58) ?_
  rintro e w60 ⟨H59, v63, rfl, r62, h64⟩
  refine ⟨_, rfl, ?_⟩
  have S61 := S53.call r62
  refine FL.v (E.extract (i := 0) rfl rfl) ?_
  refine FL.v (E.extract (i := 1) rfl rfl) ?_
  refine FL.v (E.assign (v := v63) rfl) ?_
  refine FL.v (E.assign (v := Value.bool r57.2) rfl) ?_
  refine FL.nil ?_
  refine FW.ret ?_
  obtain rfl := Option.some.inj hp
  exact ⟨.inr rfl, res2 rfl rfl rfl ⟨_, _, rfl, S61.run, h64⟩⟩

set_option maxHeartbeats 4000000 in
theorem w_laws_FnDischarge {Ha : GH} {wa : World} (hs : Sl Ha wa) (v0 : Value) (a0 : List Int) (p0 : RSl Ha (eN .u8) 1 v0 a0) (hT : TabS 0 PF.glob0 Ha) {r : Bool} (hp : (PF.laws_FnDischarge a0) = some r) :
  Calls Tryz.prog 3 #[v0] wa (Sc Ha wa (Value.bool r)) := by
 unfold PF.laws_FnDischarge at hp
 have S0 := St.init hs
 refine calls_go (N := 195) (args := [v0]) Tryz.func3 rfl rfl rfl ?_
 refine FW.seq (FW.region ?_)
 refine FL.v (E.assign (v := Value.bool false) rfl) ?_
 refine FL.nil (FW.seq (FW.seq (FW.region ?_)))
 refine FL.v (E.move (v := v0) rfl) ?_
 refine FL.call rfl rfl rfl (E.call Tryz.call4 (A1 rfl)) (w_laws_vBig S0.sl v0 a0 p0) ?_
 rintro e w21 ⟨rfl, r22⟩
 refine ⟨_, rfl, ?_⟩
 have S23 := S0.call r22
 refine FL.nil ?_
 rcases ifB hp with ⟨c24, hp⟩ | ⟨c24, hp⟩
 ·
  refine FW.condT rfl c24 ?_
  refine FW.seq (FW.region ?_)
  refine FL.v (E.assign (v := Value.bool true) rfl) ?_
  refine FL.nil ?_
  refine FW.ret ?_
  obtain rfl := Option.some.inj hp
  exact ⟨.inr rfl, res1 rfl rfl ⟨rfl, S23.back⟩⟩
 ·
  refine FW.condF rfl c24 ?_
  refine FW.skip (FW.seq (FW.region ?_))
  refine FL.v (E.move (v := v0) rfl) ?_
  obtain ⟨r25, hr26, hp⟩ := bnd hp
  refine FL.call rfl rfl rfl (E.call Tryz.call5 (A1 rfl)) (w_spec_DrawDischarge S23.sl v0 a0 p0 hr26) ?_
  rintro e w28 ⟨H27, v31, v34, n35, cs36, rfl, r30, h32, els37⟩
  refine ⟨_, rfl, ?_⟩
  have nv33 : New Ha [v31] := New.of_up S23.sl h32.dom
  have h32 := h32.mono (up_le S23.size)
  have els37 := els37.mono (up_le S23.size)
  have S29 := S23.join (l' := [.row 39 4 v34 n35 cs36]) r30 rfl
  refine FL.v (E.move (v := Value.tuple #[v31, v34, Value.int .i64 r25.2.2]) rfl) ?_
  refine FL.v (E.extract (i := 0) rfl rfl) ?_
  refine FL.v (E.extract (i := 1) rfl rfl) ?_
  refine FL.v (E.extract (i := 2) rfl rfl) ?_
  refine FL.v (E.assign (v := v31) rfl) ?_
  refine FL.v (E.assign (v := v34) rfl) ?_
  refine FL.v (E.assign (v := Value.int .i64 r25.2.2) rfl) ?_
  refine FL.nil (FW.seq (FW.region ?_))
  refine FL.v (E.move (v := v31) rfl) ?_
  refine FL.v (E.move (v := v34) rfl) ?_
  refine FL.v (E.move (v := Value.int .i64 r25.2.2) rfl) ?_
  obtain ⟨H38, S39, i40, h41, nv42⟩ := S29.sealRowU (i := 0) (l' := []) rfl els37 (by decide) rfl
  obtain ⟨r43, hr44, hp⟩ := bnd hp
  refine FL.call rfl rfl rfl (E.call Tryz.call6 (A3 rfl rfl rfl)) (w_impl_Discharge S39.sl v31 r25.1 (h32.mono (upI.tr i40)) v34 r25.2.1 (h41.mono upI) r25.2.2 (hT.mono (r30.run.inc.tr i40)) hr44) ?_
  rintro e w46 ⟨H45, v51, n52, cs53, rfl, r48, els54⟩
  refine ⟨_, rfl, ?_⟩
  obtain ⟨H49, r48, hU50⟩ := St.lendX i40 S29.sl r48
  have els54 := els54.mono (hU50.tr (up_le S29.size))
  have S47 := S29.join (l' := [.row 39 4 v51 n52 cs53, .row 39 4 v34 n35 cs36]) r48 rfl
  refine FL.v (E.move (v := Value.tuple #[v51, Value.bool r43.2]) rfl) ?_
  refine FL.v (E.extract (i := 0) rfl rfl) ?_
  refine FL.v (E.extract (i := 1) rfl rfl) ?_
  refine FL.v (E.assign (v := v51) rfl) ?_
  refine FL.v (E.assign (v := Value.bool r43.2) rfl) ?_
  refine FL.nil (FW.seq (FW.seq (FW.region ?_)))
  refine FL.v (E.move (v := v31) rfl) ?_
  refine FL.v (E.move (v := v34) rfl) ?_
  refine FL.v (E.move (v := Value.int .i64 r25.2.2) rfl) ?_
  obtain ⟨H55, S56, i57, h58, nv59⟩ := S47.sealRowU (i := 1) (l' := [.row 39 4 v51 n52 cs53]) rfl (els37.mono (up_mono r48.run.inc)) (by decide) rfl
  obtain ⟨r60, hr61, hp⟩ := bnd hp
  refine FL.call rfl rfl rfl (E.call Tryz.call7 (A3 rfl rfl rfl)) (w_spec_Discharge S56.sl v31 r25.1 (h32.mono (upI.tr (r48.run.inc.tr i57))) v34 r25.2.1 (h58.mono upI) r25.2.2 hr61) ?_
  rintro e w63 ⟨H62, v66, rfl, r65, h67⟩
  refine ⟨_, rfl, ?_⟩
  have S64 := S56.call r65
  refine FL.v (E.move (v := Value.tuple #[v66, Value.bool r60.2]) rfl) ?_
  refine FL.v (E.extract (i := 0) rfl rfl) ?_
  refine FL.v (E.extract (i := 1) rfl rfl) ?_
  refine FL.v (E.assign (v := v66) rfl) ?_
  refine FL.v (E.assign (v := Value.bool r60.2) rfl) ?_
  refine FL.nil (FW.seq (FW.region ?_))
  refine FL.v (E.move (v := Value.bool r43.2) rfl) ?_
  refine FL.v (E.move (v := Value.bool r60.2) rfl) ?_
  refine FL.v (E.neqB Tryz.runUnderlying4 rfl rfl) ?_
  refine FL.v (E.move (v := Value.bool (!(r43.2 == r60.2))) rfl) ?_
  obtain ⟨t78, hqt78, hp⟩ := bnd hp
  refine FL.cut 5 (fun f w => ∃ H : GH, St Ha wa H w [.row 39 4 v51 n52 cs53] ∧ Inc H62 H ∧ f 0 = v0 ∧ f 3 = v31 ∧ f 4 = v34 ∧ f 5 = Value.int .i64 r25.2.2 ∧ f 6 = v51 ∧ f 7 = Value.bool r43.2 ∧ f 57 = Value.bool t78) ?_ ?_
  ·
   clear hp; have hp := hqt78; clear hqt78
   rcases ifB hp with ⟨c84, hp⟩ | ⟨c84, hp⟩
   ·
    refine FL.skip (wF_no rfl rfl rfl c84) rfl ?_
    refine FL.skip (wF_no rfl rfl rfl c84) rfl ?_
    refine FL.skip (wF_no rfl rfl rfl c84) rfl ?_
    refine FL.skip (wF_no rfl rfl rfl c84) rfl ?_
    obtain rfl := Option.some.inj hp
    refine FL.v (E.pickT rfl c84 rfl) ?_
    exact FL.nil ⟨rfl, _, S64, (Inc.rfl _), rfl, rfl, rfl, rfl, rfl, rfl, rfl⟩
   ·
    refine FL.val (wF_yes rfl rfl rfl c84) rfl rfl (E.move (v := v51) rfl) ?_
    refine FL.val (wF_yes rfl rfl rfl c84) rfl rfl (E.move (v := v66) rfl) ?_
    obtain ⟨H85, S86, i87, h88, nv89⟩ := S64.sealRowU (i := 0) (l' := []) rfl (els54.mono (up_mono (i57.tr r65.inc))) (by decide) rfl
    obtain ⟨r90, hr91, hp⟩ := bnd hp
    refine FL.call (wF_yes rfl rfl rfl c84) rfl rfl (E.call Tryz.call8 (A2 rfl rfl)) (w_laws_vFrege S86.sl v51 r43.1 (h88.mono upI) v66 r60.1 (h67.mono i87) hr91) ?_
    rintro e w92 ⟨rfl, r93⟩
    refine ⟨_, rfl, ?_⟩
    have r93 := Run.lend i87 S64.sl r93
    have S94 := S64.call r93
    refine FL.val (wF_yes rfl rfl rfl c84) rfl rfl (E.not rfl) ?_
    obtain rfl := Option.some.inj hp
    refine FL.v (E.pickF rfl c84 rfl) ?_
    exact FL.nil ⟨rfl, _, S94, (Inc.rfl _), rfl, rfl, rfl, rfl, rfl, rfl, rfl⟩
  rintro f83 w82 ⟨H79, S80, i81, k95, k96, k97, k98, k99, k100, k101⟩
  refine FL.nil ?_
  rcases ifB hp with ⟨c102, hp⟩ | ⟨c102, hp⟩
  ·
   refine FW.condT k101 c102 ?_
   refine FW.seq (FW.region ?_)
   refine FL.v (E.assign (v := Value.bool false) rfl) ?_
   refine FL.nil ?_
   refine FW.ret ?_
   obtain rfl := Option.some.inj hp
   exact ⟨.inr rfl, res1 rfl rfl ⟨rfl, S80.back⟩⟩
  ·
   refine FW.condF k101 c102 ?_
   refine FW.skip (FW.seq (FW.seq (FW.region ?_)))
   refine FL.v (E.move k100) ?_
   refine FL.nil ?_
   obtain ⟨q353, hq, hp⟩ := bndR hp
   refine FW.joinE (S := Unit) (X := Bool) (q := q353) (fun s352 f w => ∃ H : GH, St Ha wa H w [] ∧ Inc H79 H ∧ f 0 = v0) (fun x e f w => (e = Exit.ret) ∧ (fun e f w => (e = Exit.normal ∨ e = Exit.ret) ∧ ∀ a, Fr (δ := []) 195 a f → ∃ v, (results Tryz.f3 a.tmps).run Tryz.prog w = .ok v w ∧ (Sc Ha wa (Value.bool x)) (.returned v) w) e f w) ?_ ?_ ?_
   ·
    clear hp; have hp := hq; clear hq
    rcases ifB hp with ⟨c355, hp⟩ | ⟨c355, hp⟩
    ·
     refine FW.condT rfl c355 ?_
     refine FW.seq (FW.region ?_)
     refine FL.v (E.move k96) ?_
     refine FL.v (E.move k97) ?_
     obtain ⟨r356, hr357, hp⟩ := bnd hp
     refine FL.call rfl rfl rfl (E.call Tryz.call9 (A2 rfl rfl)) (w_impl_ProvedFormula S80.sl v31 r25.1 (h32.mono (upI.tr (((r48.run.inc.tr i57).tr r65.inc).tr i81))) v34 r25.2.1 (h58.mono (upI.tr (r65.inc.tr i81))) (hT.mono ((((r30.run.inc.tr r48.run.inc).tr i57).tr r65.inc).tr i81)) hr357) ?_
     rintro e w358 ⟨rfl, r359⟩
     refine ⟨_, rfl, ?_⟩
     have S360 := S80.call r359
     refine FL.v (E.move (v := Value.tuple #[Value.string r356.1, Value.bool r356.2]) rfl) ?_
     refine FL.v (E.extract (i := 0) rfl rfl) ?_
     refine FL.v (E.extract (i := 1) rfl rfl) ?_
     refine FL.v (E.assign (v := Value.string r356.1) rfl) ?_
     refine FL.v (E.assign (v := Value.bool r356.2) rfl) ?_
     refine FL.nil (FW.seq (FW.region ?_))
     refine FL.v (E.move k96) ?_
     refine FL.v (E.move k99) ?_
     obtain ⟨H361, S362, i363, h364, nv365⟩ := S360.sealRowU (i := 0) (l' := []) rfl (els54.mono (up_mono ((i57.tr r65.inc).tr i81))) (by decide) rfl
     obtain ⟨r366, hr367, hp⟩ := bnd hp
     refine FL.call rfl rfl rfl (E.call Tryz.call9 (A2 rfl rfl)) (w_impl_ProvedFormula S362.sl v31 r25.1 (h32.mono (upI.tr ((((r48.run.inc.tr i57).tr r65.inc).tr i81).tr i363))) v51 r43.1 (h364.mono upI) (hT.mono (((((r30.run.inc.tr r48.run.inc).tr i57).tr r65.inc).tr i81).tr i363)) hr367) ?_
     rintro e w368 ⟨rfl, r369⟩
     refine ⟨_, rfl, ?_⟩
     have r369 := Run.lend i363 S360.sl r369
     have S370 := S360.call r369
     refine FL.v (E.move (v := Value.tuple #[Value.string r366.1, Value.bool r366.2]) rfl) ?_
     refine FL.v (E.extract (i := 0) rfl rfl) ?_
     refine FL.v (E.extract (i := 1) rfl rfl) ?_
     refine FL.v (E.assign (v := Value.string r366.1) rfl) ?_
     refine FL.v (E.assign (v := Value.bool r366.2) rfl) ?_
     refine FL.nil (FW.seq (FW.region ?_))
     refine FL.v (E.move k96) ?_
     refine FL.v (E.move k99) ?_
     obtain ⟨H371, S372, i373, h374, nv375⟩ := S370.sealRowU (i := 0) (l' := []) rfl (els54.mono (up_mono ((i57.tr r65.inc).tr i81))) (by decide) rfl
     obtain ⟨r376, hr377, hp⟩ := bnd hp
     refine FL.call rfl rfl rfl (E.call Tryz.call10 (A2 rfl rfl)) (w_impl_UsedFormulas S372.sl v31 r25.1 (h32.mono (upI.tr ((((r48.run.inc.tr i57).tr r65.inc).tr i81).tr i373))) v51 r43.1 (h374.mono upI) (hT.mono (((((r30.run.inc.tr r48.run.inc).tr i57).tr r65.inc).tr i81).tr i373)) hr377) ?_
     rintro e w379 ⟨H378, v384, n385, cs386, rfl, r381, els387⟩
     refine ⟨_, rfl, ?_⟩
     obtain ⟨H382, r381, hU383⟩ := St.lendX i373 S370.sl r381
     have els387 := els387.mono (hU383.tr (up_le S370.size))
     have S380 := S370.join (l' := [.row 3 1 v384 n385 cs386, .row 39 4 v51 n52 cs53]) r381 rfl
     refine FL.v (E.move (v := Value.tuple #[v384, Value.bool r376.2]) rfl) ?_
     refine FL.v (E.extract (i := 0) rfl rfl) ?_
     refine FL.v (E.extract (i := 1) rfl rfl) ?_
     refine FL.v (E.assign (v := v384) rfl) ?_
     refine FL.v (E.assign (v := Value.bool r376.2) rfl) ?_
     refine FL.nil (FW.seq (FW.seq (FW.region ?_)))
     refine FL.v (E.move (v := Value.bool r356.2) rfl) ?_
     refine FL.v (E.not rfl) ?_
     refine FL.v (E.move (v := Value.bool (!r356.2)) rfl) ?_
     refine FL.cut 3 (fun f w => ∃ H : GH, St Ha wa H w [.row 3 1 v384 n385 cs386, .row 39 4 v51 n52 cs53] ∧ Inc H382 H ∧ f 0 = v0 ∧ f 3 = v31 ∧ f 4 = v34 ∧ f 5 = Value.int .i64 r25.2.2 ∧ f 6 = v51 ∧ f 10 = Value.string r356.1 ∧ f 12 = Value.string r366.1 ∧ f 14 = v384 ∧ f 15 = Value.bool r376.2 ∧ f 82 = Value.bool (bif (!r356.2) then true else (!r366.2))) ?_ ?_
     ·
      rcases bcase (!r356.2) with c394 | c394
      ·
       refine FL.skip (wF_no rfl rfl rfl c394) rfl ?_
       refine FL.skip (wF_no rfl rfl rfl c394) rfl ?_
       refine FL.v (E.pickT rfl c394 rfl) ?_
       exact FL.nil ⟨rfl, _, S380, (Inc.rfl _), k95, k96, k97, k98, k99, rfl, rfl, rfl, rfl, (congrArg Value.bool (bifT c394).symm)⟩
      ·
       refine FL.val (wF_yes rfl rfl rfl c394) rfl rfl (E.move (v := Value.bool r366.2) rfl) ?_
       refine FL.val (wF_yes rfl rfl rfl c394) rfl rfl (E.not rfl) ?_
       refine FL.v (E.pickF rfl c394 rfl) ?_
       exact FL.nil ⟨rfl, _, S380, (Inc.rfl _), k95, k96, k97, k98, k99, rfl, rfl, rfl, rfl, (congrArg Value.bool (bifF c394).symm)⟩
     rintro f393 w392 ⟨H389, S390, i391, k395, k396, k397, k398, k399, k400, k401, k402, k403, k404⟩
     refine FL.v (E.move k404) ?_
     refine FL.cut 3 (fun f w => ∃ H : GH, St Ha wa H w [.row 3 1 v384 n385 cs386, .row 39 4 v51 n52 cs53] ∧ Inc H389 H ∧ f 0 = v0 ∧ f 3 = v31 ∧ f 4 = v34 ∧ f 5 = Value.int .i64 r25.2.2 ∧ f 6 = v51 ∧ f 10 = Value.string r356.1 ∧ f 12 = Value.string r366.1 ∧ f 14 = v384 ∧ f 86 = Value.bool (bif (bif (!r356.2) then true else (!r366.2)) then true else (!r376.2))) ?_ ?_
     ·
      rcases bcase (bif (!r356.2) then true else (!r366.2)) with c411 | c411
      ·
       refine FL.skip (wF_no rfl rfl rfl c411) rfl ?_
       refine FL.skip (wF_no rfl rfl rfl c411) rfl ?_
       refine FL.v (E.pickT rfl c411 rfl) ?_
       exact FL.nil ⟨rfl, _, S390, (Inc.rfl _), k395, k396, k397, k398, k399, k400, k401, k402, (congrArg Value.bool (bifT c411).symm)⟩
      ·
       refine FL.val (wF_yes rfl rfl rfl c411) rfl rfl (E.move k403) ?_
       refine FL.val (wF_yes rfl rfl rfl c411) rfl rfl (E.not rfl) ?_
       refine FL.v (E.pickF rfl c411 rfl) ?_
       exact FL.nil ⟨rfl, _, S390, (Inc.rfl _), k395, k396, k397, k398, k399, k400, k401, k402, (congrArg Value.bool (bifF c411).symm)⟩
     rintro f410 w409 ⟨H406, S407, i408, k412, k413, k414, k415, k416, k417, k418, k419, k420⟩
     refine FL.v (E.move k420) ?_
     refine FL.cut 3 (fun f w => ∃ H : GH, St Ha wa H w [.row 3 1 v384 n385 cs386, .row 39 4 v51 n52 cs53] ∧ Inc H406 H ∧ f 0 = v0 ∧ f 3 = v31 ∧ f 4 = v34 ∧ f 5 = Value.int .i64 r25.2.2 ∧ f 6 = v51 ∧ f 10 = Value.string r356.1 ∧ f 12 = Value.string r366.1 ∧ f 14 = v384 ∧ f 90 = Value.bool (bif (bif (bif (!r356.2) then true else (!r366.2)) then true else (!r376.2)) then true else (decide (r25.2.2 < 0)))) ?_ ?_
     ·
      rcases bcase (bif (bif (!r356.2) then true else (!r366.2)) then true else (!r376.2)) with c427 | c427
      ·
       refine FL.skip (wF_no rfl rfl rfl c427) rfl ?_
       refine FL.skip (wF_no rfl rfl rfl c427) rfl ?_
       refine FL.v (E.pickT rfl c427 rfl) ?_
       exact FL.nil ⟨rfl, _, S407, (Inc.rfl _), k412, k413, k414, k415, k416, k417, k418, k419, (congrArg Value.bool (bifT c427).symm)⟩
      ·
       refine FL.val (wF_yes rfl rfl rfl c427) rfl rfl (E.move k415) ?_
       refine FL.val (wF_yes rfl rfl rfl c427) rfl rfl (E.lss rfl rfl) ?_
       refine FL.v (E.pickF rfl c427 rfl) ?_
       exact FL.nil ⟨rfl, _, S407, (Inc.rfl _), k412, k413, k414, k415, k416, k417, k418, k419, (congrArg Value.bool (bifF c427).symm)⟩
     rintro f426 w425 ⟨H422, S423, i424, k428, k429, k430, k431, k432, k433, k434, k435, k436⟩
     refine FL.v (E.move k436) ?_
     refine FL.cut 5 (fun f w => ∃ H : GH, St Ha wa H w [.row 3 1 v384 n385 cs386, .row 39 4 v51 n52 cs53] ∧ Inc H422 H ∧ f 0 = v0 ∧ f 3 = v31 ∧ f 4 = v34 ∧ f 5 = Value.int .i64 r25.2.2 ∧ f 6 = v51 ∧ f 10 = Value.string r356.1 ∧ f 12 = Value.string r366.1 ∧ f 14 = v384 ∧ f 96 = Value.bool (bif (bif (bif (bif (!r356.2) then true else (!r366.2)) then true else (!r376.2)) then true else (decide (r25.2.2 < 0))) then true else (decide ((len r25.1) ≤ r25.2.2)))) ?_ ?_
     ·
      rcases bcase (bif (bif (bif (!r356.2) then true else (!r366.2)) then true else (!r376.2)) then true else (decide (r25.2.2 < 0))) with c443 | c443
      ·
       refine FL.skip (wF_no rfl rfl rfl c443) rfl ?_
       refine FL.skip (wF_no rfl rfl rfl c443) rfl ?_
       refine FL.skip (wF_no rfl rfl rfl c443) rfl ?_
       refine FL.skip (wF_no rfl rfl rfl c443) rfl ?_
       refine FL.v (E.pickT rfl c443 rfl) ?_
       exact FL.nil ⟨rfl, _, S423, (Inc.rfl _), k428, k429, k430, k431, k432, k433, k434, k435, (congrArg Value.bool (bifT c443).symm)⟩
      ·
       refine FL.val (wF_yes rfl rfl rfl c443) rfl rfl (E.move k431) ?_
       refine FL.val (wF_yes rfl rfl rfl c443) rfl rfl (E.move k429) ?_
       refine FL.val (wF_yes rfl rfl rfl c443) rfl rfl (E.lenP te24 rfl h32) ?_
       refine FL.val (wF_yes rfl rfl rfl c443) rfl rfl (E.geq rfl rfl) ?_
       refine FL.v (E.pickF rfl c443 rfl) ?_
       exact FL.nil ⟨rfl, _, S423, (Inc.rfl _), k428, k429, k430, k431, k432, k433, k434, k435, (congrArg Value.bool (bifF c443).symm)⟩
     rintro f442 w441 ⟨H438, S439, i440, k444, k445, k446, k447, k448, k449, k450, k451, k452⟩
     refine FL.v (E.move k452) ?_
     obtain ⟨t469, hqt469, hp⟩ := bnd hp
     refine FL.cut 12 (fun f w => ∃ H : GH, St Ha wa H w [.row 3 1 v384 n385 cs386, .row 39 4 v51 n52 cs53] ∧ Inc H438 H ∧ f 0 = v0 ∧ f 3 = v31 ∧ f 4 = v34 ∧ f 5 = Value.int .i64 r25.2.2 ∧ f 6 = v51 ∧ f 10 = Value.string r356.1 ∧ f 14 = v384 ∧ f 109 = Value.bool t469) ?_ ?_
     ·
      clear hp; have hp := hqt469; clear hqt469
      rcases ifB hp with ⟨c475, hp⟩ | ⟨c475, hp⟩
      ·
       refine FL.skip (wF_no rfl rfl rfl c475) rfl ?_
       refine FL.skip (wF_no rfl rfl rfl c475) rfl ?_
       refine FL.skip (wF_no rfl rfl rfl c475) rfl ?_
       refine FL.skip (wF_no rfl rfl rfl c475) rfl ?_
       refine FL.skip (wF_no rfl rfl rfl c475) rfl ?_
       refine FL.skip (wF_no rfl rfl rfl c475) rfl ?_
       refine FL.skip (wF_no rfl rfl rfl c475) rfl ?_
       refine FL.skip (wF_no rfl rfl rfl c475) rfl ?_
       refine FL.skip (wF_no rfl rfl rfl c475) rfl ?_
       refine FL.skip (wF_no rfl rfl rfl c475) rfl ?_
       refine FL.skip (wF_no rfl rfl rfl c475) rfl ?_
       obtain rfl := Option.some.inj hp
       refine FL.v (E.pickT rfl c475 rfl) ?_
       exact FL.nil ⟨rfl, _, S439, (Inc.rfl _), k444, k445, k446, k447, k448, k449, k451, rfl⟩
      ·
       refine FL.val (wF_yes rfl rfl rfl c475) rfl rfl (E.move k450) ?_
       refine FL.val (wF_yes rfl rfl rfl c475) rfl rfl (E.move k445) ?_
       refine FL.val (wF_yes rfl rfl rfl c475) rfl rfl (E.move k447) ?_
       obtain ⟨x482, hx483, hp⟩ := bnd hp
       obtain ⟨p476, cs477, pt478, l479, at480, rel481⟩ := h32.at hx483
       obtain rfl := eS_open rel481
       refine FL.val (wF_yes rfl rfl rfl c475) rfl rfl (E.indexAddr te24 rfl rfl pt478) ?_
       refine FL.val (wF_yes rfl rfl rfl c475) rfl rfl (E.load rfl (run_load0 Tryz.isAgg9 ((at480.mono (upI.tr ((((((((r48.run.inc.tr i57).tr r65.inc).tr i81).tr r381.run.inc).tr i391).tr i408).tr i424).tr i440))).now S439.sl) rfl)) ?_
       obtain ⟨z484, h485, hp⟩ := bnd hp
       refine FL.val (wF_yes rfl rfl rfl c475) rfl rfl (E.addT rfl rfl h485) ?_
       obtain ⟨z486, h487, hp⟩ := bnd hp
       refine FL.val (wF_yes rfl rfl rfl c475) rfl rfl (E.addT rfl rfl h487) ?_
       refine FL.val (wF_yes rfl rfl rfl c475) rfl rfl (E.move k449) ?_
       obtain ⟨z488, h489, hp⟩ := bnd hp
       refine FL.val (wF_yes rfl rfl rfl c475) rfl rfl (E.addT rfl rfl h489) ?_
       obtain ⟨z490, h491, hp⟩ := bnd hp
       refine FL.val (wF_yes rfl rfl rfl c475) rfl rfl (E.addT rfl rfl h491) ?_
       refine FL.val (wF_yes rfl rfl rfl c475) rfl rfl (E.neqS rfl rfl) ?_
       obtain rfl := Option.some.inj hp
       refine FL.v (E.pickF rfl c475 rfl) ?_
       exact FL.nil ⟨rfl, _, S439, (Inc.rfl _), k444, k445, k446, k447, k448, k449, k451, rfl⟩
     rintro f474 w473 ⟨H470, S471, i472, k492, k493, k494, k495, k496, k497, k498, k499⟩
     refine FL.v (E.move k499) ?_
     obtain ⟨t510, hqt510, hp⟩ := bnd hp
     refine FL.cut 4 (fun f w => ∃ H : GH, St Ha wa H w [.row 3 1 v384 n385 cs386, .row 39 4 v51 n52 cs53] ∧ Inc H470 H ∧ f 0 = v0 ∧ f 3 = v31 ∧ f 4 = v34 ∧ f 5 = Value.int .i64 r25.2.2 ∧ f 6 = v51 ∧ f 10 = Value.string r356.1 ∧ f 114 = Value.bool t510) ?_ ?_
     ·
      clear hp; have hp := hqt510; clear hqt510
      rcases ifB hp with ⟨c516, hp⟩ | ⟨c516, hp⟩
      ·
       refine FL.skip (wF_no rfl rfl rfl c516) rfl ?_
       refine FL.skip (wF_no rfl rfl rfl c516) rfl ?_
       refine FL.skip (wF_no rfl rfl rfl c516) rfl ?_
       obtain rfl := Option.some.inj hp
       refine FL.v (E.pickT rfl c516 rfl) ?_
       exact FL.nil ⟨rfl, _, S471, (Inc.rfl _), k492, k493, k494, k495, k496, k497, rfl⟩
      ·
       refine FL.val (wF_yes rfl rfl rfl c516) rfl rfl (E.move k498) ?_
       refine FL.val (wF_yes rfl rfl rfl c516) rfl rfl (E.move k495) ?_
       obtain ⟨H517, S518, i519, h520, nv521⟩ := S471.sealRowU (i := 0) (l' := [.row 39 4 v51 n52 cs53]) rfl (els387.mono (up_mono ((((i391.tr i408).tr i424).tr i440).tr i472))) (by decide) rfl
       obtain ⟨r522, hr523, hp⟩ := bnd hp
       refine FL.call (wF_yes rfl rfl rfl c516) rfl rfl (E.call Tryz.call11 (A2 rfl rfl)) (w_laws_vHas S518.sl v384 r376.1 (h520.mono upI) r25.2.2 hr523) ?_
       rintro e w524 ⟨rfl, r525⟩
       refine ⟨_, rfl, ?_⟩
       have r525 := Run.lend i519 S471.sl r525
       have S526 := S471.call r525
       obtain rfl := Option.some.inj hp
       refine FL.v (E.pickF rfl c516 rfl) ?_
       exact FL.nil ⟨rfl, _, S526, (Inc.rfl _), k492, k493, k494, k495, k496, k497, rfl⟩
     rintro f515 w514 ⟨H511, S512, i513, k527, k528, k529, k530, k531, k532, k533⟩
     refine FL.v (E.move k533) ?_
     refine FL.cut 7 (fun f w => ∃ H : GH, St Ha wa H w [.row 3 1 v384 n385 cs386, .row 39 4 v51 n52 cs53] ∧ Inc H511 H ∧ f 0 = v0 ∧ f 3 = v31 ∧ f 5 = Value.int .i64 r25.2.2 ∧ f 6 = v51 ∧ f 10 = Value.string r356.1 ∧ f 122 = Value.bool (bif t510 then true else (decide ((wr (5 * (len r25.2.1))) < (len r43.1))))) ?_ ?_
     ·
      rcases bcase t510 with c540 | c540
      ·
       refine FL.skip (wF_no rfl rfl rfl c540) rfl ?_
       refine FL.skip (wF_no rfl rfl rfl c540) rfl ?_
       refine FL.skip (wF_no rfl rfl rfl c540) rfl ?_
       refine FL.skip (wF_no rfl rfl rfl c540) rfl ?_
       refine FL.skip (wF_no rfl rfl rfl c540) rfl ?_
       refine FL.skip (wF_no rfl rfl rfl c540) rfl ?_
       refine FL.v (E.pickT rfl c540 rfl) ?_
       exact FL.nil ⟨rfl, _, S512, (Inc.rfl _), k527, k528, k530, k531, k532, (congrArg Value.bool (bifT c540).symm)⟩
      ·
       refine FL.val (wF_yes rfl rfl rfl c540) rfl rfl (E.move k531) ?_
       refine FL.val (wF_yes rfl rfl rfl c540) rfl rfl (E.lenO te25 rfl S512 (i := 1) rfl els54 (by decide)) ?_
       refine FL.val (wF_yes rfl rfl rfl c540) rfl rfl (E.move k529) ?_
       refine FL.val (wF_yes rfl rfl rfl c540) rfl rfl (E.lenP te25 rfl h58) ?_
       refine FL.val (wF_yes rfl rfl rfl c540) rfl rfl (E.mul rfl rfl) ?_
       refine FL.val (wF_yes rfl rfl rfl c540) rfl rfl (E.gtr rfl rfl) ?_
       refine FL.v (E.pickF rfl c540 rfl) ?_
       exact FL.nil ⟨rfl, _, S512, (Inc.rfl _), k527, k528, k530, k531, k532, (congrArg Value.bool (bifF c540).symm)⟩
     rintro f539 w538 ⟨H535, S536, i537, k541, k542, k543, k544, k545, k546⟩
     refine FL.nil ?_
     rcases ifB hp with ⟨c547, hp⟩ | ⟨c547, hp⟩
     ·
      refine FW.condT k546 c547 ?_
      refine FW.seq (FW.region ?_)
      refine FL.v (E.assign (v := Value.bool false) rfl) ?_
      refine FL.nil ?_
      refine FW.ret ?_
      obtain rfl := Option.some.inj hp
      exact ⟨nofun, rfl, ⟨.inr rfl, res1 rfl rfl ⟨rfl, S536.back⟩⟩⟩
     ·
      refine FW.condF k546 c547 ?_
      refine FW.skip (FW.seq (FW.region ?_))
      refine FL.v (E.move k542) ?_
      refine FL.v (E.move k542) ?_
      refine FL.v (E.move k543) ?_
      obtain ⟨x554, hx555, hp⟩ := bnd hp
      obtain ⟨p548, cs549, pt550, l551, at552, rel553⟩ := h32.at hx555
      obtain rfl := eS_open rel553
      refine FL.v (E.indexAddr te24 rfl rfl pt550) ?_
      refine FL.v (E.load rfl (run_load0 Tryz.isAgg9 ((at552.mono (upI.tr (((((((((((r48.run.inc.tr i57).tr r65.inc).tr i81).tr r381.run.inc).tr i391).tr i408).tr i424).tr i440).tr i472).tr i513).tr i537))).now S536.sl) rfl)) ?_
      refine FL.v (E.move k543) ?_
      refine FL.v (E.build (B2 rfl rfl) (run_build _ 39 #[(0, Value.string x554), (2, Value.int .i64 r25.2.2)] #[Value.string x554, Value.int .i64 0, Value.int .i64 r25.2.2, Value.int .i64 0] (by rfl))) ?_
      obtain ⟨v556, w557, run558, S559⟩ := S536.buildSlice (P := Tryz.prog) te25 [Value.agg #[Value.string x554, Value.int .i64 0, Value.int .i64 r25.2.2, Value.int .i64 0]] (parts := #[(0, Value.agg #[Value.string x554, Value.int .i64 0, Value.int .i64 r25.2.2, Value.int .i64 0])]) (cells := [Value.string x554, Value.int .i64 0, Value.int .i64 r25.2.2, Value.int .i64 0]) rfl (szs_cons rfl szs_nil) (fc_cons rfl fc_nil) (ones_cons rfl (ones_cons rfl (ones_cons rfl (ones_cons rfl ones_nil)))) (Nat.le_of_ble_eq_true rfl)
      have els560 : Els (up wa.heap.size H535) eFregeStep 4 [Value.string x554, Value.int .i64 0, Value.int .i64 r25.2.2, Value.int .i64 0] [(FregeStep.mk x554 0 r25.2.2 0)] := (Els.snoc (H := (up wa.heap.size H535)) (E := eFregeStep) (k := 4) (c := [Value.string x554, Value.int .i64 0, Value.int .i64 r25.2.2, Value.int .i64 0]) (x := (FregeStep.mk x554 0 r25.2.2 0)) Els.nil rfl rfl)
      refine FL.v (E.buildSlice (B1 rfl) run558) ?_
      refine FL.v (E.move k544) ?_
      obtain ⟨H561, S562, i563, h564, nv565⟩ := S559.sealRowU (i := 0) (l' := [.row 3 1 v384 n385 cs386, .row 39 4 v51 n52 cs53]) rfl els560 (by decide) rfl
      obtain ⟨H566, S567, i568, h569, nv570⟩ := S562.sealRowU (i := 1) (l' := [.row 3 1 v384 n385 cs386]) rfl (els54.mono (up_mono (((((((((((i57.tr r65.inc).tr i81).tr r381.run.inc).tr i391).tr i408).tr i424).tr i440).tr i472).tr i513).tr i537).tr i563))) (by decide) rfl
      obtain ⟨r571, hr572, hp⟩ := bnd hp
      refine FL.call rfl rfl rfl (E.call Tryz.call12 (A3 rfl rfl rfl)) (w_impl_AddModus S567.sl v31 r25.1 (h32.mono (upI.tr (((((((((((((r48.run.inc.tr i57).tr r65.inc).tr i81).tr r381.run.inc).tr i391).tr i408).tr i424).tr i440).tr i472).tr i513).tr i537).tr i563).tr i568))) v556 [(FregeStep.mk x554 0 r25.2.2 0)] (h564.mono (upI.tr i568)) v51 r43.1 (h569.mono upI) (hT.mono ((((((((((((((r30.run.inc.tr r48.run.inc).tr i57).tr r65.inc).tr i81).tr r381.run.inc).tr i391).tr i408).tr i424).tr i440).tr i472).tr i513).tr i537).tr i563).tr i568)) hr572) ?_
      rintro e w574 ⟨H573, v579, n580, cs581, rfl, r576, els582⟩
      refine ⟨_, rfl, ?_⟩
      obtain ⟨H577, r576, hU578⟩ := St.lendX (i563.tr i568) S559.sl r576
      have els582 := els582.mono (hU578.tr (up_le S559.size))
      have S575 := S559.join (l' := [.row 39 4 v579 n580 cs581, .row 39 4 v556 1 [Value.string x554, Value.int .i64 0, Value.int .i64 r25.2.2, Value.int .i64 0], .row 3 1 v384 n385 cs386, .row 39 4 v51 n52 cs53]) r576 rfl
      refine FL.v (E.move (v := Value.tuple #[v579, Value.bool r571.2]) rfl) ?_
      refine FL.v (E.extract (i := 0) rfl rfl) ?_
      refine FL.v (E.extract (i := 1) rfl rfl) ?_
      refine FL.v (E.assign (v := v579) rfl) ?_
      refine FL.v (E.assign (v := Value.bool r571.2) rfl) ?_
      refine FL.nil (FW.seq (FW.region ?_))
      refine FL.v (E.move (v := Value.bool r571.2) rfl) ?_
      refine FL.nil ?_
      rcases ifB hp with ⟨c583, hp⟩ | ⟨c583, hp⟩
      ·
       refine FW.condT rfl c583 ?_
       refine FW.seq (FW.region ?_)
       refine FL.v (E.move k542) ?_
       refine FL.v (E.move (v := v579) rfl) ?_
       obtain ⟨H584, S585, i586, h587, nv588⟩ := S575.sealRowU (i := 0) (l' := [.row 39 4 v556 1 [Value.string x554, Value.int .i64 0, Value.int .i64 r25.2.2, Value.int .i64 0], .row 3 1 v384 n385 cs386, .row 39 4 v51 n52 cs53]) rfl els582 (by decide) rfl
       obtain ⟨r589, hr590, hp⟩ := bnd hp
       refine FL.call rfl rfl rfl (E.call Tryz.call9 (A2 rfl rfl)) (w_impl_ProvedFormula S585.sl v31 r25.1 (h32.mono (upI.tr (((((((((((((r48.run.inc.tr i57).tr r65.inc).tr i81).tr r381.run.inc).tr i391).tr i408).tr i424).tr i440).tr i472).tr i513).tr i537).tr r576.run.inc).tr i586))) v579 r571.1 (h587.mono upI) (hT.mono ((((((((((((((r30.run.inc.tr r48.run.inc).tr i57).tr r65.inc).tr i81).tr r381.run.inc).tr i391).tr i408).tr i424).tr i440).tr i472).tr i513).tr i537).tr r576.run.inc).tr i586)) hr590) ?_
       rintro e w591 ⟨rfl, r592⟩
       refine ⟨_, rfl, ?_⟩
       have r592 := Run.lend i586 S575.sl r592
       have S593 := S575.call r592
       refine FL.v (E.move (v := Value.tuple #[Value.string r589.1, Value.bool r589.2]) rfl) ?_
       refine FL.v (E.extract (i := 0) rfl rfl) ?_
       refine FL.v (E.extract (i := 1) rfl rfl) ?_
       refine FL.v (E.assign (v := Value.string r589.1) rfl) ?_
       refine FL.v (E.assign (v := Value.bool r589.2) rfl) ?_
       refine FL.nil (FW.seq (FW.region ?_))
       refine FL.v (E.move (v := Value.bool r589.2) rfl) ?_
       refine FL.v (E.not rfl) ?_
       refine FL.v (E.move (v := Value.bool (!r589.2)) rfl) ?_
       refine FL.cut 4 (fun f w => ∃ H : GH, St Ha wa H w [.row 39 4 v579 n580 cs581, .row 39 4 v556 1 [Value.string x554, Value.int .i64 0, Value.int .i64 r25.2.2, Value.int .i64 0], .row 3 1 v384 n385 cs386, .row 39 4 v51 n52 cs53] ∧ Inc H577 H ∧ f 0 = v0 ∧ f 149 = Value.bool (bif (!r589.2) then true else (!(r589.1.toList == r356.1.toList)))) ?_ ?_
       ·
        rcases bcase (!r589.2) with c600 | c600
        ·
         refine FL.skip (wF_no rfl rfl rfl c600) rfl ?_
         refine FL.skip (wF_no rfl rfl rfl c600) rfl ?_
         refine FL.skip (wF_no rfl rfl rfl c600) rfl ?_
         refine FL.v (E.pickT rfl c600 rfl) ?_
         exact FL.nil ⟨rfl, _, S593, (Inc.rfl _), k541, (congrArg Value.bool (bifT c600).symm)⟩
        ·
         refine FL.val (wF_yes rfl rfl rfl c600) rfl rfl (E.move (v := Value.string r589.1) rfl) ?_
         refine FL.val (wF_yes rfl rfl rfl c600) rfl rfl (E.move k545) ?_
         refine FL.val (wF_yes rfl rfl rfl c600) rfl rfl (E.neqS rfl rfl) ?_
         refine FL.v (E.pickF rfl c600 rfl) ?_
         exact FL.nil ⟨rfl, _, S593, (Inc.rfl _), k541, (congrArg Value.bool (bifF c600).symm)⟩
       rintro f599 w598 ⟨H595, S596, i597, k601, k602⟩
       refine FL.nil ?_
       rcases ifB hp with ⟨c603, hp⟩ | ⟨c603, hp⟩
       ·
        refine FW.condT k602 c603 ?_
        refine FW.seq (FW.region ?_)
        refine FL.v (E.assign (v := Value.bool false) rfl) ?_
        refine FL.nil ?_
        refine FW.ret ?_
        obtain rfl := Option.some.inj hp
        exact ⟨nofun, rfl, ⟨.inr rfl, res1 rfl rfl ⟨rfl, S596.back⟩⟩⟩
       ·
        refine FW.condF k602 c603 ?_
        refine FW.skip ?_
        obtain rfl := Option.some.inj hp
        exact ⟨rfl, ⟨_, (S596.sel [] (by decide) rfl), (((((((((r381.run.inc.tr i391).tr i408).tr i424).tr i440).tr i472).tr i513).tr i537).tr r576.run.inc).tr i597), k601⟩⟩
      ·
       refine FW.condF rfl c583 ?_
       refine FW.skip ?_
       obtain rfl := Option.some.inj hp
       exact ⟨rfl, ⟨_, (S575.sel [] (by decide) rfl), ((((((((r381.run.inc.tr i391).tr i408).tr i424).tr i440).tr i472).tr i513).tr i537).tr r576.run.inc), k541⟩⟩
    ·
     refine FW.condF rfl c355 ?_
     refine FW.skip ?_
     obtain rfl := Option.some.inj hp
     exact ⟨rfl, ⟨_, (S80.sel [] (by decide) rfl), (Inc.rfl _), k95⟩⟩
   ·
    rintro s352 rfl f608 w607 ⟨H604, S605, i606, k609⟩
    replace hp := el_go hp
    refine FW.seq (FW.region ?_)
    refine FL.v (E.move k609) ?_
    obtain ⟨r610, hr611, hp⟩ := bnd hp
    refine FL.call rfl rfl rfl (E.call Tryz.call13 (A1 rfl)) (w_spec_DrawIdentityProof S605.sl v0 a0 (p0.mono (((((r30.run.inc.tr r48.run.inc).tr i57).tr r65.inc).tr i81).tr i606)) hr611) ?_
    rintro e w612 ⟨rfl, r613⟩
    refine ⟨_, rfl, ?_⟩
    have S614 := S605.call r613
    refine FL.v (E.assign (v := Value.string r610) rfl) ?_
    refine FL.nil (FW.seq (FW.region ?_))
    refine FL.v (E.move (v := Value.string r610) rfl) ?_
    obtain ⟨r615, hr616, hp⟩ := bnd hp
    refine FL.call rfl rfl rfl (E.call Tryz.call14 (A1 rfl)) (w_impl_IdentityProof S614.sl r610 (hT.mono (((((r30.run.inc.tr r48.run.inc).tr i57).tr r65.inc).tr i81).tr i606)) hr616) ?_
    rintro e w618 ⟨H617, v621, n622, cs623, rfl, r620, els624⟩
    refine ⟨_, rfl, ?_⟩
    have els624 := els624.mono (up_le S614.size)
    have S619 := S614.join (l' := [.row 39 4 v621 n622 cs623]) r620 rfl
    refine FL.v (E.move (v := Value.tuple #[v621, Value.bool r615.2]) rfl) ?_
    refine FL.v (E.extract (i := 0) rfl rfl) ?_
    refine FL.v (E.extract (i := 1) rfl rfl) ?_
    refine FL.v (E.assign (v := v621) rfl) ?_
    refine FL.v (E.assign (v := Value.bool r615.2) rfl) ?_
    refine FL.nil (FW.seq (FW.seq (FW.region ?_)))
    refine FL.v (E.move (v := Value.string r610) rfl) ?_
    obtain ⟨r625, hr626, hp⟩ := bnd hp
    refine FL.call rfl rfl rfl (E.call Tryz.call15 (A1 rfl)) (w_spec_IdentityProof S619.sl r610 hr626) ?_
    rintro e w628 ⟨H627, v631, rfl, r630, h632⟩
    refine ⟨_, rfl, ?_⟩
    have S629 := S619.call r630
    refine FL.v (E.move (v := Value.tuple #[v631, Value.bool r625.2]) rfl) ?_
    refine FL.v (E.extract (i := 0) rfl rfl) ?_
    refine FL.v (E.extract (i := 1) rfl rfl) ?_
    refine FL.v (E.assign (v := v631) rfl) ?_
    refine FL.v (E.assign (v := Value.bool r625.2) rfl) ?_
    refine FL.nil (FW.seq (FW.region ?_))
    refine FL.v (E.move (v := Value.bool r615.2) rfl) ?_
    refine FL.v (E.move (v := Value.bool r625.2) rfl) ?_
    refine FL.v (E.neqB Tryz.runUnderlying4 rfl rfl) ?_
    refine FL.v (E.move (v := Value.bool (!(r615.2 == r625.2))) rfl) ?_
    obtain ⟨t643, hqt643, hp⟩ := bnd hp
    refine FL.cut 5 (fun f w => ∃ H : GH, St Ha wa H w [.row 39 4 v621 n622 cs623] ∧ Inc H627 H ∧ f 20 = Value.string r610 ∧ f 21 = v621 ∧ f 22 = Value.bool r615.2 ∧ f 170 = Value.bool t643) ?_ ?_
    ·
     clear hp; have hp := hqt643; clear hqt643
     rcases ifB hp with ⟨c649, hp⟩ | ⟨c649, hp⟩
     ·
      refine FL.skip (wF_no rfl rfl rfl c649) rfl ?_
      refine FL.skip (wF_no rfl rfl rfl c649) rfl ?_
      refine FL.skip (wF_no rfl rfl rfl c649) rfl ?_
      refine FL.skip (wF_no rfl rfl rfl c649) rfl ?_
      obtain rfl := Option.some.inj hp
      refine FL.v (E.pickT rfl c649 rfl) ?_
      exact FL.nil ⟨rfl, _, S629, (Inc.rfl _), rfl, rfl, rfl, rfl⟩
     ·
      refine FL.val (wF_yes rfl rfl rfl c649) rfl rfl (E.move (v := v621) rfl) ?_
      refine FL.val (wF_yes rfl rfl rfl c649) rfl rfl (E.move (v := v631) rfl) ?_
      obtain ⟨H650, S651, i652, h653, nv654⟩ := S629.sealRowU (i := 0) (l' := []) rfl (els624.mono (up_mono r630.inc)) (by decide) rfl
      obtain ⟨r655, hr656, hp⟩ := bnd hp
      refine FL.call (wF_yes rfl rfl rfl c649) rfl rfl (E.call Tryz.call8 (A2 rfl rfl)) (w_laws_vFrege S651.sl v621 r615.1 (h653.mono upI) v631 r625.1 (h632.mono i652) hr656) ?_
      rintro e w657 ⟨rfl, r658⟩
      refine ⟨_, rfl, ?_⟩
      have r658 := Run.lend i652 S629.sl r658
      have S659 := S629.call r658
      refine FL.val (wF_yes rfl rfl rfl c649) rfl rfl (E.not rfl) ?_
      obtain rfl := Option.some.inj hp
      refine FL.v (E.pickF rfl c649 rfl) ?_
      exact FL.nil ⟨rfl, _, S659, (Inc.rfl _), rfl, rfl, rfl, rfl⟩
    rintro f648 w647 ⟨H644, S645, i646, k660, k661, k662, k663⟩
    refine FL.nil ?_
    rcases ifB hp with ⟨c664, hp⟩ | ⟨c664, hp⟩
    ·
     refine FW.condT k663 c664 ?_
     refine FW.seq (FW.region ?_)
     refine FL.v (E.assign (v := Value.bool false) rfl) ?_
     refine FL.nil ?_
     refine FW.ret ?_
     obtain rfl := Option.some.inj hp
     exact ⟨.inr rfl, res1 rfl rfl ⟨rfl, S645.back⟩⟩
    ·
     refine FW.condF k663 c664 ?_
     refine FW.skip (FW.seq (FW.seq (FW.region ?_)))
     refine FL.v (E.move k662) ?_
     refine FL.nil ?_
     rcases ifB hp with ⟨c665, hp⟩ | ⟨c665, hp⟩
     ·
      refine FW.condT rfl c665 ?_
      refine FW.seq (FW.region ?_)
      obtain ⟨v666, w667, run668, S669⟩ := S645.buildSlice (P := Tryz.prog) te24 [] (parts := #[]) (cells := []) rfl szs_nil fc_nil ones_nil (Nat.le_of_ble_eq_true rfl)
      have els670 : Els (up wa.heap.size H644) eS 1 [] [] := Els.nil
      refine FL.v (E.buildSlice (B0) run668) ?_
      refine FL.v (E.move k661) ?_
      obtain ⟨H671, S672, i673, h674, nv675⟩ := S669.sealRowU (i := 0) (l' := [.row 39 4 v621 n622 cs623]) rfl els670 (by decide) rfl
      obtain ⟨H676, S677, i678, h679, nv680⟩ := S672.sealRowU (i := 0) (l' := []) rfl (els624.mono (up_mono ((r630.inc.tr i646).tr i673))) (by decide) rfl
      obtain ⟨r681, hr682, hp⟩ := bnd hp
      refine FL.call rfl rfl rfl (E.call Tryz.call9 (A2 rfl rfl)) (w_impl_ProvedFormula S677.sl v666 [] (h674.mono (upI.tr i678)) v621 r615.1 (h679.mono upI) (hT.mono ((((((((((r30.run.inc.tr r48.run.inc).tr i57).tr r65.inc).tr i81).tr i606).tr r620.run.inc).tr r630.inc).tr i646).tr i673).tr i678)) hr682) ?_
      rintro e w683 ⟨rfl, r684⟩
      refine ⟨_, rfl, ?_⟩
      have r684 := Run.lend (i673.tr i678) S669.sl r684
      have S685 := S669.call r684
      refine FL.v (E.move (v := Value.tuple #[Value.string r681.1, Value.bool r681.2]) rfl) ?_
      refine FL.v (E.extract (i := 0) rfl rfl) ?_
      refine FL.v (E.extract (i := 1) rfl rfl) ?_
      refine FL.v (E.assign (v := Value.string r681.1) rfl) ?_
      refine FL.v (E.assign (v := Value.bool r681.2) rfl) ?_
      refine FL.nil (FW.seq (FW.region ?_))
      refine FL.v (E.move (v := Value.bool r681.2) rfl) ?_
      refine FL.v (E.not rfl) ?_
      refine FL.v (E.move (v := Value.bool (!r681.2)) rfl) ?_
      obtain ⟨t694, hqt694, hp⟩ := bnd hp
      refine FL.cut 9 (fun f w => ∃ H : GH, St Ha wa H w [.row 9 1 v666 0 [], .row 39 4 v621 n622 cs623] ∧ Inc H644 H ∧ f 21 = v621 ∧ f 189 = Value.bool t694) ?_ ?_
      ·
       clear hp; have hp := hqt694; clear hqt694
       rcases ifB hp with ⟨c700, hp⟩ | ⟨c700, hp⟩
       ·
        refine FL.skip (wF_no rfl rfl rfl c700) rfl ?_
        refine FL.skip (wF_no rfl rfl rfl c700) rfl ?_
        refine FL.skip (wF_no rfl rfl rfl c700) rfl ?_
        refine FL.skip (wF_no rfl rfl rfl c700) rfl ?_
        refine FL.skip (wF_no rfl rfl rfl c700) rfl ?_
        refine FL.skip (wF_no rfl rfl rfl c700) rfl ?_
        refine FL.skip (wF_no rfl rfl rfl c700) rfl ?_
        refine FL.skip (wF_no rfl rfl rfl c700) rfl ?_
        obtain rfl := Option.some.inj hp
        refine FL.v (E.pickT rfl c700 rfl) ?_
        exact FL.nil ⟨rfl, _, S685, (Inc.rfl _), k661, rfl⟩
       ·
        refine FL.val (wF_yes rfl rfl rfl c700) rfl rfl (E.move (v := Value.string r681.1) rfl) ?_
        refine FL.val (wF_yes rfl rfl rfl c700) rfl rfl (E.move k660) ?_
        obtain ⟨z701, h702, hp⟩ := bnd hp
        refine FL.val (wF_yes rfl rfl rfl c700) rfl rfl (E.addT rfl rfl h702) ?_
        obtain ⟨z703, h704, hp⟩ := bnd hp
        refine FL.val (wF_yes rfl rfl rfl c700) rfl rfl (E.addT rfl rfl h704) ?_
        refine FL.val (wF_yes rfl rfl rfl c700) rfl rfl (E.move k660) ?_
        obtain ⟨z705, h706, hp⟩ := bnd hp
        refine FL.val (wF_yes rfl rfl rfl c700) rfl rfl (E.addT rfl rfl h706) ?_
        obtain ⟨z707, h708, hp⟩ := bnd hp
        refine FL.val (wF_yes rfl rfl rfl c700) rfl rfl (E.addT rfl rfl h708) ?_
        refine FL.val (wF_yes rfl rfl rfl c700) rfl rfl (E.neqS rfl rfl) ?_
        obtain rfl := Option.some.inj hp
        refine FL.v (E.pickF rfl c700 rfl) ?_
        exact FL.nil ⟨rfl, _, S685, (Inc.rfl _), k661, rfl⟩
      rintro f699 w698 ⟨H695, S696, i697, k709, k710⟩
      refine FL.v (E.move k710) ?_
      refine FL.cut 4 (fun f w => ∃ H : GH, St Ha wa H w [.row 9 1 v666 0 [], .row 39 4 v621 n622 cs623] ∧ Inc H695 H ∧ f 194 = Value.bool (bif t694 then true else (!((len r615.1) == 5)))) ?_ ?_
      ·
       rcases bcase t694 with c717 | c717
       ·
        refine FL.skip (wF_no rfl rfl rfl c717) rfl ?_
        refine FL.skip (wF_no rfl rfl rfl c717) rfl ?_
        refine FL.skip (wF_no rfl rfl rfl c717) rfl ?_
        refine FL.v (E.pickT rfl c717 rfl) ?_
        exact FL.nil ⟨rfl, _, S696, (Inc.rfl _), (congrArg Value.bool (bifT c717).symm)⟩
       ·
        refine FL.val (wF_yes rfl rfl rfl c717) rfl rfl (E.move k709) ?_
        refine FL.val (wF_yes rfl rfl rfl c717) rfl rfl (E.lenO te25 rfl S696 (i := 1) rfl els624 (by decide)) ?_
        refine FL.val (wF_yes rfl rfl rfl c717) rfl rfl (E.neq rfl rfl) ?_
        refine FL.v (E.pickF rfl c717 rfl) ?_
        exact FL.nil ⟨rfl, _, S696, (Inc.rfl _), (congrArg Value.bool (bifF c717).symm)⟩
      rintro f716 w715 ⟨H712, S713, i714, k718⟩
      refine FL.nil ?_
      rcases ifB hp with ⟨c719, hp⟩ | ⟨c719, hp⟩
      ·
       refine FW.condT k718 c719 ?_
       refine FW.seq (FW.region ?_)
       refine FL.v (E.assign (v := Value.bool false) rfl) ?_
       refine FL.nil ?_
       refine FW.ret ?_
       obtain rfl := Option.some.inj hp
       exact ⟨.inr rfl, res1 rfl rfl ⟨rfl, S713.back⟩⟩
      ·
       refine FW.condF k718 c719 ?_
       refine FW.skip (FW.seq (FW.region ?_))
       refine FL.v (E.assign (v := Value.bool true) rfl) ?_
       refine FL.nil ?_
       refine FW.ret ?_
       obtain rfl := Option.some.inj hp
       exact ⟨.inr rfl, res1 rfl rfl ⟨rfl, S713.back⟩⟩
     ·
      refine FW.condF rfl c665 ?_
      refine FW.skip (FW.seq (FW.region ?_))
      refine FL.v (E.assign (v := Value.bool true) rfl) ?_
      refine FL.nil ?_
      refine FW.ret ?_
      obtain rfl := Option.some.inj hp
      exact ⟨.inr rfl, res1 rfl rfl ⟨rfl, S645.back⟩⟩
   ·
    rintro x354 rfl e f w hne ⟨he, hL⟩
    replace hp := el_rt hp
    obtain rfl := Option.some.inj hp
    subst he
    exact hL

end Go.Proofs
