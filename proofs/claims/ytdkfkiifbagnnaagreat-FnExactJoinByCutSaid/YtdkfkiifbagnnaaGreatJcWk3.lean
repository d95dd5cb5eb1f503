/- Part of the walks and plain laws behind the claim: it proves helpers, under no condition beyond their own. -/
import Derived.Test.YtdkfkiifbagnnaaGreatJcWk2
set_option linter.unusedVariables false
set_option maxRecDepth 100000
namespace Go.Proofs
open Go.Mr Go.Pu Go.PF Go.RowKit

@[reducible] def p_impl_premisesOf (Ha : GH) (wa : World) (r : (List Sequent)) : Ending → World → Prop :=
 fun e w' => ∃ H' : GH, ∃ v0 : Value, ∃ n0 : Nat, ∃ c0 : List Value, e = .returned (v0) ∧ St Ha wa H' w' [.row 68 2 v0 n0 c0] ∧ Els H' eSequent 2 c0 r
set_option maxHeartbeats 4000000 in
theorem w_impl_premisesOf {Ha : GH} {wa : World} (hs : Sl Ha wa) (a0 : Sequent) (v0_0 : Value) (p0_0 : RSl Ha eS 1 v0_0 a0.left) (v0_1 : Value) (p0_1 : RSl Ha eS 1 v0_1 a0.right) (a1 : Int) (v2 : Value) (a2 : Fo) (p2 : FAt Ha v2 a2) {r : (List Sequent)} (hp : (PF.impl_premisesOf a0 a1 a2) = some r) :
  Calls Tryz.prog 156 #[Value.agg #[v0_0, v0_1], Value.int .i64 a1, v2] wa (p_impl_premisesOf Ha wa r) := by
 unfold PF.impl_premisesOf at hp
 have S0 := St.init hs
 refine calls_go (N := 180) (args := [Value.agg #[v0_0, v0_1], Value.int .i64 a1, v2]) Tryz.func156 rfl rfl rfl ?_
 refine FW.seq (FW.region ?_)
 obtain ⟨b21, w22, run23, S24⟩ := S0.box (P := Tryz.prog) 68 [v0_0, v0_1] (v := Value.agg #[v0_0, v0_1]) rfl (ones_cons p0_0.one (ones_cons p0_1.one ones_nil))
 refine FL.v (E.box rfl run23) ?_
 obtain ⟨H25, S26, i27, at28⟩ := S24.sealBox (i := 0) (l' := []) rfl rfl
 refine FL.v (E.assign (v := Value.slice none 0 0) rfl) ?_
 refine FL.nil (FW.seq ?_)
 obtain ⟨y32, hy33, hp⟩ := bnd hp
 obtain ⟨r40, hr41, hp⟩ := bnd hp
 obtain ⟨r50, hr51, hp⟩ := bnd hp
 refine FW.drawB (Sl H25) (fun f w => ∃ H : GH, ∃ v60 : Value, ∃ v62 : Value, ∃ n63 : Nat, ∃ cs64 : List Value, ∃ v66 : Value, ∃ n67 : Nat, ∃ cs69 : List Value, St Ha wa H w [.row 9 1 v62 n63 cs64, .row 9 1 v66 n67 cs69] ∧ Inc H25 H ∧ FAt H v60 a2 ∧ Els (up wa.heap.size H) eS 1 cs64 r40 ∧ Els (up wa.heap.size H) eS 1 cs69 r50 ∧ f 1 = Value.int .i64 a1 ∧ f 2 = v60 ∧ f 3 = Value.pointer (some ⟨b21, 0, none⟩) ∧ f 7 = v62 ∧ f 8 = v66) (by kernel_rfl) S26.sl ?_ ?_
 ·
  intro w29 r30
  have S31 := S26.call r30
  refine FB.t (i := 0) (bs 16 1) rfl (SP.nil S31.sl) rfl (fun w' hw' => (E.fieldAddr tf68_0 rfl)) ?_
  refine FB.t (i := 1) (bs 16 3) rfl (SP.nil S31.sl) rfl (fun w' hw' => (E.load rfl (run_load1 Tryz.isAgg22 (at28.now hw') rfl))) ?_
  refine FB.t (i := 2) (bs 16 7) rfl (SP.nil S31.sl) rfl (fun w' hw' => (E.move (v := v2) rfl)) ?_
  obtain ⟨q34, v36, v37, rfl, at35, h38, h39⟩ := FAt.open p2 hy33
  refine FB.t (i := 3) (bs 16 15) rfl (SP.nil S31.sl) rfl (fun w' hw' => (E.nilCheck rfl)) ?_
  refine FB.t (i := 4) (bs 16 31) rfl (SP.nil S31.sl) rfl (fun w' hw' => (E.fieldAddr tf109_3 rfl)) ?_
  refine FB.t (i := 5) (bs 16 63) rfl (SP.nil S31.sl) rfl (fun w' hw' => (E.load rfl (run_load1 Tryz.isAgg9 ((at35.mono i27).now hw') rfl))) ?_
  refine FB.t (i := 7) (bs 16 191) rfl (SP.nil S31.sl) rfl (fun w' hw' => (E.fieldAddr tf68_1 rfl)) ?_
  refine FB.t (i := 8) (bs 16 447) rfl (SP.nil S31.sl) rfl (fun w' hw' => (E.load rfl (run_load1 Tryz.isAgg22 (at28.now hw') rfl))) ?_
  refine FB.t (i := 9) (bs 16 959) rfl (SP.nil S31.sl) rfl (fun w' hw' => (E.move (v := Value.pointer (some q34)) rfl)) ?_
  refine FB.t (i := 10) (bs 16 1983) rfl (SP.nil S31.sl) rfl (fun w' hw' => (E.nilCheck rfl)) ?_
  refine FB.t (i := 11) (bs 16 4031) rfl (SP.nil S31.sl) rfl (fun w' hw' => (E.fieldAddr tf109_3 rfl)) ?_
  refine FB.t (i := 12) (bs 16 8127) rfl (SP.nil S31.sl) rfl (fun w' hw' => (E.load rfl (run_load1 Tryz.isAgg9 ((at35.mono i27).now hw') rfl))) ?_
  refine FB.all1 (i := 6) (by kernel_rfl) ?_
  ·
   refine FC.call (l' := (bs 16 8191)) rfl (by kernel_rfl) rfl rfl rfl (E.call Tryz.call125 (A2 rfl rfl)) (w_impl_lacking S31.sl v0_0 a0.left (p0_0.mono i27) y32.text hr41) ?_
   rintro e w43 ⟨H42, v46, n47, cs48, rfl, r45, els49⟩
   refine ⟨_, rfl, ?_⟩
   have els49 := els49.mono (up_le S31.size)
   have S44 := S31.join (l' := [.row 9 1 v46 n47 cs48]) r45 rfl
   refine ⟨(SP.nil (Sl.of_inc r45.run.inc S44.sl)), ?_⟩
   refine FB.all1 (i := 13) (by kernel_rfl) ?_
   ·
    refine FC.call (l' := (bs 16 16383)) rfl (by kernel_rfl) rfl rfl rfl (E.call Tryz.call125 (A2 rfl rfl)) (w_impl_lacking S44.sl v0_1 a0.right (p0_1.mono (i27.tr r45.run.inc)) y32.text hr51) ?_
    rintro e w53 ⟨H52, v56, n57, cs58, rfl, r55, els59⟩
    refine ⟨_, rfl, ?_⟩
    have els59 := els59.mono (up_le S44.size)
    have S54 := S44.join (l' := [.row 9 1 v56 n57 cs58, .row 9 1 v46 n47 cs48]) r55 rfl
    refine ⟨(SP.nil (Sl.of_inc (r45.run.inc.tr r55.run.inc) S54.sl)), ?_⟩
    refine FB.t (i := 14) (bs 16 32767) rfl (SP.nil (Sl.of_inc (r45.run.inc.tr r55.run.inc) S54.sl)) rfl (fun w' hw' => (E.assign (v := v46) rfl)) ?_
    refine FB.t (i := 15) (bs 16 65535) rfl (SP.nil (Sl.of_inc (r45.run.inc.tr r55.run.inc) S54.sl)) rfl (fun w' hw' => (E.assign (v := v56) rfl)) ?_
    exact FB.done (by kernel_rfl) ⟨_, _, _, _, _, _, _, _, (S54.sel [1, 0] (by decide) rfl), (r45.run.inc.tr r55.run.inc), (p2.mono ((i27.tr r45.run.inc).tr r55.run.inc)), (els49.mono (up_mono r55.run.inc)), els59, rfl, rfl, rfl, rfl, rfl⟩
 ·
  rintro f75 w74 ⟨H71, v60, v62, n63, cs64, v66, n67, cs69, S72, i73, h61, els65, els70, k76, k77, k78, k79, k80⟩
  refine FW.seq ?_
  refine FW.draw (fun w' => Run w74.heap.size H71 w74 H71 w') (by kernel_rfl) (by kernel_rfl) (run_drew S72.sl) ?_
  refine FD.val rfl rfl rfl (fun w' hw' => (E.move k77)) ?_
  obtain ⟨y81, hy82, hp⟩ := bnd hp
  obtain ⟨q83, v85, v86, rfl, at84, h87, h88⟩ := FAt.open h61 hy82
  refine FD.val rfl rfl rfl (fun w' hw' => (E.nilCheck rfl)) ?_
  refine FD.val rfl rfl rfl (fun w' hw' => (E.fieldAddr tf109_1 rfl)) ?_
  refine FD.val rfl rfl rfl (fun w' hw' => (E.load rfl (run_load1 Tryz.isAgg101 (at84.now (S72.call hw').sl) rfl))) ?_
  refine FD.val rfl rfl rfl (fun w' hw' => (E.move k77)) ?_
  refine FD.val rfl rfl rfl (fun w' hw' => (E.nilCheck rfl)) ?_
  refine FD.val rfl rfl rfl (fun w' hw' => (E.fieldAddr tf109_2 rfl)) ?_
  refine FD.val rfl rfl rfl (fun w' hw' => (E.load rfl (run_load1 Tryz.isAgg101 (at84.now (S72.call hw').sl) rfl))) ?_
  refine FD.val rfl rfl rfl (fun w' hw' => (E.assign (v := v85) rfl)) ?_
  refine FD.val rfl rfl rfl (fun w' hw' => (E.assign (v := v86) rfl)) ?_
  refine FD.nil ?_
  intro w89 r91
  have S90 := S72.call r91
  refine FW.seq (FW.seq (FW.region ?_))
  refine FL.v (E.move k76) ?_
  refine FL.nil (FW.block (FW.seq (FW.region ?_)))
  refine FL.v (E.eql rfl rfl) ?_
  refine FL.v (E.assign (v := Value.bool (a1 == 2)) rfl) ?_
  refine FL.nil ?_
  rcases ifB hp with ⟨c92, hp⟩ | ⟨c92, hp⟩
  ·
   refine FW.condT rfl c92 ?_
   refine FW.seq ?_
   obtain ⟨y96, hy97, hp⟩ := bnd hp
   obtain ⟨r115, hr116, hp⟩ := bnd hp
   refine FW.drawB (Sl H71) (fun f w => ∃ H : GH, ∃ v144 : Value, ∃ n145 : Nat, ∃ cs146 : List Value, St Ha wa H w [.row 68 2 v144 n145 cs146] ∧ Inc H71 H ∧ Els (up wa.heap.size H) eSequent 2 cs146 [(Sequent.mk r40 r115)] ∧ (bl cs146).Nodup ∧ f 6 = v144) (by kernel_rfl) S90.sl ?_ ?_
   ·
    intro w93 r94
    have S95 := S90.call r94
    refine FB.t (i := 0) (bs 12 1) rfl (SP.nil S95.sl) rfl (fun w' hw' => (E.move k79)) ?_
    refine FB.t (i := 1) (bs 12 3) rfl (SP.nil S95.sl) rfl (fun w' hw' => (E.fieldAddr tf68_1 k78)) ?_
    refine FB.t (i := 2) (bs 12 7) rfl (SP.nil S95.sl) rfl (fun w' hw' => (E.load rfl (run_load1 Tryz.isAgg22 ((at28.mono i73).now hw') rfl))) ?_
    refine FB.t (i := 3) (bs 12 15) rfl (SP.nil S95.sl) rfl (fun w' hw' => (E.move (v := v85) rfl)) ?_
    obtain ⟨q98, v100, v101, rfl, at99, h102, h103⟩ := FAt.open h87 hy97
    refine FB.t (i := 4) (bs 12 31) rfl (SP.nil S95.sl) rfl (fun w' hw' => (E.nilCheck rfl)) ?_
    refine FB.t (i := 5) (bs 12 63) rfl (SP.nil S95.sl) rfl (fun w' hw' => (E.fieldAddr tf109_3 rfl)) ?_
    refine FB.t (i := 6) (bs 12 127) rfl (SP.nil S95.sl) rfl (fun w' hw' => (E.load rfl (run_load1 Tryz.isAgg9 (at99.now hw') rfl))) ?_
    refine FB.all1 (i := 7) (by kernel_rfl) ?_
    ·
     obtain ⟨v104, w105, run106, S107⟩ := S95.buildSlice (P := Tryz.prog) te22 [Value.string y96.text] (parts := #[(0, Value.string y96.text)]) (cells := [Value.string y96.text]) rfl (szs_cons rfl szs_nil) (fc_cons rfl fc_nil) (ones_cons rfl ones_nil) (Nat.le_of_ble_eq_true rfl)
     have els108 : Els (up wa.heap.size H71) eS 1 [Value.string y96.text] [y96.text] := (Els.snoc (H := (up wa.heap.size H71)) (E := eS) (k := 1) (c := [Value.string y96.text]) (x := y96.text) Els.nil rfl rfl)
     refine FC.val (l' := (bs 12 255)) rfl (by kernel_rfl) rfl rfl rfl (E.buildSlice (B1 rfl) run106) ?_
     refine ⟨(SP.nil S107.sl), ?_⟩
     refine FB.all1 (i := 8) (by kernel_rfl) ?_
     ·
      obtain ⟨H110, S111, i112, h113, nv114⟩ := S107.sealRowU (i := 0) (l' := [.row 9 1 v62 n63 cs64, .row 9 1 v66 n67 cs69]) rfl els108 (by decide) rfl
      refine FC.call (l' := (bs 12 511)) rfl (by kernel_rfl) rfl rfl rfl (E.call Tryz.call68 (A2 rfl rfl)) (w_impl_with S111.sl v0_1 a0.right (p0_1.mono ((i27.tr i73).tr i112)) v104 [y96.text] (h113.mono upI) hr116) ?_
      rintro e w118 ⟨H117, v123, n124, cs125, rfl, r120, els126⟩
      refine ⟨_, rfl, ?_⟩
      obtain ⟨H121, r120, hU122⟩ := St.lendX i112 S107.sl r120
      have els126 := els126.mono (hU122.tr (up_le S107.size))
      have S119 := S107.join (l' := [.row 9 1 v123 n124 cs125, .row 9 1 v104 1 [Value.string y96.text], .row 9 1 v62 n63 cs64, .row 9 1 v66 n67 cs69]) r120 rfl
      refine ⟨(SP.nil (Sl.of_inc r120.run.inc S119.sl)), ?_⟩
      obtain ⟨H127, S128, i129, h130, nv131⟩ := S119.sealRowU (i := 2) (l' := [.row 9 1 v123 n124 cs125, .row 9 1 v104 1 [Value.string y96.text], .row 9 1 v66 n67 cs69]) rfl (els65.mono (up_mono r120.run.inc)) (by decide) rfl
      obtain ⟨H132, S133, i134, h135, nv136⟩ := S128.sealRowU (i := 0) (l' := [.row 9 1 v104 1 [Value.string y96.text], .row 9 1 v66 n67 cs69]) rfl (els126.mono (up_mono i129)) (by decide) rfl
      refine FB.t (i := 9) (bs 12 1023) rfl (SP.nil (Sl.of_inc r120.run.inc S119.sl)) rfl (fun w' hw' => (E.build (B2 rfl rfl) (run_build _ 68 #[(0, v62), (1, v123)] #[v62, v123] (by obtain ⟨_, _, rfl⟩ := RSl.ln (h130.mono (upI.tr i134)); obtain ⟨_, _, rfl⟩ := RSl.ln (h135.mono upI); rfl)))) ?_
      refine FB.all1 (i := 10) (by kernel_rfl) ?_
      ·
       obtain ⟨v137, w138, run139, S140⟩ := S133.buildSlice (P := Tryz.prog) te172 [Value.agg #[v62, v123]] (parts := #[(0, Value.agg #[v62, v123])]) (cells := [v62, v123]) rfl (szs_cons rfl szs_nil) (fc_cons rfl fc_nil) (ones_cons h130.one (ones_cons h135.one ones_nil)) (Nat.le_of_ble_eq_true rfl)
       have els141 : Els (up wa.heap.size H132) eSequent 2 [v62, v123] [(Sequent.mk r40 r115)] := (Els.snoc (H := (up wa.heap.size H132)) (E := eSequent) (k := 2) (c := [v62, v123]) (x := (Sequent.mk r40 r115)) Els.nil rfl ⟨_, _, rfl, (h130.mono (up_mono i134)), h135⟩)
       have nd142 : (bl [v62, v123]).Nodup := by exact nd_two (New.apart (h130.mono (up_mono (Inc.rfl _))) nv136)
       have nv143 : New H121 [v62, v123] := by exact (New.two nv131 (nv136.anti i129))
       refine FC.val (l' := (bs 12 2047)) rfl (by kernel_rfl) rfl rfl rfl (E.buildSlice (B1 rfl) run139) ?_
       refine ⟨(SP.nil (Sl.of_inc ((r120.run.inc.tr i129).tr i134) S140.sl)), ?_⟩
       refine FB.t (i := 11) (bs 12 4095) rfl (SP.nil (Sl.of_inc ((r120.run.inc.tr i129).tr i134) S140.sl)) rfl (fun w' hw' => (E.assign (v := v137) rfl)) ?_
       exact FB.done (by kernel_rfl) ⟨_, _, _, _, (S140.sel [0] (by decide) rfl), ((r120.run.inc.tr i129).tr i134), els141, nd142, rfl⟩
   ·
    rintro f153 w152 ⟨H149, v144, n145, cs146, S150, i151, els147, nd148, k154⟩
    refine FW.ret ?_
    obtain rfl := Option.some.inj hp
    exact ⟨.inr rfl, res1 rfl k154 ⟨_, _, _, _, rfl, S150, (els147.mono upI)⟩⟩
  ·
   refine FW.condF rfl c92 ?_
   refine FW.seq (FW.region ?_)
   refine FL.v (E.eql rfl rfl) ?_
   refine FL.v (E.assign (v := Value.bool (a1 == 3)) rfl) ?_
   refine FL.nil ?_
   rcases ifB hp with ⟨c155, hp⟩ | ⟨c155, hp⟩
   ·
    refine FW.condT rfl c155 ?_
    refine FW.seq ?_
    obtain ⟨y159, hy160, hp⟩ := bnd hp
    obtain ⟨r178, hr179, hp⟩ := bnd hp
    refine FW.drawB (Sl H71) (fun f w => ∃ H : GH, ∃ v207 : Value, ∃ n208 : Nat, ∃ cs209 : List Value, St Ha wa H w [.row 68 2 v207 n208 cs209] ∧ Inc H71 H ∧ Els (up wa.heap.size H) eSequent 2 cs209 [(Sequent.mk r178 r50)] ∧ (bl cs209).Nodup ∧ f 6 = v207) (by kernel_rfl) S90.sl ?_ ?_
    ·
     intro w156 r157
     have S158 := S90.call r157
     refine FB.t (i := 0) (bs 12 1) rfl (SP.nil S158.sl) rfl (fun w' hw' => (E.fieldAddr tf68_0 k78)) ?_
     refine FB.t (i := 1) (bs 12 3) rfl (SP.nil S158.sl) rfl (fun w' hw' => (E.load rfl (run_load1 Tryz.isAgg22 ((at28.mono i73).now hw') rfl))) ?_
     refine FB.t (i := 2) (bs 12 7) rfl (SP.nil S158.sl) rfl (fun w' hw' => (E.move (v := v85) rfl)) ?_
     obtain ⟨q161, v163, v164, rfl, at162, h165, h166⟩ := FAt.open h87 hy160
     refine FB.t (i := 3) (bs 12 15) rfl (SP.nil S158.sl) rfl (fun w' hw' => (E.nilCheck rfl)) ?_
     refine FB.t (i := 4) (bs 12 31) rfl (SP.nil S158.sl) rfl (fun w' hw' => (E.fieldAddr tf109_3 rfl)) ?_
     refine FB.t (i := 5) (bs 12 63) rfl (SP.nil S158.sl) rfl (fun w' hw' => (E.load rfl (run_load1 Tryz.isAgg9 (at162.now hw') rfl))) ?_
     refine FB.t (i := 8) (bs 12 319) rfl (SP.nil S158.sl) rfl (fun w' hw' => (E.move k80)) ?_
     refine FB.all1 (i := 6) (by kernel_rfl) ?_
     ·
      obtain ⟨v167, w168, run169, S170⟩ := S158.buildSlice (P := Tryz.prog) te22 [Value.string y159.text] (parts := #[(0, Value.string y159.text)]) (cells := [Value.string y159.text]) rfl (szs_cons rfl szs_nil) (fc_cons rfl fc_nil) (ones_cons rfl ones_nil) (Nat.le_of_ble_eq_true rfl)
      have els171 : Els (up wa.heap.size H71) eS 1 [Value.string y159.text] [y159.text] := (Els.snoc (H := (up wa.heap.size H71)) (E := eS) (k := 1) (c := [Value.string y159.text]) (x := y159.text) Els.nil rfl rfl)
      refine FC.val (l' := (bs 12 383)) rfl (by kernel_rfl) rfl rfl rfl (E.buildSlice (B1 rfl) run169) ?_
      refine ⟨(SP.nil S170.sl), ?_⟩
      refine FB.all1 (i := 7) (by kernel_rfl) ?_
      ·
       obtain ⟨H173, S174, i175, h176, nv177⟩ := S170.sealRowU (i := 0) (l' := [.row 9 1 v62 n63 cs64, .row 9 1 v66 n67 cs69]) rfl els171 (by decide) rfl
       refine FC.call (l' := (bs 12 511)) rfl (by kernel_rfl) rfl rfl rfl (E.call Tryz.call68 (A2 rfl rfl)) (w_impl_with S174.sl v0_0 a0.left (p0_0.mono ((i27.tr i73).tr i175)) v167 [y159.text] (h176.mono upI) hr179) ?_
       rintro e w181 ⟨H180, v186, n187, cs188, rfl, r183, els189⟩
       refine ⟨_, rfl, ?_⟩
       obtain ⟨H184, r183, hU185⟩ := St.lendX i175 S170.sl r183
       have els189 := els189.mono (hU185.tr (up_le S170.size))
       have S182 := S170.join (l' := [.row 9 1 v186 n187 cs188, .row 9 1 v167 1 [Value.string y159.text], .row 9 1 v62 n63 cs64, .row 9 1 v66 n67 cs69]) r183 rfl
       refine ⟨(SP.nil (Sl.of_inc r183.run.inc S182.sl)), ?_⟩
       obtain ⟨H190, S191, i192, h193, nv194⟩ := S182.sealRowU (i := 0) (l' := [.row 9 1 v167 1 [Value.string y159.text], .row 9 1 v62 n63 cs64, .row 9 1 v66 n67 cs69]) rfl els189 (by decide) rfl
       obtain ⟨H195, S196, i197, h198, nv199⟩ := S191.sealRowU (i := 2) (l' := [.row 9 1 v167 1 [Value.string y159.text], .row 9 1 v62 n63 cs64]) rfl (els70.mono (up_mono (r183.run.inc.tr i192))) (by decide) rfl
       refine FB.t (i := 9) (bs 12 1023) rfl (SP.nil (Sl.of_inc r183.run.inc S182.sl)) rfl (fun w' hw' => (E.build (B2 rfl rfl) (run_build _ 68 #[(0, v186), (1, v66)] #[v186, v66] (by obtain ⟨_, _, rfl⟩ := RSl.ln (h193.mono (upI.tr i197)); obtain ⟨_, _, rfl⟩ := RSl.ln (h198.mono upI); rfl)))) ?_
       refine FB.all1 (i := 10) (by kernel_rfl) ?_
       ·
        obtain ⟨v200, w201, run202, S203⟩ := S196.buildSlice (P := Tryz.prog) te172 [Value.agg #[v186, v66]] (parts := #[(0, Value.agg #[v186, v66])]) (cells := [v186, v66]) rfl (szs_cons rfl szs_nil) (fc_cons rfl fc_nil) (ones_cons h193.one (ones_cons h198.one ones_nil)) (Nat.le_of_ble_eq_true rfl)
        have els204 : Els (up wa.heap.size H195) eSequent 2 [v186, v66] [(Sequent.mk r178 r50)] := (Els.snoc (H := (up wa.heap.size H195)) (E := eSequent) (k := 2) (c := [v186, v66]) (x := (Sequent.mk r178 r50)) Els.nil rfl ⟨_, _, rfl, (h193.mono (up_mono i197)), h198⟩)
        have nd205 : (bl [v186, v66]).Nodup := by exact nd_two (New.apart (h193.mono (up_mono (Inc.rfl _))) nv199)
        have nv206 : New H184 [v186, v66] := by exact (New.two nv194 (nv199.anti i192))
        refine FC.val (l' := (bs 12 2047)) rfl (by kernel_rfl) rfl rfl rfl (E.buildSlice (B1 rfl) run202) ?_
        refine ⟨(SP.nil (Sl.of_inc ((r183.run.inc.tr i192).tr i197) S203.sl)), ?_⟩
        refine FB.t (i := 11) (bs 12 4095) rfl (SP.nil (Sl.of_inc ((r183.run.inc.tr i192).tr i197) S203.sl)) rfl (fun w' hw' => (E.assign (v := v200) rfl)) ?_
        exact FB.done (by kernel_rfl) ⟨_, _, _, _, (S203.sel [0] (by decide) rfl), ((r183.run.inc.tr i192).tr i197), els204, nd205, rfl⟩
    ·
     rintro f216 w215 ⟨H212, v207, n208, cs209, S213, i214, els210, nd211, k217⟩
     refine FW.ret ?_
     obtain rfl := Option.some.inj hp
     exact ⟨.inr rfl, res1 rfl k217 ⟨_, _, _, _, rfl, S213, (els210.mono upI)⟩⟩
   ·
    refine FW.condF rfl c155 ?_
    refine FW.seq (FW.region ?_)
    refine FL.v (E.eql rfl rfl) ?_
    refine FL.v (E.assign (v := Value.bool (a1 == 4)) rfl) ?_
    refine FL.nil ?_
    rcases ifB hp with ⟨c218, hp⟩ | ⟨c218, hp⟩
    ·
     refine FW.condT rfl c218 ?_
     refine FW.seq ?_
     obtain ⟨y222, hy223, hp⟩ := bnd hp
     obtain ⟨y230, hy231, hp⟩ := bnd hp
     obtain ⟨r253, hr254, hp⟩ := bnd hp
     refine FW.drawB (Sl H71) (fun f w => ∃ H : GH, ∃ v275 : Value, ∃ n276 : Nat, ∃ cs277 : List Value, St Ha wa H w [.row 68 2 v275 n276 cs277] ∧ Inc H71 H ∧ Els H eSequent 2 cs277 [(Sequent.mk r253 a0.right)] ∧ f 6 = v275) (by kernel_rfl) S90.sl ?_ ?_
     ·
      intro w219 r220
      have S221 := S90.call r220
      refine FB.t (i := 0) (bs 16 1) rfl (SP.nil S221.sl) rfl (fun w' hw' => (E.move k79)) ?_
      refine FB.t (i := 1) (bs 16 3) rfl (SP.nil S221.sl) rfl (fun w' hw' => (E.move (v := v85) rfl)) ?_
      obtain ⟨q224, v226, v227, rfl, at225, h228, h229⟩ := FAt.open h87 hy223
      refine FB.t (i := 2) (bs 16 7) rfl (SP.nil S221.sl) rfl (fun w' hw' => (E.nilCheck rfl)) ?_
      refine FB.t (i := 3) (bs 16 15) rfl (SP.nil S221.sl) rfl (fun w' hw' => (E.fieldAddr tf109_3 rfl)) ?_
      refine FB.t (i := 4) (bs 16 31) rfl (SP.nil S221.sl) rfl (fun w' hw' => (E.load rfl (run_load1 Tryz.isAgg9 (at225.now hw') rfl))) ?_
      refine FB.t (i := 5) (bs 16 63) rfl (SP.nil S221.sl) rfl (fun w' hw' => (E.move (v := v86) rfl)) ?_
      obtain ⟨q232, v234, v235, rfl, at233, h236, h237⟩ := FAt.open h88 hy231
      refine FB.t (i := 6) (bs 16 127) rfl (SP.nil S221.sl) rfl (fun w' hw' => (E.nilCheck rfl)) ?_
      refine FB.t (i := 7) (bs 16 255) rfl (SP.nil S221.sl) rfl (fun w' hw' => (E.fieldAddr tf109_3 rfl)) ?_
      refine FB.t (i := 8) (bs 16 511) rfl (SP.nil S221.sl) rfl (fun w' hw' => (E.load rfl (run_load1 Tryz.isAgg9 (at233.now hw') rfl))) ?_
      refine FB.t (i := 11) (bs 16 2559) rfl (SP.nil S221.sl) rfl (fun w' hw' => (E.fieldAddr tf68_1 k78)) ?_
      refine FB.t (i := 12) (bs 16 6655) rfl (SP.nil S221.sl) rfl (fun w' hw' => (E.load rfl (run_load1 Tryz.isAgg22 ((at28.mono i73).now hw') rfl))) ?_
      refine FB.all1 (i := 9) (by kernel_rfl) ?_
      ·
       obtain ⟨v238, w239, run240, S241⟩ := S221.buildSlice (P := Tryz.prog) te22 [Value.string y222.text, Value.string y230.text] (parts := #[(0, Value.string y222.text), (1, Value.string y230.text)]) (cells := [Value.string y222.text, Value.string y230.text]) rfl (szs_cons rfl (szs_cons rfl szs_nil)) (fc_cons rfl (fc_cons rfl fc_nil)) (ones_cons rfl (ones_cons rfl ones_nil)) (Nat.le_of_ble_eq_true rfl)
       have els242 : Els (up wa.heap.size H71) eS 1 [Value.string y222.text, Value.string y230.text] [y222.text, y230.text] := (Els.snoc (H := (up wa.heap.size H71)) (E := eS) (k := 1) (c := [Value.string y230.text]) (x := y230.text) (Els.snoc (H := (up wa.heap.size H71)) (E := eS) (k := 1) (c := [Value.string y222.text]) (x := y222.text) Els.nil rfl rfl) rfl rfl)
       refine FC.val (l' := (bs 16 7167)) rfl (by kernel_rfl) rfl rfl rfl (E.buildSlice (B2 rfl rfl) run240) ?_
       refine ⟨(SP.nil S241.sl), ?_⟩
       refine FB.all1 (i := 10) (by kernel_rfl) ?_
       ·
        obtain ⟨H243, S244, i245, h246, nv247⟩ := S241.sealRowU (i := 1) (l' := [.row 9 1 v238 2 [Value.string y222.text, Value.string y230.text], .row 9 1 v66 n67 cs69]) rfl els65 (by decide) rfl
        obtain ⟨H248, S249, i250, h251, nv252⟩ := S244.sealRowU (i := 0) (l' := [.row 9 1 v66 n67 cs69]) rfl (els242.mono (up_mono i245)) (by decide) rfl
        refine FC.call (l' := (bs 16 8191)) rfl (by kernel_rfl) rfl rfl rfl (E.call Tryz.call68 (A2 rfl rfl)) (w_impl_with S249.sl v62 r40 (h246.mono (upI.tr i250)) v238 [y222.text, y230.text] (h251.mono upI) hr254) ?_
        rintro e w256 ⟨H255, v261, n262, cs263, rfl, r258, els264⟩
        refine ⟨_, rfl, ?_⟩
        obtain ⟨H259, r258, hU260⟩ := St.lendX (i245.tr i250) S241.sl r258
        have els264 := els264.mono (hU260.tr (up_le S241.size))
        have S257 := S241.join (l' := [.row 9 1 v261 n262 cs263, .row 9 1 v238 2 [Value.string y222.text, Value.string y230.text], .row 9 1 v62 n63 cs64, .row 9 1 v66 n67 cs69]) r258 rfl
        refine ⟨(SP.nil (Sl.of_inc r258.run.inc S257.sl)), ?_⟩
        obtain ⟨H265, S266, i267, h268, nv269⟩ := S257.sealRowU (i := 0) (l' := [.row 9 1 v238 2 [Value.string y222.text, Value.string y230.text], .row 9 1 v62 n63 cs64, .row 9 1 v66 n67 cs69]) rfl els264 (by decide) rfl
        refine FB.t (i := 13) (bs 16 16383) rfl (SP.nil (Sl.of_inc r258.run.inc S257.sl)) rfl (fun w' hw' => (E.build (B2 rfl rfl) (run_build _ 68 #[(0, v261), (1, v0_1)] #[v261, v0_1] (by obtain ⟨_, _, rfl⟩ := RSl.ln (h268.mono upI); obtain ⟨_, _, rfl⟩ := RSl.ln (p0_1.mono (((i27.tr i73).tr r258.run.inc).tr i267)); rfl)))) ?_
        refine FB.all1 (i := 14) (by kernel_rfl) ?_
        ·
         obtain ⟨v270, w271, run272, S273⟩ := S266.buildSlice (P := Tryz.prog) te172 [Value.agg #[v261, v0_1]] (parts := #[(0, Value.agg #[v261, v0_1])]) (cells := [v261, v0_1]) rfl (szs_cons rfl szs_nil) (fc_cons rfl fc_nil) (ones_cons h268.one (ones_cons p0_1.one ones_nil)) (Nat.le_of_ble_eq_true rfl)
         have els274 : Els H265 eSequent 2 [v261, v0_1] [(Sequent.mk r253 a0.right)] := (Els.snoc (H := H265) (E := eSequent) (k := 2) (c := [v261, v0_1]) (x := (Sequent.mk r253 a0.right)) Els.nil rfl ⟨_, _, rfl, (h268.mono upI), (p0_1.mono (((i27.tr i73).tr r258.run.inc).tr i267))⟩)
         refine FC.val (l' := (bs 16 32767)) rfl (by kernel_rfl) rfl rfl rfl (E.buildSlice (B1 rfl) run272) ?_
         refine ⟨(SP.nil (Sl.of_inc (r258.run.inc.tr i267) S273.sl)), ?_⟩
         refine FB.t (i := 15) (bs 16 65535) rfl (SP.nil (Sl.of_inc (r258.run.inc.tr i267) S273.sl)) rfl (fun w' hw' => (E.assign (v := v270) rfl)) ?_
         exact FB.done (by kernel_rfl) ⟨_, _, _, _, (S273.sel [0] (by decide) rfl), (r258.run.inc.tr i267), els274, rfl⟩
     ·
      rintro f283 w282 ⟨H279, v275, n276, cs277, S280, i281, els278, k284⟩
      refine FW.ret ?_
      obtain rfl := Option.some.inj hp
      exact ⟨.inr rfl, res1 rfl k284 ⟨_, _, _, _, rfl, S280, els278⟩⟩
    ·
     refine FW.condF rfl c218 ?_
     refine FW.seq (FW.region ?_)
     refine FL.v (E.eql rfl rfl) ?_
     refine FL.v (E.assign (v := Value.bool (a1 == 5)) rfl) ?_
     refine FL.nil ?_
     rcases ifB hp with ⟨c285, hp⟩ | ⟨c285, hp⟩
     ·
      refine FW.condT rfl c285 ?_
      refine FW.seq ?_
      obtain ⟨y289, hy290, hp⟩ := bnd hp
      obtain ⟨r312, hr313, hp⟩ := bnd hp
      obtain ⟨y329, hy330, hp⟩ := bnd hp
      obtain ⟨r352, hr353, hp⟩ := bnd hp
      refine FW.drawB (Sl H71) (fun f w => ∃ H : GH, ∃ v374 : Value, ∃ n375 : Nat, ∃ cs376 : List Value, St Ha wa H w [.row 68 2 v374 n375 cs376] ∧ Inc H71 H ∧ Els H eSequent 2 cs376 [(Sequent.mk a0.left r312), (Sequent.mk a0.left r352)] ∧ f 6 = v374) (by kernel_rfl) S90.sl ?_ ?_
      ·
       intro w286 r287
       have S288 := S90.call r287
       refine FB.t (i := 0) (bs 22 1) rfl (SP.nil S288.sl) rfl (fun w' hw' => (E.fieldAddr tf68_0 k78)) ?_
       refine FB.t (i := 1) (bs 22 3) rfl (SP.nil S288.sl) rfl (fun w' hw' => (E.load rfl (run_load1 Tryz.isAgg22 ((at28.mono i73).now hw') rfl))) ?_
       refine FB.t (i := 2) (bs 22 7) rfl (SP.nil S288.sl) rfl (fun w' hw' => (E.move k80)) ?_
       refine FB.t (i := 3) (bs 22 15) rfl (SP.nil S288.sl) rfl (fun w' hw' => (E.move (v := v85) rfl)) ?_
       obtain ⟨q291, v293, v294, rfl, at292, h295, h296⟩ := FAt.open h87 hy290
       refine FB.t (i := 4) (bs 22 31) rfl (SP.nil S288.sl) rfl (fun w' hw' => (E.nilCheck rfl)) ?_
       refine FB.t (i := 5) (bs 22 63) rfl (SP.nil S288.sl) rfl (fun w' hw' => (E.fieldAddr tf109_3 rfl)) ?_
       refine FB.t (i := 6) (bs 22 127) rfl (SP.nil S288.sl) rfl (fun w' hw' => (E.load rfl (run_load1 Tryz.isAgg9 (at292.now hw') rfl))) ?_
       refine FB.t (i := 10) (bs 22 1151) rfl (SP.nil S288.sl) rfl (fun w' hw' => (E.fieldAddr tf68_0 k78)) ?_
       refine FB.t (i := 11) (bs 22 3199) rfl (SP.nil S288.sl) rfl (fun w' hw' => (E.load rfl (run_load1 Tryz.isAgg22 ((at28.mono i73).now hw') rfl))) ?_
       refine FB.t (i := 12) (bs 22 7295) rfl (SP.nil S288.sl) rfl (fun w' hw' => (E.move k80)) ?_
       refine FB.t (i := 13) (bs 22 15487) rfl (SP.nil S288.sl) rfl (fun w' hw' => (E.move (v := v86) rfl)) ?_
       obtain ⟨q331, v333, v334, rfl, at332, h335, h336⟩ := FAt.open h88 hy330
       refine FB.t (i := 14) (bs 22 31871) rfl (SP.nil S288.sl) rfl (fun w' hw' => (E.nilCheck rfl)) ?_
       refine FB.t (i := 15) (bs 22 64639) rfl (SP.nil S288.sl) rfl (fun w' hw' => (E.fieldAddr tf109_3 rfl)) ?_
       refine FB.t (i := 16) (bs 22 130175) rfl (SP.nil S288.sl) rfl (fun w' hw' => (E.load rfl (run_load1 Tryz.isAgg9 (at332.now hw') rfl))) ?_
       refine FB.all2 (i := 7) (j := 17) (by kernel_rfl) ?_ ?_
       ·
        obtain ⟨v297, w298, run299, S300⟩ := S288.buildSlice (P := Tryz.prog) te22 [Value.string y289.text] (parts := #[(0, Value.string y289.text)]) (cells := [Value.string y289.text]) rfl (szs_cons rfl szs_nil) (fc_cons rfl fc_nil) (ones_cons rfl ones_nil) (Nat.le_of_ble_eq_true rfl)
        have els301 : Els (up wa.heap.size H71) eS 1 [Value.string y289.text] [y289.text] := (Els.snoc (H := (up wa.heap.size H71)) (E := eS) (k := 1) (c := [Value.string y289.text]) (x := y289.text) Els.nil rfl rfl)
        refine FC.val (l' := (bs 22 130303)) rfl (by kernel_rfl) rfl rfl rfl (E.buildSlice (B1 rfl) run299) ?_
        refine ⟨(SP.nil S300.sl), ?_⟩
        refine FB.all2 (i := 8) (j := 17) (by kernel_rfl) ?_ ?_
        ·
         obtain ⟨H302, S303, i304, h305, nv306⟩ := S300.sealRowU (i := 2) (l' := [.row 9 1 v297 1 [Value.string y289.text], .row 9 1 v62 n63 cs64]) rfl els70 (by decide) rfl
         obtain ⟨H307, S308, i309, h310, nv311⟩ := S303.sealRowU (i := 0) (l' := [.row 9 1 v62 n63 cs64]) rfl (els301.mono (up_mono i304)) (by decide) rfl
         refine FC.call (l' := (bs 22 130559)) rfl (by kernel_rfl) rfl rfl rfl (E.call Tryz.call68 (A2 rfl rfl)) (w_impl_with S308.sl v66 r50 (h305.mono (upI.tr i309)) v297 [y289.text] (h310.mono upI) hr313) ?_
         rintro e w315 ⟨H314, v320, n321, cs322, rfl, r317, els323⟩
         refine ⟨_, rfl, ?_⟩
         obtain ⟨H318, r317, hU319⟩ := St.lendX (i304.tr i309) S300.sl r317
         have els323 := els323.mono (hU319.tr (up_le S300.size))
         have S316 := S300.join (l' := [.row 9 1 v320 n321 cs322, .row 9 1 v297 1 [Value.string y289.text], .row 9 1 v62 n63 cs64, .row 9 1 v66 n67 cs69]) r317 rfl
         refine ⟨(SP.nil (Sl.of_inc r317.run.inc S316.sl)), ?_⟩
         obtain ⟨H324, S325, i326, h327, nv328⟩ := S316.sealRowU (i := 0) (l' := [.row 9 1 v297 1 [Value.string y289.text], .row 9 1 v62 n63 cs64, .row 9 1 v66 n67 cs69]) rfl els323 (by decide) rfl
         refine FB.t (i := 9) (bs 22 131071) rfl (SP.nil (Sl.of_inc r317.run.inc S316.sl)) rfl (fun w' hw' => (E.build (B2 rfl rfl) (run_build _ 68 #[(0, v0_0), (1, v320)] #[v0_0, v320] (by obtain ⟨_, _, rfl⟩ := RSl.ln (p0_0.mono (((i27.tr i73).tr r317.run.inc).tr i326)); obtain ⟨_, _, rfl⟩ := RSl.ln (h327.mono upI); rfl)))) ?_
         refine FB.all1 (i := 17) (by kernel_rfl) ?_
         ·
          obtain ⟨v337, w338, run339, S340⟩ := S325.buildSlice (P := Tryz.prog) te22 [Value.string y329.text] (parts := #[(0, Value.string y329.text)]) (cells := [Value.string y329.text]) rfl (szs_cons rfl szs_nil) (fc_cons rfl fc_nil) (ones_cons rfl ones_nil) (Nat.le_of_ble_eq_true rfl)
          have els341 : Els (up wa.heap.size H324) eS 1 [Value.string y329.text] [y329.text] := (Els.snoc (H := (up wa.heap.size H324)) (E := eS) (k := 1) (c := [Value.string y329.text]) (x := y329.text) Els.nil rfl rfl)
          refine FC.val (l' := (bs 22 262143)) rfl (by kernel_rfl) rfl rfl rfl (E.buildSlice (B1 rfl) run339) ?_
          refine ⟨(SP.nil (Sl.of_inc (r317.run.inc.tr i326) S340.sl)), ?_⟩
          refine FB.all1 (i := 18) (by kernel_rfl) ?_
          ·
           obtain ⟨H342, S343, i344, h345, nv346⟩ := S340.sealRowU (i := 3) (l' := [.row 9 1 v337 1 [Value.string y329.text], .row 9 1 v297 1 [Value.string y289.text], .row 9 1 v62 n63 cs64]) rfl (els70.mono (up_mono (r317.run.inc.tr i326))) (by decide) rfl
           obtain ⟨H347, S348, i349, h350, nv351⟩ := S343.sealRowU (i := 0) (l' := [.row 9 1 v297 1 [Value.string y289.text], .row 9 1 v62 n63 cs64]) rfl (els341.mono (up_mono i344)) (by decide) rfl
           refine FC.call (l' := (bs 22 524287)) rfl (by kernel_rfl) rfl rfl rfl (E.call Tryz.call68 (A2 rfl rfl)) (w_impl_with S348.sl v66 r50 (h345.mono (upI.tr i349)) v337 [y329.text] (h350.mono upI) hr353) ?_
           rintro e w355 ⟨H354, v360, n361, cs362, rfl, r357, els363⟩
           refine ⟨_, rfl, ?_⟩
           obtain ⟨H358, r357, hU359⟩ := St.lendX (i344.tr i349) S340.sl r357
           have els363 := els363.mono (hU359.tr (up_le S340.size))
           have S356 := S340.join (l' := [.row 9 1 v360 n361 cs362, .row 9 1 v337 1 [Value.string y329.text], .row 9 1 v297 1 [Value.string y289.text], .row 9 1 v62 n63 cs64, .row 9 1 v66 n67 cs69]) r357 rfl
           refine ⟨(SP.nil (Sl.of_inc ((r317.run.inc.tr i326).tr r357.run.inc) S356.sl)), ?_⟩
           obtain ⟨H364, S365, i366, h367, nv368⟩ := S356.sealRowU (i := 0) (l' := [.row 9 1 v337 1 [Value.string y329.text], .row 9 1 v297 1 [Value.string y289.text], .row 9 1 v62 n63 cs64, .row 9 1 v66 n67 cs69]) rfl els363 (by decide) rfl
           refine FB.t (i := 19) (bs 22 1048575) rfl (SP.nil (Sl.of_inc ((r317.run.inc.tr i326).tr r357.run.inc) S356.sl)) rfl (fun w' hw' => (E.build (B2 rfl rfl) (run_build _ 68 #[(0, v0_0), (1, v360)] #[v0_0, v360] (by obtain ⟨_, _, rfl⟩ := RSl.ln (p0_0.mono (((((i27.tr i73).tr r317.run.inc).tr i326).tr r357.run.inc).tr i366)); obtain ⟨_, _, rfl⟩ := RSl.ln (h367.mono upI); rfl)))) ?_
           refine FB.all1 (i := 20) (by kernel_rfl) ?_
           ·
            obtain ⟨v369, w370, run371, S372⟩ := S365.buildSlice (P := Tryz.prog) te172 [Value.agg #[v0_0, v320], Value.agg #[v0_0, v360]] (parts := #[(0, Value.agg #[v0_0, v320]), (1, Value.agg #[v0_0, v360])]) (cells := [v0_0, v320, v0_0, v360]) rfl (szs_cons rfl (szs_cons rfl szs_nil)) (fc_cons rfl (fc_cons rfl fc_nil)) (ones_cons p0_0.one (ones_cons h327.one (ones_cons p0_0.one (ones_cons h367.one ones_nil)))) (Nat.le_of_ble_eq_true rfl)
            have els373 : Els H364 eSequent 2 [v0_0, v320, v0_0, v360] [(Sequent.mk a0.left r312), (Sequent.mk a0.left r352)] := (Els.snoc (H := H364) (E := eSequent) (k := 2) (c := [v0_0, v360]) (x := (Sequent.mk a0.left r352)) (Els.snoc (H := H364) (E := eSequent) (k := 2) (c := [v0_0, v320]) (x := (Sequent.mk a0.left r312)) Els.nil rfl ⟨_, _, rfl, (p0_0.mono (((((i27.tr i73).tr r317.run.inc).tr i326).tr r357.run.inc).tr i366)), (h327.mono (upI.tr (r357.run.inc.tr i366)))⟩) rfl ⟨_, _, rfl, (p0_0.mono (((((i27.tr i73).tr r317.run.inc).tr i326).tr r357.run.inc).tr i366)), (h367.mono upI)⟩)
            refine FC.val (l' := (bs 22 2097151)) rfl (by kernel_rfl) rfl rfl rfl (E.buildSlice (B2 rfl rfl) run371) ?_
            refine ⟨(SP.nil (Sl.of_inc (((r317.run.inc.tr i326).tr r357.run.inc).tr i366) S372.sl)), ?_⟩
            refine FB.t (i := 21) (bs 22 4194303) rfl (SP.nil (Sl.of_inc (((r317.run.inc.tr i326).tr r357.run.inc).tr i366) S372.sl)) rfl (fun w' hw' => (E.assign (v := v369) rfl)) ?_
            exact FB.done (by kernel_rfl) ⟨_, _, _, _, (S372.sel [0] (by decide) rfl), (((r317.run.inc.tr i326).tr r357.run.inc).tr i366), els373, rfl⟩
        ·
         obtain ⟨v337, w338, run339, S340⟩ := S300.buildSlice (P := Tryz.prog) te22 [Value.string y329.text] (parts := #[(0, Value.string y329.text)]) (cells := [Value.string y329.text]) rfl (szs_cons rfl szs_nil) (fc_cons rfl fc_nil) (ones_cons rfl ones_nil) (Nat.le_of_ble_eq_true rfl)
         have els341 : Els (up wa.heap.size H71) eS 1 [Value.string y329.text] [y329.text] := (Els.snoc (H := (up wa.heap.size H71)) (E := eS) (k := 1) (c := [Value.string y329.text]) (x := y329.text) Els.nil rfl rfl)
         refine FC.val (l' := (bs 22 261375)) rfl (by kernel_rfl) rfl rfl rfl (E.buildSlice (B1 rfl) run339) ?_
         refine ⟨(SP.nil S340.sl), ?_⟩
         refine FB.all1 (i := 8) (by kernel_rfl) ?_
         ·
          obtain ⟨H302, S303, i304, h305, nv306⟩ := S340.sealRowU (i := 3) (l' := [.row 9 1 v337 1 [Value.string y329.text], .row 9 1 v297 1 [Value.string y289.text], .row 9 1 v62 n63 cs64]) rfl els70 (by decide) rfl
          obtain ⟨H307, S308, i309, h310, nv311⟩ := S303.sealRowU (i := 1) (l' := [.row 9 1 v337 1 [Value.string y329.text], .row 9 1 v62 n63 cs64]) rfl (els301.mono (up_mono i304)) (by decide) rfl
          refine FC.call (l' := (bs 22 261631)) rfl (by kernel_rfl) rfl rfl rfl (E.call Tryz.call68 (A2 rfl rfl)) (w_impl_with S308.sl v66 r50 (h305.mono (upI.tr i309)) v297 [y289.text] (h310.mono upI) hr313) ?_
          rintro e w315 ⟨H314, v320, n321, cs322, rfl, r317, els323⟩
          refine ⟨_, rfl, ?_⟩
          obtain ⟨H318, r317, hU319⟩ := St.lendX (i304.tr i309) S340.sl r317
          have els323 := els323.mono (hU319.tr (up_le S340.size))
          have S316 := S340.join (l' := [.row 9 1 v320 n321 cs322, .row 9 1 v337 1 [Value.string y329.text], .row 9 1 v297 1 [Value.string y289.text], .row 9 1 v62 n63 cs64, .row 9 1 v66 n67 cs69]) r317 rfl
          refine ⟨(SP.nil (Sl.of_inc r317.run.inc S316.sl)), ?_⟩
          obtain ⟨H324, S325, i326, h327, nv328⟩ := S316.sealRowU (i := 0) (l' := [.row 9 1 v337 1 [Value.string y329.text], .row 9 1 v297 1 [Value.string y289.text], .row 9 1 v62 n63 cs64, .row 9 1 v66 n67 cs69]) rfl els323 (by decide) rfl
          refine FB.t (i := 9) (bs 22 262143) rfl (SP.nil (Sl.of_inc r317.run.inc S316.sl)) rfl (fun w' hw' => (E.build (B2 rfl rfl) (run_build _ 68 #[(0, v0_0), (1, v320)] #[v0_0, v320] (by obtain ⟨_, _, rfl⟩ := RSl.ln (p0_0.mono (((i27.tr i73).tr r317.run.inc).tr i326)); obtain ⟨_, _, rfl⟩ := RSl.ln (h327.mono upI); rfl)))) ?_
          refine FB.all1 (i := 18) (by kernel_rfl) ?_
          ·
           obtain ⟨H342, S343, i344, h345, nv346⟩ := S325.sealRowU (i := 3) (l' := [.row 9 1 v337 1 [Value.string y329.text], .row 9 1 v297 1 [Value.string y289.text], .row 9 1 v62 n63 cs64]) rfl (els70.mono (up_mono (r317.run.inc.tr i326))) (by decide) rfl
           obtain ⟨H347, S348, i349, h350, nv351⟩ := S343.sealRowU (i := 0) (l' := [.row 9 1 v297 1 [Value.string y289.text], .row 9 1 v62 n63 cs64]) rfl (els341.mono (up_mono ((r317.run.inc.tr i326).tr i344))) (by decide) rfl
           refine FC.call (l' := (bs 22 524287)) rfl (by kernel_rfl) rfl rfl rfl (E.call Tryz.call68 (A2 rfl rfl)) (w_impl_with S348.sl v66 r50 (h345.mono (upI.tr i349)) v337 [y329.text] (h350.mono upI) hr353) ?_
           rintro e w355 ⟨H354, v360, n361, cs362, rfl, r357, els363⟩
           refine ⟨_, rfl, ?_⟩
           obtain ⟨H358, r357, hU359⟩ := St.lendX (i344.tr i349) S325.sl r357
           have els363 := els363.mono (hU359.tr (up_le S325.size))
           have S356 := S325.join (l' := [.row 9 1 v360 n361 cs362, .row 9 1 v337 1 [Value.string y329.text], .row 9 1 v297 1 [Value.string y289.text], .row 9 1 v62 n63 cs64, .row 9 1 v66 n67 cs69]) r357 rfl
           refine ⟨(SP.nil (Sl.of_inc ((r317.run.inc.tr i326).tr r357.run.inc) S356.sl)), ?_⟩
           obtain ⟨H364, S365, i366, h367, nv368⟩ := S356.sealRowU (i := 0) (l' := [.row 9 1 v337 1 [Value.string y329.text], .row 9 1 v297 1 [Value.string y289.text], .row 9 1 v62 n63 cs64, .row 9 1 v66 n67 cs69]) rfl els363 (by decide) rfl
           refine FB.t (i := 19) (bs 22 1048575) rfl (SP.nil (Sl.of_inc ((r317.run.inc.tr i326).tr r357.run.inc) S356.sl)) rfl (fun w' hw' => (E.build (B2 rfl rfl) (run_build _ 68 #[(0, v0_0), (1, v360)] #[v0_0, v360] (by obtain ⟨_, _, rfl⟩ := RSl.ln (p0_0.mono (((((i27.tr i73).tr r317.run.inc).tr i326).tr r357.run.inc).tr i366)); obtain ⟨_, _, rfl⟩ := RSl.ln (h367.mono upI); rfl)))) ?_
           refine FB.all1 (i := 20) (by kernel_rfl) ?_
           ·
            obtain ⟨v369, w370, run371, S372⟩ := S365.buildSlice (P := Tryz.prog) te172 [Value.agg #[v0_0, v320], Value.agg #[v0_0, v360]] (parts := #[(0, Value.agg #[v0_0, v320]), (1, Value.agg #[v0_0, v360])]) (cells := [v0_0, v320, v0_0, v360]) rfl (szs_cons rfl (szs_cons rfl szs_nil)) (fc_cons rfl (fc_cons rfl fc_nil)) (ones_cons p0_0.one (ones_cons h327.one (ones_cons p0_0.one (ones_cons h367.one ones_nil)))) (Nat.le_of_ble_eq_true rfl)
            have els373 : Els H364 eSequent 2 [v0_0, v320, v0_0, v360] [(Sequent.mk a0.left r312), (Sequent.mk a0.left r352)] := (Els.snoc (H := H364) (E := eSequent) (k := 2) (c := [v0_0, v360]) (x := (Sequent.mk a0.left r352)) (Els.snoc (H := H364) (E := eSequent) (k := 2) (c := [v0_0, v320]) (x := (Sequent.mk a0.left r312)) Els.nil rfl ⟨_, _, rfl, (p0_0.mono (((((i27.tr i73).tr r317.run.inc).tr i326).tr r357.run.inc).tr i366)), (h327.mono (upI.tr (r357.run.inc.tr i366)))⟩) rfl ⟨_, _, rfl, (p0_0.mono (((((i27.tr i73).tr r317.run.inc).tr i326).tr r357.run.inc).tr i366)), (h367.mono upI)⟩)
            refine FC.val (l' := (bs 22 2097151)) rfl (by kernel_rfl) rfl rfl rfl (E.buildSlice (B2 rfl rfl) run371) ?_
            refine ⟨(SP.nil (Sl.of_inc (((r317.run.inc.tr i326).tr r357.run.inc).tr i366) S372.sl)), ?_⟩
            refine FB.t (i := 21) (bs 22 4194303) rfl (SP.nil (Sl.of_inc (((r317.run.inc.tr i326).tr r357.run.inc).tr i366) S372.sl)) rfl (fun w' hw' => (E.assign (v := v369) rfl)) ?_
            exact FB.done (by kernel_rfl) ⟨_, _, _, _, (S372.sel [0] (by decide) rfl), (((r317.run.inc.tr i326).tr r357.run.inc).tr i366), els373, rfl⟩
       ·
        obtain ⟨v337, w338, run339, S340⟩ := S288.buildSlice (P := Tryz.prog) te22 [Value.string y329.text] (parts := #[(0, Value.string y329.text)]) (cells := [Value.string y329.text]) rfl (szs_cons rfl szs_nil) (fc_cons rfl fc_nil) (ones_cons rfl ones_nil) (Nat.le_of_ble_eq_true rfl)
        have els341 : Els (up wa.heap.size H71) eS 1 [Value.string y329.text] [y329.text] := (Els.snoc (H := (up wa.heap.size H71)) (E := eS) (k := 1) (c := [Value.string y329.text]) (x := y329.text) Els.nil rfl rfl)
        refine FC.val (l' := (bs 22 261247)) rfl (by kernel_rfl) rfl rfl rfl (E.buildSlice (B1 rfl) run339) ?_
        refine ⟨(SP.nil S340.sl), ?_⟩
        refine FB.all1 (i := 7) (by kernel_rfl) ?_
        ·
         obtain ⟨v297, w298, run299, S300⟩ := S340.buildSlice (P := Tryz.prog) te22 [Value.string y289.text] (parts := #[(0, Value.string y289.text)]) (cells := [Value.string y289.text]) rfl (szs_cons rfl szs_nil) (fc_cons rfl fc_nil) (ones_cons rfl ones_nil) (Nat.le_of_ble_eq_true rfl)
         have els301 : Els (up wa.heap.size H71) eS 1 [Value.string y289.text] [y289.text] := (Els.snoc (H := (up wa.heap.size H71)) (E := eS) (k := 1) (c := [Value.string y289.text]) (x := y289.text) Els.nil rfl rfl)
         refine FC.val (l' := (bs 22 261375)) rfl (by kernel_rfl) rfl rfl rfl (E.buildSlice (B1 rfl) run299) ?_
         refine ⟨(SP.nil S300.sl), ?_⟩
         refine FB.all1 (i := 8) (by kernel_rfl) ?_
         ·
          obtain ⟨H302, S303, i304, h305, nv306⟩ := S300.sealRowU (i := 3) (l' := [.row 9 1 v297 1 [Value.string y289.text], .row 9 1 v337 1 [Value.string y329.text], .row 9 1 v62 n63 cs64]) rfl els70 (by decide) rfl
          obtain ⟨H307, S308, i309, h310, nv311⟩ := S303.sealRowU (i := 0) (l' := [.row 9 1 v337 1 [Value.string y329.text], .row 9 1 v62 n63 cs64]) rfl (els301.mono (up_mono i304)) (by decide) rfl
          refine FC.call (l' := (bs 22 261631)) rfl (by kernel_rfl) rfl rfl rfl (E.call Tryz.call68 (A2 rfl rfl)) (w_impl_with S308.sl v66 r50 (h305.mono (upI.tr i309)) v297 [y289.text] (h310.mono upI) hr313) ?_
          rintro e w315 ⟨H314, v320, n321, cs322, rfl, r317, els323⟩
          refine ⟨_, rfl, ?_⟩
          obtain ⟨H318, r317, hU319⟩ := St.lendX (i304.tr i309) S300.sl r317
          have els323 := els323.mono (hU319.tr (up_le S300.size))
          have S316 := S300.join (l' := [.row 9 1 v320 n321 cs322, .row 9 1 v297 1 [Value.string y289.text], .row 9 1 v337 1 [Value.string y329.text], .row 9 1 v62 n63 cs64, .row 9 1 v66 n67 cs69]) r317 rfl
          refine ⟨(SP.nil (Sl.of_inc r317.run.inc S316.sl)), ?_⟩
          obtain ⟨H324, S325, i326, h327, nv328⟩ := S316.sealRowU (i := 0) (l' := [.row 9 1 v297 1 [Value.string y289.text], .row 9 1 v337 1 [Value.string y329.text], .row 9 1 v62 n63 cs64, .row 9 1 v66 n67 cs69]) rfl els323 (by decide) rfl
          refine FB.t (i := 9) (bs 22 262143) rfl (SP.nil (Sl.of_inc r317.run.inc S316.sl)) rfl (fun w' hw' => (E.build (B2 rfl rfl) (run_build _ 68 #[(0, v0_0), (1, v320)] #[v0_0, v320] (by obtain ⟨_, _, rfl⟩ := RSl.ln (p0_0.mono (((i27.tr i73).tr r317.run.inc).tr i326)); obtain ⟨_, _, rfl⟩ := RSl.ln (h327.mono upI); rfl)))) ?_
          refine FB.all1 (i := 18) (by kernel_rfl) ?_
          ·
           obtain ⟨H342, S343, i344, h345, nv346⟩ := S325.sealRowU (i := 3) (l' := [.row 9 1 v297 1 [Value.string y289.text], .row 9 1 v337 1 [Value.string y329.text], .row 9 1 v62 n63 cs64]) rfl (els70.mono (up_mono (r317.run.inc.tr i326))) (by decide) rfl
           obtain ⟨H347, S348, i349, h350, nv351⟩ := S343.sealRowU (i := 1) (l' := [.row 9 1 v297 1 [Value.string y289.text], .row 9 1 v62 n63 cs64]) rfl (els341.mono (up_mono ((r317.run.inc.tr i326).tr i344))) (by decide) rfl
           refine FC.call (l' := (bs 22 524287)) rfl (by kernel_rfl) rfl rfl rfl (E.call Tryz.call68 (A2 rfl rfl)) (w_impl_with S348.sl v66 r50 (h345.mono (upI.tr i349)) v337 [y329.text] (h350.mono upI) hr353) ?_
           rintro e w355 ⟨H354, v360, n361, cs362, rfl, r357, els363⟩
           refine ⟨_, rfl, ?_⟩
           obtain ⟨H358, r357, hU359⟩ := St.lendX (i344.tr i349) S325.sl r357
           have els363 := els363.mono (hU359.tr (up_le S325.size))
           have S356 := S325.join (l' := [.row 9 1 v360 n361 cs362, .row 9 1 v297 1 [Value.string y289.text], .row 9 1 v337 1 [Value.string y329.text], .row 9 1 v62 n63 cs64, .row 9 1 v66 n67 cs69]) r357 rfl
           refine ⟨(SP.nil (Sl.of_inc ((r317.run.inc.tr i326).tr r357.run.inc) S356.sl)), ?_⟩
           obtain ⟨H364, S365, i366, h367, nv368⟩ := S356.sealRowU (i := 0) (l' := [.row 9 1 v297 1 [Value.string y289.text], .row 9 1 v337 1 [Value.string y329.text], .row 9 1 v62 n63 cs64, .row 9 1 v66 n67 cs69]) rfl els363 (by decide) rfl
           refine FB.t (i := 19) (bs 22 1048575) rfl (SP.nil (Sl.of_inc ((r317.run.inc.tr i326).tr r357.run.inc) S356.sl)) rfl (fun w' hw' => (E.build (B2 rfl rfl) (run_build _ 68 #[(0, v0_0), (1, v360)] #[v0_0, v360] (by obtain ⟨_, _, rfl⟩ := RSl.ln (p0_0.mono (((((i27.tr i73).tr r317.run.inc).tr i326).tr r357.run.inc).tr i366)); obtain ⟨_, _, rfl⟩ := RSl.ln (h367.mono upI); rfl)))) ?_
           refine FB.all1 (i := 20) (by kernel_rfl) ?_
           ·
            obtain ⟨v369, w370, run371, S372⟩ := S365.buildSlice (P := Tryz.prog) te172 [Value.agg #[v0_0, v320], Value.agg #[v0_0, v360]] (parts := #[(0, Value.agg #[v0_0, v320]), (1, Value.agg #[v0_0, v360])]) (cells := [v0_0, v320, v0_0, v360]) rfl (szs_cons rfl (szs_cons rfl szs_nil)) (fc_cons rfl (fc_cons rfl fc_nil)) (ones_cons p0_0.one (ones_cons h327.one (ones_cons p0_0.one (ones_cons h367.one ones_nil)))) (Nat.le_of_ble_eq_true rfl)
            have els373 : Els H364 eSequent 2 [v0_0, v320, v0_0, v360] [(Sequent.mk a0.left r312), (Sequent.mk a0.left r352)] := (Els.snoc (H := H364) (E := eSequent) (k := 2) (c := [v0_0, v360]) (x := (Sequent.mk a0.left r352)) (Els.snoc (H := H364) (E := eSequent) (k := 2) (c := [v0_0, v320]) (x := (Sequent.mk a0.left r312)) Els.nil rfl ⟨_, _, rfl, (p0_0.mono (((((i27.tr i73).tr r317.run.inc).tr i326).tr r357.run.inc).tr i366)), (h327.mono (upI.tr (r357.run.inc.tr i366)))⟩) rfl ⟨_, _, rfl, (p0_0.mono (((((i27.tr i73).tr r317.run.inc).tr i326).tr r357.run.inc).tr i366)), (h367.mono upI)⟩)
            refine FC.val (l' := (bs 22 2097151)) rfl (by kernel_rfl) rfl rfl rfl (E.buildSlice (B2 rfl rfl) run371) ?_
            refine ⟨(SP.nil (Sl.of_inc (((r317.run.inc.tr i326).tr r357.run.inc).tr i366) S372.sl)), ?_⟩
            refine FB.t (i := 21) (bs 22 4194303) rfl (SP.nil (Sl.of_inc (((r317.run.inc.tr i326).tr r357.run.inc).tr i366) S372.sl)) rfl (fun w' hw' => (E.assign (v := v369) rfl)) ?_
            exact FB.done (by kernel_rfl) ⟨_, _, _, _, (S372.sel [0] (by decide) rfl), (((r317.run.inc.tr i326).tr r357.run.inc).tr i366), els373, rfl⟩
      ·
       rintro f382 w381 ⟨H378, v374, n375, cs376, S379, i380, els377, k383⟩
       refine FW.ret ?_
       obtain rfl := Option.some.inj hp
       exact ⟨.inr rfl, res1 rfl k383 ⟨_, _, _, _, rfl, S379, els377⟩⟩
     ·
      refine FW.condF rfl c285 ?_
      refine FW.seq (FW.region ?_)
      refine FL.v (E.eql rfl rfl) ?_
      refine FL.v (E.assign (v := Value.bool (a1 == 6)) rfl) ?_
      refine FL.nil ?_
      rcases ifB hp with ⟨c384, hp⟩ | ⟨c384, hp⟩
      ·
       refine FW.condT rfl c384 ?_
       refine FW.seq ?_
       obtain ⟨y388, hy389, hp⟩ := bnd hp
       obtain ⟨r411, hr412, hp⟩ := bnd hp
       obtain ⟨y428, hy429, hp⟩ := bnd hp
       obtain ⟨r451, hr452, hp⟩ := bnd hp
       refine FW.drawB (Sl H71) (fun f w => ∃ H : GH, ∃ v473 : Value, ∃ n474 : Nat, ∃ cs475 : List Value, St Ha wa H w [.row 68 2 v473 n474 cs475] ∧ Inc H71 H ∧ Els H eSequent 2 cs475 [(Sequent.mk r411 a0.right), (Sequent.mk r451 a0.right)] ∧ f 6 = v473) (by kernel_rfl) S90.sl ?_ ?_
       ·
        intro w385 r386
        have S387 := S90.call r386
        refine FB.t (i := 0) (bs 22 1) rfl (SP.nil S387.sl) rfl (fun w' hw' => (E.move k79)) ?_
        refine FB.t (i := 1) (bs 22 3) rfl (SP.nil S387.sl) rfl (fun w' hw' => (E.move (v := v85) rfl)) ?_
        obtain ⟨q390, v392, v393, rfl, at391, h394, h395⟩ := FAt.open h87 hy389
        refine FB.t (i := 2) (bs 22 7) rfl (SP.nil S387.sl) rfl (fun w' hw' => (E.nilCheck rfl)) ?_
        refine FB.t (i := 3) (bs 22 15) rfl (SP.nil S387.sl) rfl (fun w' hw' => (E.fieldAddr tf109_3 rfl)) ?_
        refine FB.t (i := 4) (bs 22 31) rfl (SP.nil S387.sl) rfl (fun w' hw' => (E.load rfl (run_load1 Tryz.isAgg9 (at391.now hw') rfl))) ?_
        refine FB.t (i := 7) (bs 22 159) rfl (SP.nil S387.sl) rfl (fun w' hw' => (E.fieldAddr tf68_1 k78)) ?_
        refine FB.t (i := 8) (bs 22 415) rfl (SP.nil S387.sl) rfl (fun w' hw' => (E.load rfl (run_load1 Tryz.isAgg22 ((at28.mono i73).now hw') rfl))) ?_
        refine FB.t (i := 10) (bs 22 1439) rfl (SP.nil S387.sl) rfl (fun w' hw' => (E.move k79)) ?_
        refine FB.t (i := 11) (bs 22 3487) rfl (SP.nil S387.sl) rfl (fun w' hw' => (E.move (v := v86) rfl)) ?_
        obtain ⟨q430, v432, v433, rfl, at431, h434, h435⟩ := FAt.open h88 hy429
        refine FB.t (i := 12) (bs 22 7583) rfl (SP.nil S387.sl) rfl (fun w' hw' => (E.nilCheck rfl)) ?_
        refine FB.t (i := 13) (bs 22 15775) rfl (SP.nil S387.sl) rfl (fun w' hw' => (E.fieldAddr tf109_3 rfl)) ?_
        refine FB.t (i := 14) (bs 22 32159) rfl (SP.nil S387.sl) rfl (fun w' hw' => (E.load rfl (run_load1 Tryz.isAgg9 (at431.now hw') rfl))) ?_
        refine FB.t (i := 17) (bs 22 163231) rfl (SP.nil S387.sl) rfl (fun w' hw' => (E.fieldAddr tf68_1 k78)) ?_
        refine FB.t (i := 18) (bs 22 425375) rfl (SP.nil S387.sl) rfl (fun w' hw' => (E.load rfl (run_load1 Tryz.isAgg22 ((at28.mono i73).now hw') rfl))) ?_
        refine FB.all2 (i := 5) (j := 15) (by kernel_rfl) ?_ ?_
        ·
         obtain ⟨v396, w397, run398, S399⟩ := S387.buildSlice (P := Tryz.prog) te22 [Value.string y388.text] (parts := #[(0, Value.string y388.text)]) (cells := [Value.string y388.text]) rfl (szs_cons rfl szs_nil) (fc_cons rfl fc_nil) (ones_cons rfl ones_nil) (Nat.le_of_ble_eq_true rfl)
         have els400 : Els (up wa.heap.size H71) eS 1 [Value.string y388.text] [y388.text] := (Els.snoc (H := (up wa.heap.size H71)) (E := eS) (k := 1) (c := [Value.string y388.text]) (x := y388.text) Els.nil rfl rfl)
         refine FC.val (l' := (bs 22 425407)) rfl (by kernel_rfl) rfl rfl rfl (E.buildSlice (B1 rfl) run398) ?_
         refine ⟨(SP.nil S399.sl), ?_⟩
         refine FB.all2 (i := 6) (j := 15) (by kernel_rfl) ?_ ?_
         ·
          obtain ⟨H401, S402, i403, h404, nv405⟩ := S399.sealRowU (i := 1) (l' := [.row 9 1 v396 1 [Value.string y388.text], .row 9 1 v66 n67 cs69]) rfl els65 (by decide) rfl
          obtain ⟨H406, S407, i408, h409, nv410⟩ := S402.sealRowU (i := 0) (l' := [.row 9 1 v66 n67 cs69]) rfl (els400.mono (up_mono i403)) (by decide) rfl
          refine FC.call (l' := (bs 22 425471)) rfl (by kernel_rfl) rfl rfl rfl (E.call Tryz.call68 (A2 rfl rfl)) (w_impl_with S407.sl v62 r40 (h404.mono (upI.tr i408)) v396 [y388.text] (h409.mono upI) hr412) ?_
          rintro e w414 ⟨H413, v419, n420, cs421, rfl, r416, els422⟩
          refine ⟨_, rfl, ?_⟩
          obtain ⟨H417, r416, hU418⟩ := St.lendX (i403.tr i408) S399.sl r416
          have els422 := els422.mono (hU418.tr (up_le S399.size))
          have S415 := S399.join (l' := [.row 9 1 v419 n420 cs421, .row 9 1 v396 1 [Value.string y388.text], .row 9 1 v62 n63 cs64, .row 9 1 v66 n67 cs69]) r416 rfl
          refine ⟨(SP.nil (Sl.of_inc r416.run.inc S415.sl)), ?_⟩
          obtain ⟨H423, S424, i425, h426, nv427⟩ := S415.sealRowU (i := 0) (l' := [.row 9 1 v396 1 [Value.string y388.text], .row 9 1 v62 n63 cs64, .row 9 1 v66 n67 cs69]) rfl els422 (by decide) rfl
          refine FB.t (i := 9) (bs 22 425983) rfl (SP.nil (Sl.of_inc r416.run.inc S415.sl)) rfl (fun w' hw' => (E.build (B2 rfl rfl) (run_build _ 68 #[(0, v419), (1, v0_1)] #[v419, v0_1] (by obtain ⟨_, _, rfl⟩ := RSl.ln (h426.mono upI); obtain ⟨_, _, rfl⟩ := RSl.ln (p0_1.mono (((i27.tr i73).tr r416.run.inc).tr i425)); rfl)))) ?_
          refine FB.all1 (i := 15) (by kernel_rfl) ?_
          ·
           obtain ⟨v436, w437, run438, S439⟩ := S424.buildSlice (P := Tryz.prog) te22 [Value.string y428.text] (parts := #[(0, Value.string y428.text)]) (cells := [Value.string y428.text]) rfl (szs_cons rfl szs_nil) (fc_cons rfl fc_nil) (ones_cons rfl ones_nil) (Nat.le_of_ble_eq_true rfl)
           have els440 : Els (up wa.heap.size H423) eS 1 [Value.string y428.text] [y428.text] := (Els.snoc (H := (up wa.heap.size H423)) (E := eS) (k := 1) (c := [Value.string y428.text]) (x := y428.text) Els.nil rfl rfl)
           refine FC.val (l' := (bs 22 458751)) rfl (by kernel_rfl) rfl rfl rfl (E.buildSlice (B1 rfl) run438) ?_
           refine ⟨(SP.nil (Sl.of_inc (r416.run.inc.tr i425) S439.sl)), ?_⟩
           refine FB.all1 (i := 16) (by kernel_rfl) ?_
           ·
            obtain ⟨H441, S442, i443, h444, nv445⟩ := S439.sealRowU (i := 2) (l' := [.row 9 1 v436 1 [Value.string y428.text], .row 9 1 v396 1 [Value.string y388.text], .row 9 1 v66 n67 cs69]) rfl (els65.mono (up_mono (r416.run.inc.tr i425))) (by decide) rfl
            obtain ⟨H446, S447, i448, h449, nv450⟩ := S442.sealRowU (i := 0) (l' := [.row 9 1 v396 1 [Value.string y388.text], .row 9 1 v66 n67 cs69]) rfl (els440.mono (up_mono i443)) (by decide) rfl
            refine FC.call (l' := (bs 22 524287)) rfl (by kernel_rfl) rfl rfl rfl (E.call Tryz.call68 (A2 rfl rfl)) (w_impl_with S447.sl v62 r40 (h444.mono (upI.tr i448)) v436 [y428.text] (h449.mono upI) hr452) ?_
            rintro e w454 ⟨H453, v459, n460, cs461, rfl, r456, els462⟩
            refine ⟨_, rfl, ?_⟩
            obtain ⟨H457, r456, hU458⟩ := St.lendX (i443.tr i448) S439.sl r456
            have els462 := els462.mono (hU458.tr (up_le S439.size))
            have S455 := S439.join (l' := [.row 9 1 v459 n460 cs461, .row 9 1 v436 1 [Value.string y428.text], .row 9 1 v396 1 [Value.string y388.text], .row 9 1 v62 n63 cs64, .row 9 1 v66 n67 cs69]) r456 rfl
            refine ⟨(SP.nil (Sl.of_inc ((r416.run.inc.tr i425).tr r456.run.inc) S455.sl)), ?_⟩
            obtain ⟨H463, S464, i465, h466, nv467⟩ := S455.sealRowU (i := 0) (l' := [.row 9 1 v436 1 [Value.string y428.text], .row 9 1 v396 1 [Value.string y388.text], .row 9 1 v62 n63 cs64, .row 9 1 v66 n67 cs69]) rfl els462 (by decide) rfl
            refine FB.t (i := 19) (bs 22 1048575) rfl (SP.nil (Sl.of_inc ((r416.run.inc.tr i425).tr r456.run.inc) S455.sl)) rfl (fun w' hw' => (E.build (B2 rfl rfl) (run_build _ 68 #[(0, v459), (1, v0_1)] #[v459, v0_1] (by obtain ⟨_, _, rfl⟩ := RSl.ln (h466.mono upI); obtain ⟨_, _, rfl⟩ := RSl.ln (p0_1.mono (((((i27.tr i73).tr r416.run.inc).tr i425).tr r456.run.inc).tr i465)); rfl)))) ?_
            refine FB.all1 (i := 20) (by kernel_rfl) ?_
            ·
             obtain ⟨v468, w469, run470, S471⟩ := S464.buildSlice (P := Tryz.prog) te172 [Value.agg #[v419, v0_1], Value.agg #[v459, v0_1]] (parts := #[(0, Value.agg #[v419, v0_1]), (1, Value.agg #[v459, v0_1])]) (cells := [v419, v0_1, v459, v0_1]) rfl (szs_cons rfl (szs_cons rfl szs_nil)) (fc_cons rfl (fc_cons rfl fc_nil)) (ones_cons h426.one (ones_cons p0_1.one (ones_cons h466.one (ones_cons p0_1.one ones_nil)))) (Nat.le_of_ble_eq_true rfl)
             have els472 : Els H463 eSequent 2 [v419, v0_1, v459, v0_1] [(Sequent.mk r411 a0.right), (Sequent.mk r451 a0.right)] := (Els.snoc (H := H463) (E := eSequent) (k := 2) (c := [v459, v0_1]) (x := (Sequent.mk r451 a0.right)) (Els.snoc (H := H463) (E := eSequent) (k := 2) (c := [v419, v0_1]) (x := (Sequent.mk r411 a0.right)) Els.nil rfl ⟨_, _, rfl, (h426.mono (upI.tr (r456.run.inc.tr i465))), (p0_1.mono (((((i27.tr i73).tr r416.run.inc).tr i425).tr r456.run.inc).tr i465))⟩) rfl ⟨_, _, rfl, (h466.mono upI), (p0_1.mono (((((i27.tr i73).tr r416.run.inc).tr i425).tr r456.run.inc).tr i465))⟩)
             refine FC.val (l' := (bs 22 2097151)) rfl (by kernel_rfl) rfl rfl rfl (E.buildSlice (B2 rfl rfl) run470) ?_
             refine ⟨(SP.nil (Sl.of_inc (((r416.run.inc.tr i425).tr r456.run.inc).tr i465) S471.sl)), ?_⟩
             refine FB.t (i := 21) (bs 22 4194303) rfl (SP.nil (Sl.of_inc (((r416.run.inc.tr i425).tr r456.run.inc).tr i465) S471.sl)) rfl (fun w' hw' => (E.assign (v := v468) rfl)) ?_
             exact FB.done (by kernel_rfl) ⟨_, _, _, _, (S471.sel [0] (by decide) rfl), (((r416.run.inc.tr i425).tr r456.run.inc).tr i465), els472, rfl⟩
         ·
          obtain ⟨v436, w437, run438, S439⟩ := S399.buildSlice (P := Tryz.prog) te22 [Value.string y428.text] (parts := #[(0, Value.string y428.text)]) (cells := [Value.string y428.text]) rfl (szs_cons rfl szs_nil) (fc_cons rfl fc_nil) (ones_cons rfl ones_nil) (Nat.le_of_ble_eq_true rfl)
          have els440 : Els (up wa.heap.size H71) eS 1 [Value.string y428.text] [y428.text] := (Els.snoc (H := (up wa.heap.size H71)) (E := eS) (k := 1) (c := [Value.string y428.text]) (x := y428.text) Els.nil rfl rfl)
          refine FC.val (l' := (bs 22 458175)) rfl (by kernel_rfl) rfl rfl rfl (E.buildSlice (B1 rfl) run438) ?_
          refine ⟨(SP.nil S439.sl), ?_⟩
          refine FB.all1 (i := 6) (by kernel_rfl) ?_
          ·
           obtain ⟨H401, S402, i403, h404, nv405⟩ := S439.sealRowU (i := 2) (l' := [.row 9 1 v436 1 [Value.string y428.text], .row 9 1 v396 1 [Value.string y388.text], .row 9 1 v66 n67 cs69]) rfl els65 (by decide) rfl
           obtain ⟨H406, S407, i408, h409, nv410⟩ := S402.sealRowU (i := 1) (l' := [.row 9 1 v436 1 [Value.string y428.text], .row 9 1 v66 n67 cs69]) rfl (els400.mono (up_mono i403)) (by decide) rfl
           refine FC.call (l' := (bs 22 458239)) rfl (by kernel_rfl) rfl rfl rfl (E.call Tryz.call68 (A2 rfl rfl)) (w_impl_with S407.sl v62 r40 (h404.mono (upI.tr i408)) v396 [y388.text] (h409.mono upI) hr412) ?_
           rintro e w414 ⟨H413, v419, n420, cs421, rfl, r416, els422⟩
           refine ⟨_, rfl, ?_⟩
           obtain ⟨H417, r416, hU418⟩ := St.lendX (i403.tr i408) S439.sl r416
           have els422 := els422.mono (hU418.tr (up_le S439.size))
           have S415 := S439.join (l' := [.row 9 1 v419 n420 cs421, .row 9 1 v436 1 [Value.string y428.text], .row 9 1 v396 1 [Value.string y388.text], .row 9 1 v62 n63 cs64, .row 9 1 v66 n67 cs69]) r416 rfl
           refine ⟨(SP.nil (Sl.of_inc r416.run.inc S415.sl)), ?_⟩
           obtain ⟨H423, S424, i425, h426, nv427⟩ := S415.sealRowU (i := 0) (l' := [.row 9 1 v436 1 [Value.string y428.text], .row 9 1 v396 1 [Value.string y388.text], .row 9 1 v62 n63 cs64, .row 9 1 v66 n67 cs69]) rfl els422 (by decide) rfl
           refine FB.t (i := 9) (bs 22 458751) rfl (SP.nil (Sl.of_inc r416.run.inc S415.sl)) rfl (fun w' hw' => (E.build (B2 rfl rfl) (run_build _ 68 #[(0, v419), (1, v0_1)] #[v419, v0_1] (by obtain ⟨_, _, rfl⟩ := RSl.ln (h426.mono upI); obtain ⟨_, _, rfl⟩ := RSl.ln (p0_1.mono (((i27.tr i73).tr r416.run.inc).tr i425)); rfl)))) ?_
           refine FB.all1 (i := 16) (by kernel_rfl) ?_
           ·
            obtain ⟨H441, S442, i443, h444, nv445⟩ := S424.sealRowU (i := 2) (l' := [.row 9 1 v436 1 [Value.string y428.text], .row 9 1 v396 1 [Value.string y388.text], .row 9 1 v66 n67 cs69]) rfl (els65.mono (up_mono (r416.run.inc.tr i425))) (by decide) rfl
            obtain ⟨H446, S447, i448, h449, nv450⟩ := S442.sealRowU (i := 0) (l' := [.row 9 1 v396 1 [Value.string y388.text], .row 9 1 v66 n67 cs69]) rfl (els440.mono (up_mono ((r416.run.inc.tr i425).tr i443))) (by decide) rfl
            refine FC.call (l' := (bs 22 524287)) rfl (by kernel_rfl) rfl rfl rfl (E.call Tryz.call68 (A2 rfl rfl)) (w_impl_with S447.sl v62 r40 (h444.mono (upI.tr i448)) v436 [y428.text] (h449.mono upI) hr452) ?_
            rintro e w454 ⟨H453, v459, n460, cs461, rfl, r456, els462⟩
            refine ⟨_, rfl, ?_⟩
            obtain ⟨H457, r456, hU458⟩ := St.lendX (i443.tr i448) S424.sl r456
            have els462 := els462.mono (hU458.tr (up_le S424.size))
            have S455 := S424.join (l' := [.row 9 1 v459 n460 cs461, .row 9 1 v436 1 [Value.string y428.text], .row 9 1 v396 1 [Value.string y388.text], .row 9 1 v62 n63 cs64, .row 9 1 v66 n67 cs69]) r456 rfl
            refine ⟨(SP.nil (Sl.of_inc ((r416.run.inc.tr i425).tr r456.run.inc) S455.sl)), ?_⟩
            obtain ⟨H463, S464, i465, h466, nv467⟩ := S455.sealRowU (i := 0) (l' := [.row 9 1 v436 1 [Value.string y428.text], .row 9 1 v396 1 [Value.string y388.text], .row 9 1 v62 n63 cs64, .row 9 1 v66 n67 cs69]) rfl els462 (by decide) rfl
            refine FB.t (i := 19) (bs 22 1048575) rfl (SP.nil (Sl.of_inc ((r416.run.inc.tr i425).tr r456.run.inc) S455.sl)) rfl (fun w' hw' => (E.build (B2 rfl rfl) (run_build _ 68 #[(0, v459), (1, v0_1)] #[v459, v0_1] (by obtain ⟨_, _, rfl⟩ := RSl.ln (h466.mono upI); obtain ⟨_, _, rfl⟩ := RSl.ln (p0_1.mono (((((i27.tr i73).tr r416.run.inc).tr i425).tr r456.run.inc).tr i465)); rfl)))) ?_
            refine FB.all1 (i := 20) (by kernel_rfl) ?_
            ·
             obtain ⟨v468, w469, run470, S471⟩ := S464.buildSlice (P := Tryz.prog) te172 [Value.agg #[v419, v0_1], Value.agg #[v459, v0_1]] (parts := #[(0, Value.agg #[v419, v0_1]), (1, Value.agg #[v459, v0_1])]) (cells := [v419, v0_1, v459, v0_1]) rfl (szs_cons rfl (szs_cons rfl szs_nil)) (fc_cons rfl (fc_cons rfl fc_nil)) (ones_cons h426.one (ones_cons p0_1.one (ones_cons h466.one (ones_cons p0_1.one ones_nil)))) (Nat.le_of_ble_eq_true rfl)
             have els472 : Els H463 eSequent 2 [v419, v0_1, v459, v0_1] [(Sequent.mk r411 a0.right), (Sequent.mk r451 a0.right)] := (Els.snoc (H := H463) (E := eSequent) (k := 2) (c := [v459, v0_1]) (x := (Sequent.mk r451 a0.right)) (Els.snoc (H := H463) (E := eSequent) (k := 2) (c := [v419, v0_1]) (x := (Sequent.mk r411 a0.right)) Els.nil rfl ⟨_, _, rfl, (h426.mono (upI.tr (r456.run.inc.tr i465))), (p0_1.mono (((((i27.tr i73).tr r416.run.inc).tr i425).tr r456.run.inc).tr i465))⟩) rfl ⟨_, _, rfl, (h466.mono upI), (p0_1.mono (((((i27.tr i73).tr r416.run.inc).tr i425).tr r456.run.inc).tr i465))⟩)
             refine FC.val (l' := (bs 22 2097151)) rfl (by kernel_rfl) rfl rfl rfl (E.buildSlice (B2 rfl rfl) run470) ?_
             refine ⟨(SP.nil (Sl.of_inc (((r416.run.inc.tr i425).tr r456.run.inc).tr i465) S471.sl)), ?_⟩
             refine FB.t (i := 21) (bs 22 4194303) rfl (SP.nil (Sl.of_inc (((r416.run.inc.tr i425).tr r456.run.inc).tr i465) S471.sl)) rfl (fun w' hw' => (E.assign (v := v468) rfl)) ?_
             exact FB.done (by kernel_rfl) ⟨_, _, _, _, (S471.sel [0] (by decide) rfl), (((r416.run.inc.tr i425).tr r456.run.inc).tr i465), els472, rfl⟩
        ·
         obtain ⟨v436, w437, run438, S439⟩ := S387.buildSlice (P := Tryz.prog) te22 [Value.string y428.text] (parts := #[(0, Value.string y428.text)]) (cells := [Value.string y428.text]) rfl (szs_cons rfl szs_nil) (fc_cons rfl fc_nil) (ones_cons rfl ones_nil) (Nat.le_of_ble_eq_true rfl)
         have els440 : Els (up wa.heap.size H71) eS 1 [Value.string y428.text] [y428.text] := (Els.snoc (H := (up wa.heap.size H71)) (E := eS) (k := 1) (c := [Value.string y428.text]) (x := y428.text) Els.nil rfl rfl)
         refine FC.val (l' := (bs 22 458143)) rfl (by kernel_rfl) rfl rfl rfl (E.buildSlice (B1 rfl) run438) ?_
         refine ⟨(SP.nil S439.sl), ?_⟩
         refine FB.all1 (i := 5) (by kernel_rfl) ?_
         ·
          obtain ⟨v396, w397, run398, S399⟩ := S439.buildSlice (P := Tryz.prog) te22 [Value.string y388.text] (parts := #[(0, Value.string y388.text)]) (cells := [Value.string y388.text]) rfl (szs_cons rfl szs_nil) (fc_cons rfl fc_nil) (ones_cons rfl ones_nil) (Nat.le_of_ble_eq_true rfl)
          have els400 : Els (up wa.heap.size H71) eS 1 [Value.string y388.text] [y388.text] := (Els.snoc (H := (up wa.heap.size H71)) (E := eS) (k := 1) (c := [Value.string y388.text]) (x := y388.text) Els.nil rfl rfl)
          refine FC.val (l' := (bs 22 458175)) rfl (by kernel_rfl) rfl rfl rfl (E.buildSlice (B1 rfl) run398) ?_
          refine ⟨(SP.nil S399.sl), ?_⟩
          refine FB.all1 (i := 6) (by kernel_rfl) ?_
          ·
           obtain ⟨H401, S402, i403, h404, nv405⟩ := S399.sealRowU (i := 2) (l' := [.row 9 1 v396 1 [Value.string y388.text], .row 9 1 v436 1 [Value.string y428.text], .row 9 1 v66 n67 cs69]) rfl els65 (by decide) rfl
           obtain ⟨H406, S407, i408, h409, nv410⟩ := S402.sealRowU (i := 0) (l' := [.row 9 1 v436 1 [Value.string y428.text], .row 9 1 v66 n67 cs69]) rfl (els400.mono (up_mono i403)) (by decide) rfl
           refine FC.call (l' := (bs 22 458239)) rfl (by kernel_rfl) rfl rfl rfl (E.call Tryz.call68 (A2 rfl rfl)) (w_impl_with S407.sl v62 r40 (h404.mono (upI.tr i408)) v396 [y388.text] (h409.mono upI) hr412) ?_
           rintro e w414 ⟨H413, v419, n420, cs421, rfl, r416, els422⟩
           refine ⟨_, rfl, ?_⟩
           obtain ⟨H417, r416, hU418⟩ := St.lendX (i403.tr i408) S399.sl r416
           have els422 := els422.mono (hU418.tr (up_le S399.size))
           have S415 := S399.join (l' := [.row 9 1 v419 n420 cs421, .row 9 1 v396 1 [Value.string y388.text], .row 9 1 v436 1 [Value.string y428.text], .row 9 1 v62 n63 cs64, .row 9 1 v66 n67 cs69]) r416 rfl
           refine ⟨(SP.nil (Sl.of_inc r416.run.inc S415.sl)), ?_⟩
           obtain ⟨H423, S424, i425, h426, nv427⟩ := S415.sealRowU (i := 0) (l' := [.row 9 1 v396 1 [Value.string y388.text], .row 9 1 v436 1 [Value.string y428.text], .row 9 1 v62 n63 cs64, .row 9 1 v66 n67 cs69]) rfl els422 (by decide) rfl
           refine FB.t (i := 9) (bs 22 458751) rfl (SP.nil (Sl.of_inc r416.run.inc S415.sl)) rfl (fun w' hw' => (E.build (B2 rfl rfl) (run_build _ 68 #[(0, v419), (1, v0_1)] #[v419, v0_1] (by obtain ⟨_, _, rfl⟩ := RSl.ln (h426.mono upI); obtain ⟨_, _, rfl⟩ := RSl.ln (p0_1.mono (((i27.tr i73).tr r416.run.inc).tr i425)); rfl)))) ?_
           refine FB.all1 (i := 16) (by kernel_rfl) ?_
           ·
            obtain ⟨H441, S442, i443, h444, nv445⟩ := S424.sealRowU (i := 2) (l' := [.row 9 1 v396 1 [Value.string y388.text], .row 9 1 v436 1 [Value.string y428.text], .row 9 1 v66 n67 cs69]) rfl (els65.mono (up_mono (r416.run.inc.tr i425))) (by decide) rfl
            obtain ⟨H446, S447, i448, h449, nv450⟩ := S442.sealRowU (i := 1) (l' := [.row 9 1 v396 1 [Value.string y388.text], .row 9 1 v66 n67 cs69]) rfl (els440.mono (up_mono ((r416.run.inc.tr i425).tr i443))) (by decide) rfl
            refine FC.call (l' := (bs 22 524287)) rfl (by kernel_rfl) rfl rfl rfl (E.call Tryz.call68 (A2 rfl rfl)) (w_impl_with S447.sl v62 r40 (h444.mono (upI.tr i448)) v436 [y428.text] (h449.mono upI) hr452) ?_
            rintro e w454 ⟨H453, v459, n460, cs461, rfl, r456, els462⟩
            refine ⟨_, rfl, ?_⟩
            obtain ⟨H457, r456, hU458⟩ := St.lendX (i443.tr i448) S424.sl r456
            have els462 := els462.mono (hU458.tr (up_le S424.size))
            have S455 := S424.join (l' := [.row 9 1 v459 n460 cs461, .row 9 1 v396 1 [Value.string y388.text], .row 9 1 v436 1 [Value.string y428.text], .row 9 1 v62 n63 cs64, .row 9 1 v66 n67 cs69]) r456 rfl
            refine ⟨(SP.nil (Sl.of_inc ((r416.run.inc.tr i425).tr r456.run.inc) S455.sl)), ?_⟩
            obtain ⟨H463, S464, i465, h466, nv467⟩ := S455.sealRowU (i := 0) (l' := [.row 9 1 v396 1 [Value.string y388.text], .row 9 1 v436 1 [Value.string y428.text], .row 9 1 v62 n63 cs64, .row 9 1 v66 n67 cs69]) rfl els462 (by decide) rfl
            refine FB.t (i := 19) (bs 22 1048575) rfl (SP.nil (Sl.of_inc ((r416.run.inc.tr i425).tr r456.run.inc) S455.sl)) rfl (fun w' hw' => (E.build (B2 rfl rfl) (run_build _ 68 #[(0, v459), (1, v0_1)] #[v459, v0_1] (by obtain ⟨_, _, rfl⟩ := RSl.ln (h466.mono upI); obtain ⟨_, _, rfl⟩ := RSl.ln (p0_1.mono (((((i27.tr i73).tr r416.run.inc).tr i425).tr r456.run.inc).tr i465)); rfl)))) ?_
            refine FB.all1 (i := 20) (by kernel_rfl) ?_
            ·
             obtain ⟨v468, w469, run470, S471⟩ := S464.buildSlice (P := Tryz.prog) te172 [Value.agg #[v419, v0_1], Value.agg #[v459, v0_1]] (parts := #[(0, Value.agg #[v419, v0_1]), (1, Value.agg #[v459, v0_1])]) (cells := [v419, v0_1, v459, v0_1]) rfl (szs_cons rfl (szs_cons rfl szs_nil)) (fc_cons rfl (fc_cons rfl fc_nil)) (ones_cons h426.one (ones_cons p0_1.one (ones_cons h466.one (ones_cons p0_1.one ones_nil)))) (Nat.le_of_ble_eq_true rfl)
             have els472 : Els H463 eSequent 2 [v419, v0_1, v459, v0_1] [(Sequent.mk r411 a0.right), (Sequent.mk r451 a0.right)] := (Els.snoc (H := H463) (E := eSequent) (k := 2) (c := [v459, v0_1]) (x := (Sequent.mk r451 a0.right)) (Els.snoc (H := H463) (E := eSequent) (k := 2) (c := [v419, v0_1]) (x := (Sequent.mk r411 a0.right)) Els.nil rfl ⟨_, _, rfl, (h426.mono (upI.tr (r456.run.inc.tr i465))), (p0_1.mono (((((i27.tr i73).tr r416.run.inc).tr i425).tr r456.run.inc).tr i465))⟩) rfl ⟨_, _, rfl, (h466.mono upI), (p0_1.mono (((((i27.tr i73).tr r416.run.inc).tr i425).tr r456.run.inc).tr i465))⟩)
             refine FC.val (l' := (bs 22 2097151)) rfl (by kernel_rfl) rfl rfl rfl (E.buildSlice (B2 rfl rfl) run470) ?_
             refine ⟨(SP.nil (Sl.of_inc (((r416.run.inc.tr i425).tr r456.run.inc).tr i465) S471.sl)), ?_⟩
             refine FB.t (i := 21) (bs 22 4194303) rfl (SP.nil (Sl.of_inc (((r416.run.inc.tr i425).tr r456.run.inc).tr i465) S471.sl)) rfl (fun w' hw' => (E.assign (v := v468) rfl)) ?_
             exact FB.done (by kernel_rfl) ⟨_, _, _, _, (S471.sel [0] (by decide) rfl), (((r416.run.inc.tr i425).tr r456.run.inc).tr i465), els472, rfl⟩
       ·
        rintro f481 w480 ⟨H477, v473, n474, cs475, S478, i479, els476, k482⟩
        refine FW.ret ?_
        obtain rfl := Option.some.inj hp
        exact ⟨.inr rfl, res1 rfl k482 ⟨_, _, _, _, rfl, S478, els476⟩⟩
      ·
       refine FW.condF rfl c384 ?_
       refine FW.seq (FW.region ?_)
       refine FL.v (E.eql rfl rfl) ?_
       refine FL.v (E.assign (v := Value.bool (a1 == 7)) rfl) ?_
       refine FL.nil ?_
       rcases ifB hp with ⟨c483, hp⟩ | ⟨c483, hp⟩
       ·
        refine FW.condT rfl c483 ?_
        refine FW.seq ?_
        obtain ⟨y487, hy488, hp⟩ := bnd hp
        obtain ⟨y495, hy496, hp⟩ := bnd hp
        obtain ⟨r518, hr519, hp⟩ := bnd hp
        refine FW.drawB (Sl H71) (fun f w => ∃ H : GH, ∃ v540 : Value, ∃ n541 : Nat, ∃ cs542 : List Value, St Ha wa H w [.row 68 2 v540 n541 cs542] ∧ Inc H71 H ∧ Els H eSequent 2 cs542 [(Sequent.mk a0.left r518)] ∧ f 6 = v540) (by kernel_rfl) S90.sl ?_ ?_
        ·
         intro w484 r485
         have S486 := S90.call r485
         refine FB.t (i := 0) (bs 16 1) rfl (SP.nil S486.sl) rfl (fun w' hw' => (E.fieldAddr tf68_0 k78)) ?_
         refine FB.t (i := 1) (bs 16 3) rfl (SP.nil S486.sl) rfl (fun w' hw' => (E.load rfl (run_load1 Tryz.isAgg22 ((at28.mono i73).now hw') rfl))) ?_
         refine FB.t (i := 2) (bs 16 7) rfl (SP.nil S486.sl) rfl (fun w' hw' => (E.move k80)) ?_
         refine FB.t (i := 3) (bs 16 15) rfl (SP.nil S486.sl) rfl (fun w' hw' => (E.move (v := v85) rfl)) ?_
         obtain ⟨q489, v491, v492, rfl, at490, h493, h494⟩ := FAt.open h87 hy488
         refine FB.t (i := 4) (bs 16 31) rfl (SP.nil S486.sl) rfl (fun w' hw' => (E.nilCheck rfl)) ?_
         refine FB.t (i := 5) (bs 16 63) rfl (SP.nil S486.sl) rfl (fun w' hw' => (E.fieldAddr tf109_3 rfl)) ?_
         refine FB.t (i := 6) (bs 16 127) rfl (SP.nil S486.sl) rfl (fun w' hw' => (E.load rfl (run_load1 Tryz.isAgg9 (at490.now hw') rfl))) ?_
         refine FB.t (i := 7) (bs 16 255) rfl (SP.nil S486.sl) rfl (fun w' hw' => (E.move (v := v86) rfl)) ?_
         obtain ⟨q497, v499, v500, rfl, at498, h501, h502⟩ := FAt.open h88 hy496
         refine FB.t (i := 8) (bs 16 511) rfl (SP.nil S486.sl) rfl (fun w' hw' => (E.nilCheck rfl)) ?_
         refine FB.t (i := 9) (bs 16 1023) rfl (SP.nil S486.sl) rfl (fun w' hw' => (E.fieldAddr tf109_3 rfl)) ?_
         refine FB.t (i := 10) (bs 16 2047) rfl (SP.nil S486.sl) rfl (fun w' hw' => (E.load rfl (run_load1 Tryz.isAgg9 (at498.now hw') rfl))) ?_
         refine FB.all1 (i := 11) (by kernel_rfl) ?_
         ·
          obtain ⟨v503, w504, run505, S506⟩ := S486.buildSlice (P := Tryz.prog) te22 [Value.string y487.text, Value.string y495.text] (parts := #[(0, Value.string y487.text), (1, Value.string y495.text)]) (cells := [Value.string y487.text, Value.string y495.text]) rfl (szs_cons rfl (szs_cons rfl szs_nil)) (fc_cons rfl (fc_cons rfl fc_nil)) (ones_cons rfl (ones_cons rfl ones_nil)) (Nat.le_of_ble_eq_true rfl)
          have els507 : Els (up wa.heap.size H71) eS 1 [Value.string y487.text, Value.string y495.text] [y487.text, y495.text] := (Els.snoc (H := (up wa.heap.size H71)) (E := eS) (k := 1) (c := [Value.string y495.text]) (x := y495.text) (Els.snoc (H := (up wa.heap.size H71)) (E := eS) (k := 1) (c := [Value.string y487.text]) (x := y487.text) Els.nil rfl rfl) rfl rfl)
          refine FC.val (l' := (bs 16 4095)) rfl (by kernel_rfl) rfl rfl rfl (E.buildSlice (B2 rfl rfl) run505) ?_
          refine ⟨(SP.nil S506.sl), ?_⟩
          refine FB.all1 (i := 12) (by kernel_rfl) ?_
          ·
           obtain ⟨H508, S509, i510, h511, nv512⟩ := S506.sealRowU (i := 2) (l' := [.row 9 1 v503 2 [Value.string y487.text, Value.string y495.text], .row 9 1 v62 n63 cs64]) rfl els70 (by decide) rfl
           obtain ⟨H513, S514, i515, h516, nv517⟩ := S509.sealRowU (i := 0) (l' := [.row 9 1 v62 n63 cs64]) rfl (els507.mono (up_mono i510)) (by decide) rfl
           refine FC.call (l' := (bs 16 8191)) rfl (by kernel_rfl) rfl rfl rfl (E.call Tryz.call68 (A2 rfl rfl)) (w_impl_with S514.sl v66 r50 (h511.mono (upI.tr i515)) v503 [y487.text, y495.text] (h516.mono upI) hr519) ?_
           rintro e w521 ⟨H520, v526, n527, cs528, rfl, r523, els529⟩
           refine ⟨_, rfl, ?_⟩
           obtain ⟨H524, r523, hU525⟩ := St.lendX (i510.tr i515) S506.sl r523
           have els529 := els529.mono (hU525.tr (up_le S506.size))
           have S522 := S506.join (l' := [.row 9 1 v526 n527 cs528, .row 9 1 v503 2 [Value.string y487.text, Value.string y495.text], .row 9 1 v62 n63 cs64, .row 9 1 v66 n67 cs69]) r523 rfl
           refine ⟨(SP.nil (Sl.of_inc r523.run.inc S522.sl)), ?_⟩
           obtain ⟨H530, S531, i532, h533, nv534⟩ := S522.sealRowU (i := 0) (l' := [.row 9 1 v503 2 [Value.string y487.text, Value.string y495.text], .row 9 1 v62 n63 cs64, .row 9 1 v66 n67 cs69]) rfl els529 (by decide) rfl
           refine FB.t (i := 13) (bs 16 16383) rfl (SP.nil (Sl.of_inc r523.run.inc S522.sl)) rfl (fun w' hw' => (E.build (B2 rfl rfl) (run_build _ 68 #[(0, v0_0), (1, v526)] #[v0_0, v526] (by obtain ⟨_, _, rfl⟩ := RSl.ln (p0_0.mono (((i27.tr i73).tr r523.run.inc).tr i532)); obtain ⟨_, _, rfl⟩ := RSl.ln (h533.mono upI); rfl)))) ?_
           refine FB.all1 (i := 14) (by kernel_rfl) ?_
           ·
            obtain ⟨v535, w536, run537, S538⟩ := S531.buildSlice (P := Tryz.prog) te172 [Value.agg #[v0_0, v526]] (parts := #[(0, Value.agg #[v0_0, v526])]) (cells := [v0_0, v526]) rfl (szs_cons rfl szs_nil) (fc_cons rfl fc_nil) (ones_cons p0_0.one (ones_cons h533.one ones_nil)) (Nat.le_of_ble_eq_true rfl)
            have els539 : Els H530 eSequent 2 [v0_0, v526] [(Sequent.mk a0.left r518)] := (Els.snoc (H := H530) (E := eSequent) (k := 2) (c := [v0_0, v526]) (x := (Sequent.mk a0.left r518)) Els.nil rfl ⟨_, _, rfl, (p0_0.mono (((i27.tr i73).tr r523.run.inc).tr i532)), (h533.mono upI)⟩)
            refine FC.val (l' := (bs 16 32767)) rfl (by kernel_rfl) rfl rfl rfl (E.buildSlice (B1 rfl) run537) ?_
            refine ⟨(SP.nil (Sl.of_inc (r523.run.inc.tr i532) S538.sl)), ?_⟩
            refine FB.t (i := 15) (bs 16 65535) rfl (SP.nil (Sl.of_inc (r523.run.inc.tr i532) S538.sl)) rfl (fun w' hw' => (E.assign (v := v535) rfl)) ?_
            exact FB.done (by kernel_rfl) ⟨_, _, _, _, (S538.sel [0] (by decide) rfl), (r523.run.inc.tr i532), els539, rfl⟩
        ·
         rintro f548 w547 ⟨H544, v540, n541, cs542, S545, i546, els543, k549⟩
         refine FW.ret ?_
         obtain rfl := Option.some.inj hp
         exact ⟨.inr rfl, res1 rfl k549 ⟨_, _, _, _, rfl, S545, els543⟩⟩
       ·
        refine FW.condF rfl c483 ?_
        refine FW.seq (FW.region ?_)
        refine FL.v (E.eql rfl rfl) ?_
        refine FL.v (E.assign (v := Value.bool (a1 == 8)) rfl) ?_
        refine FL.nil ?_
        rcases ifB hp with ⟨c550, hp⟩ | ⟨c550, hp⟩
        ·
         refine FW.condT rfl c550 ?_
         refine FW.seq ?_
         obtain ⟨y554, hy555, hp⟩ := bnd hp
         obtain ⟨r572, hr573, hp⟩ := bnd hp
         obtain ⟨y594, hy595, hp⟩ := bnd hp
         obtain ⟨r612, hr613, hp⟩ := bnd hp
         refine FW.drawB (Sl H71) (fun f w => ∃ H : GH, ∃ v634 : Value, ∃ n635 : Nat, ∃ cs636 : List Value, St Ha wa H w [.row 68 2 v634 n635 cs636] ∧ Inc H71 H ∧ Els H eSequent 2 cs636 [(Sequent.mk r40 r572), (Sequent.mk r612 a0.right)] ∧ f 6 = v634) (by kernel_rfl) S90.sl ?_ ?_
         ·
          intro w551 r552
          have S553 := S90.call r552
          refine FB.t (i := 0) (bs 22 1) rfl (SP.nil S553.sl) rfl (fun w' hw' => (E.move k79)) ?_
          refine FB.t (i := 1) (bs 22 3) rfl (SP.nil S553.sl) rfl (fun w' hw' => (E.fieldAddr tf68_1 k78)) ?_
          refine FB.t (i := 2) (bs 22 7) rfl (SP.nil S553.sl) rfl (fun w' hw' => (E.load rfl (run_load1 Tryz.isAgg22 ((at28.mono i73).now hw') rfl))) ?_
          refine FB.t (i := 3) (bs 22 15) rfl (SP.nil S553.sl) rfl (fun w' hw' => (E.move (v := v85) rfl)) ?_
          obtain ⟨q556, v558, v559, rfl, at557, h560, h561⟩ := FAt.open h87 hy555
          refine FB.t (i := 4) (bs 22 31) rfl (SP.nil S553.sl) rfl (fun w' hw' => (E.nilCheck rfl)) ?_
          refine FB.t (i := 5) (bs 22 63) rfl (SP.nil S553.sl) rfl (fun w' hw' => (E.fieldAddr tf109_3 rfl)) ?_
          refine FB.t (i := 6) (bs 22 127) rfl (SP.nil S553.sl) rfl (fun w' hw' => (E.load rfl (run_load1 Tryz.isAgg9 (at557.now hw') rfl))) ?_
          refine FB.t (i := 10) (bs 22 1151) rfl (SP.nil S553.sl) rfl (fun w' hw' => (E.move k79)) ?_
          refine FB.t (i := 11) (bs 22 3199) rfl (SP.nil S553.sl) rfl (fun w' hw' => (E.move (v := v86) rfl)) ?_
          obtain ⟨q596, v598, v599, rfl, at597, h600, h601⟩ := FAt.open h88 hy595
          refine FB.t (i := 12) (bs 22 7295) rfl (SP.nil S553.sl) rfl (fun w' hw' => (E.nilCheck rfl)) ?_
          refine FB.t (i := 13) (bs 22 15487) rfl (SP.nil S553.sl) rfl (fun w' hw' => (E.fieldAddr tf109_3 rfl)) ?_
          refine FB.t (i := 14) (bs 22 31871) rfl (SP.nil S553.sl) rfl (fun w' hw' => (E.load rfl (run_load1 Tryz.isAgg9 (at597.now hw') rfl))) ?_
          refine FB.t (i := 17) (bs 22 162943) rfl (SP.nil S553.sl) rfl (fun w' hw' => (E.fieldAddr tf68_1 k78)) ?_
          refine FB.t (i := 18) (bs 22 425087) rfl (SP.nil S553.sl) rfl (fun w' hw' => (E.load rfl (run_load1 Tryz.isAgg22 ((at28.mono i73).now hw') rfl))) ?_
          refine FB.all2 (i := 7) (j := 15) (by kernel_rfl) ?_ ?_
          ·
           obtain ⟨v562, w563, run564, S565⟩ := S553.buildSlice (P := Tryz.prog) te22 [Value.string y554.text] (parts := #[(0, Value.string y554.text)]) (cells := [Value.string y554.text]) rfl (szs_cons rfl szs_nil) (fc_cons rfl fc_nil) (ones_cons rfl ones_nil) (Nat.le_of_ble_eq_true rfl)
           have els566 : Els (up wa.heap.size H71) eS 1 [Value.string y554.text] [y554.text] := (Els.snoc (H := (up wa.heap.size H71)) (E := eS) (k := 1) (c := [Value.string y554.text]) (x := y554.text) Els.nil rfl rfl)
           refine FC.val (l' := (bs 22 425215)) rfl (by kernel_rfl) rfl rfl rfl (E.buildSlice (B1 rfl) run564) ?_
           refine ⟨(SP.nil S565.sl), ?_⟩
           refine FB.all2 (i := 8) (j := 15) (by kernel_rfl) ?_ ?_
           ·
            obtain ⟨H567, S568, i569, h570, nv571⟩ := S565.sealRowU (i := 0) (l' := [.row 9 1 v62 n63 cs64, .row 9 1 v66 n67 cs69]) rfl els566 (by decide) rfl
            refine FC.call (l' := (bs 22 425471)) rfl (by kernel_rfl) rfl rfl rfl (E.call Tryz.call68 (A2 rfl rfl)) (w_impl_with S568.sl v0_1 a0.right (p0_1.mono ((i27.tr i73).tr i569)) v562 [y554.text] (h570.mono upI) hr573) ?_
            rintro e w575 ⟨H574, v580, n581, cs582, rfl, r577, els583⟩
            refine ⟨_, rfl, ?_⟩
            obtain ⟨H578, r577, hU579⟩ := St.lendX i569 S565.sl r577
            have els583 := els583.mono (hU579.tr (up_le S565.size))
            have S576 := S565.join (l' := [.row 9 1 v580 n581 cs582, .row 9 1 v562 1 [Value.string y554.text], .row 9 1 v62 n63 cs64, .row 9 1 v66 n67 cs69]) r577 rfl
            refine ⟨(SP.nil (Sl.of_inc r577.run.inc S576.sl)), ?_⟩
            obtain ⟨H584, S585, i586, h587, nv588⟩ := S576.sealRowU (i := 2) (l' := [.row 9 1 v580 n581 cs582, .row 9 1 v562 1 [Value.string y554.text], .row 9 1 v66 n67 cs69]) rfl (els65.mono (up_mono r577.run.inc)) (by decide) rfl
            obtain ⟨H589, S590, i591, h592, nv593⟩ := S585.sealRowU (i := 0) (l' := [.row 9 1 v562 1 [Value.string y554.text], .row 9 1 v66 n67 cs69]) rfl (els583.mono (up_mono i586)) (by decide) rfl
            refine FB.t (i := 9) (bs 22 425983) rfl (SP.nil (Sl.of_inc r577.run.inc S576.sl)) rfl (fun w' hw' => (E.build (B2 rfl rfl) (run_build _ 68 #[(0, v62), (1, v580)] #[v62, v580] (by obtain ⟨_, _, rfl⟩ := RSl.ln (h587.mono (upI.tr i591)); obtain ⟨_, _, rfl⟩ := RSl.ln (h592.mono upI); rfl)))) ?_
            refine FB.all1 (i := 15) (by kernel_rfl) ?_
            ·
             obtain ⟨v602, w603, run604, S605⟩ := S590.buildSlice (P := Tryz.prog) te22 [Value.string y594.text] (parts := #[(0, Value.string y594.text)]) (cells := [Value.string y594.text]) rfl (szs_cons rfl szs_nil) (fc_cons rfl fc_nil) (ones_cons rfl ones_nil) (Nat.le_of_ble_eq_true rfl)
             have els606 : Els (up wa.heap.size H589) eS 1 [Value.string y594.text] [y594.text] := (Els.snoc (H := (up wa.heap.size H589)) (E := eS) (k := 1) (c := [Value.string y594.text]) (x := y594.text) Els.nil rfl rfl)
             refine FC.val (l' := (bs 22 458751)) rfl (by kernel_rfl) rfl rfl rfl (E.buildSlice (B1 rfl) run604) ?_
             refine ⟨(SP.nil (Sl.of_inc ((r577.run.inc.tr i586).tr i591) S605.sl)), ?_⟩
             refine FB.all1 (i := 16) (by kernel_rfl) ?_
             ·
              obtain ⟨H607, S608, i609, h610, nv611⟩ := S605.sealRowU (i := 0) (l' := [.row 9 1 v562 1 [Value.string y554.text], .row 9 1 v66 n67 cs69]) rfl els606 (by decide) rfl
              refine FC.call (l' := (bs 22 524287)) rfl (by kernel_rfl) rfl rfl rfl (E.call Tryz.call68 (A2 rfl rfl)) (w_impl_with S608.sl v62 r40 (h587.mono (upI.tr (i591.tr i609))) v602 [y594.text] (h610.mono upI) hr613) ?_
              rintro e w615 ⟨H614, v620, n621, cs622, rfl, r617, els623⟩
              refine ⟨_, rfl, ?_⟩
              obtain ⟨H618, r617, hU619⟩ := St.lendX i609 S605.sl r617
              have els623 := els623.mono (hU619.tr (up_le S605.size))
              have S616 := S605.join (l' := [.row 9 1 v620 n621 cs622, .row 9 1 v602 1 [Value.string y594.text], .row 9 1 v562 1 [Value.string y554.text], .row 9 1 v66 n67 cs69]) r617 rfl
              refine ⟨(SP.nil (Sl.of_inc (((r577.run.inc.tr i586).tr i591).tr r617.run.inc) S616.sl)), ?_⟩
              obtain ⟨H624, S625, i626, h627, nv628⟩ := S616.sealRowU (i := 0) (l' := [.row 9 1 v602 1 [Value.string y594.text], .row 9 1 v562 1 [Value.string y554.text], .row 9 1 v66 n67 cs69]) rfl els623 (by decide) rfl
              refine FB.t (i := 19) (bs 22 1048575) rfl (SP.nil (Sl.of_inc (((r577.run.inc.tr i586).tr i591).tr r617.run.inc) S616.sl)) rfl (fun w' hw' => (E.build (B2 rfl rfl) (run_build _ 68 #[(0, v620), (1, v0_1)] #[v620, v0_1] (by obtain ⟨_, _, rfl⟩ := RSl.ln (h627.mono upI); obtain ⟨_, _, rfl⟩ := RSl.ln (p0_1.mono ((((((i27.tr i73).tr r577.run.inc).tr i586).tr i591).tr r617.run.inc).tr i626)); rfl)))) ?_
              refine FB.all1 (i := 20) (by kernel_rfl) ?_
              ·
               obtain ⟨v629, w630, run631, S632⟩ := S625.buildSlice (P := Tryz.prog) te172 [Value.agg #[v62, v580], Value.agg #[v620, v0_1]] (parts := #[(0, Value.agg #[v62, v580]), (1, Value.agg #[v620, v0_1])]) (cells := [v62, v580, v620, v0_1]) rfl (szs_cons rfl (szs_cons rfl szs_nil)) (fc_cons rfl (fc_cons rfl fc_nil)) (ones_cons h587.one (ones_cons h592.one (ones_cons h627.one (ones_cons p0_1.one ones_nil)))) (Nat.le_of_ble_eq_true rfl)
               have els633 : Els H624 eSequent 2 [v62, v580, v620, v0_1] [(Sequent.mk r40 r572), (Sequent.mk r612 a0.right)] := (Els.snoc (H := H624) (E := eSequent) (k := 2) (c := [v620, v0_1]) (x := (Sequent.mk r612 a0.right)) (Els.snoc (H := H624) (E := eSequent) (k := 2) (c := [v62, v580]) (x := (Sequent.mk r40 r572)) Els.nil rfl ⟨_, _, rfl, (h587.mono (upI.tr ((i591.tr r617.run.inc).tr i626))), (h592.mono (upI.tr (r617.run.inc.tr i626)))⟩) rfl ⟨_, _, rfl, (h627.mono upI), (p0_1.mono ((((((i27.tr i73).tr r577.run.inc).tr i586).tr i591).tr r617.run.inc).tr i626))⟩)
               refine FC.val (l' := (bs 22 2097151)) rfl (by kernel_rfl) rfl rfl rfl (E.buildSlice (B2 rfl rfl) run631) ?_
               refine ⟨(SP.nil (Sl.of_inc ((((r577.run.inc.tr i586).tr i591).tr r617.run.inc).tr i626) S632.sl)), ?_⟩
               refine FB.t (i := 21) (bs 22 4194303) rfl (SP.nil (Sl.of_inc ((((r577.run.inc.tr i586).tr i591).tr r617.run.inc).tr i626) S632.sl)) rfl (fun w' hw' => (E.assign (v := v629) rfl)) ?_
               exact FB.done (by kernel_rfl) ⟨_, _, _, _, (S632.sel [0] (by decide) rfl), ((((r577.run.inc.tr i586).tr i591).tr r617.run.inc).tr i626), els633, rfl⟩
           ·
            obtain ⟨v602, w603, run604, S605⟩ := S565.buildSlice (P := Tryz.prog) te22 [Value.string y594.text] (parts := #[(0, Value.string y594.text)]) (cells := [Value.string y594.text]) rfl (szs_cons rfl szs_nil) (fc_cons rfl fc_nil) (ones_cons rfl ones_nil) (Nat.le_of_ble_eq_true rfl)
            have els606 : Els (up wa.heap.size H71) eS 1 [Value.string y594.text] [y594.text] := (Els.snoc (H := (up wa.heap.size H71)) (E := eS) (k := 1) (c := [Value.string y594.text]) (x := y594.text) Els.nil rfl rfl)
            refine FC.val (l' := (bs 22 457983)) rfl (by kernel_rfl) rfl rfl rfl (E.buildSlice (B1 rfl) run604) ?_
            refine ⟨(SP.nil S605.sl), ?_⟩
            refine FB.all1 (i := 8) (by kernel_rfl) ?_
            ·
             obtain ⟨H567, S568, i569, h570, nv571⟩ := S605.sealRowU (i := 1) (l' := [.row 9 1 v602 1 [Value.string y594.text], .row 9 1 v62 n63 cs64, .row 9 1 v66 n67 cs69]) rfl els566 (by decide) rfl
             refine FC.call (l' := (bs 22 458239)) rfl (by kernel_rfl) rfl rfl rfl (E.call Tryz.call68 (A2 rfl rfl)) (w_impl_with S568.sl v0_1 a0.right (p0_1.mono ((i27.tr i73).tr i569)) v562 [y554.text] (h570.mono upI) hr573) ?_
             rintro e w575 ⟨H574, v580, n581, cs582, rfl, r577, els583⟩
             refine ⟨_, rfl, ?_⟩
             obtain ⟨H578, r577, hU579⟩ := St.lendX i569 S605.sl r577
             have els583 := els583.mono (hU579.tr (up_le S605.size))
             have S576 := S605.join (l' := [.row 9 1 v580 n581 cs582, .row 9 1 v602 1 [Value.string y594.text], .row 9 1 v562 1 [Value.string y554.text], .row 9 1 v62 n63 cs64, .row 9 1 v66 n67 cs69]) r577 rfl
             refine ⟨(SP.nil (Sl.of_inc r577.run.inc S576.sl)), ?_⟩
             obtain ⟨H584, S585, i586, h587, nv588⟩ := S576.sealRowU (i := 3) (l' := [.row 9 1 v580 n581 cs582, .row 9 1 v602 1 [Value.string y594.text], .row 9 1 v562 1 [Value.string y554.text], .row 9 1 v66 n67 cs69]) rfl (els65.mono (up_mono r577.run.inc)) (by decide) rfl
             obtain ⟨H589, S590, i591, h592, nv593⟩ := S585.sealRowU (i := 0) (l' := [.row 9 1 v602 1 [Value.string y594.text], .row 9 1 v562 1 [Value.string y554.text], .row 9 1 v66 n67 cs69]) rfl (els583.mono (up_mono i586)) (by decide) rfl
             refine FB.t (i := 9) (bs 22 458751) rfl (SP.nil (Sl.of_inc r577.run.inc S576.sl)) rfl (fun w' hw' => (E.build (B2 rfl rfl) (run_build _ 68 #[(0, v62), (1, v580)] #[v62, v580] (by obtain ⟨_, _, rfl⟩ := RSl.ln (h587.mono (upI.tr i591)); obtain ⟨_, _, rfl⟩ := RSl.ln (h592.mono upI); rfl)))) ?_
             refine FB.all1 (i := 16) (by kernel_rfl) ?_
             ·
              obtain ⟨H607, S608, i609, h610, nv611⟩ := S590.sealRowU (i := 0) (l' := [.row 9 1 v562 1 [Value.string y554.text], .row 9 1 v66 n67 cs69]) rfl (els606.mono (up_mono ((r577.run.inc.tr i586).tr i591))) (by decide) rfl
              refine FC.call (l' := (bs 22 524287)) rfl (by kernel_rfl) rfl rfl rfl (E.call Tryz.call68 (A2 rfl rfl)) (w_impl_with S608.sl v62 r40 (h587.mono (upI.tr (i591.tr i609))) v602 [y594.text] (h610.mono upI) hr613) ?_
              rintro e w615 ⟨H614, v620, n621, cs622, rfl, r617, els623⟩
              refine ⟨_, rfl, ?_⟩
              obtain ⟨H618, r617, hU619⟩ := St.lendX i609 S590.sl r617
              have els623 := els623.mono (hU619.tr (up_le S590.size))
              have S616 := S590.join (l' := [.row 9 1 v620 n621 cs622, .row 9 1 v602 1 [Value.string y594.text], .row 9 1 v562 1 [Value.string y554.text], .row 9 1 v66 n67 cs69]) r617 rfl
              refine ⟨(SP.nil (Sl.of_inc (((r577.run.inc.tr i586).tr i591).tr r617.run.inc) S616.sl)), ?_⟩
              obtain ⟨H624, S625, i626, h627, nv628⟩ := S616.sealRowU (i := 0) (l' := [.row 9 1 v602 1 [Value.string y594.text], .row 9 1 v562 1 [Value.string y554.text], .row 9 1 v66 n67 cs69]) rfl els623 (by decide) rfl
              refine FB.t (i := 19) (bs 22 1048575) rfl (SP.nil (Sl.of_inc (((r577.run.inc.tr i586).tr i591).tr r617.run.inc) S616.sl)) rfl (fun w' hw' => (E.build (B2 rfl rfl) (run_build _ 68 #[(0, v620), (1, v0_1)] #[v620, v0_1] (by obtain ⟨_, _, rfl⟩ := RSl.ln (h627.mono upI); obtain ⟨_, _, rfl⟩ := RSl.ln (p0_1.mono ((((((i27.tr i73).tr r577.run.inc).tr i586).tr i591).tr r617.run.inc).tr i626)); rfl)))) ?_
              refine FB.all1 (i := 20) (by kernel_rfl) ?_
              ·
               obtain ⟨v629, w630, run631, S632⟩ := S625.buildSlice (P := Tryz.prog) te172 [Value.agg #[v62, v580], Value.agg #[v620, v0_1]] (parts := #[(0, Value.agg #[v62, v580]), (1, Value.agg #[v620, v0_1])]) (cells := [v62, v580, v620, v0_1]) rfl (szs_cons rfl (szs_cons rfl szs_nil)) (fc_cons rfl (fc_cons rfl fc_nil)) (ones_cons h587.one (ones_cons h592.one (ones_cons h627.one (ones_cons p0_1.one ones_nil)))) (Nat.le_of_ble_eq_true rfl)
               have els633 : Els H624 eSequent 2 [v62, v580, v620, v0_1] [(Sequent.mk r40 r572), (Sequent.mk r612 a0.right)] := (Els.snoc (H := H624) (E := eSequent) (k := 2) (c := [v620, v0_1]) (x := (Sequent.mk r612 a0.right)) (Els.snoc (H := H624) (E := eSequent) (k := 2) (c := [v62, v580]) (x := (Sequent.mk r40 r572)) Els.nil rfl ⟨_, _, rfl, (h587.mono (upI.tr ((i591.tr r617.run.inc).tr i626))), (h592.mono (upI.tr (r617.run.inc.tr i626)))⟩) rfl ⟨_, _, rfl, (h627.mono upI), (p0_1.mono ((((((i27.tr i73).tr r577.run.inc).tr i586).tr i591).tr r617.run.inc).tr i626))⟩)
               refine FC.val (l' := (bs 22 2097151)) rfl (by kernel_rfl) rfl rfl rfl (E.buildSlice (B2 rfl rfl) run631) ?_
               refine ⟨(SP.nil (Sl.of_inc ((((r577.run.inc.tr i586).tr i591).tr r617.run.inc).tr i626) S632.sl)), ?_⟩
               refine FB.t (i := 21) (bs 22 4194303) rfl (SP.nil (Sl.of_inc ((((r577.run.inc.tr i586).tr i591).tr r617.run.inc).tr i626) S632.sl)) rfl (fun w' hw' => (E.assign (v := v629) rfl)) ?_
               exact FB.done (by kernel_rfl) ⟨_, _, _, _, (S632.sel [0] (by decide) rfl), ((((r577.run.inc.tr i586).tr i591).tr r617.run.inc).tr i626), els633, rfl⟩
          ·
           obtain ⟨v602, w603, run604, S605⟩ := S553.buildSlice (P := Tryz.prog) te22 [Value.string y594.text] (parts := #[(0, Value.string y594.text)]) (cells := [Value.string y594.text]) rfl (szs_cons rfl szs_nil) (fc_cons rfl fc_nil) (ones_cons rfl ones_nil) (Nat.le_of_ble_eq_true rfl)
           have els606 : Els (up wa.heap.size H71) eS 1 [Value.string y594.text] [y594.text] := (Els.snoc (H := (up wa.heap.size H71)) (E := eS) (k := 1) (c := [Value.string y594.text]) (x := y594.text) Els.nil rfl rfl)
           refine FC.val (l' := (bs 22 457855)) rfl (by kernel_rfl) rfl rfl rfl (E.buildSlice (B1 rfl) run604) ?_
           refine ⟨(SP.nil S605.sl), ?_⟩
           refine FB.all1 (i := 7) (by kernel_rfl) ?_
           ·
            obtain ⟨v562, w563, run564, S565⟩ := S605.buildSlice (P := Tryz.prog) te22 [Value.string y554.text] (parts := #[(0, Value.string y554.text)]) (cells := [Value.string y554.text]) rfl (szs_cons rfl szs_nil) (fc_cons rfl fc_nil) (ones_cons rfl ones_nil) (Nat.le_of_ble_eq_true rfl)
            have els566 : Els (up wa.heap.size H71) eS 1 [Value.string y554.text] [y554.text] := (Els.snoc (H := (up wa.heap.size H71)) (E := eS) (k := 1) (c := [Value.string y554.text]) (x := y554.text) Els.nil rfl rfl)
            refine FC.val (l' := (bs 22 457983)) rfl (by kernel_rfl) rfl rfl rfl (E.buildSlice (B1 rfl) run564) ?_
            refine ⟨(SP.nil S565.sl), ?_⟩
            refine FB.all1 (i := 8) (by kernel_rfl) ?_
            ·
             obtain ⟨H567, S568, i569, h570, nv571⟩ := S565.sealRowU (i := 0) (l' := [.row 9 1 v602 1 [Value.string y594.text], .row 9 1 v62 n63 cs64, .row 9 1 v66 n67 cs69]) rfl els566 (by decide) rfl
             refine FC.call (l' := (bs 22 458239)) rfl (by kernel_rfl) rfl rfl rfl (E.call Tryz.call68 (A2 rfl rfl)) (w_impl_with S568.sl v0_1 a0.right (p0_1.mono ((i27.tr i73).tr i569)) v562 [y554.text] (h570.mono upI) hr573) ?_
             rintro e w575 ⟨H574, v580, n581, cs582, rfl, r577, els583⟩
             refine ⟨_, rfl, ?_⟩
             obtain ⟨H578, r577, hU579⟩ := St.lendX i569 S565.sl r577
             have els583 := els583.mono (hU579.tr (up_le S565.size))
             have S576 := S565.join (l' := [.row 9 1 v580 n581 cs582, .row 9 1 v562 1 [Value.string y554.text], .row 9 1 v602 1 [Value.string y594.text], .row 9 1 v62 n63 cs64, .row 9 1 v66 n67 cs69]) r577 rfl
             refine ⟨(SP.nil (Sl.of_inc r577.run.inc S576.sl)), ?_⟩
             obtain ⟨H584, S585, i586, h587, nv588⟩ := S576.sealRowU (i := 3) (l' := [.row 9 1 v580 n581 cs582, .row 9 1 v562 1 [Value.string y554.text], .row 9 1 v602 1 [Value.string y594.text], .row 9 1 v66 n67 cs69]) rfl (els65.mono (up_mono r577.run.inc)) (by decide) rfl
             obtain ⟨H589, S590, i591, h592, nv593⟩ := S585.sealRowU (i := 0) (l' := [.row 9 1 v562 1 [Value.string y554.text], .row 9 1 v602 1 [Value.string y594.text], .row 9 1 v66 n67 cs69]) rfl (els583.mono (up_mono i586)) (by decide) rfl
             refine FB.t (i := 9) (bs 22 458751) rfl (SP.nil (Sl.of_inc r577.run.inc S576.sl)) rfl (fun w' hw' => (E.build (B2 rfl rfl) (run_build _ 68 #[(0, v62), (1, v580)] #[v62, v580] (by obtain ⟨_, _, rfl⟩ := RSl.ln (h587.mono (upI.tr i591)); obtain ⟨_, _, rfl⟩ := RSl.ln (h592.mono upI); rfl)))) ?_
             refine FB.all1 (i := 16) (by kernel_rfl) ?_
             ·
              obtain ⟨H607, S608, i609, h610, nv611⟩ := S590.sealRowU (i := 1) (l' := [.row 9 1 v562 1 [Value.string y554.text], .row 9 1 v66 n67 cs69]) rfl (els606.mono (up_mono ((r577.run.inc.tr i586).tr i591))) (by decide) rfl
              refine FC.call (l' := (bs 22 524287)) rfl (by kernel_rfl) rfl rfl rfl (E.call Tryz.call68 (A2 rfl rfl)) (w_impl_with S608.sl v62 r40 (h587.mono (upI.tr (i591.tr i609))) v602 [y594.text] (h610.mono upI) hr613) ?_
              rintro e w615 ⟨H614, v620, n621, cs622, rfl, r617, els623⟩
              refine ⟨_, rfl, ?_⟩
              obtain ⟨H618, r617, hU619⟩ := St.lendX i609 S590.sl r617
              have els623 := els623.mono (hU619.tr (up_le S590.size))
              have S616 := S590.join (l' := [.row 9 1 v620 n621 cs622, .row 9 1 v562 1 [Value.string y554.text], .row 9 1 v602 1 [Value.string y594.text], .row 9 1 v66 n67 cs69]) r617 rfl
              refine ⟨(SP.nil (Sl.of_inc (((r577.run.inc.tr i586).tr i591).tr r617.run.inc) S616.sl)), ?_⟩
              obtain ⟨H624, S625, i626, h627, nv628⟩ := S616.sealRowU (i := 0) (l' := [.row 9 1 v562 1 [Value.string y554.text], .row 9 1 v602 1 [Value.string y594.text], .row 9 1 v66 n67 cs69]) rfl els623 (by decide) rfl
              refine FB.t (i := 19) (bs 22 1048575) rfl (SP.nil (Sl.of_inc (((r577.run.inc.tr i586).tr i591).tr r617.run.inc) S616.sl)) rfl (fun w' hw' => (E.build (B2 rfl rfl) (run_build _ 68 #[(0, v620), (1, v0_1)] #[v620, v0_1] (by obtain ⟨_, _, rfl⟩ := RSl.ln (h627.mono upI); obtain ⟨_, _, rfl⟩ := RSl.ln (p0_1.mono ((((((i27.tr i73).tr r577.run.inc).tr i586).tr i591).tr r617.run.inc).tr i626)); rfl)))) ?_
              refine FB.all1 (i := 20) (by kernel_rfl) ?_
              ·
               obtain ⟨v629, w630, run631, S632⟩ := S625.buildSlice (P := Tryz.prog) te172 [Value.agg #[v62, v580], Value.agg #[v620, v0_1]] (parts := #[(0, Value.agg #[v62, v580]), (1, Value.agg #[v620, v0_1])]) (cells := [v62, v580, v620, v0_1]) rfl (szs_cons rfl (szs_cons rfl szs_nil)) (fc_cons rfl (fc_cons rfl fc_nil)) (ones_cons h587.one (ones_cons h592.one (ones_cons h627.one (ones_cons p0_1.one ones_nil)))) (Nat.le_of_ble_eq_true rfl)
               have els633 : Els H624 eSequent 2 [v62, v580, v620, v0_1] [(Sequent.mk r40 r572), (Sequent.mk r612 a0.right)] := (Els.snoc (H := H624) (E := eSequent) (k := 2) (c := [v620, v0_1]) (x := (Sequent.mk r612 a0.right)) (Els.snoc (H := H624) (E := eSequent) (k := 2) (c := [v62, v580]) (x := (Sequent.mk r40 r572)) Els.nil rfl ⟨_, _, rfl, (h587.mono (upI.tr ((i591.tr r617.run.inc).tr i626))), (h592.mono (upI.tr (r617.run.inc.tr i626)))⟩) rfl ⟨_, _, rfl, (h627.mono upI), (p0_1.mono ((((((i27.tr i73).tr r577.run.inc).tr i586).tr i591).tr r617.run.inc).tr i626))⟩)
               refine FC.val (l' := (bs 22 2097151)) rfl (by kernel_rfl) rfl rfl rfl (E.buildSlice (B2 rfl rfl) run631) ?_
               refine ⟨(SP.nil (Sl.of_inc ((((r577.run.inc.tr i586).tr i591).tr r617.run.inc).tr i626) S632.sl)), ?_⟩
               refine FB.t (i := 21) (bs 22 4194303) rfl (SP.nil (Sl.of_inc ((((r577.run.inc.tr i586).tr i591).tr r617.run.inc).tr i626) S632.sl)) rfl (fun w' hw' => (E.assign (v := v629) rfl)) ?_
               exact FB.done (by kernel_rfl) ⟨_, _, _, _, (S632.sel [0] (by decide) rfl), ((((r577.run.inc.tr i586).tr i591).tr r617.run.inc).tr i626), els633, rfl⟩
         ·
          rintro f642 w641 ⟨H638, v634, n635, cs636, S639, i640, els637, k643⟩
          refine FW.ret ?_
          obtain rfl := Option.some.inj hp
          exact ⟨.inr rfl, res1 rfl k643 ⟨_, _, _, _, rfl, S639, els637⟩⟩
        ·
         refine FW.condF rfl c550 ?_
         refine FW.skip (FW.seq ?_)
         obtain ⟨y647, hy648, hp⟩ := bnd hp
         obtain ⟨r665, hr666, hp⟩ := bnd hp
         obtain ⟨y677, hy678, hp⟩ := bnd hp
         obtain ⟨r700, hr701, hp⟩ := bnd hp
         refine FW.drawB (Sl H71) (fun f w => ∃ H : GH, ∃ v729 : Value, ∃ n730 : Nat, ∃ cs731 : List Value, St Ha wa H w [.row 68 2 v729 n730 cs731] ∧ Inc H71 H ∧ Els (up wa.heap.size H) eSequent 2 cs731 [(Sequent.mk r665 r700)] ∧ (bl cs731).Nodup ∧ f 6 = v729) (by kernel_rfl) S90.sl ?_ ?_
         ·
          intro w644 r645
          have S646 := S90.call r645
          refine FB.t (i := 0) (bs 18 1) rfl (SP.nil S646.sl) rfl (fun w' hw' => (E.fieldAddr tf68_0 k78)) ?_
          refine FB.t (i := 1) (bs 18 3) rfl (SP.nil S646.sl) rfl (fun w' hw' => (E.load rfl (run_load1 Tryz.isAgg22 ((at28.mono i73).now hw') rfl))) ?_
          refine FB.t (i := 2) (bs 18 7) rfl (SP.nil S646.sl) rfl (fun w' hw' => (E.move (v := v85) rfl)) ?_
          obtain ⟨q649, v651, v652, rfl, at650, h653, h654⟩ := FAt.open h87 hy648
          refine FB.t (i := 3) (bs 18 15) rfl (SP.nil S646.sl) rfl (fun w' hw' => (E.nilCheck rfl)) ?_
          refine FB.t (i := 4) (bs 18 31) rfl (SP.nil S646.sl) rfl (fun w' hw' => (E.fieldAddr tf109_3 rfl)) ?_
          refine FB.t (i := 5) (bs 18 63) rfl (SP.nil S646.sl) rfl (fun w' hw' => (E.load rfl (run_load1 Tryz.isAgg9 (at650.now hw') rfl))) ?_
          refine FB.t (i := 8) (bs 18 319) rfl (SP.nil S646.sl) rfl (fun w' hw' => (E.move k80)) ?_
          refine FB.t (i := 9) (bs 18 831) rfl (SP.nil S646.sl) rfl (fun w' hw' => (E.move (v := v86) rfl)) ?_
          obtain ⟨q679, v681, v682, rfl, at680, h683, h684⟩ := FAt.open h88 hy678
          refine FB.t (i := 10) (bs 18 1855) rfl (SP.nil S646.sl) rfl (fun w' hw' => (E.nilCheck rfl)) ?_
          refine FB.t (i := 11) (bs 18 3903) rfl (SP.nil S646.sl) rfl (fun w' hw' => (E.fieldAddr tf109_3 rfl)) ?_
          refine FB.t (i := 12) (bs 18 7999) rfl (SP.nil S646.sl) rfl (fun w' hw' => (E.load rfl (run_load1 Tryz.isAgg9 (at680.now hw') rfl))) ?_
          refine FB.all2 (i := 6) (j := 13) (by kernel_rfl) ?_ ?_
          ·
           obtain ⟨v655, w656, run657, S658⟩ := S646.buildSlice (P := Tryz.prog) te22 [Value.string y647.text] (parts := #[(0, Value.string y647.text)]) (cells := [Value.string y647.text]) rfl (szs_cons rfl szs_nil) (fc_cons rfl fc_nil) (ones_cons rfl ones_nil) (Nat.le_of_ble_eq_true rfl)
           have els659 : Els (up wa.heap.size H71) eS 1 [Value.string y647.text] [y647.text] := (Els.snoc (H := (up wa.heap.size H71)) (E := eS) (k := 1) (c := [Value.string y647.text]) (x := y647.text) Els.nil rfl rfl)
           refine FC.val (l' := (bs 18 8063)) rfl (by kernel_rfl) rfl rfl rfl (E.buildSlice (B1 rfl) run657) ?_
           refine ⟨(SP.nil S658.sl), ?_⟩
           refine FB.all2 (i := 7) (j := 13) (by kernel_rfl) ?_ ?_
           ·
            obtain ⟨H660, S661, i662, h663, nv664⟩ := S658.sealRowU (i := 0) (l' := [.row 9 1 v62 n63 cs64, .row 9 1 v66 n67 cs69]) rfl els659 (by decide) rfl
            refine FC.call (l' := (bs 18 8191)) rfl (by kernel_rfl) rfl rfl rfl (E.call Tryz.call68 (A2 rfl rfl)) (w_impl_with S661.sl v0_0 a0.left (p0_0.mono ((i27.tr i73).tr i662)) v655 [y647.text] (h663.mono upI) hr666) ?_
            rintro e w668 ⟨H667, v673, n674, cs675, rfl, r670, els676⟩
            refine ⟨_, rfl, ?_⟩
            obtain ⟨H671, r670, hU672⟩ := St.lendX i662 S658.sl r670
            have els676 := els676.mono (hU672.tr (up_le S658.size))
            have S669 := S658.join (l' := [.row 9 1 v673 n674 cs675, .row 9 1 v655 1 [Value.string y647.text], .row 9 1 v62 n63 cs64, .row 9 1 v66 n67 cs69]) r670 rfl
            refine ⟨(SP.nil (Sl.of_inc r670.run.inc S669.sl)), ?_⟩
            refine FB.all1 (i := 13) (by kernel_rfl) ?_
            ·
             obtain ⟨v685, w686, run687, S688⟩ := S669.buildSlice (P := Tryz.prog) te22 [Value.string y677.text] (parts := #[(0, Value.string y677.text)]) (cells := [Value.string y677.text]) rfl (szs_cons rfl szs_nil) (fc_cons rfl fc_nil) (ones_cons rfl ones_nil) (Nat.le_of_ble_eq_true rfl)
             have els689 : Els (up wa.heap.size H671) eS 1 [Value.string y677.text] [y677.text] := (Els.snoc (H := (up wa.heap.size H671)) (E := eS) (k := 1) (c := [Value.string y677.text]) (x := y677.text) Els.nil rfl rfl)
             refine FC.val (l' := (bs 18 16383)) rfl (by kernel_rfl) rfl rfl rfl (E.buildSlice (B1 rfl) run687) ?_
             refine ⟨(SP.nil (Sl.of_inc r670.run.inc S688.sl)), ?_⟩
             refine FB.all1 (i := 14) (by kernel_rfl) ?_
             ·
              obtain ⟨H690, S691, i692, h693, nv694⟩ := S688.sealRowU (i := 4) (l' := [.row 9 1 v685 1 [Value.string y677.text], .row 9 1 v673 n674 cs675, .row 9 1 v655 1 [Value.string y647.text], .row 9 1 v62 n63 cs64]) rfl (els70.mono (up_mono r670.run.inc)) (by decide) rfl
              obtain ⟨H695, S696, i697, h698, nv699⟩ := S691.sealRowU (i := 0) (l' := [.row 9 1 v673 n674 cs675, .row 9 1 v655 1 [Value.string y647.text], .row 9 1 v62 n63 cs64]) rfl (els689.mono (up_mono i692)) (by decide) rfl
              refine FC.call (l' := (bs 18 32767)) rfl (by kernel_rfl) rfl rfl rfl (E.call Tryz.call68 (A2 rfl rfl)) (w_impl_with S696.sl v66 r50 (h693.mono (upI.tr i697)) v685 [y677.text] (h698.mono upI) hr701) ?_
              rintro e w703 ⟨H702, v708, n709, cs710, rfl, r705, els711⟩
              refine ⟨_, rfl, ?_⟩
              obtain ⟨H706, r705, hU707⟩ := St.lendX (i692.tr i697) S688.sl r705
              have els711 := els711.mono (hU707.tr (up_le S688.size))
              have S704 := S688.join (l' := [.row 9 1 v708 n709 cs710, .row 9 1 v685 1 [Value.string y677.text], .row 9 1 v673 n674 cs675, .row 9 1 v655 1 [Value.string y647.text], .row 9 1 v62 n63 cs64, .row 9 1 v66 n67 cs69]) r705 rfl
              refine ⟨(SP.nil (Sl.of_inc (r670.run.inc.tr r705.run.inc) S704.sl)), ?_⟩
              obtain ⟨H712, S713, i714, h715, nv716⟩ := S704.sealRowU (i := 2) (l' := [.row 9 1 v708 n709 cs710, .row 9 1 v685 1 [Value.string y677.text], .row 9 1 v655 1 [Value.string y647.text], .row 9 1 v62 n63 cs64, .row 9 1 v66 n67 cs69]) rfl (els676.mono (up_mono r705.run.inc)) (by decide) rfl
              obtain ⟨H717, S718, i719, h720, nv721⟩ := S713.sealRowU (i := 0) (l' := [.row 9 1 v685 1 [Value.string y677.text], .row 9 1 v655 1 [Value.string y647.text], .row 9 1 v62 n63 cs64, .row 9 1 v66 n67 cs69]) rfl (els711.mono (up_mono i714)) (by decide) rfl
              refine FB.t (i := 15) (bs 18 65535) rfl (SP.nil (Sl.of_inc (r670.run.inc.tr r705.run.inc) S704.sl)) rfl (fun w' hw' => (E.build (B2 rfl rfl) (run_build _ 68 #[(0, v673), (1, v708)] #[v673, v708] (by obtain ⟨_, _, rfl⟩ := RSl.ln (h715.mono (upI.tr i719)); obtain ⟨_, _, rfl⟩ := RSl.ln (h720.mono upI); rfl)))) ?_
              refine FB.all1 (i := 16) (by kernel_rfl) ?_
              ·
               obtain ⟨v722, w723, run724, S725⟩ := S718.buildSlice (P := Tryz.prog) te172 [Value.agg #[v673, v708]] (parts := #[(0, Value.agg #[v673, v708])]) (cells := [v673, v708]) rfl (szs_cons rfl szs_nil) (fc_cons rfl fc_nil) (ones_cons h715.one (ones_cons h720.one ones_nil)) (Nat.le_of_ble_eq_true rfl)
               have els726 : Els (up wa.heap.size H717) eSequent 2 [v673, v708] [(Sequent.mk r665 r700)] := (Els.snoc (H := (up wa.heap.size H717)) (E := eSequent) (k := 2) (c := [v673, v708]) (x := (Sequent.mk r665 r700)) Els.nil rfl ⟨_, _, rfl, (h715.mono (up_mono i719)), h720⟩)
               have nd727 : (bl [v673, v708]).Nodup := by exact nd_two (New.apart (h715.mono (up_mono (Inc.rfl _))) nv721)
               have nv728 : New H706 [v673, v708] := by exact (New.two nv716 (nv721.anti i714))
               refine FC.val (l' := (bs 18 131071)) rfl (by kernel_rfl) rfl rfl rfl (E.buildSlice (B1 rfl) run724) ?_
               refine ⟨(SP.nil (Sl.of_inc (((r670.run.inc.tr r705.run.inc).tr i714).tr i719) S725.sl)), ?_⟩
               refine FB.t (i := 17) (bs 18 262143) rfl (SP.nil (Sl.of_inc (((r670.run.inc.tr r705.run.inc).tr i714).tr i719) S725.sl)) rfl (fun w' hw' => (E.assign (v := v722) rfl)) ?_
               exact FB.done (by kernel_rfl) ⟨_, _, _, _, (S725.sel [0] (by decide) rfl), (((r670.run.inc.tr r705.run.inc).tr i714).tr i719), els726, nd727, rfl⟩
           ·
            obtain ⟨v685, w686, run687, S688⟩ := S658.buildSlice (P := Tryz.prog) te22 [Value.string y677.text] (parts := #[(0, Value.string y677.text)]) (cells := [Value.string y677.text]) rfl (szs_cons rfl szs_nil) (fc_cons rfl fc_nil) (ones_cons rfl ones_nil) (Nat.le_of_ble_eq_true rfl)
            have els689 : Els (up wa.heap.size H71) eS 1 [Value.string y677.text] [y677.text] := (Els.snoc (H := (up wa.heap.size H71)) (E := eS) (k := 1) (c := [Value.string y677.text]) (x := y677.text) Els.nil rfl rfl)
            refine FC.val (l' := (bs 18 16255)) rfl (by kernel_rfl) rfl rfl rfl (E.buildSlice (B1 rfl) run687) ?_
            refine ⟨(SP.nil S688.sl), ?_⟩
            refine FB.all1 (i := 7) (by kernel_rfl) ?_
            ·
             obtain ⟨H660, S661, i662, h663, nv664⟩ := S688.sealRowU (i := 1) (l' := [.row 9 1 v685 1 [Value.string y677.text], .row 9 1 v62 n63 cs64, .row 9 1 v66 n67 cs69]) rfl els659 (by decide) rfl
             refine FC.call (l' := (bs 18 16383)) rfl (by kernel_rfl) rfl rfl rfl (E.call Tryz.call68 (A2 rfl rfl)) (w_impl_with S661.sl v0_0 a0.left (p0_0.mono ((i27.tr i73).tr i662)) v655 [y647.text] (h663.mono upI) hr666) ?_
             rintro e w668 ⟨H667, v673, n674, cs675, rfl, r670, els676⟩
             refine ⟨_, rfl, ?_⟩
             obtain ⟨H671, r670, hU672⟩ := St.lendX i662 S688.sl r670
             have els676 := els676.mono (hU672.tr (up_le S688.size))
             have S669 := S688.join (l' := [.row 9 1 v673 n674 cs675, .row 9 1 v685 1 [Value.string y677.text], .row 9 1 v655 1 [Value.string y647.text], .row 9 1 v62 n63 cs64, .row 9 1 v66 n67 cs69]) r670 rfl
             refine ⟨(SP.nil (Sl.of_inc r670.run.inc S669.sl)), ?_⟩
             refine FB.all1 (i := 14) (by kernel_rfl) ?_
             ·
              obtain ⟨H690, S691, i692, h693, nv694⟩ := S669.sealRowU (i := 4) (l' := [.row 9 1 v673 n674 cs675, .row 9 1 v685 1 [Value.string y677.text], .row 9 1 v655 1 [Value.string y647.text], .row 9 1 v62 n63 cs64]) rfl (els70.mono (up_mono r670.run.inc)) (by decide) rfl
              obtain ⟨H695, S696, i697, h698, nv699⟩ := S691.sealRowU (i := 1) (l' := [.row 9 1 v673 n674 cs675, .row 9 1 v655 1 [Value.string y647.text], .row 9 1 v62 n63 cs64]) rfl (els689.mono (up_mono (r670.run.inc.tr i692))) (by decide) rfl
              refine FC.call (l' := (bs 18 32767)) rfl (by kernel_rfl) rfl rfl rfl (E.call Tryz.call68 (A2 rfl rfl)) (w_impl_with S696.sl v66 r50 (h693.mono (upI.tr i697)) v685 [y677.text] (h698.mono upI) hr701) ?_
              rintro e w703 ⟨H702, v708, n709, cs710, rfl, r705, els711⟩
              refine ⟨_, rfl, ?_⟩
              obtain ⟨H706, r705, hU707⟩ := St.lendX (i692.tr i697) S669.sl r705
              have els711 := els711.mono (hU707.tr (up_le S669.size))
              have S704 := S669.join (l' := [.row 9 1 v708 n709 cs710, .row 9 1 v673 n674 cs675, .row 9 1 v685 1 [Value.string y677.text], .row 9 1 v655 1 [Value.string y647.text], .row 9 1 v62 n63 cs64, .row 9 1 v66 n67 cs69]) r705 rfl
              refine ⟨(SP.nil (Sl.of_inc (r670.run.inc.tr r705.run.inc) S704.sl)), ?_⟩
              obtain ⟨H712, S713, i714, h715, nv716⟩ := S704.sealRowU (i := 1) (l' := [.row 9 1 v708 n709 cs710, .row 9 1 v685 1 [Value.string y677.text], .row 9 1 v655 1 [Value.string y647.text], .row 9 1 v62 n63 cs64, .row 9 1 v66 n67 cs69]) rfl (els676.mono (up_mono r705.run.inc)) (by decide) rfl
              obtain ⟨H717, S718, i719, h720, nv721⟩ := S713.sealRowU (i := 0) (l' := [.row 9 1 v685 1 [Value.string y677.text], .row 9 1 v655 1 [Value.string y647.text], .row 9 1 v62 n63 cs64, .row 9 1 v66 n67 cs69]) rfl (els711.mono (up_mono i714)) (by decide) rfl
              refine FB.t (i := 15) (bs 18 65535) rfl (SP.nil (Sl.of_inc (r670.run.inc.tr r705.run.inc) S704.sl)) rfl (fun w' hw' => (E.build (B2 rfl rfl) (run_build _ 68 #[(0, v673), (1, v708)] #[v673, v708] (by obtain ⟨_, _, rfl⟩ := RSl.ln (h715.mono (upI.tr i719)); obtain ⟨_, _, rfl⟩ := RSl.ln (h720.mono upI); rfl)))) ?_
              refine FB.all1 (i := 16) (by kernel_rfl) ?_
              ·
               obtain ⟨v722, w723, run724, S725⟩ := S718.buildSlice (P := Tryz.prog) te172 [Value.agg #[v673, v708]] (parts := #[(0, Value.agg #[v673, v708])]) (cells := [v673, v708]) rfl (szs_cons rfl szs_nil) (fc_cons rfl fc_nil) (ones_cons h715.one (ones_cons h720.one ones_nil)) (Nat.le_of_ble_eq_true rfl)
               have els726 : Els (up wa.heap.size H717) eSequent 2 [v673, v708] [(Sequent.mk r665 r700)] := (Els.snoc (H := (up wa.heap.size H717)) (E := eSequent) (k := 2) (c := [v673, v708]) (x := (Sequent.mk r665 r700)) Els.nil rfl ⟨_, _, rfl, (h715.mono (up_mono i719)), h720⟩)
               have nd727 : (bl [v673, v708]).Nodup := by exact nd_two (New.apart (h715.mono (up_mono (Inc.rfl _))) nv721)
               have nv728 : New H706 [v673, v708] := by exact (New.two nv716 (nv721.anti i714))
               refine FC.val (l' := (bs 18 131071)) rfl (by kernel_rfl) rfl rfl rfl (E.buildSlice (B1 rfl) run724) ?_
               refine ⟨(SP.nil (Sl.of_inc (((r670.run.inc.tr r705.run.inc).tr i714).tr i719) S725.sl)), ?_⟩
               refine FB.t (i := 17) (bs 18 262143) rfl (SP.nil (Sl.of_inc (((r670.run.inc.tr r705.run.inc).tr i714).tr i719) S725.sl)) rfl (fun w' hw' => (E.assign (v := v722) rfl)) ?_
               exact FB.done (by kernel_rfl) ⟨_, _, _, _, (S725.sel [0] (by decide) rfl), (((r670.run.inc.tr r705.run.inc).tr i714).tr i719), els726, nd727, rfl⟩
          ·
           obtain ⟨v685, w686, run687, S688⟩ := S646.buildSlice (P := Tryz.prog) te22 [Value.string y677.text] (parts := #[(0, Value.string y677.text)]) (cells := [Value.string y677.text]) rfl (szs_cons rfl szs_nil) (fc_cons rfl fc_nil) (ones_cons rfl ones_nil) (Nat.le_of_ble_eq_true rfl)
           have els689 : Els (up wa.heap.size H71) eS 1 [Value.string y677.text] [y677.text] := (Els.snoc (H := (up wa.heap.size H71)) (E := eS) (k := 1) (c := [Value.string y677.text]) (x := y677.text) Els.nil rfl rfl)
           refine FC.val (l' := (bs 18 16191)) rfl (by kernel_rfl) rfl rfl rfl (E.buildSlice (B1 rfl) run687) ?_
           refine ⟨(SP.nil S688.sl), ?_⟩
           refine FB.all1 (i := 6) (by kernel_rfl) ?_
           ·
            obtain ⟨v655, w656, run657, S658⟩ := S688.buildSlice (P := Tryz.prog) te22 [Value.string y647.text] (parts := #[(0, Value.string y647.text)]) (cells := [Value.string y647.text]) rfl (szs_cons rfl szs_nil) (fc_cons rfl fc_nil) (ones_cons rfl ones_nil) (Nat.le_of_ble_eq_true rfl)
            have els659 : Els (up wa.heap.size H71) eS 1 [Value.string y647.text] [y647.text] := (Els.snoc (H := (up wa.heap.size H71)) (E := eS) (k := 1) (c := [Value.string y647.text]) (x := y647.text) Els.nil rfl rfl)
            refine FC.val (l' := (bs 18 16255)) rfl (by kernel_rfl) rfl rfl rfl (E.buildSlice (B1 rfl) run657) ?_
            refine ⟨(SP.nil S658.sl), ?_⟩
            refine FB.all1 (i := 7) (by kernel_rfl) ?_
            ·
             obtain ⟨H660, S661, i662, h663, nv664⟩ := S658.sealRowU (i := 0) (l' := [.row 9 1 v685 1 [Value.string y677.text], .row 9 1 v62 n63 cs64, .row 9 1 v66 n67 cs69]) rfl els659 (by decide) rfl
             refine FC.call (l' := (bs 18 16383)) rfl (by kernel_rfl) rfl rfl rfl (E.call Tryz.call68 (A2 rfl rfl)) (w_impl_with S661.sl v0_0 a0.left (p0_0.mono ((i27.tr i73).tr i662)) v655 [y647.text] (h663.mono upI) hr666) ?_
             rintro e w668 ⟨H667, v673, n674, cs675, rfl, r670, els676⟩
             refine ⟨_, rfl, ?_⟩
             obtain ⟨H671, r670, hU672⟩ := St.lendX i662 S658.sl r670
             have els676 := els676.mono (hU672.tr (up_le S658.size))
             have S669 := S658.join (l' := [.row 9 1 v673 n674 cs675, .row 9 1 v655 1 [Value.string y647.text], .row 9 1 v685 1 [Value.string y677.text], .row 9 1 v62 n63 cs64, .row 9 1 v66 n67 cs69]) r670 rfl
             refine ⟨(SP.nil (Sl.of_inc r670.run.inc S669.sl)), ?_⟩
             refine FB.all1 (i := 14) (by kernel_rfl) ?_
             ·
              obtain ⟨H690, S691, i692, h693, nv694⟩ := S669.sealRowU (i := 4) (l' := [.row 9 1 v673 n674 cs675, .row 9 1 v655 1 [Value.string y647.text], .row 9 1 v685 1 [Value.string y677.text], .row 9 1 v62 n63 cs64]) rfl (els70.mono (up_mono r670.run.inc)) (by decide) rfl
              obtain ⟨H695, S696, i697, h698, nv699⟩ := S691.sealRowU (i := 2) (l' := [.row 9 1 v673 n674 cs675, .row 9 1 v655 1 [Value.string y647.text], .row 9 1 v62 n63 cs64]) rfl (els689.mono (up_mono (r670.run.inc.tr i692))) (by decide) rfl
              refine FC.call (l' := (bs 18 32767)) rfl (by kernel_rfl) rfl rfl rfl (E.call Tryz.call68 (A2 rfl rfl)) (w_impl_with S696.sl v66 r50 (h693.mono (upI.tr i697)) v685 [y677.text] (h698.mono upI) hr701) ?_
              rintro e w703 ⟨H702, v708, n709, cs710, rfl, r705, els711⟩
              refine ⟨_, rfl, ?_⟩
              obtain ⟨H706, r705, hU707⟩ := St.lendX (i692.tr i697) S669.sl r705
              have els711 := els711.mono (hU707.tr (up_le S669.size))
              have S704 := S669.join (l' := [.row 9 1 v708 n709 cs710, .row 9 1 v673 n674 cs675, .row 9 1 v655 1 [Value.string y647.text], .row 9 1 v685 1 [Value.string y677.text], .row 9 1 v62 n63 cs64, .row 9 1 v66 n67 cs69]) r705 rfl
              refine ⟨(SP.nil (Sl.of_inc (r670.run.inc.tr r705.run.inc) S704.sl)), ?_⟩
              obtain ⟨H712, S713, i714, h715, nv716⟩ := S704.sealRowU (i := 1) (l' := [.row 9 1 v708 n709 cs710, .row 9 1 v655 1 [Value.string y647.text], .row 9 1 v685 1 [Value.string y677.text], .row 9 1 v62 n63 cs64, .row 9 1 v66 n67 cs69]) rfl (els676.mono (up_mono r705.run.inc)) (by decide) rfl
              obtain ⟨H717, S718, i719, h720, nv721⟩ := S713.sealRowU (i := 0) (l' := [.row 9 1 v655 1 [Value.string y647.text], .row 9 1 v685 1 [Value.string y677.text], .row 9 1 v62 n63 cs64, .row 9 1 v66 n67 cs69]) rfl (els711.mono (up_mono i714)) (by decide) rfl
              refine FB.t (i := 15) (bs 18 65535) rfl (SP.nil (Sl.of_inc (r670.run.inc.tr r705.run.inc) S704.sl)) rfl (fun w' hw' => (E.build (B2 rfl rfl) (run_build _ 68 #[(0, v673), (1, v708)] #[v673, v708] (by obtain ⟨_, _, rfl⟩ := RSl.ln (h715.mono (upI.tr i719)); obtain ⟨_, _, rfl⟩ := RSl.ln (h720.mono upI); rfl)))) ?_
              refine FB.all1 (i := 16) (by kernel_rfl) ?_
              ·
               obtain ⟨v722, w723, run724, S725⟩ := S718.buildSlice (P := Tryz.prog) te172 [Value.agg #[v673, v708]] (parts := #[(0, Value.agg #[v673, v708])]) (cells := [v673, v708]) rfl (szs_cons rfl szs_nil) (fc_cons rfl fc_nil) (ones_cons h715.one (ones_cons h720.one ones_nil)) (Nat.le_of_ble_eq_true rfl)
               have els726 : Els (up wa.heap.size H717) eSequent 2 [v673, v708] [(Sequent.mk r665 r700)] := (Els.snoc (H := (up wa.heap.size H717)) (E := eSequent) (k := 2) (c := [v673, v708]) (x := (Sequent.mk r665 r700)) Els.nil rfl ⟨_, _, rfl, (h715.mono (up_mono i719)), h720⟩)
               have nd727 : (bl [v673, v708]).Nodup := by exact nd_two (New.apart (h715.mono (up_mono (Inc.rfl _))) nv721)
               have nv728 : New H706 [v673, v708] := by exact (New.two nv716 (nv721.anti i714))
               refine FC.val (l' := (bs 18 131071)) rfl (by kernel_rfl) rfl rfl rfl (E.buildSlice (B1 rfl) run724) ?_
               refine ⟨(SP.nil (Sl.of_inc (((r670.run.inc.tr r705.run.inc).tr i714).tr i719) S725.sl)), ?_⟩
               refine FB.t (i := 17) (bs 18 262143) rfl (SP.nil (Sl.of_inc (((r670.run.inc.tr r705.run.inc).tr i714).tr i719) S725.sl)) rfl (fun w' hw' => (E.assign (v := v722) rfl)) ?_
               exact FB.done (by kernel_rfl) ⟨_, _, _, _, (S725.sel [0] (by decide) rfl), (((r670.run.inc.tr r705.run.inc).tr i714).tr i719), els726, nd727, rfl⟩
         ·
          rintro f738 w737 ⟨H734, v729, n730, cs731, S735, i736, els732, nd733, k739⟩
          refine FW.ret ?_
          obtain rfl := Option.some.inj hp
          exact ⟨.inr rfl, res1 rfl k739 ⟨_, _, _, _, rfl, S735, (els732.mono upI)⟩⟩

set_option maxHeartbeats 4000000 in
theorem w_impl_seqCorrect {Ha : GH} {wa : World} (hs : Sl Ha wa) (v0 : Value) (a0 : List SeqStep) (p0 : RSl Ha eSeqStep 6 v0 a0) (a1 : Int) {r : Bool} (hp : (PF.impl_seqCorrect a0 a1) = some r) :
  Calls Tryz.prog 158 #[v0, Value.int .i64 a1] wa (Sc Ha wa (Value.bool r)) := by
 unfold PF.impl_seqCorrect at hp
 have S0 := St.init hs
 refine calls_go (N := 184) (args := [v0, Value.int .i64 a1]) Tryz.func158 rfl rfl rfl ?_
 refine FW.seq (FW.region ?_)
 obtain ⟨b21, w22, run23, S24⟩ := S0.box (P := Tryz.prog) 24 [v0] (v := v0) p0.cells (ones_cons p0.one ones_nil)
 refine FL.v (E.box rfl run23) ?_
 obtain ⟨H25, S26, i27, at28⟩ := S24.sealBox (i := 0) (l' := []) rfl rfl
 obtain ⟨b29, w30, run31, S32⟩ := S26.box (P := Tryz.prog) 3 [Value.int .i64 a1] (v := Value.int .i64 a1) rfl (ones_cons rfl ones_nil)
 refine FL.v (E.box rfl run31) ?_
 obtain ⟨H33, S34, i35, at36⟩ := S32.sealBox (i := 0) (l' := []) rfl rfl
 refine FL.v (E.assign (v := Value.bool false) rfl) ?_
 refine FL.nil (FW.seq (FW.region ?_))
 refine FL.v (E.load rfl (run_load0 Tryz.isAgg24 ((at28.mono i35).now S34.sl) rfl)) ?_
 refine FL.v (E.load rfl (run_load0 Tryz.isAgg3 (at36.now S34.sl) rfl)) ?_
 obtain ⟨x43, hx44, hp⟩ := bnd hp
 obtain ⟨p37, cs38, pt39, l40, at41, rel42⟩ := p0.at hx44
 obtain ⟨v45, v47, rfl, h46, h48⟩ := eSeqStep_open rel42
 refine FL.v (E.indexAddr te24 rfl rfl pt39) ?_
 refine FL.v (E.load rfl (run_loadA Tryz.isAgg74 Tryz.sizeOf74 ((at41.mono (i27.tr i35)).now S34.sl) rfl)) ?_
 obtain ⟨b49, w50, run51, S52⟩ := S34.alloc (P := Tryz.prog) 74 [Value.slice none 0 0, Value.slice none 0 0, Value.int .i64 0, Value.string ByteArray.empty, Value.int .i64 0, Value.int .i64 0] Tryz.zeroValue74 rfl (ones_cons rfl (ones_cons rfl (ones_cons rfl (ones_cons rfl (ones_cons rfl (ones_cons rfl ones_nil))))))
 refine FL.v (E.alloc run51) ?_
 obtain ⟨w53, run54, S55⟩ := S52.store0 (P := Tryz.prog) (t := 74) (i := 0) (cs' := [v45, v47, Value.int .i64 x43.rule, Value.string x43.main, Value.int .i64 x43.a, Value.int .i64 x43.b]) (l' := [.box b49 74 [v45, v47, Value.int .i64 x43.rule, Value.string x43.main, Value.int .i64 x43.a, Value.int .i64 x43.b]]) (v := Value.agg #[v45, v47, Value.int .i64 x43.rule, Value.string x43.main, Value.int .i64 x43.a, Value.int .i64 x43.b]) (c := [v45, v47, Value.int .i64 x43.rule, Value.string x43.main, Value.int .i64 x43.a, Value.int .i64 x43.b]) rfl Tryz.sizeOf74 rfl rfl (ones_cons h46.one (ones_cons h48.one (ones_cons rfl (ones_cons rfl (ones_cons rfl (ones_cons rfl ones_nil)))))) (Nat.le_of_ble_eq_true rfl) rfl rfl
 refine FL.act rfl rfl (E.store rfl rfl run54) ?_
 obtain ⟨H56, S57, i58, at59⟩ := S55.sealBox (i := 0) (l' := []) rfl rfl
 refine FL.nil (FW.seq (FW.seq (FW.region ?_)))
 refine FL.v (E.fieldAddr tf74_0 rfl) ?_
 refine FL.v (E.load rfl (run_loadA Tryz.isAgg68 Tryz.sizeOf68 ((at59.now S57.sl).sub (j := 0) (n := 2) (c := [v45, v47]) rfl) rfl)) ?_
 obtain ⟨r60, hr61, hp⟩ := bnd hp
 refine FL.call rfl rfl rfl (E.call Tryz.call120 (A1 rfl)) (w_impl_IsSequent S57.sl x43.seq v45 (h46.mono ((i27.tr i35).tr i58)) v47 (h48.mono ((i27.tr i35).tr i58)) hr61) ?_
 rintro e w62 ⟨rfl, r63⟩
 refine ⟨_, rfl, ?_⟩
 have S64 := S57.call r63
 refine FL.v (E.not rfl) ?_
 refine FL.nil ?_
 rcases ifB hp with ⟨c65, hp⟩ | ⟨c65, hp⟩
 ·
  refine FW.condT rfl c65 ?_
  refine FW.seq (FW.region ?_)
  refine FL.v (E.assign (v := Value.bool false) rfl) ?_
  refine FL.nil ?_
  refine FW.ret ?_
  obtain rfl := Option.some.inj hp
  exact ⟨.inr rfl, res1 rfl rfl ⟨rfl, S64.back⟩⟩
 ·
  refine FW.condF rfl c65 ?_
  refine FW.skip (FW.seq (FW.region ?_))
  refine FL.v (E.makeFunc A0 (A2 rfl rfl)) ?_
  refine FL.v (E.assign (v := Value.func (.func 194) #[] #[Value.pointer (some ⟨b29, 0, none⟩), Value.pointer (some ⟨b21, 0, none⟩)]) rfl) ?_
  refine FL.nil (FW.seq (FW.region ?_))
  refine FL.v (E.assign (v := Value.func (.func 195) #[] #[]) rfl) ?_
  refine FL.nil (FW.seq (FW.seq (FW.region ?_)))
  refine FL.v (E.fieldAddr tf74_1 rfl) ?_
  refine FL.v (E.load rfl (run_load1 Tryz.isAgg3 (at59.now S64.sl) rfl)) ?_
  refine FL.v (E.eql rfl rfl) ?_
  refine FL.nil ?_
  rcases ifB hp with ⟨c66, hp⟩ | ⟨c66, hp⟩
  ·
   refine FW.condT rfl c66 ?_
   refine FW.seq (FW.region ?_)
   refine FL.v (E.fieldAddr tf74_2 rfl) ?_
   refine FL.v (E.load rfl (run_load1 Tryz.isAgg9 (at59.now S64.sl) rfl)) ?_
   refine FL.v (E.eqlS rfl rfl) ?_
   refine FL.v (E.move (v := Value.bool (x43.main.toList == (ByteArray.mk #[]).toList)) rfl) ?_
   refine FL.cut 4 (fun f w => ∃ H : GH, St Ha wa H w [] ∧ Inc H56 H ∧ f 5 = Value.pointer (some ⟨b49, 0, none⟩) ∧ f 32 = Value.bool (bif (x43.main.toList == (ByteArray.mk #[]).toList) then (x43.a == 0) else false)) ?_ ?_
   ·
    rcases bcase (x43.main.toList == (ByteArray.mk #[]).toList) with c73 | c73
    ·
     refine FL.val (wF_yes rfl rfl rfl c73) rfl rfl (E.fieldAddr tf74_3 rfl) ?_
     refine FL.val (wF_yes rfl rfl rfl c73) rfl rfl (E.load rfl (run_load1 Tryz.isAgg3 (at59.now S64.sl) rfl)) ?_
     refine FL.val (wF_yes rfl rfl rfl c73) rfl rfl (E.eql rfl rfl) ?_
     refine FL.v (E.pickT rfl c73 rfl) ?_
     exact FL.nil ⟨rfl, _, S64, (Inc.rfl _), rfl, (congrArg Value.bool (bifT c73).symm)⟩
    ·
     refine FL.skip (wF_no rfl rfl rfl c73) rfl ?_
     refine FL.skip (wF_no rfl rfl rfl c73) rfl ?_
     refine FL.skip (wF_no rfl rfl rfl c73) rfl ?_
     refine FL.v (E.pickF rfl c73 rfl) ?_
     exact FL.nil ⟨rfl, _, S64, (Inc.rfl _), rfl, (congrArg Value.bool (bifF c73).symm)⟩
   rintro f72 w71 ⟨H68, S69, i70, k74, k75⟩
   refine FL.v (E.move k75) ?_
   refine FL.cut 4 (fun f w => ∃ H : GH, St Ha wa H w [] ∧ Inc H68 H ∧ f 5 = Value.pointer (some ⟨b49, 0, none⟩) ∧ f 37 = Value.bool (bif (bif (x43.main.toList == (ByteArray.mk #[]).toList) then (x43.a == 0) else false) then (x43.b == 0) else false)) ?_ ?_
   ·
    rcases bcase (bif (x43.main.toList == (ByteArray.mk #[]).toList) then (x43.a == 0) else false) with c82 | c82
    ·
     refine FL.val (wF_yes rfl rfl rfl c82) rfl rfl (E.fieldAddr tf74_4 k74) ?_
     refine FL.val (wF_yes rfl rfl rfl c82) rfl rfl (E.load rfl (run_load1 Tryz.isAgg3 ((at59.mono i70).now S69.sl) rfl)) ?_
     refine FL.val (wF_yes rfl rfl rfl c82) rfl rfl (E.eql rfl rfl) ?_
     refine FL.v (E.pickT rfl c82 rfl) ?_
     exact FL.nil ⟨rfl, _, S69, (Inc.rfl _), k74, (congrArg Value.bool (bifT c82).symm)⟩
    ·
     refine FL.skip (wF_no rfl rfl rfl c82) rfl ?_
     refine FL.skip (wF_no rfl rfl rfl c82) rfl ?_
     refine FL.skip (wF_no rfl rfl rfl c82) rfl ?_
     refine FL.v (E.pickF rfl c82 rfl) ?_
     exact FL.nil ⟨rfl, _, S69, (Inc.rfl _), k74, (congrArg Value.bool (bifF c82).symm)⟩
   rintro f81 w80 ⟨H77, S78, i79, k83, k84⟩
   refine FL.v (E.move k84) ?_
   obtain ⟨t90, hqt90, hp⟩ := bnd hp
   refine FL.cut 4 (fun f w => ∃ H : GH, St Ha wa H w [] ∧ Inc H77 H ∧ f 42 = Value.bool t90) ?_ ?_
   ·
    clear hp; have hp := hqt90; clear hqt90
    rcases ifB hp with ⟨c96, hp⟩ | ⟨c96, hp⟩
    ·
     refine FL.val (wF_yes rfl rfl rfl c96) rfl rfl (E.fieldAddr tf74_0 k83) ?_
     refine FL.val (wF_yes rfl rfl rfl c96) rfl rfl (E.load rfl (run_loadA Tryz.isAgg68 Tryz.sizeOf68 (((at59.mono (i70.tr i79)).now S78.sl).sub (j := 0) (n := 2) (c := [v45, v47]) rfl) rfl)) ?_
     obtain ⟨r97, hr98, hp⟩ := bnd hp
     refine FL.call (wF_yes rfl rfl rfl c96) rfl rfl (E.call Tryz.call154 (A1 rfl)) (w_impl_isSeqAxiom S78.sl x43.seq v45 (h46.mono ((((i27.tr i35).tr i58).tr i70).tr i79)) v47 (h48.mono ((((i27.tr i35).tr i58).tr i70).tr i79)) hr98) ?_
     rintro e w99 ⟨rfl, r100⟩
     refine ⟨_, rfl, ?_⟩
     have S101 := S78.call r100
     obtain rfl := Option.some.inj hp
     refine FL.v (E.pickT rfl c96 rfl) ?_
     exact FL.nil ⟨rfl, _, S101, (Inc.rfl _), rfl⟩
    ·
     refine FL.skip (wF_no rfl rfl rfl c96) rfl ?_
     refine FL.skip (wF_no rfl rfl rfl c96) rfl ?_
     refine FL.skip (wF_no rfl rfl rfl c96) rfl ?_
     obtain rfl := Option.some.inj hp
     refine FL.v (E.pickF rfl c96 rfl) ?_
     exact FL.nil ⟨rfl, _, S78, (Inc.rfl _), rfl⟩
   rintro f95 w94 ⟨H91, S92, i93, k102⟩
   refine FL.v (E.assign k102) ?_
   refine FL.nil ?_
   refine FW.ret ?_
   obtain rfl := Option.some.inj hp
   exact ⟨.inr rfl, res1 rfl rfl ⟨rfl, S92.back⟩⟩
  ·
   refine FW.condF rfl c66 ?_
   refine FW.skip (FW.seq (FW.seq (FW.region ?_)))
   refine FL.v (E.fieldAddr tf74_1 rfl) ?_
   refine FL.v (E.load rfl (run_load1 Tryz.isAgg3 (at59.now S64.sl) rfl)) ?_
   refine FL.v (E.eql rfl rfl) ?_
   refine FL.nil ?_
   rcases ifB hp with ⟨c103, hp⟩ | ⟨c103, hp⟩
   ·
    refine FW.condT rfl c103 ?_
    refine FW.seq (FW.region ?_)
    refine FL.v (E.fieldAddr tf74_2 rfl) ?_
    refine FL.v (E.load rfl (run_load1 Tryz.isAgg9 (at59.now S64.sl) rfl)) ?_
    refine FL.v (E.eqlS rfl rfl) ?_
    refine FL.v (E.move (v := Value.bool (x43.main.toList == (ByteArray.mk #[]).toList)) rfl) ?_
    refine FL.cut 4 (fun f w => ∃ H : GH, St Ha wa H w [] ∧ Inc H56 H ∧ f 5 = Value.pointer (some ⟨b49, 0, none⟩) ∧ f 6 = Value.func (.func 194) #[] #[Value.pointer (some ⟨b29, 0, none⟩), Value.pointer (some ⟨b21, 0, none⟩)] ∧ f 53 = Value.bool (bif (x43.main.toList == (ByteArray.mk #[]).toList) then (x43.b == 0) else false)) ?_ ?_
    ·
     rcases bcase (x43.main.toList == (ByteArray.mk #[]).toList) with c110 | c110
     ·
      refine FL.val (wF_yes rfl rfl rfl c110) rfl rfl (E.fieldAddr tf74_4 rfl) ?_
      refine FL.val (wF_yes rfl rfl rfl c110) rfl rfl (E.load rfl (run_load1 Tryz.isAgg3 (at59.now S64.sl) rfl)) ?_
      refine FL.val (wF_yes rfl rfl rfl c110) rfl rfl (E.eql rfl rfl) ?_
      refine FL.v (E.pickT rfl c110 rfl) ?_
      exact FL.nil ⟨rfl, _, S64, (Inc.rfl _), rfl, rfl, (congrArg Value.bool (bifT c110).symm)⟩
     ·
      refine FL.skip (wF_no rfl rfl rfl c110) rfl ?_
      refine FL.skip (wF_no rfl rfl rfl c110) rfl ?_
      refine FL.skip (wF_no rfl rfl rfl c110) rfl ?_
      refine FL.v (E.pickF rfl c110 rfl) ?_
      exact FL.nil ⟨rfl, _, S64, (Inc.rfl _), rfl, rfl, (congrArg Value.bool (bifF c110).symm)⟩
    rintro f109 w108 ⟨H105, S106, i107, k111, k112, k113⟩
    refine FL.v (E.move k113) ?_
    obtain ⟨t119, hqt119, hp⟩ := bnd hp
    refine FL.cut 6 (fun f w => ∃ H : GH, St Ha wa H w [] ∧ Inc H105 H ∧ f 60 = Value.bool t119) ?_ ?_
    ·
     clear hp; have hp := hqt119; clear hqt119
     rcases ifB hp with ⟨c125, hp⟩ | ⟨c125, hp⟩
     ·
      refine FL.val (wF_yes rfl rfl rfl c125) rfl rfl (E.move k112) ?_
      refine FL.val (wF_yes rfl rfl rfl c125) rfl rfl (E.fieldAddr tf74_3 k111) ?_
      refine FL.val (wF_yes rfl rfl rfl c125) rfl rfl (E.load rfl (run_load1 Tryz.isAgg3 ((at59.mono i107).now S106.sl) rfl)) ?_
      refine FL.val (wF_yes rfl rfl rfl c125) rfl rfl (E.makeFunc A0 (A1 k111)) ?_
      obtain ⟨r126, hr127, hp⟩ := bnd hp
      refine FL.call (wF_yes rfl rfl rfl c125) rfl rfl (E.callV Tryz.call194 rfl (appA (A2 rfl rfl) #[Value.pointer (some ⟨b29, 0, none⟩), Value.pointer (some ⟨b21, 0, none⟩)])) (w_impl_seqCorrect_1 S106.sl x43.a (Value.func (.func 198) #[] #[Value.pointer (some ⟨b49, 0, none⟩)]) (fun x0 => PF.impl_seqCorrect_3 x0 x43) (fun H2 w2 hi2 hs2 x0 y0_0 z0_0 y0_1 z0_1 r hr => ⟨198, #[Value.pointer (some ⟨b49, 0, none⟩)], rfl, Tryz.call198, w_impl_seqCorrect_3 hs2 x0 y0_0 z0_0 y0_1 z0_1 ⟨b49, 0, none⟩ x43 v45 ((h46.mono (((i27.tr i35).tr i58).tr i107)).mono hi2) v47 ((h48.mono (((i27.tr i35).tr i58).tr i107)).mono hi2) ((at59.mono i107).mono hi2) hr⟩) ⟨b29, 0, none⟩ a1 (at36.mono (i58.tr i107)) ⟨b21, 0, none⟩ a0 v0 (p0.mono (((i27.tr i35).tr i58).tr i107)) (at28.mono ((i35.tr i58).tr i107)) hr127) ?_
      rintro e w128 ⟨rfl, r129⟩
      refine ⟨_, rfl, ?_⟩
      have S130 := S106.call r129
      obtain rfl := Option.some.inj hp
      refine FL.v (E.pickT rfl c125 rfl) ?_
      exact FL.nil ⟨rfl, _, S130, (Inc.rfl _), rfl⟩
     ·
      refine FL.skip (wF_no rfl rfl rfl c125) rfl ?_
      refine FL.skip (wF_no rfl rfl rfl c125) rfl ?_
      refine FL.skip (wF_no rfl rfl rfl c125) rfl ?_
      refine FL.skip (wF_no rfl rfl rfl c125) rfl ?_
      refine FL.skip (wF_no rfl rfl rfl c125) rfl ?_
      obtain rfl := Option.some.inj hp
      refine FL.v (E.pickF rfl c125 rfl) ?_
      exact FL.nil ⟨rfl, _, S106, (Inc.rfl _), rfl⟩
    rintro f124 w123 ⟨H120, S121, i122, k131⟩
    refine FL.v (E.assign k131) ?_
    refine FL.nil ?_
    refine FW.ret ?_
    obtain rfl := Option.some.inj hp
    exact ⟨.inr rfl, res1 rfl rfl ⟨rfl, S121.back⟩⟩
   ·
    refine FW.condF rfl c103 ?_
    refine FW.skip (FW.seq (FW.region ?_))
    refine FL.v (E.fieldAddr tf74_2 rfl) ?_
    refine FL.v (E.load rfl (run_load1 Tryz.isAgg9 (at59.now S64.sl) rfl)) ?_
    obtain ⟨r132, hr133, hp⟩ := bnd hp
    refine FL.call rfl rfl rfl (E.call Tryz.call78 (A1 rfl)) (w_impl_parse S64.sl x43.main hr133) ?_
    rintro e w135 ⟨H134, v138, rfl, r137, h139⟩
    refine ⟨_, rfl, ?_⟩
    have S136 := S64.call r137
    refine FL.v (E.move (v := Value.tuple #[v138, Value.bool r132.2]) rfl) ?_
    refine FL.v (E.extract (i := 0) rfl rfl) ?_
    refine FL.v (E.extract (i := 1) rfl rfl) ?_
    refine FL.v (E.assign (v := v138) rfl) ?_
    refine FL.v (E.assign (v := Value.bool r132.2) rfl) ?_
    refine FL.nil (FW.seq (FW.block (FW.seq (FW.region ?_))))
    refine FL.v (E.move (v := Value.bool r132.2) rfl) ?_
    refine FL.v (E.not rfl) ?_
    refine FL.v (E.assign (v := Value.bool (!r132.2)) rfl) ?_
    refine FL.nil ?_
    rcases ifB hp with ⟨c140, hp⟩ | ⟨c140, hp⟩
    ·
     refine FW.condT rfl c140 ?_
     refine FW.seq (FW.region ?_)
     refine FL.v (E.assign (v := Value.bool false) rfl) ?_
     refine FL.nil ?_
     refine FW.ret ?_
     obtain rfl := Option.some.inj hp
     exact ⟨.inr rfl, res1 rfl rfl ⟨rfl, S136.back⟩⟩
    ·
     refine FW.condF rfl c140 ?_
     refine FW.seq (FW.region ?_)
     refine FL.v (E.fieldAddr tf74_1 rfl) ?_
     refine FL.v (E.load rfl (run_load1 Tryz.isAgg3 ((at59.mono r137.inc).now S136.sl) rfl)) ?_
     refine FL.v (E.eql rfl rfl) ?_
     refine FL.v (E.assign (v := Value.bool (x43.rule == 11)) rfl) ?_
     refine FL.nil ?_
     rcases ifB hp with ⟨c141, hp⟩ | ⟨c141, hp⟩
     ·
      refine FW.condT rfl c141 ?_
      refine FW.seq ?_
      obtain ⟨r116, hr117, hp⟩ := bnd hp
      obtain ⟨r165, hr166, hp⟩ := bnd hp
      obtain ⟨t141_35, hqt141_35, hp⟩ := bnd hp
      refine FW.drawB (Sl H134) (fun f w => ∃ H : GH, St Ha wa H w [] ∧ Inc H134 H ∧ f 4 = Value.bool t141_35) (by kernel_rfl) S136.sl ?_ ?_
      ·
       intro w142 r143
       have S144 := S136.call r143
       refine FB.t (i := 0) (bs 37 1) rfl (SP.nil S144.sl) rfl (fun w' hw' => (E.move (v := Value.func (.func 194) #[] #[Value.pointer (some ⟨b29, 0, none⟩), Value.pointer (some ⟨b21, 0, none⟩)]) rfl)) ?_
       refine FB.t (i := 1) (bs 37 3) rfl (SP.nil S144.sl) rfl (fun w' hw' => (E.fieldAddr tf74_3 rfl)) ?_
       refine FB.t (i := 2) (bs 37 7) rfl (SP.nil S144.sl) rfl (fun w' hw' => (E.load rfl (run_load1 Tryz.isAgg3 ((at59.mono r137.inc).now hw') rfl))) ?_
       refine FB.t (i := 3) (bs 37 15) rfl (SP.nil S144.sl) rfl (fun w' hw' => (E.move (v := Value.func (.func 195) #[] #[]) rfl)) ?_
       refine FB.t (i := 4) (bs 37 31) rfl (SP.nil S144.sl) rfl (fun w' hw' => (E.fieldAddr tf74_0 rfl)) ?_
       refine FB.t (i := 5) (bs 37 63) rfl (SP.nil S144.sl) rfl (fun w' hw' => (E.fieldAddrN tf68_0 rfl rfl)) ?_
       refine FB.t (i := 6) (bs 37 127) rfl (SP.nil S144.sl) rfl (fun w' hw' => (E.load rfl (run_load1 Tryz.isAgg22 ((at59.mono r137.inc).now hw') rfl))) ?_
       refine FB.t (i := 7) (bs 37 255) rfl (SP.nil S144.sl) rfl (fun w' hw' => (E.fieldAddr tf74_0 rfl)) ?_
       refine FB.t (i := 8) (bs 37 511) rfl (SP.nil S144.sl) rfl (fun w' hw' => (E.fieldAddrN tf68_1 rfl rfl)) ?_
       refine FB.t (i := 9) (bs 37 1023) rfl (SP.nil S144.sl) rfl (fun w' hw' => (E.load rfl (run_load1 Tryz.isAgg22 ((at59.mono r137.inc).now hw') rfl))) ?_
       refine FB.t (i := 10) (bs 37 2047) rfl (SP.nil S144.sl) rfl (fun w' hw' => (E.fieldAddr tf74_2 rfl)) ?_
       refine FB.t (i := 11) (bs 37 4095) rfl (SP.nil S144.sl) rfl (fun w' hw' => (E.load rfl (run_load1 Tryz.isAgg9 ((at59.mono r137.inc).now hw') rfl))) ?_
       refine FB.all1 (i := 12) (by kernel_rfl) ?_
       ·
        obtain ⟨v67, w76, run85, S86⟩ := S144.buildSlice (P := Tryz.prog) te22 [Value.string x43.main] (parts := #[(0, Value.string x43.main)]) (cells := [Value.string x43.main]) rfl (szs_cons rfl szs_nil) (fc_cons rfl fc_nil) (ones_cons rfl ones_nil) (Nat.le_of_ble_eq_true rfl)
        have els87 : Els (up wa.heap.size H134) eS 1 [Value.string x43.main] [x43.main] := (Els.snoc (H := (up wa.heap.size H134)) (E := eS) (k := 1) (c := [Value.string x43.main]) (x := x43.main) Els.nil rfl rfl)
        refine FC.val (l' := (bs 37 8191)) rfl (by kernel_rfl) rfl rfl rfl (E.buildSlice (B1 rfl) run85) ?_
        refine ⟨(SP.nil S86.sl), ?_⟩
        refine FB.all1 (i := 13) (by kernel_rfl) ?_
        ·
         obtain ⟨H88, S89, i104, h114, nv115⟩ := S86.sealRowU (i := 0) (l' := []) rfl els87 (by decide) rfl
         refine FC.call (l' := (bs 37 16383)) rfl (by kernel_rfl) rfl rfl rfl (E.call Tryz.call68 (A2 rfl rfl)) (w_impl_with S89.sl v47 x43.seq.right (h48.mono ((((i27.tr i35).tr i58).tr r137.inc).tr i104)) v67 [x43.main] (h114.mono upI) hr117) ?_
         rintro e w145 ⟨H118, v150, n151, cs152, rfl, r147, els153⟩
         refine ⟨_, rfl, ?_⟩
         obtain ⟨H148, r147, hU149⟩ := St.lendX i104 S86.sl r147
         have els153 := els153.mono (hU149.tr (up_le S86.size))
         have S146 := S86.join (l' := [.row 9 1 v150 n151 cs152, .row 9 1 v67 1 [Value.string x43.main]]) r147 rfl
         refine ⟨(SP.nil (Sl.of_inc r147.run.inc S146.sl)), ?_⟩
         obtain ⟨H154, S155, i156, h157, nv158⟩ := S146.sealRowU (i := 0) (l' := [.row 9 1 v67 1 [Value.string x43.main]]) rfl els153 (by decide) rfl
         refine FB.t (i := 14) (bs 37 32767) rfl (SP.nil (Sl.of_inc r147.run.inc S146.sl)) rfl (fun w' hw' => (E.build (B2 rfl rfl) (run_build _ 68 #[(0, v45), (1, v150)] #[v45, v150] (by obtain ⟨_, _, rfl⟩ := RSl.ln (h46.mono (((((i27.tr i35).tr i58).tr r137.inc).tr r147.run.inc).tr i156)); obtain ⟨_, _, rfl⟩ := RSl.ln (h157.mono upI); rfl)))) ?_
         refine FB.all1 (i := 15) (by kernel_rfl) ?_
         ·
          refine FC.call (l' := (bs 37 65535)) rfl (by kernel_rfl) rfl rfl rfl (E.callV Tryz.call195 rfl (appA (A1 rfl) #[])) (w_impl_seqCorrect_2 S155.sl (Sequent.mk x43.seq.left r116) v45 (h46.mono (((((i27.tr i35).tr i58).tr r137.inc).tr r147.run.inc).tr i156)) v150 (h157.mono upI)) ?_
          rintro e w160 ⟨H159, q163, rfl, r162, h164⟩
          refine ⟨_, rfl, ?_⟩
          have S161 := S155.call r162
          refine ⟨(SP.nil (Sl.of_inc ((r147.run.inc.tr i156).tr r162.inc) S161.sl)), ?_⟩
          refine FB.all1 (i := 16) (by kernel_rfl) ?_
          ·
           refine FC.call (l' := (bs 37 131071)) rfl (by kernel_rfl) rfl rfl rfl (E.callV Tryz.call194 rfl (appA (A2 rfl rfl) #[Value.pointer (some ⟨b29, 0, none⟩), Value.pointer (some ⟨b21, 0, none⟩)])) (w_impl_seqCorrect_1 S161.sl x43.a (Value.func (.func 196) #[] #[Value.pointer (some q163)]) (fun x0 => PF.impl_seqCorrect_2_1 x0 (Sequent.mk x43.seq.left r116)) (fun H2 w2 hi2 hs2 x0 y0_0 z0_0 y0_1 z0_1 r hr => ⟨196, #[Value.pointer (some q163)], rfl, Tryz.call196, w_impl_seqCorrect_2_1 hs2 x0 y0_0 z0_0 y0_1 z0_1 q163 (Sequent.mk x43.seq.left r116) v45 ((h46.mono ((((((i27.tr i35).tr i58).tr r137.inc).tr r147.run.inc).tr i156).tr r162.inc)).mono hi2) v150 ((h157.mono (upI.tr r162.inc)).mono hi2) (h164.mono hi2) hr⟩) ⟨b29, 0, none⟩ a1 (at36.mono ((((i58.tr r137.inc).tr r147.run.inc).tr i156).tr r162.inc)) ⟨b21, 0, none⟩ a0 v0 (p0.mono ((((((i27.tr i35).tr i58).tr r137.inc).tr r147.run.inc).tr i156).tr r162.inc)) (at28.mono (((((i35.tr i58).tr r137.inc).tr r147.run.inc).tr i156).tr r162.inc)) hr166) ?_
           rintro e w167 ⟨rfl, r168⟩
           refine ⟨_, rfl, ?_⟩
           have S169 := S161.call r168
           refine ⟨(SP.nil (Sl.of_inc ((r147.run.inc.tr i156).tr r162.inc) S169.sl)), ?_⟩
           refine FB.t (i := 17) (bs 37 262143) rfl (SP.nil (Sl.of_inc ((r147.run.inc.tr i156).tr r162.inc) S169.sl)) rfl (fun w' hw' => (E.move (v := Value.bool r165) rfl)) ?_
           rcases ifB hqt141_35 with ⟨hc141_17, hqt141_35⟩ | ⟨hc141_17, hqt141_35⟩
           ·
            obtain ⟨r181, hr182, hqt141_35⟩ := bnd hqt141_35
            obtain ⟨r204, hr205, hqt141_35⟩ := bnd hqt141_35
            refine FB.t (i := 18) (bs 37 524287) rfl (SP.nil (Sl.of_inc ((r147.run.inc.tr i156).tr r162.inc) S169.sl)) (wF_yes rfl rfl rfl hc141_17) (fun w' hw' => (E.move (v := Value.func (.func 194) #[] #[Value.pointer (some ⟨b29, 0, none⟩), Value.pointer (some ⟨b21, 0, none⟩)]) rfl)) ?_
            refine FB.t (i := 19) (bs 37 1048575) rfl (SP.nil (Sl.of_inc ((r147.run.inc.tr i156).tr r162.inc) S169.sl)) (wF_yes rfl rfl rfl hc141_17) (fun w' hw' => (E.fieldAddr tf74_4 rfl)) ?_
            refine FB.t (i := 20) (bs 37 2097151) rfl (SP.nil (Sl.of_inc ((r147.run.inc.tr i156).tr r162.inc) S169.sl)) (wF_yes rfl rfl rfl hc141_17) (fun w' hw' => (E.load rfl (run_load1 Tryz.isAgg3 ((at59.mono r137.inc).now hw') rfl))) ?_
            refine FB.t (i := 21) (bs 37 4194303) rfl (SP.nil (Sl.of_inc ((r147.run.inc.tr i156).tr r162.inc) S169.sl)) (wF_yes rfl rfl rfl hc141_17) (fun w' hw' => (E.move (v := Value.func (.func 195) #[] #[]) rfl)) ?_
            refine FB.t (i := 22) (bs 37 8388607) rfl (SP.nil (Sl.of_inc ((r147.run.inc.tr i156).tr r162.inc) S169.sl)) (wF_yes rfl rfl rfl hc141_17) (fun w' hw' => (E.fieldAddr tf74_0 rfl)) ?_
            refine FB.t (i := 23) (bs 37 16777215) rfl (SP.nil (Sl.of_inc ((r147.run.inc.tr i156).tr r162.inc) S169.sl)) (wF_yes rfl rfl rfl hc141_17) (fun w' hw' => (E.fieldAddrN tf68_0 rfl rfl)) ?_
            refine FB.t (i := 24) (bs 37 33554431) rfl (SP.nil (Sl.of_inc ((r147.run.inc.tr i156).tr r162.inc) S169.sl)) (wF_yes rfl rfl rfl hc141_17) (fun w' hw' => (E.load rfl (run_load1 Tryz.isAgg22 ((at59.mono r137.inc).now hw') rfl))) ?_
            refine FB.t (i := 25) (bs 37 67108863) rfl (SP.nil (Sl.of_inc ((r147.run.inc.tr i156).tr r162.inc) S169.sl)) (wF_yes rfl rfl rfl hc141_17) (fun w' hw' => (E.fieldAddr tf74_2 rfl)) ?_
            refine FB.t (i := 26) (bs 37 134217727) rfl (SP.nil (Sl.of_inc ((r147.run.inc.tr i156).tr r162.inc) S169.sl)) (wF_yes rfl rfl rfl hc141_17) (fun w' hw' => (E.load rfl (run_load1 Tryz.isAgg9 ((at59.mono r137.inc).now hw') rfl))) ?_
            refine FB.t (i := 29) (bs 37 671088639) rfl (SP.nil (Sl.of_inc ((r147.run.inc.tr i156).tr r162.inc) S169.sl)) (wF_yes rfl rfl rfl hc141_17) (fun w' hw' => (E.fieldAddr tf74_0 rfl)) ?_
            refine FB.t (i := 30) (bs 37 1744830463) rfl (SP.nil (Sl.of_inc ((r147.run.inc.tr i156).tr r162.inc) S169.sl)) (wF_yes rfl rfl rfl hc141_17) (fun w' hw' => (E.fieldAddrN tf68_1 rfl rfl)) ?_
            refine FB.t (i := 31) (bs 37 3892314111) rfl (SP.nil (Sl.of_inc ((r147.run.inc.tr i156).tr r162.inc) S169.sl)) (wF_yes rfl rfl rfl hc141_17) (fun w' hw' => (E.load rfl (run_load1 Tryz.isAgg22 ((at59.mono r137.inc).now hw') rfl))) ?_
            refine FB.all1 (i := 27) (by kernel_rfl) ?_
            ·
             obtain ⟨v170, w171, run173, S174⟩ := S169.buildSlice (P := Tryz.prog) te22 [Value.string x43.main] (parts := #[(0, Value.string x43.main)]) (cells := [Value.string x43.main]) rfl (szs_cons rfl szs_nil) (fc_cons rfl fc_nil) (ones_cons rfl ones_nil) (Nat.le_of_ble_eq_true rfl)
             have els175 : Els (up wa.heap.size H159) eS 1 [Value.string x43.main] [x43.main] := (Els.snoc (H := (up wa.heap.size H159)) (E := eS) (k := 1) (c := [Value.string x43.main]) (x := x43.main) Els.nil rfl rfl)
             refine FC.val (l' := (bs 37 4026531839)) rfl (by kernel_rfl) (wF_yes rfl rfl rfl hc141_17) rfl rfl (E.buildSlice (B1 rfl) run173) ?_
             refine ⟨(SP.nil (Sl.of_inc ((r147.run.inc.tr i156).tr r162.inc) S174.sl)), ?_⟩
             refine FB.all1 (i := 28) (by kernel_rfl) ?_
             ·
              obtain ⟨H176, S177, i178, h179, nv180⟩ := S174.sealRowU (i := 0) (l' := [.row 9 1 v67 1 [Value.string x43.main]]) rfl els175 (by decide) rfl
              refine FC.call (l' := (bs 37 4294967295)) rfl (by kernel_rfl) (wF_yes rfl rfl rfl hc141_17) rfl rfl (E.call Tryz.call68 (A2 rfl rfl)) (w_impl_with S177.sl v45 x43.seq.left (h46.mono (((((((i27.tr i35).tr i58).tr r137.inc).tr r147.run.inc).tr i156).tr r162.inc).tr i178)) v170 [x43.main] (h179.mono upI) hr182) ?_
              rintro e w184 ⟨H183, v189, n190, cs191, rfl, r186, els192⟩
              refine ⟨_, rfl, ?_⟩
              obtain ⟨H187, r186, hU188⟩ := St.lendX i178 S174.sl r186
              have els192 := els192.mono (hU188.tr (up_le S174.size))
              have S185 := S174.join (l' := [.row 9 1 v189 n190 cs191, .row 9 1 v170 1 [Value.string x43.main], .row 9 1 v67 1 [Value.string x43.main]]) r186 rfl
              refine ⟨(SP.nil (Sl.of_inc (((r147.run.inc.tr i156).tr r162.inc).tr r186.run.inc) S185.sl)), ?_⟩
              obtain ⟨H193, S194, i195, h196, nv197⟩ := S185.sealRowU (i := 0) (l' := [.row 9 1 v170 1 [Value.string x43.main], .row 9 1 v67 1 [Value.string x43.main]]) rfl els192 (by decide) rfl
              refine FB.t (i := 32) (bs 37 8589934591) rfl (SP.nil (Sl.of_inc (((r147.run.inc.tr i156).tr r162.inc).tr r186.run.inc) S185.sl)) (wF_yes rfl rfl rfl hc141_17) (fun w' hw' => (E.build (B2 rfl rfl) (run_build _ 68 #[(0, v189), (1, v47)] #[v189, v47] (by obtain ⟨_, _, rfl⟩ := RSl.ln (h196.mono upI); obtain ⟨_, _, rfl⟩ := RSl.ln (h48.mono ((((((((i27.tr i35).tr i58).tr r137.inc).tr r147.run.inc).tr i156).tr r162.inc).tr r186.run.inc).tr i195)); rfl)))) ?_
              refine FB.all1 (i := 33) (by kernel_rfl) ?_
              ·
               refine FC.call (l' := (bs 37 17179869183)) rfl (by kernel_rfl) (wF_yes rfl rfl rfl hc141_17) rfl rfl (E.callV Tryz.call195 rfl (appA (A1 rfl) #[])) (w_impl_seqCorrect_2 S194.sl (Sequent.mk r181 x43.seq.right) v189 (h196.mono upI) v47 (h48.mono ((((((((i27.tr i35).tr i58).tr r137.inc).tr r147.run.inc).tr i156).tr r162.inc).tr r186.run.inc).tr i195))) ?_
               rintro e w199 ⟨H198, q202, rfl, r201, h203⟩
               refine ⟨_, rfl, ?_⟩
               have S200 := S194.call r201
               refine ⟨(SP.nil (Sl.of_inc (((((r147.run.inc.tr i156).tr r162.inc).tr r186.run.inc).tr i195).tr r201.inc) S200.sl)), ?_⟩
               refine FB.all1 (i := 34) (by kernel_rfl) ?_
               ·
                refine FC.call (l' := (bs 37 34359738367)) rfl (by kernel_rfl) (wF_yes rfl rfl rfl hc141_17) rfl rfl (E.callV Tryz.call194 rfl (appA (A2 rfl rfl) #[Value.pointer (some ⟨b29, 0, none⟩), Value.pointer (some ⟨b21, 0, none⟩)])) (w_impl_seqCorrect_1 S200.sl x43.b (Value.func (.func 196) #[] #[Value.pointer (some q202)]) (fun x0 => PF.impl_seqCorrect_2_1 x0 (Sequent.mk r181 x43.seq.right)) (fun H2 w2 hi2 hs2 x0 y0_0 z0_0 y0_1 z0_1 r hr => ⟨196, #[Value.pointer (some q202)], rfl, Tryz.call196, w_impl_seqCorrect_2_1 hs2 x0 y0_0 z0_0 y0_1 z0_1 q202 (Sequent.mk r181 x43.seq.right) v189 ((h196.mono (upI.tr r201.inc)).mono hi2) v47 ((h48.mono (((((((((i27.tr i35).tr i58).tr r137.inc).tr r147.run.inc).tr i156).tr r162.inc).tr r186.run.inc).tr i195).tr r201.inc)).mono hi2) (h203.mono hi2) hr⟩) ⟨b29, 0, none⟩ a1 (at36.mono (((((((i58.tr r137.inc).tr r147.run.inc).tr i156).tr r162.inc).tr r186.run.inc).tr i195).tr r201.inc)) ⟨b21, 0, none⟩ a0 v0 (p0.mono (((((((((i27.tr i35).tr i58).tr r137.inc).tr r147.run.inc).tr i156).tr r162.inc).tr r186.run.inc).tr i195).tr r201.inc)) (at28.mono ((((((((i35.tr i58).tr r137.inc).tr r147.run.inc).tr i156).tr r162.inc).tr r186.run.inc).tr i195).tr r201.inc)) hr205) ?_
                rintro e w206 ⟨rfl, r207⟩
                refine ⟨_, rfl, ?_⟩
                have S208 := S200.call r207
                refine ⟨(SP.nil (Sl.of_inc (((((r147.run.inc.tr i156).tr r162.inc).tr r186.run.inc).tr i195).tr r201.inc) S208.sl)), ?_⟩
                refine FB.t (i := 35) (bs 37 68719476735) rfl (SP.nil (Sl.of_inc (((((r147.run.inc.tr i156).tr r162.inc).tr r186.run.inc).tr i195).tr r201.inc) S208.sl)) rfl (fun w' hw' => (E.asB (E.pickT rfl hc141_17 rfl) (Option.some.inj hqt141_35))) ?_
                refine FB.t (i := 36) (bs 37 137438953471) rfl (SP.nil (Sl.of_inc (((((r147.run.inc.tr i156).tr r162.inc).tr r186.run.inc).tr i195).tr r201.inc) S208.sl)) rfl (fun w' hw' => (E.assign (v := Value.bool t141_35) rfl)) ?_
                exact FB.done (by kernel_rfl) ⟨_, (S208.sel [] (by decide) rfl), (((((r147.run.inc.tr i156).tr r162.inc).tr r186.run.inc).tr i195).tr r201.inc), rfl⟩
           ·
            refine FB.skip (i := 18) (l' := (bs 37 524287)) rfl (by kernel_rfl) (by kernel_rfl) (by kernel_rfl) (by kernel_rfl) (by kernel_rfl) (SP.nil (Sl.of_inc ((r147.run.inc.tr i156).tr r162.inc) S169.sl)) (wF_no rfl rfl rfl hc141_17) rfl rfl ?_
            refine FB.skip (i := 19) (l' := (bs 37 1048575)) rfl (by kernel_rfl) (by kernel_rfl) (by kernel_rfl) (by kernel_rfl) (by kernel_rfl) (SP.nil (Sl.of_inc ((r147.run.inc.tr i156).tr r162.inc) S169.sl)) (wF_no rfl rfl rfl hc141_17) rfl rfl ?_
            refine FB.skip (i := 20) (l' := (bs 37 2097151)) rfl (by kernel_rfl) (by kernel_rfl) (by kernel_rfl) (by kernel_rfl) (by kernel_rfl) (SP.nil (Sl.of_inc ((r147.run.inc.tr i156).tr r162.inc) S169.sl)) (wF_no rfl rfl rfl hc141_17) rfl rfl ?_
            refine FB.skip (i := 21) (l' := (bs 37 4194303)) rfl (by kernel_rfl) (by kernel_rfl) (by kernel_rfl) (by kernel_rfl) (by kernel_rfl) (SP.nil (Sl.of_inc ((r147.run.inc.tr i156).tr r162.inc) S169.sl)) (wF_no rfl rfl rfl hc141_17) rfl rfl ?_
            refine FB.skip (i := 22) (l' := (bs 37 8388607)) rfl (by kernel_rfl) (by kernel_rfl) (by kernel_rfl) (by kernel_rfl) (by kernel_rfl) (SP.nil (Sl.of_inc ((r147.run.inc.tr i156).tr r162.inc) S169.sl)) (wF_no rfl rfl rfl hc141_17) rfl rfl ?_
            refine FB.skip (i := 23) (l' := (bs 37 16777215)) rfl (by kernel_rfl) (by kernel_rfl) (by kernel_rfl) (by kernel_rfl) (by kernel_rfl) (SP.nil (Sl.of_inc ((r147.run.inc.tr i156).tr r162.inc) S169.sl)) (wF_no rfl rfl rfl hc141_17) rfl rfl ?_
            refine FB.skip (i := 24) (l' := (bs 37 33554431)) rfl (by kernel_rfl) (by kernel_rfl) (by kernel_rfl) (by kernel_rfl) (by kernel_rfl) (SP.nil (Sl.of_inc ((r147.run.inc.tr i156).tr r162.inc) S169.sl)) (wF_no rfl rfl rfl hc141_17) rfl rfl ?_
            refine FB.skip (i := 25) (l' := (bs 37 67108863)) rfl (by kernel_rfl) (by kernel_rfl) (by kernel_rfl) (by kernel_rfl) (by kernel_rfl) (SP.nil (Sl.of_inc ((r147.run.inc.tr i156).tr r162.inc) S169.sl)) (wF_no rfl rfl rfl hc141_17) rfl rfl ?_
            refine FB.skip (i := 26) (l' := (bs 37 134217727)) rfl (by kernel_rfl) (by kernel_rfl) (by kernel_rfl) (by kernel_rfl) (by kernel_rfl) (SP.nil (Sl.of_inc ((r147.run.inc.tr i156).tr r162.inc) S169.sl)) (wF_no rfl rfl rfl hc141_17) rfl rfl ?_
            refine FB.skip (i := 27) (l' := (bs 37 268435455)) rfl (by kernel_rfl) (by kernel_rfl) (by kernel_rfl) (by kernel_rfl) (by kernel_rfl) (SP.nil (Sl.of_inc ((r147.run.inc.tr i156).tr r162.inc) S169.sl)) (wF_no rfl rfl rfl hc141_17) rfl rfl ?_
            refine FB.skip (i := 28) (l' := (bs 37 536870911)) rfl (by kernel_rfl) (by kernel_rfl) (by kernel_rfl) (by kernel_rfl) (by kernel_rfl) (SP.nil (Sl.of_inc ((r147.run.inc.tr i156).tr r162.inc) S169.sl)) (wF_no rfl rfl rfl hc141_17) rfl rfl ?_
            refine FB.skip (i := 29) (l' := (bs 37 1073741823)) rfl (by kernel_rfl) (by kernel_rfl) (by kernel_rfl) (by kernel_rfl) (by kernel_rfl) (SP.nil (Sl.of_inc ((r147.run.inc.tr i156).tr r162.inc) S169.sl)) (wF_no rfl rfl rfl hc141_17) rfl rfl ?_
            refine FB.skip (i := 30) (l' := (bs 37 2147483647)) rfl (by kernel_rfl) (by kernel_rfl) (by kernel_rfl) (by kernel_rfl) (by kernel_rfl) (SP.nil (Sl.of_inc ((r147.run.inc.tr i156).tr r162.inc) S169.sl)) (wF_no rfl rfl rfl hc141_17) rfl rfl ?_
            refine FB.skip (i := 31) (l' := (bs 37 4294967295)) rfl (by kernel_rfl) (by kernel_rfl) (by kernel_rfl) (by kernel_rfl) (by kernel_rfl) (SP.nil (Sl.of_inc ((r147.run.inc.tr i156).tr r162.inc) S169.sl)) (wF_no rfl rfl rfl hc141_17) rfl rfl ?_
            refine FB.skip (i := 32) (l' := (bs 37 8589934591)) rfl (by kernel_rfl) (by kernel_rfl) (by kernel_rfl) (by kernel_rfl) (by kernel_rfl) (SP.nil (Sl.of_inc ((r147.run.inc.tr i156).tr r162.inc) S169.sl)) (wF_no rfl rfl rfl hc141_17) rfl rfl ?_
            refine FB.skip (i := 33) (l' := (bs 37 17179869183)) rfl (by kernel_rfl) (by kernel_rfl) (by kernel_rfl) (by kernel_rfl) (by kernel_rfl) (SP.nil (Sl.of_inc ((r147.run.inc.tr i156).tr r162.inc) S169.sl)) (wF_no rfl rfl rfl hc141_17) rfl rfl ?_
            refine FB.skip (i := 34) (l' := (bs 37 34359738367)) rfl (by kernel_rfl) (by kernel_rfl) (by kernel_rfl) (by kernel_rfl) (by kernel_rfl) (SP.nil (Sl.of_inc ((r147.run.inc.tr i156).tr r162.inc) S169.sl)) (wF_no rfl rfl rfl hc141_17) rfl rfl ?_
            refine FB.t (i := 35) (bs 37 68719476735) rfl (SP.nil (Sl.of_inc ((r147.run.inc.tr i156).tr r162.inc) S169.sl)) rfl (fun w' hw' => (E.asB (E.pickF rfl hc141_17 rfl) (Option.some.inj hqt141_35))) ?_
            refine FB.t (i := 36) (bs 37 137438953471) rfl (SP.nil (Sl.of_inc ((r147.run.inc.tr i156).tr r162.inc) S169.sl)) rfl (fun w' hw' => (E.assign (v := Value.bool t141_35) rfl)) ?_
            exact FB.done (by kernel_rfl) ⟨_, (S169.sel [] (by decide) rfl), ((r147.run.inc.tr i156).tr r162.inc), rfl⟩
      ·
       rintro f213 w212 ⟨H209, S210, i211, k214⟩
       refine FW.ret ?_
       obtain rfl := Option.some.inj hp
       exact ⟨.inr rfl, res1 rfl k214 ⟨rfl, S210.back⟩⟩
     ·
      refine FW.condF rfl c141 ?_
      refine FW.skip (FW.seq ?_)
      refine FW.draw (fun w' => Run w135.heap.size H134 w135 H134 w') (by kernel_rfl) (by kernel_rfl) (run_drew S136.sl) ?_
      refine FD.val rfl rfl rfl (fun w' hw' => (E.move (v := v138) rfl)) ?_
      obtain ⟨y215, hy216, hp⟩ := bnd hp
      obtain ⟨q217, v219, v220, rfl, at218, h221, h222⟩ := FAt.open h139 hy216
      refine FD.val rfl rfl rfl (fun w' hw' => (E.nilCheck rfl)) ?_
      refine FD.val rfl rfl rfl (fun w' hw' => (E.fieldAddr tf109_0 rfl)) ?_
      refine FD.val rfl rfl rfl (fun w' hw' => (E.load rfl (run_load1 Tryz.isAgg5 (at218.now (S136.call hw').sl) rfl))) ?_
      refine FD.call rfl rfl rfl (fun w' hw' => (E.call Tryz.call191 (A2 rfl rfl))) (fun w' hw' => Calls.cls hw' (w_impl_ruleFor (S136.call hw').sl y215.op true)) ?_
      refine FD.val rfl rfl rfl (fun w' hw' => (E.fieldAddr tf74_1 rfl)) ?_
      refine FD.val rfl rfl rfl (fun w' hw' => (E.load rfl (run_load1 Tryz.isAgg3 ((at59.mono r137.inc).now (S136.call hw').sl) rfl))) ?_
      refine FD.val rfl rfl rfl (fun w' hw' => (E.eql rfl rfl)) ?_
      refine FD.val rfl rfl rfl (fun w' hw' => (E.move (v := Value.bool ((PF.impl_ruleFor y215.op true) == x43.rule)) rfl)) ?_
      obtain ⟨t223, hqt223, hp⟩ := bnd hp
      refine FD.cut 7 (fun f => f 5 = Value.pointer (some ⟨b49, 0, none⟩) ∧ f 6 = Value.func (.func 194) #[] #[Value.pointer (some ⟨b29, 0, none⟩), Value.pointer (some ⟨b21, 0, none⟩)] ∧ f 7 = Value.func (.func 195) #[] #[] ∧ f 8 = Value.pointer (some q217) ∧ f 125 = Value.bool t223) ?_ ?_
      ·
       clear hp; have hp := hqt223; clear hqt223
       rcases ifB hp with ⟨c225, hp⟩ | ⟨c225, hp⟩
       ·
        refine FD.val (wF_yes rfl rfl rfl c225) rfl rfl (fun w' hw' => (E.fieldAddr tf74_0 rfl)) ?_
        refine FD.val (wF_yes rfl rfl rfl c225) rfl rfl (fun w' hw' => (E.fieldAddrN tf68_0 rfl rfl)) ?_
        refine FD.val (wF_yes rfl rfl rfl c225) rfl rfl (fun w' hw' => (E.load rfl (run_load1 Tryz.isAgg22 ((at59.mono r137.inc).now (S136.call hw').sl) rfl))) ?_
        refine FD.val (wF_yes rfl rfl rfl c225) rfl rfl (fun w' hw' => (E.fieldAddr tf74_2 rfl)) ?_
        refine FD.val (wF_yes rfl rfl rfl c225) rfl rfl (fun w' hw' => (E.load rfl (run_load1 Tryz.isAgg9 ((at59.mono r137.inc).now (S136.call hw').sl) rfl))) ?_
        obtain ⟨r226, hr227, hp⟩ := bnd hp
        refine FD.call (wF_yes rfl rfl rfl c225) rfl rfl (fun w' hw' => (E.call Tryz.call189 (A2 rfl rfl))) (fun w' hw' => Calls.cls hw' (w_slices_Contains_string_string (S136.call hw').sl v45 x43.seq.left (h46.mono (((i27.tr i35).tr i58).tr r137.inc)) x43.main hr227)) ?_
        obtain rfl := Option.some.inj hp
        refine FD.val rfl rfl rfl (fun w' hw' => (E.pickT rfl c225 rfl)) ?_
        exact FD.nil ⟨rfl, rfl, rfl, rfl, rfl⟩
       ·
        refine FD.skip (wF_no rfl rfl rfl c225) rfl ?_
        refine FD.skip (wF_no rfl rfl rfl c225) rfl ?_
        refine FD.skip (wF_no rfl rfl rfl c225) rfl ?_
        refine FD.skip (wF_no rfl rfl rfl c225) rfl ?_
        refine FD.skip (wF_no rfl rfl rfl c225) rfl ?_
        refine FD.skip (wF_no rfl rfl rfl c225) rfl ?_
        obtain rfl := Option.some.inj hp
        refine FD.val rfl rfl rfl (fun w' hw' => (E.pickF rfl c225 rfl)) ?_
        exact FD.nil ⟨rfl, rfl, rfl, rfl, rfl⟩
      rintro f224 ⟨k228, k229, k230, k231, k232⟩
      refine FD.val rfl rfl rfl (fun w' hw' => (E.assign k232)) ?_
      refine FD.nil ?_
      intro w233 r235
      have S234 := S136.call r235
      refine FW.seq ?_
      refine FW.draw (fun w' => Run w233.heap.size H134 w233 H134 w') (by kernel_rfl) (by kernel_rfl) (run_drew S234.sl) ?_
      refine FD.val rfl rfl rfl (fun w' hw' => (E.move k231)) ?_
      refine FD.val rfl rfl rfl (fun w' hw' => (E.nilCheck rfl)) ?_
      refine FD.val rfl rfl rfl (fun w' hw' => (E.fieldAddr tf109_0 rfl)) ?_
      refine FD.val rfl rfl rfl (fun w' hw' => (E.load rfl (run_load1 Tryz.isAgg5 (at218.now (S234.call hw').sl) rfl))) ?_
      refine FD.call rfl rfl rfl (fun w' hw' => (E.call Tryz.call191 (A2 rfl rfl))) (fun w' hw' => Calls.cls hw' (w_impl_ruleFor (S234.call hw').sl y215.op false)) ?_
      refine FD.val rfl rfl rfl (fun w' hw' => (E.fieldAddr tf74_1 k228)) ?_
      refine FD.val rfl rfl rfl (fun w' hw' => (E.load rfl (run_load1 Tryz.isAgg3 ((at59.mono r137.inc).now (S234.call hw').sl) rfl))) ?_
      refine FD.val rfl rfl rfl (fun w' hw' => (E.eql rfl rfl)) ?_
      refine FD.val rfl rfl rfl (fun w' hw' => (E.move (v := Value.bool ((PF.impl_ruleFor y215.op false) == x43.rule)) rfl)) ?_
      obtain ⟨t236, hqt236, hp⟩ := bnd hp
      refine FD.cut 7 (fun f => f 5 = Value.pointer (some ⟨b49, 0, none⟩) ∧ f 6 = Value.func (.func 194) #[] #[Value.pointer (some ⟨b29, 0, none⟩), Value.pointer (some ⟨b21, 0, none⟩)] ∧ f 7 = Value.func (.func 195) #[] #[] ∧ f 8 = Value.pointer (some q217) ∧ f 10 = Value.bool t223 ∧ f 141 = Value.bool t236) ?_ ?_
      ·
       clear hp; have hp := hqt236; clear hqt236
       rcases ifB hp with ⟨c238, hp⟩ | ⟨c238, hp⟩
       ·
        refine FD.val (wF_yes rfl rfl rfl c238) rfl rfl (fun w' hw' => (E.fieldAddr tf74_0 k228)) ?_
        refine FD.val (wF_yes rfl rfl rfl c238) rfl rfl (fun w' hw' => (E.fieldAddrN tf68_1 rfl rfl)) ?_
        refine FD.val (wF_yes rfl rfl rfl c238) rfl rfl (fun w' hw' => (E.load rfl (run_load1 Tryz.isAgg22 ((at59.mono r137.inc).now (S234.call hw').sl) rfl))) ?_
        refine FD.val (wF_yes rfl rfl rfl c238) rfl rfl (fun w' hw' => (E.fieldAddr tf74_2 k228)) ?_
        refine FD.val (wF_yes rfl rfl rfl c238) rfl rfl (fun w' hw' => (E.load rfl (run_load1 Tryz.isAgg9 ((at59.mono r137.inc).now (S234.call hw').sl) rfl))) ?_
        obtain ⟨r239, hr240, hp⟩ := bnd hp
        refine FD.call (wF_yes rfl rfl rfl c238) rfl rfl (fun w' hw' => (E.call Tryz.call189 (A2 rfl rfl))) (fun w' hw' => Calls.cls hw' (w_slices_Contains_string_string (S234.call hw').sl v47 x43.seq.right (h48.mono (((i27.tr i35).tr i58).tr r137.inc)) x43.main hr240)) ?_
        obtain rfl := Option.some.inj hp
        refine FD.val rfl rfl rfl (fun w' hw' => (E.pickT rfl c238 rfl)) ?_
        exact FD.nil ⟨k228, k229, k230, k231, rfl, rfl⟩
       ·
        refine FD.skip (wF_no rfl rfl rfl c238) rfl ?_
        refine FD.skip (wF_no rfl rfl rfl c238) rfl ?_
        refine FD.skip (wF_no rfl rfl rfl c238) rfl ?_
        refine FD.skip (wF_no rfl rfl rfl c238) rfl ?_
        refine FD.skip (wF_no rfl rfl rfl c238) rfl ?_
        refine FD.skip (wF_no rfl rfl rfl c238) rfl ?_
        obtain rfl := Option.some.inj hp
        refine FD.val rfl rfl rfl (fun w' hw' => (E.pickF rfl c238 rfl)) ?_
        exact FD.nil ⟨k228, k229, k230, k231, rfl, rfl⟩
      rintro f237 ⟨k241, k242, k243, k244, k245, k246⟩
      refine FD.val rfl rfl rfl (fun w' hw' => (E.assign k246)) ?_
      refine FD.nil ?_
      intro w247 r249
      have S248 := S234.call r249
      refine FW.seq (FW.seq (FW.region ?_))
      refine FL.v (E.fieldAddr tf74_1 k241) ?_
      refine FL.v (E.load rfl (run_load1 Tryz.isAgg3 ((at59.mono r137.inc).now S248.sl) rfl)) ?_
      refine FL.v (E.eql rfl rfl) ?_
      refine FL.v (E.move (v := Value.bool (x43.rule == 0)) rfl) ?_
      refine FL.cut 7 (fun f w => ∃ H : GH, St Ha wa H w [] ∧ Inc H134 H ∧ f 5 = Value.pointer (some ⟨b49, 0, none⟩) ∧ f 6 = Value.func (.func 194) #[] #[Value.pointer (some ⟨b29, 0, none⟩), Value.pointer (some ⟨b21, 0, none⟩)] ∧ f 7 = Value.func (.func 195) #[] #[] ∧ f 8 = Value.pointer (some q217) ∧ f 152 = Value.bool (bif (x43.rule == 0) then true else (bif (!t223) then (!t236) else false))) ?_ ?_
      ·
       rcases bcase (x43.rule == 0) with c255 | c255
       ·
        refine FL.skip (wF_no rfl rfl rfl c255) rfl ?_
        refine FL.skip (wF_no rfl rfl rfl c255) rfl ?_
        refine FL.skip (wF_no rfl rfl rfl c255) rfl ?_
        refine FL.skip (wF_undef rfl rfl rfl) rfl ?_
        refine FL.skip (wF_undef rfl rfl rfl) rfl ?_
        refine FL.skip (wF_no rfl rfl rfl c255) rfl ?_
        refine FL.v (E.pickT rfl c255 rfl) ?_
        exact FL.nil ⟨rfl, _, S248, (Inc.rfl _), k241, k242, k243, k244, (congrArg Value.bool (bifT c255).symm)⟩
       ·
        refine FL.val (wF_yes rfl rfl rfl c255) rfl rfl (E.move k245) ?_
        refine FL.val (wF_yes rfl rfl rfl c255) rfl rfl (E.not rfl) ?_
        refine FL.val (wF_yes rfl rfl rfl c255) rfl rfl (E.move (v := Value.bool (!t223)) rfl) ?_
        refine FL.cut 3 (fun f w => ∃ H : GH, St Ha wa H w [] ∧ Inc H134 H ∧ f 5 = Value.pointer (some ⟨b49, 0, none⟩) ∧ f 6 = Value.func (.func 194) #[] #[Value.pointer (some ⟨b29, 0, none⟩), Value.pointer (some ⟨b21, 0, none⟩)] ∧ f 7 = Value.func (.func 195) #[] #[] ∧ f 8 = Value.pointer (some q217) ∧ f 145 = Value.bool (x43.rule == 0) ∧ f 151 = Value.bool (bif (!t223) then (!t236) else false)) ?_ ?_
        ·
         rcases bcase (!t223) with c261 | c261
         ·
          refine FL.val (wF_yes rfl rfl rfl c261) rfl rfl (E.move (v := Value.bool t236) rfl) ?_
          refine FL.val (wF_yes rfl rfl rfl c261) rfl rfl (E.not rfl) ?_
          refine FL.val (wF_yes rfl rfl rfl c255) rfl rfl (E.pickT rfl c261 rfl) ?_
          exact FL.nil ⟨rfl, _, S248, (Inc.rfl _), k241, k242, k243, k244, rfl, (congrArg Value.bool (bifT c261).symm)⟩
         ·
          refine FL.skip (wF_no rfl rfl rfl c261) rfl ?_
          refine FL.skip (wF_no rfl rfl rfl c261) rfl ?_
          refine FL.val (wF_yes rfl rfl rfl c255) rfl rfl (E.pickF rfl c261 rfl) ?_
          exact FL.nil ⟨rfl, _, S248, (Inc.rfl _), k241, k242, k243, k244, rfl, (congrArg Value.bool (bifF c261).symm)⟩
        rintro f260 w259 ⟨H256, S257, i258, k262, k263, k264, k265, k266, k267⟩
        refine FL.v (E.pickF k266 c255 k267) ?_
        exact FL.nil ⟨rfl, _, S257, i258, k262, k263, k264, k265, (congrArg Value.bool (bifF c255).symm)⟩
      rintro f254 w253 ⟨H250, S251, i252, k268, k269, k270, k271, k272⟩
      refine FL.nil ?_
      rcases ifB hp with ⟨c273, hp⟩ | ⟨c273, hp⟩
      ·
       refine FW.condT k272 c273 ?_
       refine FW.seq (FW.region ?_)
       refine FL.v (E.assign (v := Value.bool false) rfl) ?_
       refine FL.nil ?_
       refine FW.ret ?_
       obtain rfl := Option.some.inj hp
       exact ⟨.inr rfl, res1 rfl rfl ⟨rfl, S251.back⟩⟩
      ·
       refine FW.condF k272 c273 ?_
       refine FW.skip (FW.seq (FW.region ?_))
       refine FL.v (E.fieldAddr tf74_0 k268) ?_
       refine FL.v (E.load rfl (run_loadA Tryz.isAgg68 Tryz.sizeOf68 (((at59.mono (r137.inc.tr i252)).now S251.sl).sub (j := 0) (n := 2) (c := [v45, v47]) rfl) rfl)) ?_
       refine FL.v (E.fieldAddr tf74_1 k268) ?_
       refine FL.v (E.load rfl (run_load1 Tryz.isAgg3 ((at59.mono (r137.inc.tr i252)).now S251.sl) rfl)) ?_
       refine FL.v (E.move k271) ?_
       obtain ⟨r274, hr275, hp⟩ := bnd hp
       refine FL.call rfl rfl rfl (E.call Tryz.call156 (A3 rfl rfl rfl)) (w_impl_premisesOf S251.sl x43.seq v45 (h46.mono ((((i27.tr i35).tr i58).tr r137.inc).tr i252)) v47 (h48.mono ((((i27.tr i35).tr i58).tr r137.inc).tr i252)) x43.rule (Value.pointer (some q217)) r132.1 (h139.mono i252) hr275) ?_
       rintro e w277 ⟨H276, v280, n281, cs282, rfl, r279, els283⟩
       refine ⟨_, rfl, ?_⟩
       have S278 := S251.join (l' := [.row 68 2 v280 n281 cs282]) r279 rfl
       refine FL.v (E.assign (v := v280) rfl) ?_
       refine FL.nil (FW.seq (FW.seq ?_))
       obtain ⟨x293, hx294, hp⟩ := bnd hp
       obtain ⟨r306, hr307, hp⟩ := bnd hp
       refine FW.drawB (SX Ha wa H276 [.row 68 2 v280 n281 cs282]) (fun f w => ∃ H : GH, St Ha wa H w [.row 68 2 v280 n281 cs282] ∧ Inc H276 H ∧ f 5 = Value.pointer (some ⟨b49, 0, none⟩) ∧ f 6 = Value.func (.func 194) #[] #[Value.pointer (some ⟨b29, 0, none⟩), Value.pointer (some ⟨b21, 0, none⟩)] ∧ f 7 = Value.func (.func 195) #[] #[] ∧ f 12 = v280 ∧ f 168 = Value.bool (!r306)) (by kernel_rfl) S278.sl ?_ ?_
       ·
        intro w284 r285
        have S286 := S278.call r285
        refine FB.t (i := 0) (bs 10 1) rfl (SP.nil ⟨_, S286, (Inc.rfl _)⟩) rfl (fun w' hw' => (E.move k269)) ?_
        refine FB.t (i := 1) (bs 10 3) rfl (SP.nil ⟨_, S286, (Inc.rfl _)⟩) rfl (fun w' hw' => (E.fieldAddr tf74_3 k268)) ?_
        refine FB.t (i := 2) (bs 10 7) rfl (SP.nil ⟨_, S286, (Inc.rfl _)⟩) rfl (fun w' hw' => (E.load rfl (run_load1 Tryz.isAgg3 ((at59.mono ((r137.inc.tr i252).tr r279.run.inc)).now hw'.sl) rfl))) ?_
        refine FB.t (i := 3) (bs 10 15) rfl (SP.nil ⟨_, S286, (Inc.rfl _)⟩) rfl (fun w' hw' => (E.move k270)) ?_
        refine FB.t (i := 4) (bs 10 31) rfl (SP.nil ⟨_, S286, (Inc.rfl _)⟩) rfl (fun w' hw' => (E.move (v := v280) rfl)) ?_
        obtain ⟨p287, cs288, pt289, l290, at291, rel292, hall295⟩ := S286.row_atA (i := 0) rfl els283 (by decide) hx294
        obtain ⟨v296, v298, rfl, h297, h299⟩ := eSequent_open rel292
        refine FB.t (i := 5) (bs 10 63) rfl (SP.nil ⟨_, S286, (Inc.rfl _)⟩) rfl (fun w' hw' => (E.indexAddr te172 rfl rfl pt289)) ?_
        refine FB.t (i := 6) (bs 10 127) rfl (SP.nil ⟨_, S286, (Inc.rfl _)⟩) rfl (fun w' hw' => (E.load rfl (run_loadA Tryz.isAgg68 Tryz.sizeOf68 (hw'.use fun _ st => hall295 _ _ _ 0 st rfl) rfl))) ?_
        refine FB.all1 (i := 7) (by kernel_rfl) ?_
        ·
         refine FC.call (l' := (bs 10 255)) rfl (by kernel_rfl) rfl rfl rfl (E.callV Tryz.call195 rfl (appA (A1 rfl) #[])) (w_impl_seqCorrect_2 S286.sl x293 v296 h297 v298 h299) ?_
         rintro e w301 ⟨H300, q304, rfl, r303, h305⟩
         refine ⟨_, rfl, ?_⟩
         have S302 := S286.call r303
         refine ⟨(SP.nil ⟨_, S302, r303.inc⟩), ?_⟩
         refine FB.all1 (i := 8) (by kernel_rfl) ?_
         ·
          refine FC.call (l' := (bs 10 511)) rfl (by kernel_rfl) rfl rfl rfl (E.callV Tryz.call194 rfl (appA (A2 rfl rfl) #[Value.pointer (some ⟨b29, 0, none⟩), Value.pointer (some ⟨b21, 0, none⟩)])) (w_impl_seqCorrect_1 S302.sl x43.a (Value.func (.func 196) #[] #[Value.pointer (some q304)]) (fun x0 => PF.impl_seqCorrect_2_1 x0 x293) (fun H2 w2 hi2 hs2 x0 y0_0 z0_0 y0_1 z0_1 r hr => ⟨196, #[Value.pointer (some q304)], rfl, Tryz.call196, w_impl_seqCorrect_2_1 hs2 x0 y0_0 z0_0 y0_1 z0_1 q304 x293 v296 ((h297.mono r303.inc).mono hi2) v298 ((h299.mono r303.inc).mono hi2) (h305.mono hi2) hr⟩) ⟨b29, 0, none⟩ a1 (at36.mono ((((i58.tr r137.inc).tr i252).tr r279.run.inc).tr r303.inc)) ⟨b21, 0, none⟩ a0 v0 (p0.mono ((((((i27.tr i35).tr i58).tr r137.inc).tr i252).tr r279.run.inc).tr r303.inc)) (at28.mono (((((i35.tr i58).tr r137.inc).tr i252).tr r279.run.inc).tr r303.inc)) hr307) ?_
          rintro e w308 ⟨rfl, r309⟩
          refine ⟨_, rfl, ?_⟩
          have S310 := S302.call r309
          refine ⟨(SP.nil ⟨_, S310, r303.inc⟩), ?_⟩
          refine FB.t (i := 9) (bs 10 1023) rfl (SP.nil ⟨_, S310, r303.inc⟩) rfl (fun w' hw' => (E.not rfl)) ?_
          exact FB.done (by kernel_rfl) ⟨_, S310, r303.inc, k268, k269, k270, rfl, rfl⟩
       ·
        rintro f315 w314 ⟨H311, S312, i313, k316, k317, k318, k319, k320⟩
        rcases ifB hp with ⟨c321, hp⟩ | ⟨c321, hp⟩
        ·
         refine FW.condT k320 c321 ?_
         refine FW.seq (FW.region ?_)
         refine FL.v (E.assign (v := Value.bool false) rfl) ?_
         refine FL.nil ?_
         refine FW.ret ?_
         obtain rfl := Option.some.inj hp
         exact ⟨.inr rfl, res1 rfl rfl ⟨rfl, S312.back⟩⟩
        ·
         refine FW.condF k320 c321 ?_
         refine FW.skip (FW.seq (FW.seq (FW.region ?_)))
         refine FL.v (E.move k319) ?_
         refine FL.v (E.lenO te172 rfl S312 (i := 0) rfl els283 (by decide)) ?_
         refine FL.v (E.eql rfl rfl) ?_
         refine FL.nil ?_
         rcases ifB hp with ⟨c322, hp⟩ | ⟨c322, hp⟩
         ·
          refine FW.condT rfl c322 ?_
          refine FW.seq (FW.region ?_)
          refine FL.v (E.fieldAddr tf74_4 k316) ?_
          refine FL.v (E.load rfl (run_load1 Tryz.isAgg3 ((at59.mono (((r137.inc.tr i252).tr r279.run.inc).tr i313)).now S312.sl) rfl)) ?_
          refine FL.v (E.eql rfl rfl) ?_
          refine FL.v (E.assign (v := Value.bool (x43.b == 0)) rfl) ?_
          refine FL.nil ?_
          refine FW.ret ?_
          obtain rfl := Option.some.inj hp
          exact ⟨.inr rfl, res1 rfl rfl ⟨rfl, S312.back⟩⟩
         ·
          refine FW.condF rfl c322 ?_
          refine FW.skip (FW.seq ?_)
          obtain ⟨x332, hx333, hp⟩ := bnd hp
          obtain ⟨r345, hr346, hp⟩ := bnd hp
          refine FW.drawB (SX Ha wa H311 [.row 68 2 v280 n281 cs282]) (fun f w => ∃ H : GH, St Ha wa H w [] ∧ Inc H311 H ∧ f 4 = Value.bool r345) (by kernel_rfl) S312.sl ?_ ?_
          ·
           intro w323 r324
           have S325 := S312.call r324
           refine FB.t (i := 0) (bs 10 1) rfl (SP.nil ⟨_, S325, (Inc.rfl _)⟩) rfl (fun w' hw' => (E.move k317)) ?_
           refine FB.t (i := 1) (bs 10 3) rfl (SP.nil ⟨_, S325, (Inc.rfl _)⟩) rfl (fun w' hw' => (E.fieldAddr tf74_4 k316)) ?_
           refine FB.t (i := 2) (bs 10 7) rfl (SP.nil ⟨_, S325, (Inc.rfl _)⟩) rfl (fun w' hw' => (E.load rfl (run_load1 Tryz.isAgg3 ((at59.mono (((r137.inc.tr i252).tr r279.run.inc).tr i313)).now hw'.sl) rfl))) ?_
           refine FB.t (i := 3) (bs 10 15) rfl (SP.nil ⟨_, S325, (Inc.rfl _)⟩) rfl (fun w' hw' => (E.move k318)) ?_
           refine FB.t (i := 4) (bs 10 31) rfl (SP.nil ⟨_, S325, (Inc.rfl _)⟩) rfl (fun w' hw' => (E.move k319)) ?_
           obtain ⟨p326, cs327, pt328, l329, at330, rel331, hall334⟩ := S325.row_atA (i := 0) rfl els283 (by decide) hx333
           obtain ⟨v335, v337, rfl, h336, h338⟩ := eSequent_open rel331
           refine FB.t (i := 5) (bs 10 63) rfl (SP.nil ⟨_, S325, (Inc.rfl _)⟩) rfl (fun w' hw' => (E.indexAddr te172 rfl rfl pt328)) ?_
           refine FB.t (i := 6) (bs 10 127) rfl (SP.nil ⟨_, S325, (Inc.rfl _)⟩) rfl (fun w' hw' => (E.load rfl (run_loadA Tryz.isAgg68 Tryz.sizeOf68 (hw'.use fun _ st => hall334 _ _ _ 0 st rfl) rfl))) ?_
           refine FB.all1 (i := 7) (by kernel_rfl) ?_
           ·
            refine FC.call (l' := (bs 10 255)) rfl (by kernel_rfl) rfl rfl rfl (E.callV Tryz.call195 rfl (appA (A1 rfl) #[])) (w_impl_seqCorrect_2 S325.sl x332 v335 (h336.mono i313) v337 (h338.mono i313)) ?_
            rintro e w340 ⟨H339, q343, rfl, r342, h344⟩
            refine ⟨_, rfl, ?_⟩
            have S341 := S325.call r342
            refine ⟨(SP.nil ⟨_, S341, r342.inc⟩), ?_⟩
            refine FB.all1 (i := 8) (by kernel_rfl) ?_
            ·
             refine FC.call (l' := (bs 10 511)) rfl (by kernel_rfl) rfl rfl rfl (E.callV Tryz.call194 rfl (appA (A2 rfl rfl) #[Value.pointer (some ⟨b29, 0, none⟩), Value.pointer (some ⟨b21, 0, none⟩)])) (w_impl_seqCorrect_1 S341.sl x43.b (Value.func (.func 196) #[] #[Value.pointer (some q343)]) (fun x0 => PF.impl_seqCorrect_2_1 x0 x332) (fun H2 w2 hi2 hs2 x0 y0_0 z0_0 y0_1 z0_1 r hr => ⟨196, #[Value.pointer (some q343)], rfl, Tryz.call196, w_impl_seqCorrect_2_1 hs2 x0 y0_0 z0_0 y0_1 z0_1 q343 x332 v335 ((h336.mono (i313.tr r342.inc)).mono hi2) v337 ((h338.mono (i313.tr r342.inc)).mono hi2) (h344.mono hi2) hr⟩) ⟨b29, 0, none⟩ a1 (at36.mono (((((i58.tr r137.inc).tr i252).tr r279.run.inc).tr i313).tr r342.inc)) ⟨b21, 0, none⟩ a0 v0 (p0.mono (((((((i27.tr i35).tr i58).tr r137.inc).tr i252).tr r279.run.inc).tr i313).tr r342.inc)) (at28.mono ((((((i35.tr i58).tr r137.inc).tr i252).tr r279.run.inc).tr i313).tr r342.inc)) hr346) ?_
             rintro e w347 ⟨rfl, r348⟩
             refine ⟨_, rfl, ?_⟩
             have S349 := S341.call r348
             refine ⟨(SP.nil ⟨_, S349, r342.inc⟩), ?_⟩
             refine FB.t (i := 9) (bs 10 1023) rfl (SP.nil ⟨_, S349, r342.inc⟩) rfl (fun w' hw' => (E.assign (v := Value.bool r345) rfl)) ?_
             exact FB.done (by kernel_rfl) ⟨_, (S349.sel [] (by decide) rfl), r342.inc, rfl⟩
          ·
           rintro f354 w353 ⟨H350, S351, i352, k355⟩
           refine FW.ret ?_
           obtain rfl := Option.some.inj hp
           exact ⟨.inr rfl, res1 rfl k355 ⟨rfl, S351.back⟩⟩

theorem w_impl_firstBadSeq {Ha : GH} {wa : World} (hs : Sl Ha wa) (v0 : Value) (a0 : List SeqStep) (p0 : RSl Ha eSeqStep 6 v0 a0) {r : Int} (hp : (PF.impl_firstBadSeq a0) = some r) :
  Calls Tryz.prog 110 #[v0] wa (Sc Ha wa (Value.int .i64 r)) := by
 unfold PF.impl_firstBadSeq at hp
 have S0 := St.init hs
 refine calls_go (N := 15) (args := [v0]) Tryz.func110 rfl rfl rfl ?_
 refine FW.seq (FW.region ?_)
 refine FL.v (E.assign (v := Value.int .i64 0) rfl) ?_
 refine FL.nil (FW.seq (FW.seq (FW.region ?_)))
 refine FL.v (E.move (v := v0) rfl) ?_
 refine FL.v (E.lenP te24 rfl p0) ?_
 refine FL.v (E.move (v := Value.int .i64 0) rfl) ?_
 refine FL.nil ?_
 obtain ⟨q22, hq, hp⟩ := bndR hp
 refine FW.block ?_
 refine FW.mono (FW.forL (S := Unit) (X := Int) (fun (i22 : Nat) (s22 : Unit) f w => ∃ H : GH, St Ha wa H w [] ∧ Inc Ha H ∧ f 6 = Value.int .i64 ((i22 : Nat) : Int) ∧ f 0 = v0 ∧ f 5 = Value.int .i64 (len a0)) (fun q e f w => match q with | .go s22 => e = Exit.exit 0 ∧ (∃ H : GH, St Ha wa H w [] ∧ Inc Ha H) | .rt x => ((e = Exit.ret) ∧ (fun e f w => (e = Exit.normal ∨ e = Exit.ret) ∧ ∀ a, Fr (δ := []) 15 a f → ∃ v, (results Tryz.f110 a.tmps).run Tryz.prog w = .ok v w ∧ (Sc Ha wa (Value.int .i64 x)) (.returned v) w) e f w)) hq ⟨_, S0, (Inc.rfl _), rfl, rfl, rfl⟩ ?_ ?_) ?_
 ·
  clear hp hq
  rintro i22 y21 s22 f41 w40 ⟨H37, S38, i39, k42, k43, k44⟩ hx22 o51 hp
  refine FW.seq (FW.region ?_)
  refine FL.v (E.lssT k42 k44 (lss_len hx22)) ?_
  refine FL.nil (FW.seq ?_)
  refine FW.condT rfl rfl ?_
  refine FW.skip (FW.seq (FW.block (FW.seq (FW.region ?_))))
  refine FL.v (E.move k42) ?_
  refine FL.v (E.assign (v := Value.int .i64 ((i22 : Nat) : Int)) rfl) ?_
  refine FL.nil (FW.seq (FW.region ?_))
  refine FL.v (E.move k43) ?_
  refine FL.v (E.move (v := Value.int .i64 ((i22 : Nat) : Int)) rfl) ?_
  obtain ⟨r45, hr46, hp⟩ := bnd hp
  refine FL.call rfl rfl rfl (E.call Tryz.call158 (A2 rfl rfl)) (w_impl_seqCorrect S38.sl v0 a0 (p0.mono i39) ((i22 : Nat) : Int) hr46) ?_
  rintro e w47 ⟨rfl, r48⟩
  refine ⟨_, rfl, ?_⟩
  have S49 := S38.call r48
  refine FL.v (E.not rfl) ?_
  refine FL.nil ?_
  rcases ifB hp with ⟨c50, hp⟩ | ⟨c50, hp⟩
  ·
   refine FW.condT rfl c50 ?_
   refine FW.seq (FW.region ?_)
   refine FL.v (E.move (v := Value.int .i64 ((i22 : Nat) : Int)) rfl) ?_
   refine FL.v (E.assign (v := Value.int .i64 ((i22 : Nat) : Int)) rfl) ?_
   refine FL.nil ?_
   refine FW.ret ?_
   obtain rfl := Option.some.inj hp
   exact ⟨nofun, rfl, ⟨.inr rfl, res1 rfl rfl ⟨rfl, S49.back⟩⟩⟩
  ·
   refine FW.condF rfl c50 ?_
   refine FW.skip (FW.region ?_)
   refine FL.v (E.add k42 rfl) ?_
   refine FL.v (E.move (v := Value.int .i64 (wr (((i22 : Nat) : Int) + 1))) rfl) ?_
   refine FL.nil ?_
   obtain rfl := Option.some.inj hp
   exact ⟨rfl, ⟨_, S49, i39, (nat_succ rfl (lt_of_get hx22) (p0.mono i39).le), k43, k44⟩⟩
 ·
  clear hp hq
  rintro s22 f61 w60 ⟨H57, S58, i59, k62, k63, k64⟩
  refine FW.seq (FW.region ?_)
  refine FL.v (E.lss k62 k64) ?_
  refine FL.nil (FW.seq ?_)
  refine FW.condF rfl dlt_len ?_
  refine FW.exit ?_
  exact ⟨nofun, rfl, ⟨_, S58, i59⟩⟩
 ·
  clear hq
  intro e f56 w55 hD
  rcases q22 with s22 | x22
  ·
   obtain ⟨rfl, hD⟩ := hD
   obtain ⟨H52, S53, i54⟩ := hD
   replace hp := el_go hp
   refine FW.seq (FW.region ?_)
   refine FL.v (E.assign (v := Value.int .i64 (-1)) rfl) ?_
   refine FL.nil ?_
   refine FW.ret ?_
   obtain rfl := Option.some.inj hp
   exact ⟨.inr rfl, res1 rfl rfl ⟨rfl, S53.back⟩⟩
  ·
   obtain ⟨he, hL⟩ := hD
   replace hp := el_rt hp
   obtain rfl := Option.some.inj hp
   subst he
   exact hL

theorem w_impl_isSeqProof {Ha : GH} {wa : World} (hs : Sl Ha wa) (v0 : Value) (a0 : List SeqStep) (p0 : RSl Ha eSeqStep 6 v0 a0) {r : Bool} (hp : (PF.impl_isSeqProof a0) = some r) :
  Calls Tryz.prog 62 #[v0] wa (Sc Ha wa (Value.bool r)) := by
 unfold PF.impl_isSeqProof at hp
 have S0 := St.init hs
 refine calls_go (N := 11) (args := [v0]) Tryz.func62 rfl rfl rfl ?_
 refine FW.seq (FW.region ?_)
 refine FL.v (E.assign (v := Value.bool false) rfl) ?_
 refine FL.nil (FW.seq (FW.region ?_))
 refine FL.v (E.move (v := v0) rfl) ?_
 refine FL.v (E.lenP te24 rfl p0) ?_
 refine FL.call rfl rfl rfl (E.call Tryz.call91 (A3 rfl rfl rfl)) (w_impl_within S0.sl (len a0) 1 200) ?_
 rintro e w21 ⟨rfl, r22⟩
 refine ⟨_, rfl, ?_⟩
 have S23 := S0.call r22
 refine FL.v (E.move (v := Value.bool (PF.impl_within (len a0) 1 200)) rfl) ?_
 obtain ⟨t29, hqt29, hp⟩ := bnd hp
 refine FL.cut 4 (fun f w => ∃ H : GH, St Ha wa H w [] ∧ Inc Ha H ∧ f 10 = Value.bool t29) ?_ ?_
 ·
  clear hp; have hp := hqt29; clear hqt29
  rcases ifB hp with ⟨c35, hp⟩ | ⟨c35, hp⟩
  ·
   refine FL.val (wF_yes rfl rfl rfl c35) rfl rfl (E.move (v := v0) rfl) ?_
   obtain ⟨r36, hr37, hp⟩ := bnd hp
   refine FL.call (wF_yes rfl rfl rfl c35) rfl rfl (E.call Tryz.call110 (A1 rfl)) (w_impl_firstBadSeq S23.sl v0 a0 p0 hr37) ?_
   rintro e w38 ⟨rfl, r39⟩
   refine ⟨_, rfl, ?_⟩
   have S40 := S23.call r39
   refine FL.val (wF_yes rfl rfl rfl c35) rfl rfl (E.lss rfl rfl) ?_
   obtain rfl := Option.some.inj hp
   refine FL.v (E.pickT rfl c35 rfl) ?_
   exact FL.nil ⟨rfl, _, S40, (Inc.rfl _), rfl⟩
  ·
   refine FL.skip (wF_no rfl rfl rfl c35) rfl ?_
   refine FL.skip (wF_no rfl rfl rfl c35) rfl ?_
   refine FL.skip (wF_no rfl rfl rfl c35) rfl ?_
   obtain rfl := Option.some.inj hp
   refine FL.v (E.pickF rfl c35 rfl) ?_
   exact FL.nil ⟨rfl, _, S23, (Inc.rfl _), rfl⟩
 rintro f34 w33 ⟨H30, S31, i32, k41⟩
 refine FL.v (E.assign k41) ?_
 refine FL.nil ?_
 refine FW.ret ?_
 obtain rfl := Option.some.inj hp
 exact ⟨.inr rfl, res1 rfl rfl ⟨rfl, S31.back⟩⟩

@[reducible] def p_impl_last_impl_SeqStep (Ha : GH) (wa : World) (r : SeqStep) : Ending → World → Prop :=
 fun e w' => ∃ H' : GH, ∃ v0_0 : Value, ∃ v0_1 : Value, e = .returned (Value.agg #[v0_0, v0_1, Value.int .i64 r.rule, Value.string r.main, Value.int .i64 r.a, Value.int .i64 r.b]) ∧ Run wa.heap.size Ha wa H' w' ∧ RSl H' eS 1 v0_0 r.seq.left ∧ RSl H' eS 1 v0_1 r.seq.right
theorem w_impl_last_impl_SeqStep {Ha : GH} {wa : World} (hs : Sl Ha wa) (v0 : Value) (a0 : List SeqStep) (p0 : RSl Ha eSeqStep 6 v0 a0) {r : SeqStep} (hp : (PF.impl_last_impl_SeqStep a0) = some r) :
  Calls Tryz.prog 66 #[v0] wa (p_impl_last_impl_SeqStep Ha wa r) := by
 unfold PF.impl_last_impl_SeqStep at hp
 have S0 := St.init hs
 refine calls_go (N := 9) (args := [v0]) Tryz.func66 rfl rfl rfl ?_
 refine FW.seq (FW.region ?_)
 obtain ⟨b21, w22, run23, S24⟩ := S0.alloc (P := Tryz.prog) 74 [Value.slice none 0 0, Value.slice none 0 0, Value.int .i64 0, Value.string ByteArray.empty, Value.int .i64 0, Value.int .i64 0] Tryz.zeroValue74 rfl (ones_cons rfl (ones_cons rfl (ones_cons rfl (ones_cons rfl (ones_cons rfl (ones_cons rfl ones_nil))))))
 refine FL.v (E.alloc run23) ?_
 refine FL.nil (FW.seq (FW.region ?_))
 refine FL.v (E.move (v := v0) rfl) ?_
 refine FL.v (E.move (v := v0) rfl) ?_
 refine FL.v (E.lenP te24 rfl p0) ?_
 refine FL.v (E.sub rfl rfl) ?_
 obtain ⟨x31, hx32, hp⟩ := bnd hp
 obtain ⟨p25, cs26, pt27, l28, at29, rel30⟩ := p0.at hx32
 obtain ⟨v33, v35, rfl, h34, h36⟩ := eSeqStep_open rel30
 refine FL.v (E.indexAddr te24 rfl rfl pt27) ?_
 refine FL.v (E.load rfl (run_loadA Tryz.isAgg74 Tryz.sizeOf74 (at29.now S24.sl) rfl)) ?_
 obtain ⟨w37, run38, S39⟩ := S24.store0 (P := Tryz.prog) (t := 74) (i := 0) (cs' := [v33, v35, Value.int .i64 x31.rule, Value.string x31.main, Value.int .i64 x31.a, Value.int .i64 x31.b]) (l' := [.box b21 74 [v33, v35, Value.int .i64 x31.rule, Value.string x31.main, Value.int .i64 x31.a, Value.int .i64 x31.b]]) (v := Value.agg #[v33, v35, Value.int .i64 x31.rule, Value.string x31.main, Value.int .i64 x31.a, Value.int .i64 x31.b]) (c := [v33, v35, Value.int .i64 x31.rule, Value.string x31.main, Value.int .i64 x31.a, Value.int .i64 x31.b]) rfl Tryz.sizeOf74 rfl rfl (ones_cons h34.one (ones_cons h36.one (ones_cons rfl (ones_cons rfl (ones_cons rfl (ones_cons rfl ones_nil)))))) (Nat.le_of_ble_eq_true rfl) rfl rfl
 refine FL.act rfl rfl (E.store rfl rfl run38) ?_
 obtain ⟨H40, S41, i42, at43⟩ := S39.sealBox (i := 0) (l' := []) rfl rfl
 refine FL.nil ?_
 refine FW.ret ?_
 obtain rfl := Option.some.inj hp
 exact ⟨.inr rfl, resC rfl rfl (loadVar_A Tryz.isAgg74 Tryz.sizeOf74 (at43.now S41.sl) rfl) ⟨_, _, _, rfl, S41.run, (h34.mono i42), (h36.mono i42)⟩⟩

@[reducible] def p_impl_SeqStep_uses (Ha : GH) (wa : World) (r : (List Int)) : Ending → World → Prop :=
 fun e w' => ∃ H' : GH, ∃ v0 : Value, ∃ n0 : Nat, ∃ c0 : List Value, e = .returned (v0) ∧ St Ha wa H' w' [.row 3 1 v0 n0 c0] ∧ Els (up wa.heap.size H') eI 1 c0 r
set_option maxHeartbeats 4000000 in
theorem w_impl_SeqStep_uses {Ha : GH} {wa : World} (hs : Sl Ha wa) (a0 : SeqStep) (v0_0 : Value) (p0_0 : RSl Ha eS 1 v0_0 a0.seq.left) (v0_1 : Value) (p0_1 : RSl Ha eS 1 v0_1 a0.seq.right) :
  Calls Tryz.prog 113 #[Value.agg #[v0_0, v0_1, Value.int .i64 a0.rule, Value.string a0.main, Value.int .i64 a0.a, Value.int .i64 a0.b]] wa (p_impl_SeqStep_uses Ha wa (PF.impl_SeqStep_uses a0)) := by
 obtain ⟨r, hp⟩ : ∃ r, (PF.impl_SeqStep_uses a0) = r := ⟨_, rfl⟩
 rw [hp]
 unfold PF.impl_SeqStep_uses at hp
 have S0 := St.init hs
 refine calls_go (N := 20) (args := [Value.agg #[v0_0, v0_1, Value.int .i64 a0.rule, Value.string a0.main, Value.int .i64 a0.a, Value.int .i64 a0.b]]) Tryz.func113 rfl rfl rfl ?_
 refine FW.seq (FW.region ?_)
 obtain ⟨b21, w22, run23, S24⟩ := S0.box (P := Tryz.prog) 74 [v0_0, v0_1, Value.int .i64 a0.rule, Value.string a0.main, Value.int .i64 a0.a, Value.int .i64 a0.b] (v := Value.agg #[v0_0, v0_1, Value.int .i64 a0.rule, Value.string a0.main, Value.int .i64 a0.a, Value.int .i64 a0.b]) rfl (ones_cons p0_0.one (ones_cons p0_1.one (ones_cons rfl (ones_cons rfl (ones_cons rfl (ones_cons rfl ones_nil))))))
 refine FL.v (E.box rfl run23) ?_
 obtain ⟨H25, S26, i27, at28⟩ := S24.sealBox (i := 0) (l' := []) rfl rfl
 refine FL.v (E.assign (v := Value.slice none 0 0) rfl) ?_
 refine FL.nil (FW.seq (FW.seq (FW.region ?_)))
 refine FL.v (E.fieldAddr tf74_1 rfl) ?_
 refine FL.v (E.load rfl (run_load1 Tryz.isAgg3 (at28.now S26.sl) rfl)) ?_
 refine FL.nil (FW.block (FW.seq (FW.region ?_)))
 refine FL.v (E.eql rfl rfl) ?_
 refine FL.v (E.assign (v := Value.bool (a0.rule == 1)) rfl) ?_
 refine FL.nil ?_
 rcases ifT hp with ⟨c29, hp⟩ | ⟨c29, hp⟩
 ·
  refine FW.condT rfl c29 ?_
  refine FW.seq (FW.region ?_)
  refine FL.v (E.assign (v := Value.slice none 0 0) rfl) ?_
  refine FL.nil ?_
  refine FW.ret ?_
  obtain rfl := hp
  exact ⟨.inr rfl, res1 rfl rfl ⟨_, _, _, _, rfl, (S26.nil 3 1), Els.nil⟩⟩
 ·
  refine FW.condF rfl c29 ?_
  refine FW.seq (FW.seq (FW.region ?_))
  refine FL.v (E.eql rfl rfl) ?_
  refine FL.v (E.assign (v := Value.bool (a0.rule == 5)) rfl) ?_
  refine FL.nil ?_
  rcases ifT hp with ⟨c30, hp⟩ | ⟨c30, hp⟩
  ·
   refine FW.condT rfl c30 ?_
   refine FW.skip ?_
   refine FW.condT rfl c30 ?_
   refine FW.seq (FW.region ?_)
   refine FL.v (E.fieldAddr tf74_3 rfl) ?_
   refine FL.v (E.load rfl (run_load1 Tryz.isAgg3 (at28.now S26.sl) rfl)) ?_
   refine FL.v (E.fieldAddr tf74_4 rfl) ?_
   refine FL.v (E.load rfl (run_load1 Tryz.isAgg3 (at28.now S26.sl) rfl)) ?_
   obtain ⟨v31, w32, run33, S34, els35⟩ := S26.ints (P := Tryz.prog) te82 (up wa.heap.size H25) 2 [a0.a, a0.b]
   refine FL.v (E.buildSlice (B2 rfl rfl) run33) ?_
   refine FL.v (E.assign (v := v31) rfl) ?_
   refine FL.nil ?_
   refine FW.ret ?_
   obtain rfl := hp
   exact ⟨.inr rfl, res1 rfl rfl ⟨_, _, _, _, rfl, S34, els35⟩⟩
  ·
   refine FW.condF rfl c30 ?_
   refine FW.seq (FW.region ?_)
   refine FL.v (E.eql rfl rfl) ?_
   refine FL.v (E.assign (v := Value.bool (a0.rule == 6)) rfl) ?_
   refine FL.nil ?_
   rcases ifT hp with ⟨c36, hp⟩ | ⟨c36, hp⟩
   ·
    refine FW.condT rfl c36 ?_
    refine FW.skip ?_
    refine FW.condT rfl c36 ?_
    refine FW.seq (FW.region ?_)
    refine FL.v (E.fieldAddr tf74_3 rfl) ?_
    refine FL.v (E.load rfl (run_load1 Tryz.isAgg3 (at28.now S26.sl) rfl)) ?_
    refine FL.v (E.fieldAddr tf74_4 rfl) ?_
    refine FL.v (E.load rfl (run_load1 Tryz.isAgg3 (at28.now S26.sl) rfl)) ?_
    obtain ⟨v37, w38, run39, S40, els41⟩ := S26.ints (P := Tryz.prog) te82 (up wa.heap.size H25) 2 [a0.a, a0.b]
    refine FL.v (E.buildSlice (B2 rfl rfl) run39) ?_
    refine FL.v (E.assign (v := v37) rfl) ?_
    refine FL.nil ?_
    refine FW.ret ?_
    obtain rfl := hp
    exact ⟨.inr rfl, res1 rfl rfl ⟨_, _, _, _, rfl, S40, els41⟩⟩
   ·
    refine FW.condF rfl c36 ?_
    refine FW.seq (FW.region ?_)
    refine FL.v (E.eql rfl rfl) ?_
    refine FL.v (E.assign (v := Value.bool (a0.rule == 8)) rfl) ?_
    refine FL.nil ?_
    rcases ifT hp with ⟨c42, hp⟩ | ⟨c42, hp⟩
    ·
     refine FW.condT rfl c42 ?_
     refine FW.skip ?_
     refine FW.condT rfl c42 ?_
     refine FW.seq (FW.region ?_)
     refine FL.v (E.fieldAddr tf74_3 rfl) ?_
     refine FL.v (E.load rfl (run_load1 Tryz.isAgg3 (at28.now S26.sl) rfl)) ?_
     refine FL.v (E.fieldAddr tf74_4 rfl) ?_
     refine FL.v (E.load rfl (run_load1 Tryz.isAgg3 (at28.now S26.sl) rfl)) ?_
     obtain ⟨v43, w44, run45, S46, els47⟩ := S26.ints (P := Tryz.prog) te82 (up wa.heap.size H25) 2 [a0.a, a0.b]
     refine FL.v (E.buildSlice (B2 rfl rfl) run45) ?_
     refine FL.v (E.assign (v := v43) rfl) ?_
     refine FL.nil ?_
     refine FW.ret ?_
     obtain rfl := hp
     exact ⟨.inr rfl, res1 rfl rfl ⟨_, _, _, _, rfl, S46, els47⟩⟩
    ·
     refine FW.condF rfl c42 ?_
     refine FW.region ?_
     refine FL.v (E.eql rfl rfl) ?_
     refine FL.v (E.assign (v := Value.bool (a0.rule == 11)) rfl) ?_
     refine FL.nil ?_
     rcases ifT hp with ⟨c48, hp⟩ | ⟨c48, hp⟩
     ·
      refine FW.condT rfl c48 ?_
      refine FW.seq (FW.region ?_)
      refine FL.v (E.fieldAddr tf74_3 rfl) ?_
      refine FL.v (E.load rfl (run_load1 Tryz.isAgg3 (at28.now S26.sl) rfl)) ?_
      refine FL.v (E.fieldAddr tf74_4 rfl) ?_
      refine FL.v (E.load rfl (run_load1 Tryz.isAgg3 (at28.now S26.sl) rfl)) ?_
      obtain ⟨v49, w50, run51, S52, els53⟩ := S26.ints (P := Tryz.prog) te82 (up wa.heap.size H25) 2 [a0.a, a0.b]
      refine FL.v (E.buildSlice (B2 rfl rfl) run51) ?_
      refine FL.v (E.assign (v := v49) rfl) ?_
      refine FL.nil ?_
      refine FW.ret ?_
      obtain rfl := hp
      exact ⟨.inr rfl, res1 rfl rfl ⟨_, _, _, _, rfl, S52, els53⟩⟩
     ·
      refine FW.condF rfl c48 ?_
      refine FW.skip (FW.seq (FW.region ?_))
      refine FL.v (E.fieldAddr tf74_3 rfl) ?_
      refine FL.v (E.load rfl (run_load1 Tryz.isAgg3 (at28.now S26.sl) rfl)) ?_
      obtain ⟨v54, w55, run56, S57, els58⟩ := S26.ints (P := Tryz.prog) te82 (up wa.heap.size H25) 1 [a0.a]
      refine FL.v (E.buildSlice (B1 rfl) run56) ?_
      refine FL.v (E.assign (v := v54) rfl) ?_
      refine FL.nil ?_
      refine FW.ret ?_
      obtain rfl := hp
      exact ⟨.inr rfl, res1 rfl rfl ⟨_, _, _, _, rfl, S57, els58⟩⟩

@[reducible] def p_impl_Sequent_clone (Ha : GH) (wa : World) (r : Sequent) : Ending → World → Prop :=
 fun e w' => ∃ H' : GH, ∃ v0_0 : Value, ∃ v0_1 : Value, e = .returned (Value.agg #[v0_0, v0_1]) ∧ Run wa.heap.size Ha wa H' w' ∧ (∃ c0 c1, Nest (up wa.heap.size H') eS 1 v0_0 r.left c0 ∧ Nest (up wa.heap.size H') eS 1 v0_1 r.right c1 ∧ Ap v0_0 c0 v0_1 c1)
theorem w_impl_Sequent_clone {Ha : GH} {wa : World} (hs : Sl Ha wa) (a0 : Sequent) (v0_0 : Value) (p0_0 : RSl Ha eS 1 v0_0 a0.left) (v0_1 : Value) (p0_1 : RSl Ha eS 1 v0_1 a0.right) {r : Sequent} (hp : (PF.impl_Sequent_clone a0) = some r) :
  Calls Tryz.prog 114 #[Value.agg #[v0_0, v0_1]] wa (p_impl_Sequent_clone Ha wa r) := by
 unfold PF.impl_Sequent_clone at hp
 have S0 := St.init hs
 refine calls_go (N := 10) (args := [Value.agg #[v0_0, v0_1]]) Tryz.func114 rfl rfl rfl ?_
 refine FW.seq (FW.region ?_)
 obtain ⟨b21, w22, run23, S24⟩ := S0.box (P := Tryz.prog) 68 [v0_0, v0_1] (v := Value.agg #[v0_0, v0_1]) rfl (ones_cons p0_0.one (ones_cons p0_1.one ones_nil))
 refine FL.v (E.box rfl run23) ?_
 obtain ⟨H25, S26, i27, at28⟩ := S24.sealBox (i := 0) (l' := []) rfl rfl
 obtain ⟨b29, w30, run31, S32⟩ := S26.alloc (P := Tryz.prog) 68 [Value.slice none 0 0, Value.slice none 0 0] Tryz.zeroValue68 rfl (ones_cons rfl (ones_cons rfl ones_nil))
 refine FL.v (E.alloc run31) ?_
 refine FL.nil (FW.seq ?_)
 obtain ⟨r36, hr37, hp⟩ := bnd hp
 obtain ⟨r46, hr47, hp⟩ := bnd hp
 refine FW.drawB (Sl H25) (fun f w => ∃ H : GH, ∃ v70 : Value, ∃ v73 : Value, St Ha wa H w [.box b29 68 [v70, v73]] ∧ Inc H25 H ∧ RSl (up wa.heap.size H) eS 1 v70 r36 ∧ RSl (up wa.heap.size H) eS 1 v73 r46 ∧ New H25 [v70] ∧ New H25 [v73] ∧ (∀ b ∈ bl [v70], b ∉ bl [v73]) ∧ f 2 = Value.pointer (some (⟨b29, 0, none⟩ : Addr))) (by kernel_rfl) S32.sl ?_ ?_
 ·
  intro w33 r34
  have S35 := S32.call r34
  refine FB.t (i := 0) (bs 8 1) rfl (SP.nil S35.sl) rfl (fun w' hw' => (E.fieldAddr tf68_0 rfl)) ?_
  refine FB.t (i := 1) (bs 8 3) rfl (SP.nil S35.sl) rfl (fun w' hw' => (E.load rfl (run_load1 Tryz.isAgg22 (at28.now hw') rfl))) ?_
  refine FB.t (i := 3) (bs 8 11) rfl (SP.nil S35.sl) rfl (fun w' hw' => (E.fieldAddr tf68_1 rfl)) ?_
  refine FB.t (i := 4) (bs 8 27) rfl (SP.nil S35.sl) rfl (fun w' hw' => (E.load rfl (run_load1 Tryz.isAgg22 (at28.now hw') rfl))) ?_
  refine FB.all1 (i := 2) (by kernel_rfl) ?_
  ·
   refine FC.call (l' := (bs 8 31)) rfl (by kernel_rfl) rfl rfl rfl (E.call Tryz.call160 (A1 rfl)) (w_slices_Clone_string_string S35.sl v0_0 a0.left (p0_0.mono i27) hr37) ?_
   rintro e w39 ⟨H38, v42, n43, cs44, rfl, r41, els45⟩
   refine ⟨_, rfl, ?_⟩
   have els45 := els45.mono (up_le S35.size)
   have S40 := S35.join (l' := [.row 9 1 v42 n43 cs44, .box b29 68 [Value.slice none 0 0, Value.slice none 0 0]]) r41 rfl
   refine ⟨(SP.nil (Sl.of_inc r41.run.inc S40.sl)), ?_⟩
   refine FB.all1 (i := 5) (by kernel_rfl) ?_
   ·
    refine FC.call (l' := (bs 8 63)) rfl (by kernel_rfl) rfl rfl rfl (E.call Tryz.call160 (A1 rfl)) (w_slices_Clone_string_string S40.sl v0_1 a0.right (p0_1.mono (i27.tr r41.run.inc)) hr47) ?_
    rintro e w49 ⟨H48, v52, n53, cs54, rfl, r51, els55⟩
    refine ⟨_, rfl, ?_⟩
    have els55 := els55.mono (up_le S40.size)
    have S50 := S40.join (l' := [.row 9 1 v52 n53 cs54, .row 9 1 v42 n43 cs44, .box b29 68 [Value.slice none 0 0, Value.slice none 0 0]]) r51 rfl
    refine ⟨(SP.nil (Sl.of_inc (r41.run.inc.tr r51.run.inc) S50.sl)), ?_⟩
    obtain ⟨H56, S57, i58, h59, nv60⟩ := S50.sealRowU (i := 1) (l' := [.row 9 1 v52 n53 cs54, .box b29 68 [Value.slice none 0 0, Value.slice none 0 0]]) rfl (els45.mono (up_mono r51.run.inc)) (by decide) rfl
    obtain ⟨H61, S62, i63, h64, nv65⟩ := S57.sealRowU (i := 0) (l' := [.box b29 68 [Value.slice none 0 0, Value.slice none 0 0]]) rfl (els55.mono (up_mono i58)) (by decide) rfl
    refine FB.t (i := 6) (bs 8 127) rfl (SP.nil (Sl.of_inc (r41.run.inc.tr r51.run.inc) S50.sl)) rfl (fun w' hw' => (E.build (B2 rfl rfl) (run_build _ 68 #[(0, v42), (1, v52)] #[v42, v52] (by obtain ⟨_, _, rfl⟩ := RSl.ln (h59.mono (upI.tr i63)); obtain ⟨_, _, rfl⟩ := RSl.ln (h64.mono upI); rfl)))) ?_
    refine FB.all1 (i := 7) (by kernel_rfl) ?_
    ·
     obtain ⟨w66, run67, S69⟩ := S62.store0 (P := Tryz.prog) (t := 68) (i := 0) (cs' := [v42, v52]) (l' := [.box b29 68 [v42, v52]]) (v := Value.agg #[v42, v52]) (c := [v42, v52]) rfl Tryz.sizeOf68 rfl rfl (ones_cons h59.one (ones_cons h64.one ones_nil)) (Nat.le_of_ble_eq_true rfl) rfl rfl
     refine FC.act (l' := (bs 8 255)) rfl (by kernel_rfl) rfl rfl (E.store rfl rfl run67) ?_
     refine ⟨(SP.nil (Sl.of_inc (((r41.run.inc.tr r51.run.inc).tr i58).tr i63) S69.sl)), ?_⟩
     exact FB.done (by kernel_rfl) ⟨_, _, _, S69, (((r41.run.inc.tr r51.run.inc).tr i58).tr i63), (h59.mono (up_mono i63)), h64, (nv60.anti (r41.run.inc.tr r51.run.inc)), (nv65.anti ((r41.run.inc.tr r51.run.inc).tr i58)), (New.apart (h59.mono (up_mono (Inc.rfl _))) nv65), rfl⟩
 ·
  rintro f81 w80 ⟨H77, v70, v73, S78, i79, h71, h74, nv72, nv75, hd76, k82⟩
  refine FW.ret ?_
  obtain rfl := Option.some.inj hp
  exact ⟨.inr rfl, resC rfl k82 (loadVar_A Tryz.isAgg68 Tryz.sizeOf68 (S78.box_now (i := 0) rfl) rfl) ⟨_, _, _, rfl, S78.run, (Ap.flat2 h71 eS_flat (by decide) h74 eS_flat (by decide) hd76)⟩⟩

@[reducible] def p_impl_sequencer_append (H0 : GH) (w0 : World) (Ha : GH) (L : List MO) (b0 : Nat) (r : (Int × sequencer)) : Ending → World → Prop :=
 fun e w' => ∃ H' : GH, ∃ v0_0r : Value, ∃ n0_0r : Nat, ∃ c0_0r : List Value, e = .returned (Value.int .i64 r.1) ∧ (St H0 w0 H' w' (.box b0 92 [v0_0r, Value.bool r.2.bad] :: .row 74 6 v0_0r n0_0r c0_0r :: L) ∧ Inc Ha H') ∧ Els (up w0.heap.size H') eSeqStep 6 c0_0r r.2.steps ∧ (bl c0_0r).Nodup
set_option maxHeartbeats 4000000 in
theorem w_impl_sequencer_append {H0 Ha : GH} {w0 wa : World} {L : List MO} {a0 : sequencer} {b0 : Nat} {v0_0 : Value} {n0_0 : Nat} {k0_0 : List Value} (S0 : St H0 w0 Ha wa (.box b0 92 [v0_0, Value.bool a0.bad] :: .row 74 6 v0_0 n0_0 k0_0 :: L)) (p0_0 : Els (up w0.heap.size Ha) eSeqStep 6 k0_0 a0.steps) (d0_0 : (bl k0_0).Nodup) (v1 : Value) (a1 : List SeqStep) (p1 : RSl Ha eSeqStep 6 v1 a1) {r : (Int × sequencer)} (hp : (PF.impl_sequencer_append a0 a1) = some r) :
  Calls Tryz.prog 69 #[Value.pointer (some (⟨b0, 0, none⟩ : Addr)), v1] wa (p_impl_sequencer_append H0 w0 Ha L b0 r) := by
 unfold PF.impl_sequencer_append at hp
 refine calls_go (N := 51) (args := [Value.pointer (some (⟨b0, 0, none⟩ : Addr)), v1]) Tryz.func69 rfl rfl rfl ?_
 refine FW.seq (FW.region ?_)
 refine FL.v (E.assign (v := Value.int .i64 0) rfl) ?_
 refine FL.nil (FW.seq (FW.region ?_))
 refine FL.v (E.move (v := Value.pointer (some (⟨b0, 0, none⟩ : Addr))) rfl) ?_
 refine FL.v (E.nilCheck rfl) ?_
 refine FL.v (E.fieldAddr tf92_0 rfl) ?_
 refine FL.v (E.load rfl (run_load1 Tryz.isAgg24 (S0.box_now (i := 0) rfl) rfl)) ?_
 refine FL.v (E.lenO te24 rfl S0 (i := 1) rfl p0_0 (by decide)) ?_
 refine FL.v (E.assign (v := Value.int .i64 (len a0.steps)) rfl) ?_
 refine FL.nil (FW.seq (FW.seq (FW.region ?_)))
 refine FL.v (E.move (v := v1) rfl) ?_
 refine FL.v (E.lenP te24 rfl p1) ?_
 refine FL.v (E.move (v := Value.int .i64 0) rfl) ?_
 refine FL.nil ?_
 obtain ⟨q22, hq, hp⟩ := bndR hp
 refine FW.block ?_
 refine FW.mono (FW.forL (S := ((List SeqStep) × Bool)) (X := Empty) (fun (i22 : Nat) (s22 : ((List SeqStep) × Bool)) f w => ∃ H : GH, ∃ v23 : Value, ∃ n25 : Nat, ∃ cs26 : List Value, St H0 w0 H w (.box b0 92 [v23, Value.bool s22.2] :: .row 74 6 v23 n25 cs26 :: L) ∧ Inc Ha H ∧ Els (up w0.heap.size H) eSeqStep 6 cs26 s22.1 ∧ (bl cs26).Nodup ∧ f 15 = Value.int .i64 ((i22 : Nat) : Int) ∧ f 0 = Value.pointer (some (⟨b0, 0, none⟩ : Addr)) ∧ f 5 = Value.int .i64 (len a0.steps) ∧ f 13 = v1 ∧ f 14 = Value.int .i64 (len a1)) (fun (q : Rs ((List SeqStep) × Bool) Empty) e f w => match q with | .go s22 => e = Exit.exit 0 ∧ (∃ H : GH, ∃ v23 : Value, ∃ n25 : Nat, ∃ cs26 : List Value, St H0 w0 H w (.box b0 92 [v23, Value.bool s22.2] :: .row 74 6 v23 n25 cs26 :: L) ∧ Inc Ha H ∧ Els (up w0.heap.size H) eSeqStep 6 cs26 s22.1 ∧ (bl cs26).Nodup ∧ f 0 = Value.pointer (some (⟨b0, 0, none⟩ : Addr))) | .rt x => x.elim) hq ⟨_, _, _, _, S0, (Inc.rfl _), p0_0, d0_0, rfl, rfl, rfl, rfl, rfl⟩ ?_ ?_) ?_
 ·
  clear hp hq
  rintro i22 y21 s22 f33 w32 ⟨H29, v23, n25, cs26, S30, i31, els27, nd28, k34, k35, k36, k37, k38⟩ hx22 o393 hp
  refine FW.seq (FW.region ?_)
  refine FL.v (E.lssT k34 k38 (lss_len hx22)) ?_
  refine FL.nil (FW.seq ?_)
  refine FW.condT rfl rfl ?_
  refine FW.skip (FW.seq (FW.block (FW.seq (FW.region ?_))))
  obtain ⟨p39, cs40, pt41, l42, at43, rel44⟩ := p1.at (ix_nat hx22)
  obtain ⟨v45, v47, rfl, h46, h48⟩ := eSeqStep_open rel44
  refine FL.v (E.indexAddr te24 k37 k34 pt41) ?_
  refine FL.v (E.load rfl (run_loadA Tryz.isAgg74 Tryz.sizeOf74 ((at43.mono i31).now S30.sl) rfl)) ?_
  obtain ⟨b49, w50, run51, S52⟩ := S30.alloc (P := Tryz.prog) 74 [Value.slice none 0 0, Value.slice none 0 0, Value.int .i64 0, Value.string ByteArray.empty, Value.int .i64 0, Value.int .i64 0] Tryz.zeroValue74 rfl (ones_cons rfl (ones_cons rfl (ones_cons rfl (ones_cons rfl (ones_cons rfl (ones_cons rfl ones_nil))))))
  refine FL.v (E.alloc run51) ?_
  obtain ⟨w53, run54, S55⟩ := S52.store0 (P := Tryz.prog) (t := 74) (i := 0) (cs' := [v45, v47, Value.int .i64 y21.rule, Value.string y21.main, Value.int .i64 y21.a, Value.int .i64 y21.b]) (l' := (.box b49 74 [v45, v47, Value.int .i64 y21.rule, Value.string y21.main, Value.int .i64 y21.a, Value.int .i64 y21.b] :: .box b0 92 [v23, Value.bool s22.2] :: .row 74 6 v23 n25 cs26 :: L)) (v := Value.agg #[v45, v47, Value.int .i64 y21.rule, Value.string y21.main, Value.int .i64 y21.a, Value.int .i64 y21.b]) (c := [v45, v47, Value.int .i64 y21.rule, Value.string y21.main, Value.int .i64 y21.a, Value.int .i64 y21.b]) rfl Tryz.sizeOf74 rfl rfl (ones_cons h46.one (ones_cons h48.one (ones_cons rfl (ones_cons rfl (ones_cons rfl (ones_cons rfl ones_nil)))))) (Nat.le_of_ble_eq_true rfl) rfl rfl
  refine FL.act rfl rfl (E.store rfl rfl run54) ?_
  refine FL.nil (FW.seq (FW.seq (FW.region ?_)))
  refine FL.v (E.load rfl (run_loadA Tryz.isAgg74 Tryz.sizeOf74 (S55.box_now (i := 0) rfl) rfl)) ?_
  refine FL.call rfl rfl rfl (E.call Tryz.call113 (A1 rfl)) (w_impl_SeqStep_uses S55.sl y21 v45 (h46.mono i31) v47 (h48.mono i31)) ?_
  rintro e w57 ⟨H56, v60, n61, cs62, rfl, r59, els63⟩
  refine ⟨_, rfl, ?_⟩
  have els63 := els63.mono (up_le S55.size)
  have S58 := S55.join (l' := (.row 3 1 v60 n61 cs62 :: .box b49 74 [v45, v47, Value.int .i64 y21.rule, Value.string y21.main, Value.int .i64 y21.a, Value.int .i64 y21.b] :: .box b0 92 [v23, Value.bool s22.2] :: .row 74 6 v23 n25 cs26 :: L)) r59 rfl
  refine FL.v (E.lenO te82 rfl S58 (i := 0) rfl els63 (by decide)) ?_
  refine FL.nil (FW.block (FW.seq (FW.region ?_)))
  refine FL.v (E.eql rfl rfl) ?_
  refine FL.v (E.assign (v := Value.bool ((len (PF.impl_SeqStep_uses y21)) == 2)) rfl) ?_
  refine FL.nil ?_
  rcases ifB hp with ⟨c64, hp⟩ | ⟨c64, hp⟩
  ·
   refine FW.condT rfl c64 ?_
   refine FW.seq (FW.region ?_)
   refine FL.v (E.fieldAddr tf74_3 rfl) ?_
   refine FL.v (E.load rfl (run_load1 Tryz.isAgg3 (S58.box_now (i := 1) rfl) rfl)) ?_
   refine FL.v (E.move k36) ?_
   refine FL.v (E.add rfl rfl) ?_
   refine FL.v (E.fieldAddr tf74_3 rfl) ?_
   obtain ⟨w65, run66, S67⟩ := S58.store (P := Tryz.prog) (t := 3) (i := 1) (j := 4) (cs' := [v45, v47, Value.int .i64 y21.rule, Value.string y21.main, Value.int .i64 (wr (y21.a + (len a0.steps))), Value.int .i64 y21.b]) (l' := (.row 3 1 v60 n61 cs62 :: .box b49 74 [v45, v47, Value.int .i64 y21.rule, Value.string y21.main, Value.int .i64 (wr (y21.a + (len a0.steps))), Value.int .i64 y21.b] :: .box b0 92 [v23, Value.bool s22.2] :: .row 74 6 v23 n25 cs26 :: L)) (v := Value.int .i64 (wr (y21.a + (len a0.steps)))) (c := [Value.int .i64 (wr (y21.a + (len a0.steps)))]) rfl Tryz.sizeOf3 rfl rfl (ones_cons rfl ones_nil) (Nat.le_of_ble_eq_true rfl) rfl rfl
   refine FL.act rfl rfl (E.store rfl rfl run66) ?_
   refine FL.nil (FW.region ?_)
   refine FL.v (E.fieldAddr tf74_4 rfl) ?_
   refine FL.v (E.load rfl (run_load1 Tryz.isAgg3 (S67.box_now (i := 1) rfl) rfl)) ?_
   refine FL.v (E.move k36) ?_
   refine FL.v (E.add rfl rfl) ?_
   refine FL.v (E.fieldAddr tf74_4 rfl) ?_
   obtain ⟨w68, run69, S70⟩ := S67.store (P := Tryz.prog) (t := 3) (i := 1) (j := 5) (cs' := [v45, v47, Value.int .i64 y21.rule, Value.string y21.main, Value.int .i64 (wr (y21.a + (len a0.steps))), Value.int .i64 (wr (y21.b + (len a0.steps)))]) (l' := (.row 3 1 v60 n61 cs62 :: .box b49 74 [v45, v47, Value.int .i64 y21.rule, Value.string y21.main, Value.int .i64 (wr (y21.a + (len a0.steps))), Value.int .i64 (wr (y21.b + (len a0.steps)))] :: .box b0 92 [v23, Value.bool s22.2] :: .row 74 6 v23 n25 cs26 :: L)) (v := Value.int .i64 (wr (y21.b + (len a0.steps)))) (c := [Value.int .i64 (wr (y21.b + (len a0.steps)))]) rfl Tryz.sizeOf3 rfl rfl (ones_cons rfl ones_nil) (Nat.le_of_ble_eq_true rfl) rfl rfl
   refine FL.act rfl rfl (E.store rfl rfl run69) ?_
   refine FL.nil (FW.region ?_)
   refine FL.v (E.move k35) ?_
   refine FL.v (E.load rfl (run_loadA Tryz.isAgg74 Tryz.sizeOf74 (S70.box_now (i := 1) rfl) rfl)) ?_
   obtain ⟨s71, hq71, hp⟩ := bnd hp
   obtain ⟨R71, hR71⟩ : ∃ R71 : ((List SeqStep) × Bool × Int) → Ending → World → Prop, R71 = (fun s71 e w => ∃ H : GH, ∃ v72 : Value, ∃ n73 : Nat, ∃ cs75 : List Value, e = Ending.returned (Value.int .i64 s71.2.2) ∧ St H0 w0 H w (.row 3 1 v60 n61 cs62 :: .box b49 74 [v45, v47, Value.int .i64 y21.rule, Value.string y21.main, Value.int .i64 (wr (y21.a + (len a0.steps))), Value.int .i64 (wr (y21.b + (len a0.steps)))] :: .box b0 92 [v72, Value.bool s71.2.1] :: .row 74 6 v72 n73 cs75 :: L) ∧ Inc H56 H ∧ Els (up w0.heap.size H) eSeqStep 6 cs75 s71.1 ∧ (bl cs75).Nodup) := ⟨_, rfl⟩
   have hc71 : Calls Tryz.prog 70 #[Value.pointer (some (⟨b0, 0, none⟩ : Addr)), Value.agg #[v45, v47, Value.int .i64 y21.rule, Value.string y21.main, Value.int .i64 (wr (y21.a + (len a0.steps))), Value.int .i64 (wr (y21.b + (len a0.steps)))]] w68 (R71 s71) := by
    clear hp; have hp := hq71; clear hq71
    refine calls_go (N := 46) (args := [Value.pointer (some (⟨b0, 0, none⟩ : Addr)), Value.agg #[v45, v47, Value.int .i64 y21.rule, Value.string y21.main, Value.int .i64 (wr (y21.a + (len a0.steps))), Value.int .i64 (wr (y21.b + (len a0.steps)))]]) Tryz.func70 rfl rfl rfl ?_
    refine FW.seq (FW.region ?_)
    obtain ⟨b78, w79, run80, S81⟩ := S70.box (P := Tryz.prog) 74 [v45, v47, Value.int .i64 y21.rule, Value.string y21.main, Value.int .i64 (wr (y21.a + (len a0.steps))), Value.int .i64 (wr (y21.b + (len a0.steps)))] (v := Value.agg #[v45, v47, Value.int .i64 y21.rule, Value.string y21.main, Value.int .i64 (wr (y21.a + (len a0.steps))), Value.int .i64 (wr (y21.b + (len a0.steps)))]) rfl (ones_cons h46.one (ones_cons h48.one (ones_cons rfl (ones_cons rfl (ones_cons rfl (ones_cons rfl ones_nil))))))
    refine FL.v (E.box rfl run80) ?_
    refine FL.v (E.assign (v := Value.int .i64 0) rfl) ?_
    refine FL.nil (FW.seq (FW.region ?_))
    refine FL.v (E.fieldAddr tf74_0 rfl) ?_
    refine FL.v (E.load rfl (run_loadA Tryz.isAgg68 Tryz.sizeOf68 ((S81.box_now (i := 0) rfl).sub (j := 0) (n := 2) (c := [v45, v47]) rfl) rfl)) ?_
    obtain ⟨r83, hr84, hp⟩ := bnd hp
    refine FL.call rfl rfl rfl (E.call Tryz.call114 (A1 rfl)) (w_impl_Sequent_clone S81.sl y21.seq v45 (h46.mono (i31.tr r59.run.inc)) v47 (h48.mono (i31.tr r59.run.inc)) hr84) ?_
    rintro e w86 ⟨H85, v89, v96, rfl, r88, ⟨c93, c99, ns91, ns98, ap102⟩⟩
    refine ⟨_, rfl, ?_⟩
    have h90 := ns91.rsl
    have nv94 : New H56 c93 := New.of_up S81.sl (fun b hb => ns91.dom b (.inr hb))
    have nv95 : New H56 [v89] := New.of_up S81.sl h90.dom
    have h90 := h90.mono (up_le S81.size)
    have ns91 := ns91.mono (up_le S81.size)
    have h97 := ns98.rsl
    have nv100 : New H56 c99 := New.of_up S81.sl (fun b hb => ns98.dom b (.inr hb))
    have nv101 : New H56 [v96] := New.of_up S81.sl h97.dom
    have h97 := h97.mono (up_le S81.size)
    have ns98 := ns98.mono (up_le S81.size)
    have S87 := S81.call r88
    refine FL.v (E.fieldAddr tf74_0 rfl) ?_
    obtain ⟨w103, run104, S105⟩ := S87.store (P := Tryz.prog) (t := 68) (i := 0) (j := 0) (cs' := [v89, v96, Value.int .i64 y21.rule, Value.string y21.main, Value.int .i64 (wr (y21.a + (len a0.steps))), Value.int .i64 (wr (y21.b + (len a0.steps)))]) (l' := (.box b78 74 [v89, v96, Value.int .i64 y21.rule, Value.string y21.main, Value.int .i64 (wr (y21.a + (len a0.steps))), Value.int .i64 (wr (y21.b + (len a0.steps)))] :: .row 3 1 v60 n61 cs62 :: .box b49 74 [v45, v47, Value.int .i64 y21.rule, Value.string y21.main, Value.int .i64 (wr (y21.a + (len a0.steps))), Value.int .i64 (wr (y21.b + (len a0.steps)))] :: .box b0 92 [v23, Value.bool s22.2] :: .row 74 6 v23 n25 cs26 :: L)) (v := Value.agg #[v89, v96]) (c := [v89, v96]) rfl Tryz.sizeOf68 rfl rfl (ones_cons h90.one (ones_cons h97.one ones_nil)) (Nat.le_of_ble_eq_true rfl) rfl rfl
    refine FL.act rfl rfl (E.store rfl rfl run104) ?_
    obtain ⟨H106, S107, i108, at109⟩ := S105.sealBox (i := 0) (l' := (.row 3 1 v60 n61 cs62 :: .box b49 74 [v45, v47, Value.int .i64 y21.rule, Value.string y21.main, Value.int .i64 (wr (y21.a + (len a0.steps))), Value.int .i64 (wr (y21.b + (len a0.steps)))] :: .box b0 92 [v23, Value.bool s22.2] :: .row 74 6 v23 n25 cs26 :: L)) rfl rfl
    refine FL.nil (FW.seq (FW.region ?_))
    refine FL.v (E.move (v := Value.pointer (some (⟨b0, 0, none⟩ : Addr))) rfl) ?_
    refine FL.v (E.move (v := Value.pointer (some (⟨b0, 0, none⟩ : Addr))) rfl) ?_
    refine FL.v (E.nilCheck rfl) ?_
    refine FL.v (E.fieldAddr tf92_1 rfl) ?_
    refine FL.v (E.load rfl (run_load1 Tryz.isAgg4 (S107.box_now (i := 2) rfl) rfl)) ?_
    refine FL.v (E.move (v := Value.bool s22.2) rfl) ?_
    obtain ⟨t110, hqt110, hp⟩ := bnd hp
    refine FL.cut 5 (fun f w => ∃ H : GH, St H0 w0 H w (.row 3 1 v60 n61 cs62 :: .box b49 74 [v45, v47, Value.int .i64 y21.rule, Value.string y21.main, Value.int .i64 (wr (y21.a + (len a0.steps))), Value.int .i64 (wr (y21.b + (len a0.steps)))] :: .box b0 92 [v23, Value.bool s22.2] :: .row 74 6 v23 n25 cs26 :: L) ∧ Inc H106 H ∧ f 0 = Value.pointer (some (⟨b0, 0, none⟩ : Addr)) ∧ f 3 = Value.pointer (some ⟨b78, 0, none⟩) ∧ f 9 = Value.pointer (some (⟨b0, 0, none⟩ : Addr)) ∧ f 19 = Value.bool t110) ?_ ?_
    ·
     clear hp; have hp := hqt110; clear hqt110
     rcases ifB hp with ⟨c116, hp⟩ | ⟨c116, hp⟩
     ·
      refine FL.skip (wF_no rfl rfl rfl c116) rfl ?_
      refine FL.skip (wF_no rfl rfl rfl c116) rfl ?_
      refine FL.skip (wF_no rfl rfl rfl c116) rfl ?_
      refine FL.skip (wF_no rfl rfl rfl c116) rfl ?_
      obtain rfl := Option.some.inj hp
      refine FL.v (E.pickT rfl c116 rfl) ?_
      exact FL.nil ⟨rfl, _, S107, (Inc.rfl _), rfl, rfl, rfl, rfl⟩
     ·
      refine FL.val (wF_yes rfl rfl rfl c116) rfl rfl (E.fieldAddr tf74_0 rfl) ?_
      refine FL.val (wF_yes rfl rfl rfl c116) rfl rfl (E.load rfl (run_loadA Tryz.isAgg68 Tryz.sizeOf68 ((at109.now S107.sl).sub (j := 0) (n := 2) (c := [v89, v96]) rfl) rfl)) ?_
      obtain ⟨r117, hr118, hp⟩ := bnd hp
      refine FL.call (wF_yes rfl rfl rfl c116) rfl rfl (E.call Tryz.call120 (A1 rfl)) (w_impl_IsSequent S107.sl r83 v89 (h90.mono (upI.tr i108)) v96 (h97.mono (upI.tr i108)) hr118) ?_
      rintro e w119 ⟨rfl, r120⟩
      refine ⟨_, rfl, ?_⟩
      have S121 := S107.call r120
      refine FL.val (wF_yes rfl rfl rfl c116) rfl rfl (E.not rfl) ?_
      obtain rfl := Option.some.inj hp
      refine FL.v (E.pickF rfl c116 rfl) ?_
      exact FL.nil ⟨rfl, _, S121, (Inc.rfl _), rfl, rfl, rfl, rfl⟩
    rintro f115 w114 ⟨H111, S112, i113, k122, k123, k124, k125⟩
    refine FL.v (E.move k125) ?_
    refine FL.cut 7 (fun f w => ∃ H : GH, St H0 w0 H w (.row 3 1 v60 n61 cs62 :: .box b49 74 [v45, v47, Value.int .i64 y21.rule, Value.string y21.main, Value.int .i64 (wr (y21.a + (len a0.steps))), Value.int .i64 (wr (y21.b + (len a0.steps)))] :: .box b0 92 [v23, Value.bool s22.2] :: .row 74 6 v23 n25 cs26 :: L) ∧ Inc H111 H ∧ f 0 = Value.pointer (some (⟨b0, 0, none⟩ : Addr)) ∧ f 3 = Value.pointer (some ⟨b78, 0, none⟩) ∧ f 9 = Value.pointer (some (⟨b0, 0, none⟩ : Addr)) ∧ f 27 = Value.bool (bif t110 then true else (decide (200 ≤ (len s22.1))))) ?_ ?_
    ·
     rcases bcase t110 with c131 | c131
     ·
      refine FL.skip (wF_no rfl rfl rfl c131) rfl ?_
      refine FL.skip (wF_no rfl rfl rfl c131) rfl ?_
      refine FL.skip (wF_no rfl rfl rfl c131) rfl ?_
      refine FL.skip (wF_no rfl rfl rfl c131) rfl ?_
      refine FL.skip (wF_no rfl rfl rfl c131) rfl ?_
      refine FL.skip (wF_no rfl rfl rfl c131) rfl ?_
      refine FL.v (E.pickT rfl c131 rfl) ?_
      exact FL.nil ⟨rfl, _, S112, (Inc.rfl _), k122, k123, k124, (congrArg Value.bool (bifT c131).symm)⟩
     ·
      refine FL.val (wF_yes rfl rfl rfl c131) rfl rfl (E.move k122) ?_
      refine FL.val (wF_yes rfl rfl rfl c131) rfl rfl (E.nilCheck rfl) ?_
      refine FL.val (wF_yes rfl rfl rfl c131) rfl rfl (E.fieldAddr tf92_0 rfl) ?_
      refine FL.val (wF_yes rfl rfl rfl c131) rfl rfl (E.load rfl (run_load1 Tryz.isAgg24 (S112.box_now (i := 2) rfl) rfl)) ?_
      refine FL.val (wF_yes rfl rfl rfl c131) rfl rfl (E.lenO te24 rfl S112 (i := 3) rfl els27 (by decide)) ?_
      refine FL.val (wF_yes rfl rfl rfl c131) rfl rfl (E.geq rfl rfl) ?_
      refine FL.v (E.pickF rfl c131 rfl) ?_
      exact FL.nil ⟨rfl, _, S112, (Inc.rfl _), k122, k123, k124, (congrArg Value.bool (bifF c131).symm)⟩
    rintro f130 w129 ⟨H126, S127, i128, k132, k133, k134, k135⟩
    refine FL.v (E.nilCheck k134) ?_
    refine FL.v (E.fieldAddr tf92_1 rfl) ?_
    obtain ⟨w136, run137, S138⟩ := S127.store (P := Tryz.prog) (t := 4) (i := 2) (j := 1) (cs' := [v23, Value.bool (bif t110 then true else (decide (200 ≤ (len s22.1))))]) (l' := (.row 3 1 v60 n61 cs62 :: .box b49 74 [v45, v47, Value.int .i64 y21.rule, Value.string y21.main, Value.int .i64 (wr (y21.a + (len a0.steps))), Value.int .i64 (wr (y21.b + (len a0.steps)))] :: .box b0 92 [v23, Value.bool (bif t110 then true else (decide (200 ≤ (len s22.1))))] :: .row 74 6 v23 n25 cs26 :: L)) (v := Value.bool (bif t110 then true else (decide (200 ≤ (len s22.1))))) (c := [Value.bool (bif t110 then true else (decide (200 ≤ (len s22.1))))]) rfl Tryz.sizeOf4 rfl rfl (ones_cons rfl ones_nil) (Nat.le_of_ble_eq_true rfl) rfl rfl
    refine FL.act rfl rfl (E.store rfl k135 run137) ?_
    refine FL.nil (FW.seq ?_)
    obtain ⟨xs149, hz150, hp⟩ := bnd hp
    refine FW.drawB (Sl H126) (fun f w => ∃ H : GH, ∃ v164 : Value, ∃ n165 : Nat, ∃ cs166 : List Value, St H0 w0 H w (.row 3 1 v60 n61 cs62 :: .box b49 74 [v45, v47, Value.int .i64 y21.rule, Value.string y21.main, Value.int .i64 (wr (y21.a + (len a0.steps))), Value.int .i64 (wr (y21.b + (len a0.steps)))] :: .box b0 92 [v164, Value.bool (bif t110 then true else (decide (200 ≤ (len s22.1))))] :: .row 74 6 v164 n165 cs166 :: L) ∧ Inc H126 H ∧ Els (up w0.heap.size H) eSeqStep 6 cs166 xs149 ∧ (bl cs166).Nodup ∧ f 0 = Value.pointer (some (⟨b0, 0, none⟩ : Addr))) (by kernel_rfl) S138.sl ?_ ?_
    ·
     intro w139 r140
     have S141 := S138.call r140
     refine FB.phase [10] (fun w => WAt w (Addr.add ⟨b0, 0, none⟩ 0) [v23]) ?_
     refine FB.t (i := 0) (bs 11 1) rfl (SP.on ((S141.box_now (i := 2) rfl).sub (j := 0) (n := 1) (c := [v23]) rfl) (SP.nil S141.sl)) rfl (fun w' hw' => (E.move k132)) ?_
     refine FB.t (i := 1) (bs 11 3) rfl (SP.on ((S141.box_now (i := 2) rfl).sub (j := 0) (n := 1) (c := [v23]) rfl) (SP.nil S141.sl)) rfl (fun w' hw' => (E.move k132)) ?_
     refine FB.t (i := 2) (bs 11 7) rfl (SP.on ((S141.box_now (i := 2) rfl).sub (j := 0) (n := 1) (c := [v23]) rfl) (SP.nil S141.sl)) rfl (fun w' hw' => (E.nilCheck rfl)) ?_
     refine FB.t (i := 3) (bs 11 15) rfl (SP.on ((S141.box_now (i := 2) rfl).sub (j := 0) (n := 1) (c := [v23]) rfl) (SP.nil S141.sl)) rfl (fun w' hw' => (E.fieldAddr tf92_0 rfl)) ?_
     refine FB.p (i := 4) (bs 11 31) 0 [7, 8, 9, 10] rfl (SP.on ((S141.box_now (i := 2) rfl).sub (j := 0) (n := 1) (c := [v23]) rfl) (SP.nil S141.sl)) rfl rfl (fun w' hw' => (E.load rfl (run_load0 Tryz.isAgg24 hw' rfl))) ?_
     refine FB.t (i := 5) (bs 11 63) rfl (SP.on ((S141.box_now (i := 2) rfl).sub (j := 0) (n := 1) (c := [v23]) rfl) (SP.nil S141.sl)) rfl (fun w' hw' => (E.load k133 (run_loadA Tryz.isAgg74 Tryz.sizeOf74 ((at109.mono (i113.tr i128)).now hw') rfl))) ?_
     refine FB.all1 (i := 6) (by kernel_rfl) ?_
     ·
      obtain ⟨v142, w143, run144, S145⟩ := S141.buildSlice (P := Tryz.prog) te24 [Value.agg #[v89, v96, Value.int .i64 y21.rule, Value.string y21.main, Value.int .i64 (wr (y21.a + (len a0.steps))), Value.int .i64 (wr (y21.b + (len a0.steps)))]] (parts := #[(0, Value.agg #[v89, v96, Value.int .i64 y21.rule, Value.string y21.main, Value.int .i64 (wr (y21.a + (len a0.steps))), Value.int .i64 (wr (y21.b + (len a0.steps)))])]) (cells := [v89, v96, Value.int .i64 y21.rule, Value.string y21.main, Value.int .i64 (wr (y21.a + (len a0.steps))), Value.int .i64 (wr (y21.b + (len a0.steps)))]) rfl (szs_cons rfl szs_nil) (fc_cons rfl fc_nil) (ones_cons h90.one (ones_cons h97.one (ones_cons rfl (ones_cons rfl (ones_cons rfl (ones_cons rfl ones_nil)))))) (Nat.le_of_ble_eq_true rfl)
      have els146 : Els (up w0.heap.size H126) eSeqStep 6 [v89, v96, Value.int .i64 y21.rule, Value.string y21.main, Value.int .i64 (wr (y21.a + (len a0.steps))), Value.int .i64 (wr (y21.b + (len a0.steps)))] [(SeqStep.mk r83 y21.rule y21.main (wr (y21.a + (len a0.steps))) (wr (y21.b + (len a0.steps))))] := (Els.snoc (H := (up w0.heap.size H126)) (E := eSeqStep) (k := 6) (c := [v89, v96, Value.int .i64 y21.rule, Value.string y21.main, Value.int .i64 (wr (y21.a + (len a0.steps))), Value.int .i64 (wr (y21.b + (len a0.steps)))]) (x := (SeqStep.mk r83 y21.rule y21.main (wr (y21.a + (len a0.steps))) (wr (y21.b + (len a0.steps))))) Els.nil rfl ⟨_, _, rfl, (h90.mono (up_mono ((i108.tr i113).tr i128))), (h97.mono (up_mono ((i108.tr i113).tr i128)))⟩)
      have nd147 : (bl [v89, v96, Value.int .i64 y21.rule, Value.string y21.main, Value.int .i64 (wr (y21.a + (len a0.steps))), Value.int .i64 (wr (y21.b + (len a0.steps)))]).Nodup := by exact nd_two ap102.dis
      have nv148 : New H56 [v89, v96, Value.int .i64 y21.rule, Value.string y21.main, Value.int .i64 (wr (y21.a + (len a0.steps))), Value.int .i64 (wr (y21.b + (len a0.steps)))] := by exact (New.two nv95 nv101)
      refine FC.val (l' := (bs 11 127)) rfl (by kernel_rfl) rfl rfl rfl (E.buildSlice (B1 rfl) run144) ?_
      refine ⟨(SP.on ((S145.box_now (i := 3) rfl).sub (j := 0) (n := 1) (c := [v23]) rfl) (SP.nil S145.sl)), ?_⟩
      refine FB.all1 (i := 7) (by kernel_rfl) ?_
      ·
       obtain ⟨v151, w154, n152, cs153, run155, S156, els157, ce158⟩ := S145.appendO (P := Tryz.prog) te24 (i := 4) (j := 0) rfl (els27.mono (up_mono ((((r59.run.inc.tr r88.inc).tr i108).tr i113).tr i128))) rfl els146 hz150
       have S156 : St H0 w0 H126 w154 (.row 74 6 v142 1 [v89, v96, Value.int .i64 y21.rule, Value.string y21.main, Value.int .i64 (wr (y21.a + (len a0.steps))), Value.int .i64 (wr (y21.b + (len a0.steps)))] :: .row 3 1 v60 n61 cs62 :: .box b49 74 [v45, v47, Value.int .i64 y21.rule, Value.string y21.main, Value.int .i64 (wr (y21.a + (len a0.steps))), Value.int .i64 (wr (y21.b + (len a0.steps)))] :: .box b0 92 [v23, Value.bool (bif t110 then true else (decide (200 ≤ (len s22.1))))] :: .row 74 6 v151 n152 cs153 :: L) := S156
       have nd159 : (bl cs153).Nodup := by rw [ce158]; exact nd_app nd28 nd147 (Els.dom (els27.mono (upI.tr r59.run.inc))) (by exact nv148)
       have S160 : St H0 w0 H126 w154 (.row 3 1 v60 n61 cs62 :: .box b49 74 [v45, v47, Value.int .i64 y21.rule, Value.string y21.main, Value.int .i64 (wr (y21.a + (len a0.steps))), Value.int .i64 (wr (y21.b + (len a0.steps)))] :: .box b0 92 [v23, Value.bool (bif t110 then true else (decide (200 ≤ (len s22.1))))] :: .row 74 6 v151 n152 cs153 :: L) := S156.drop 0
       refine FC.val (l' := (bs 11 255)) rfl (by kernel_rfl) rfl rfl rfl (E.append rfl rfl run155) ?_
       refine ⟨(SP.on ((S160.box_now (i := 2) rfl).sub (j := 0) (n := 1) (c := [v23]) rfl) (SP.nil S160.sl)), ?_⟩
       refine FB.t (i := 8) (bs 11 511) rfl (SP.on ((S160.box_now (i := 2) rfl).sub (j := 0) (n := 1) (c := [v23]) rfl) (SP.nil S160.sl)) rfl (fun w' hw' => (E.nilCheck rfl)) ?_
       refine FB.t (i := 9) (bs 11 1023) rfl (SP.on ((S160.box_now (i := 2) rfl).sub (j := 0) (n := 1) (c := [v23]) rfl) (SP.nil S160.sl)) rfl (fun w' hw' => (E.fieldAddr tf92_0 rfl)) ?_
       refine FB.all1 (i := 10) (by kernel_rfl) ?_
       ·
        obtain ⟨w161, run162, S163⟩ := S160.store (P := Tryz.prog) (t := 24) (i := 2) (j := 0) (cs' := [v151, Value.bool (bif t110 then true else (decide (200 ≤ (len s22.1))))]) (l' := (.row 3 1 v60 n61 cs62 :: .box b49 74 [v45, v47, Value.int .i64 y21.rule, Value.string y21.main, Value.int .i64 (wr (y21.a + (len a0.steps))), Value.int .i64 (wr (y21.b + (len a0.steps)))] :: .box b0 92 [v151, Value.bool (bif t110 then true else (decide (200 ≤ (len s22.1))))] :: .row 74 6 v151 n152 cs153 :: L)) (v := v151) (c := [v151]) rfl Tryz.sizeOf24 (Ln.cells (S160.row_ln (i := 3) rfl)) rfl (ones_cons (Ln.one (S160.row_ln (i := 3) rfl)) ones_nil) (Nat.le_of_ble_eq_true rfl) rfl rfl
        refine FC.act (l' := (bs 11 2047)) rfl (by kernel_rfl) rfl rfl (E.store rfl rfl run162) ?_
        refine ⟨(SP.o (SP.nil S163.sl)), ?_⟩
        exact FB.done (by kernel_rfl) ⟨_, _, _, _, S163, (Inc.rfl _), els157, nd159, k132⟩
    ·
     rintro f173 w172 ⟨H169, v164, n165, cs166, S170, i171, els167, nd168, k174⟩
     refine FW.seq (FW.region ?_)
     refine FL.v (E.move k174) ?_
     refine FL.v (E.nilCheck rfl) ?_
     refine FL.v (E.fieldAddr tf92_0 rfl) ?_
     refine FL.v (E.load rfl (run_load1 Tryz.isAgg24 (S170.box_now (i := 2) rfl) rfl)) ?_
     refine FL.v (E.lenO te24 rfl S170 (i := 3) rfl els167 (by decide)) ?_
     refine FL.v (E.sub rfl rfl) ?_
     refine FL.v (E.assign (v := Value.int .i64 (wr ((len xs149) - 1))) rfl) ?_
     refine FL.nil ?_
     refine FW.ret ?_
     obtain rfl := Option.some.inj hp
     exact ⟨.inr rfl, res1 rfl rfl (by rw [hR71]; exact ⟨_, _, _, _, rfl, S170, ((((r88.inc.tr i108).tr i113).tr i128).tr i171), els167, nd168⟩)⟩
   clear hq71
   refine FL.call rfl rfl rfl (E.call Tryz.call70 (A2 rfl rfl)) hc71 ?_
   intro e w178 hQ71
   rw [hR71] at hQ71
   obtain ⟨H175, v72, n73, cs75, rfl, S176, i177, els76, nd77⟩ := hQ71
   refine ⟨_, rfl, ?_⟩
   refine FL.nil (FW.region ?_)
   refine FL.v (E.add k34 rfl) ?_
   refine FL.v (E.move (v := Value.int .i64 (wr (((i22 : Nat) : Int) + 1))) rfl) ?_
   refine FL.nil ?_
   obtain rfl := Option.some.inj hp
   exact ⟨rfl, ⟨_, _, _, _, (S176.selT (a := [.row 3 1 v60 n61 cs62, .box b49 74 [v45, v47, Value.int .i64 y21.rule, Value.string y21.main, Value.int .i64 (wr (y21.a + (len a0.steps))), Value.int .i64 (wr (y21.b + (len a0.steps)))], .box b0 92 [v72, Value.bool s71.2.1], .row 74 6 v72 n73 cs75]) (l' := [.box b0 92 [v72, Value.bool s71.2.1], .row 74 6 v72 n73 cs75]) [2, 3] (by decide) rfl), ((i31.tr r59.run.inc).tr i177), els76, nd77, (nat_succ rfl (lt_of_get hx22) (p1.mono ((i31.tr r59.run.inc).tr i177)).le), k35, k36, k37, k38⟩⟩
  ·
   refine FW.condF rfl c64 ?_
   refine FW.seq (FW.region ?_)
   refine FL.v (E.eql rfl rfl) ?_
   refine FL.v (E.assign (v := Value.bool ((len (PF.impl_SeqStep_uses y21)) == 1)) rfl) ?_
   refine FL.nil ?_
   rcases ifB hp with ⟨c179, hp⟩ | ⟨c179, hp⟩
   ·
    refine FW.condT rfl c179 ?_
    refine FW.region ?_
    refine FL.v (E.fieldAddr tf74_3 rfl) ?_
    refine FL.v (E.load rfl (run_load1 Tryz.isAgg3 (S58.box_now (i := 1) rfl) rfl)) ?_
    refine FL.v (E.move k36) ?_
    refine FL.v (E.add rfl rfl) ?_
    refine FL.v (E.fieldAddr tf74_3 rfl) ?_
    obtain ⟨w180, run181, S182⟩ := S58.store (P := Tryz.prog) (t := 3) (i := 1) (j := 4) (cs' := [v45, v47, Value.int .i64 y21.rule, Value.string y21.main, Value.int .i64 (wr (y21.a + (len a0.steps))), Value.int .i64 y21.b]) (l' := (.row 3 1 v60 n61 cs62 :: .box b49 74 [v45, v47, Value.int .i64 y21.rule, Value.string y21.main, Value.int .i64 (wr (y21.a + (len a0.steps))), Value.int .i64 y21.b] :: .box b0 92 [v23, Value.bool s22.2] :: .row 74 6 v23 n25 cs26 :: L)) (v := Value.int .i64 (wr (y21.a + (len a0.steps)))) (c := [Value.int .i64 (wr (y21.a + (len a0.steps)))]) rfl Tryz.sizeOf3 rfl rfl (ones_cons rfl ones_nil) (Nat.le_of_ble_eq_true rfl) rfl rfl
    refine FL.act rfl rfl (E.store rfl rfl run181) ?_
    refine FL.nil (FW.region ?_)
    refine FL.v (E.move k35) ?_
    refine FL.v (E.load rfl (run_loadA Tryz.isAgg74 Tryz.sizeOf74 (S182.box_now (i := 1) rfl) rfl)) ?_
    obtain ⟨s183, hq183, hp⟩ := bnd hp
    obtain ⟨R183, hR183⟩ : ∃ R183 : ((List SeqStep) × Bool × Int) → Ending → World → Prop, R183 = (fun s183 e w => ∃ H : GH, ∃ v184 : Value, ∃ n185 : Nat, ∃ cs186 : List Value, e = Ending.returned (Value.int .i64 s183.2.2) ∧ St H0 w0 H w (.row 3 1 v60 n61 cs62 :: .box b49 74 [v45, v47, Value.int .i64 y21.rule, Value.string y21.main, Value.int .i64 (wr (y21.a + (len a0.steps))), Value.int .i64 y21.b] :: .box b0 92 [v184, Value.bool s183.2.1] :: .row 74 6 v184 n185 cs186 :: L) ∧ Inc H56 H ∧ Els (up w0.heap.size H) eSeqStep 6 cs186 s183.1 ∧ (bl cs186).Nodup) := ⟨_, rfl⟩
    have hc183 : Calls Tryz.prog 70 #[Value.pointer (some (⟨b0, 0, none⟩ : Addr)), Value.agg #[v45, v47, Value.int .i64 y21.rule, Value.string y21.main, Value.int .i64 (wr (y21.a + (len a0.steps))), Value.int .i64 y21.b]] w180 (R183 s183) := by
     clear hp; have hp := hq183; clear hq183
     refine calls_go (N := 46) (args := [Value.pointer (some (⟨b0, 0, none⟩ : Addr)), Value.agg #[v45, v47, Value.int .i64 y21.rule, Value.string y21.main, Value.int .i64 (wr (y21.a + (len a0.steps))), Value.int .i64 y21.b]]) Tryz.func70 rfl rfl rfl ?_
     refine FW.seq (FW.region ?_)
     obtain ⟨b189, w190, run191, S192⟩ := S182.box (P := Tryz.prog) 74 [v45, v47, Value.int .i64 y21.rule, Value.string y21.main, Value.int .i64 (wr (y21.a + (len a0.steps))), Value.int .i64 y21.b] (v := Value.agg #[v45, v47, Value.int .i64 y21.rule, Value.string y21.main, Value.int .i64 (wr (y21.a + (len a0.steps))), Value.int .i64 y21.b]) rfl (ones_cons h46.one (ones_cons h48.one (ones_cons rfl (ones_cons rfl (ones_cons rfl (ones_cons rfl ones_nil))))))
     refine FL.v (E.box rfl run191) ?_
     refine FL.v (E.assign (v := Value.int .i64 0) rfl) ?_
     refine FL.nil (FW.seq (FW.region ?_))
     refine FL.v (E.fieldAddr tf74_0 rfl) ?_
     refine FL.v (E.load rfl (run_loadA Tryz.isAgg68 Tryz.sizeOf68 ((S192.box_now (i := 0) rfl).sub (j := 0) (n := 2) (c := [v45, v47]) rfl) rfl)) ?_
     obtain ⟨r193, hr194, hp⟩ := bnd hp
     refine FL.call rfl rfl rfl (E.call Tryz.call114 (A1 rfl)) (w_impl_Sequent_clone S192.sl y21.seq v45 (h46.mono (i31.tr r59.run.inc)) v47 (h48.mono (i31.tr r59.run.inc)) hr194) ?_
     rintro e w196 ⟨H195, v199, v205, rfl, r198, ⟨c202, c208, ns201, ns207, ap211⟩⟩
     refine ⟨_, rfl, ?_⟩
     have h200 := ns201.rsl
     have nv203 : New H56 c202 := New.of_up S192.sl (fun b hb => ns201.dom b (.inr hb))
     have nv204 : New H56 [v199] := New.of_up S192.sl h200.dom
     have h200 := h200.mono (up_le S192.size)
     have ns201 := ns201.mono (up_le S192.size)
     have h206 := ns207.rsl
     have nv209 : New H56 c208 := New.of_up S192.sl (fun b hb => ns207.dom b (.inr hb))
     have nv210 : New H56 [v205] := New.of_up S192.sl h206.dom
     have h206 := h206.mono (up_le S192.size)
     have ns207 := ns207.mono (up_le S192.size)
     have S197 := S192.call r198
     refine FL.v (E.fieldAddr tf74_0 rfl) ?_
     obtain ⟨w212, run213, S214⟩ := S197.store (P := Tryz.prog) (t := 68) (i := 0) (j := 0) (cs' := [v199, v205, Value.int .i64 y21.rule, Value.string y21.main, Value.int .i64 (wr (y21.a + (len a0.steps))), Value.int .i64 y21.b]) (l' := (.box b189 74 [v199, v205, Value.int .i64 y21.rule, Value.string y21.main, Value.int .i64 (wr (y21.a + (len a0.steps))), Value.int .i64 y21.b] :: .row 3 1 v60 n61 cs62 :: .box b49 74 [v45, v47, Value.int .i64 y21.rule, Value.string y21.main, Value.int .i64 (wr (y21.a + (len a0.steps))), Value.int .i64 y21.b] :: .box b0 92 [v23, Value.bool s22.2] :: .row 74 6 v23 n25 cs26 :: L)) (v := Value.agg #[v199, v205]) (c := [v199, v205]) rfl Tryz.sizeOf68 rfl rfl (ones_cons h200.one (ones_cons h206.one ones_nil)) (Nat.le_of_ble_eq_true rfl) rfl rfl
     refine FL.act rfl rfl (E.store rfl rfl run213) ?_
     obtain ⟨H215, S216, i217, at218⟩ := S214.sealBox (i := 0) (l' := (.row 3 1 v60 n61 cs62 :: .box b49 74 [v45, v47, Value.int .i64 y21.rule, Value.string y21.main, Value.int .i64 (wr (y21.a + (len a0.steps))), Value.int .i64 y21.b] :: .box b0 92 [v23, Value.bool s22.2] :: .row 74 6 v23 n25 cs26 :: L)) rfl rfl
     refine FL.nil (FW.seq (FW.region ?_))
     refine FL.v (E.move (v := Value.pointer (some (⟨b0, 0, none⟩ : Addr))) rfl) ?_
     refine FL.v (E.move (v := Value.pointer (some (⟨b0, 0, none⟩ : Addr))) rfl) ?_
     refine FL.v (E.nilCheck rfl) ?_
     refine FL.v (E.fieldAddr tf92_1 rfl) ?_
     refine FL.v (E.load rfl (run_load1 Tryz.isAgg4 (S216.box_now (i := 2) rfl) rfl)) ?_
     refine FL.v (E.move (v := Value.bool s22.2) rfl) ?_
     obtain ⟨t219, hqt219, hp⟩ := bnd hp
     refine FL.cut 5 (fun f w => ∃ H : GH, St H0 w0 H w (.row 3 1 v60 n61 cs62 :: .box b49 74 [v45, v47, Value.int .i64 y21.rule, Value.string y21.main, Value.int .i64 (wr (y21.a + (len a0.steps))), Value.int .i64 y21.b] :: .box b0 92 [v23, Value.bool s22.2] :: .row 74 6 v23 n25 cs26 :: L) ∧ Inc H215 H ∧ f 0 = Value.pointer (some (⟨b0, 0, none⟩ : Addr)) ∧ f 3 = Value.pointer (some ⟨b189, 0, none⟩) ∧ f 9 = Value.pointer (some (⟨b0, 0, none⟩ : Addr)) ∧ f 19 = Value.bool t219) ?_ ?_
     ·
      clear hp; have hp := hqt219; clear hqt219
      rcases ifB hp with ⟨c225, hp⟩ | ⟨c225, hp⟩
      ·
       refine FL.skip (wF_no rfl rfl rfl c225) rfl ?_
       refine FL.skip (wF_no rfl rfl rfl c225) rfl ?_
       refine FL.skip (wF_no rfl rfl rfl c225) rfl ?_
       refine FL.skip (wF_no rfl rfl rfl c225) rfl ?_
       obtain rfl := Option.some.inj hp
       refine FL.v (E.pickT rfl c225 rfl) ?_
       exact FL.nil ⟨rfl, _, S216, (Inc.rfl _), rfl, rfl, rfl, rfl⟩
      ·
       refine FL.val (wF_yes rfl rfl rfl c225) rfl rfl (E.fieldAddr tf74_0 rfl) ?_
       refine FL.val (wF_yes rfl rfl rfl c225) rfl rfl (E.load rfl (run_loadA Tryz.isAgg68 Tryz.sizeOf68 ((at218.now S216.sl).sub (j := 0) (n := 2) (c := [v199, v205]) rfl) rfl)) ?_
       obtain ⟨r226, hr227, hp⟩ := bnd hp
       refine FL.call (wF_yes rfl rfl rfl c225) rfl rfl (E.call Tryz.call120 (A1 rfl)) (w_impl_IsSequent S216.sl r193 v199 (h200.mono (upI.tr i217)) v205 (h206.mono (upI.tr i217)) hr227) ?_
       rintro e w228 ⟨rfl, r229⟩
       refine ⟨_, rfl, ?_⟩
       have S230 := S216.call r229
       refine FL.val (wF_yes rfl rfl rfl c225) rfl rfl (E.not rfl) ?_
       obtain rfl := Option.some.inj hp
       refine FL.v (E.pickF rfl c225 rfl) ?_
       exact FL.nil ⟨rfl, _, S230, (Inc.rfl _), rfl, rfl, rfl, rfl⟩
     rintro f224 w223 ⟨H220, S221, i222, k231, k232, k233, k234⟩
     refine FL.v (E.move k234) ?_
     refine FL.cut 7 (fun f w => ∃ H : GH, St H0 w0 H w (.row 3 1 v60 n61 cs62 :: .box b49 74 [v45, v47, Value.int .i64 y21.rule, Value.string y21.main, Value.int .i64 (wr (y21.a + (len a0.steps))), Value.int .i64 y21.b] :: .box b0 92 [v23, Value.bool s22.2] :: .row 74 6 v23 n25 cs26 :: L) ∧ Inc H220 H ∧ f 0 = Value.pointer (some (⟨b0, 0, none⟩ : Addr)) ∧ f 3 = Value.pointer (some ⟨b189, 0, none⟩) ∧ f 9 = Value.pointer (some (⟨b0, 0, none⟩ : Addr)) ∧ f 27 = Value.bool (bif t219 then true else (decide (200 ≤ (len s22.1))))) ?_ ?_
     ·
      rcases bcase t219 with c240 | c240
      ·
       refine FL.skip (wF_no rfl rfl rfl c240) rfl ?_
       refine FL.skip (wF_no rfl rfl rfl c240) rfl ?_
       refine FL.skip (wF_no rfl rfl rfl c240) rfl ?_
       refine FL.skip (wF_no rfl rfl rfl c240) rfl ?_
       refine FL.skip (wF_no rfl rfl rfl c240) rfl ?_
       refine FL.skip (wF_no rfl rfl rfl c240) rfl ?_
       refine FL.v (E.pickT rfl c240 rfl) ?_
       exact FL.nil ⟨rfl, _, S221, (Inc.rfl _), k231, k232, k233, (congrArg Value.bool (bifT c240).symm)⟩
      ·
       refine FL.val (wF_yes rfl rfl rfl c240) rfl rfl (E.move k231) ?_
       refine FL.val (wF_yes rfl rfl rfl c240) rfl rfl (E.nilCheck rfl) ?_
       refine FL.val (wF_yes rfl rfl rfl c240) rfl rfl (E.fieldAddr tf92_0 rfl) ?_
       refine FL.val (wF_yes rfl rfl rfl c240) rfl rfl (E.load rfl (run_load1 Tryz.isAgg24 (S221.box_now (i := 2) rfl) rfl)) ?_
       refine FL.val (wF_yes rfl rfl rfl c240) rfl rfl (E.lenO te24 rfl S221 (i := 3) rfl els27 (by decide)) ?_
       refine FL.val (wF_yes rfl rfl rfl c240) rfl rfl (E.geq rfl rfl) ?_
       refine FL.v (E.pickF rfl c240 rfl) ?_
       exact FL.nil ⟨rfl, _, S221, (Inc.rfl _), k231, k232, k233, (congrArg Value.bool (bifF c240).symm)⟩
     rintro f239 w238 ⟨H235, S236, i237, k241, k242, k243, k244⟩
     refine FL.v (E.nilCheck k243) ?_
     refine FL.v (E.fieldAddr tf92_1 rfl) ?_
     obtain ⟨w245, run246, S247⟩ := S236.store (P := Tryz.prog) (t := 4) (i := 2) (j := 1) (cs' := [v23, Value.bool (bif t219 then true else (decide (200 ≤ (len s22.1))))]) (l' := (.row 3 1 v60 n61 cs62 :: .box b49 74 [v45, v47, Value.int .i64 y21.rule, Value.string y21.main, Value.int .i64 (wr (y21.a + (len a0.steps))), Value.int .i64 y21.b] :: .box b0 92 [v23, Value.bool (bif t219 then true else (decide (200 ≤ (len s22.1))))] :: .row 74 6 v23 n25 cs26 :: L)) (v := Value.bool (bif t219 then true else (decide (200 ≤ (len s22.1))))) (c := [Value.bool (bif t219 then true else (decide (200 ≤ (len s22.1))))]) rfl Tryz.sizeOf4 rfl rfl (ones_cons rfl ones_nil) (Nat.le_of_ble_eq_true rfl) rfl rfl
     refine FL.act rfl rfl (E.store rfl k244 run246) ?_
     refine FL.nil (FW.seq ?_)
     obtain ⟨xs258, hz259, hp⟩ := bnd hp
     refine FW.drawB (Sl H235) (fun f w => ∃ H : GH, ∃ v273 : Value, ∃ n274 : Nat, ∃ cs275 : List Value, St H0 w0 H w (.row 3 1 v60 n61 cs62 :: .box b49 74 [v45, v47, Value.int .i64 y21.rule, Value.string y21.main, Value.int .i64 (wr (y21.a + (len a0.steps))), Value.int .i64 y21.b] :: .box b0 92 [v273, Value.bool (bif t219 then true else (decide (200 ≤ (len s22.1))))] :: .row 74 6 v273 n274 cs275 :: L) ∧ Inc H235 H ∧ Els (up w0.heap.size H) eSeqStep 6 cs275 xs258 ∧ (bl cs275).Nodup ∧ f 0 = Value.pointer (some (⟨b0, 0, none⟩ : Addr))) (by kernel_rfl) S247.sl ?_ ?_
     ·
      intro w248 r249
      have S250 := S247.call r249
      refine FB.phase [10] (fun w => WAt w (Addr.add ⟨b0, 0, none⟩ 0) [v23]) ?_
      refine FB.t (i := 0) (bs 11 1) rfl (SP.on ((S250.box_now (i := 2) rfl).sub (j := 0) (n := 1) (c := [v23]) rfl) (SP.nil S250.sl)) rfl (fun w' hw' => (E.move k241)) ?_
      refine FB.t (i := 1) (bs 11 3) rfl (SP.on ((S250.box_now (i := 2) rfl).sub (j := 0) (n := 1) (c := [v23]) rfl) (SP.nil S250.sl)) rfl (fun w' hw' => (E.move k241)) ?_
      refine FB.t (i := 2) (bs 11 7) rfl (SP.on ((S250.box_now (i := 2) rfl).sub (j := 0) (n := 1) (c := [v23]) rfl) (SP.nil S250.sl)) rfl (fun w' hw' => (E.nilCheck rfl)) ?_
      refine FB.t (i := 3) (bs 11 15) rfl (SP.on ((S250.box_now (i := 2) rfl).sub (j := 0) (n := 1) (c := [v23]) rfl) (SP.nil S250.sl)) rfl (fun w' hw' => (E.fieldAddr tf92_0 rfl)) ?_
      refine FB.p (i := 4) (bs 11 31) 0 [7, 8, 9, 10] rfl (SP.on ((S250.box_now (i := 2) rfl).sub (j := 0) (n := 1) (c := [v23]) rfl) (SP.nil S250.sl)) rfl rfl (fun w' hw' => (E.load rfl (run_load0 Tryz.isAgg24 hw' rfl))) ?_
      refine FB.t (i := 5) (bs 11 63) rfl (SP.on ((S250.box_now (i := 2) rfl).sub (j := 0) (n := 1) (c := [v23]) rfl) (SP.nil S250.sl)) rfl (fun w' hw' => (E.load k242 (run_loadA Tryz.isAgg74 Tryz.sizeOf74 ((at218.mono (i222.tr i237)).now hw') rfl))) ?_
      refine FB.all1 (i := 6) (by kernel_rfl) ?_
      ·
       obtain ⟨v251, w252, run253, S254⟩ := S250.buildSlice (P := Tryz.prog) te24 [Value.agg #[v199, v205, Value.int .i64 y21.rule, Value.string y21.main, Value.int .i64 (wr (y21.a + (len a0.steps))), Value.int .i64 y21.b]] (parts := #[(0, Value.agg #[v199, v205, Value.int .i64 y21.rule, Value.string y21.main, Value.int .i64 (wr (y21.a + (len a0.steps))), Value.int .i64 y21.b])]) (cells := [v199, v205, Value.int .i64 y21.rule, Value.string y21.main, Value.int .i64 (wr (y21.a + (len a0.steps))), Value.int .i64 y21.b]) rfl (szs_cons rfl szs_nil) (fc_cons rfl fc_nil) (ones_cons h200.one (ones_cons h206.one (ones_cons rfl (ones_cons rfl (ones_cons rfl (ones_cons rfl ones_nil)))))) (Nat.le_of_ble_eq_true rfl)
       have els255 : Els (up w0.heap.size H235) eSeqStep 6 [v199, v205, Value.int .i64 y21.rule, Value.string y21.main, Value.int .i64 (wr (y21.a + (len a0.steps))), Value.int .i64 y21.b] [(SeqStep.mk r193 y21.rule y21.main (wr (y21.a + (len a0.steps))) y21.b)] := (Els.snoc (H := (up w0.heap.size H235)) (E := eSeqStep) (k := 6) (c := [v199, v205, Value.int .i64 y21.rule, Value.string y21.main, Value.int .i64 (wr (y21.a + (len a0.steps))), Value.int .i64 y21.b]) (x := (SeqStep.mk r193 y21.rule y21.main (wr (y21.a + (len a0.steps))) y21.b)) Els.nil rfl ⟨_, _, rfl, (h200.mono (up_mono ((i217.tr i222).tr i237))), (h206.mono (up_mono ((i217.tr i222).tr i237)))⟩)
       have nd256 : (bl [v199, v205, Value.int .i64 y21.rule, Value.string y21.main, Value.int .i64 (wr (y21.a + (len a0.steps))), Value.int .i64 y21.b]).Nodup := by exact nd_two ap211.dis
       have nv257 : New H56 [v199, v205, Value.int .i64 y21.rule, Value.string y21.main, Value.int .i64 (wr (y21.a + (len a0.steps))), Value.int .i64 y21.b] := by exact (New.two nv204 nv210)
       refine FC.val (l' := (bs 11 127)) rfl (by kernel_rfl) rfl rfl rfl (E.buildSlice (B1 rfl) run253) ?_
       refine ⟨(SP.on ((S254.box_now (i := 3) rfl).sub (j := 0) (n := 1) (c := [v23]) rfl) (SP.nil S254.sl)), ?_⟩
       refine FB.all1 (i := 7) (by kernel_rfl) ?_
       ·
        obtain ⟨v260, w263, n261, cs262, run264, S265, els266, ce267⟩ := S254.appendO (P := Tryz.prog) te24 (i := 4) (j := 0) rfl (els27.mono (up_mono ((((r59.run.inc.tr r198.inc).tr i217).tr i222).tr i237))) rfl els255 hz259
        have S265 : St H0 w0 H235 w263 (.row 74 6 v251 1 [v199, v205, Value.int .i64 y21.rule, Value.string y21.main, Value.int .i64 (wr (y21.a + (len a0.steps))), Value.int .i64 y21.b] :: .row 3 1 v60 n61 cs62 :: .box b49 74 [v45, v47, Value.int .i64 y21.rule, Value.string y21.main, Value.int .i64 (wr (y21.a + (len a0.steps))), Value.int .i64 y21.b] :: .box b0 92 [v23, Value.bool (bif t219 then true else (decide (200 ≤ (len s22.1))))] :: .row 74 6 v260 n261 cs262 :: L) := S265
        have nd268 : (bl cs262).Nodup := by rw [ce267]; exact nd_app nd28 nd256 (Els.dom (els27.mono (upI.tr r59.run.inc))) (by exact nv257)
        have S269 : St H0 w0 H235 w263 (.row 3 1 v60 n61 cs62 :: .box b49 74 [v45, v47, Value.int .i64 y21.rule, Value.string y21.main, Value.int .i64 (wr (y21.a + (len a0.steps))), Value.int .i64 y21.b] :: .box b0 92 [v23, Value.bool (bif t219 then true else (decide (200 ≤ (len s22.1))))] :: .row 74 6 v260 n261 cs262 :: L) := S265.drop 0
        refine FC.val (l' := (bs 11 255)) rfl (by kernel_rfl) rfl rfl rfl (E.append rfl rfl run264) ?_
        refine ⟨(SP.on ((S269.box_now (i := 2) rfl).sub (j := 0) (n := 1) (c := [v23]) rfl) (SP.nil S269.sl)), ?_⟩
        refine FB.t (i := 8) (bs 11 511) rfl (SP.on ((S269.box_now (i := 2) rfl).sub (j := 0) (n := 1) (c := [v23]) rfl) (SP.nil S269.sl)) rfl (fun w' hw' => (E.nilCheck rfl)) ?_
        refine FB.t (i := 9) (bs 11 1023) rfl (SP.on ((S269.box_now (i := 2) rfl).sub (j := 0) (n := 1) (c := [v23]) rfl) (SP.nil S269.sl)) rfl (fun w' hw' => (E.fieldAddr tf92_0 rfl)) ?_
        refine FB.all1 (i := 10) (by kernel_rfl) ?_
        ·
         obtain ⟨w270, run271, S272⟩ := S269.store (P := Tryz.prog) (t := 24) (i := 2) (j := 0) (cs' := [v260, Value.bool (bif t219 then true else (decide (200 ≤ (len s22.1))))]) (l' := (.row 3 1 v60 n61 cs62 :: .box b49 74 [v45, v47, Value.int .i64 y21.rule, Value.string y21.main, Value.int .i64 (wr (y21.a + (len a0.steps))), Value.int .i64 y21.b] :: .box b0 92 [v260, Value.bool (bif t219 then true else (decide (200 ≤ (len s22.1))))] :: .row 74 6 v260 n261 cs262 :: L)) (v := v260) (c := [v260]) rfl Tryz.sizeOf24 (Ln.cells (S269.row_ln (i := 3) rfl)) rfl (ones_cons (Ln.one (S269.row_ln (i := 3) rfl)) ones_nil) (Nat.le_of_ble_eq_true rfl) rfl rfl
         refine FC.act (l' := (bs 11 2047)) rfl (by kernel_rfl) rfl rfl (E.store rfl rfl run271) ?_
         refine ⟨(SP.o (SP.nil S272.sl)), ?_⟩
         exact FB.done (by kernel_rfl) ⟨_, _, _, _, S272, (Inc.rfl _), els266, nd268, k241⟩
     ·
      rintro f282 w281 ⟨H278, v273, n274, cs275, S279, i280, els276, nd277, k283⟩
      refine FW.seq (FW.region ?_)
      refine FL.v (E.move k283) ?_
      refine FL.v (E.nilCheck rfl) ?_
      refine FL.v (E.fieldAddr tf92_0 rfl) ?_
      refine FL.v (E.load rfl (run_load1 Tryz.isAgg24 (S279.box_now (i := 2) rfl) rfl)) ?_
      refine FL.v (E.lenO te24 rfl S279 (i := 3) rfl els276 (by decide)) ?_
      refine FL.v (E.sub rfl rfl) ?_
      refine FL.v (E.assign (v := Value.int .i64 (wr ((len xs258) - 1))) rfl) ?_
      refine FL.nil ?_
      refine FW.ret ?_
      obtain rfl := Option.some.inj hp
      exact ⟨.inr rfl, res1 rfl rfl (by rw [hR183]; exact ⟨_, _, _, _, rfl, S279, ((((r198.inc.tr i217).tr i222).tr i237).tr i280), els276, nd277⟩)⟩
    clear hq183
    refine FL.call rfl rfl rfl (E.call Tryz.call70 (A2 rfl rfl)) hc183 ?_
    intro e w287 hQ183
    rw [hR183] at hQ183
    obtain ⟨H284, v184, n185, cs186, rfl, S285, i286, els187, nd188⟩ := hQ183
    refine ⟨_, rfl, ?_⟩
    refine FL.nil (FW.region ?_)
    refine FL.v (E.add k34 rfl) ?_
    refine FL.v (E.move (v := Value.int .i64 (wr (((i22 : Nat) : Int) + 1))) rfl) ?_
    refine FL.nil ?_
    obtain rfl := Option.some.inj hp
    exact ⟨rfl, ⟨_, _, _, _, (S285.selT (a := [.row 3 1 v60 n61 cs62, .box b49 74 [v45, v47, Value.int .i64 y21.rule, Value.string y21.main, Value.int .i64 (wr (y21.a + (len a0.steps))), Value.int .i64 y21.b], .box b0 92 [v184, Value.bool s183.2.1], .row 74 6 v184 n185 cs186]) (l' := [.box b0 92 [v184, Value.bool s183.2.1], .row 74 6 v184 n185 cs186]) [2, 3] (by decide) rfl), ((i31.tr r59.run.inc).tr i286), els187, nd188, (nat_succ rfl (lt_of_get hx22) (p1.mono ((i31.tr r59.run.inc).tr i286)).le), k35, k36, k37, k38⟩⟩
   ·
    refine FW.condF rfl c179 ?_
    refine FW.skip (FW.region ?_)
    refine FL.v (E.move k35) ?_
    refine FL.v (E.load rfl (run_loadA Tryz.isAgg74 Tryz.sizeOf74 (S58.box_now (i := 1) rfl) rfl)) ?_
    obtain ⟨s288, hq288, hp⟩ := bnd hp
    obtain ⟨R288, hR288⟩ : ∃ R288 : ((List SeqStep) × Bool × Int) → Ending → World → Prop, R288 = (fun s288 e w => ∃ H : GH, ∃ v289 : Value, ∃ n290 : Nat, ∃ cs291 : List Value, e = Ending.returned (Value.int .i64 s288.2.2) ∧ St H0 w0 H w (.row 3 1 v60 n61 cs62 :: .box b49 74 [v45, v47, Value.int .i64 y21.rule, Value.string y21.main, Value.int .i64 y21.a, Value.int .i64 y21.b] :: .box b0 92 [v289, Value.bool s288.2.1] :: .row 74 6 v289 n290 cs291 :: L) ∧ Inc H56 H ∧ Els (up w0.heap.size H) eSeqStep 6 cs291 s288.1 ∧ (bl cs291).Nodup) := ⟨_, rfl⟩
    have hc288 : Calls Tryz.prog 70 #[Value.pointer (some (⟨b0, 0, none⟩ : Addr)), Value.agg #[v45, v47, Value.int .i64 y21.rule, Value.string y21.main, Value.int .i64 y21.a, Value.int .i64 y21.b]] w57 (R288 s288) := by
     clear hp; have hp := hq288; clear hq288
     refine calls_go (N := 46) (args := [Value.pointer (some (⟨b0, 0, none⟩ : Addr)), Value.agg #[v45, v47, Value.int .i64 y21.rule, Value.string y21.main, Value.int .i64 y21.a, Value.int .i64 y21.b]]) Tryz.func70 rfl rfl rfl ?_
     refine FW.seq (FW.region ?_)
     obtain ⟨b294, w295, run296, S297⟩ := S58.box (P := Tryz.prog) 74 [v45, v47, Value.int .i64 y21.rule, Value.string y21.main, Value.int .i64 y21.a, Value.int .i64 y21.b] (v := Value.agg #[v45, v47, Value.int .i64 y21.rule, Value.string y21.main, Value.int .i64 y21.a, Value.int .i64 y21.b]) rfl (ones_cons h46.one (ones_cons h48.one (ones_cons rfl (ones_cons rfl (ones_cons rfl (ones_cons rfl ones_nil))))))
     refine FL.v (E.box rfl run296) ?_
     refine FL.v (E.assign (v := Value.int .i64 0) rfl) ?_
     refine FL.nil (FW.seq (FW.region ?_))
     refine FL.v (E.fieldAddr tf74_0 rfl) ?_
     refine FL.v (E.load rfl (run_loadA Tryz.isAgg68 Tryz.sizeOf68 ((S297.box_now (i := 0) rfl).sub (j := 0) (n := 2) (c := [v45, v47]) rfl) rfl)) ?_
     obtain ⟨r298, hr299, hp⟩ := bnd hp
     refine FL.call rfl rfl rfl (E.call Tryz.call114 (A1 rfl)) (w_impl_Sequent_clone S297.sl y21.seq v45 (h46.mono (i31.tr r59.run.inc)) v47 (h48.mono (i31.tr r59.run.inc)) hr299) ?_
     rintro e w301 ⟨H300, v304, v310, rfl, r303, ⟨c307, c313, ns306, ns312, ap316⟩⟩
     refine ⟨_, rfl, ?_⟩
     have h305 := ns306.rsl
     have nv308 : New H56 c307 := New.of_up S297.sl (fun b hb => ns306.dom b (.inr hb))
     have nv309 : New H56 [v304] := New.of_up S297.sl h305.dom
     have h305 := h305.mono (up_le S297.size)
     have ns306 := ns306.mono (up_le S297.size)
     have h311 := ns312.rsl
     have nv314 : New H56 c313 := New.of_up S297.sl (fun b hb => ns312.dom b (.inr hb))
     have nv315 : New H56 [v310] := New.of_up S297.sl h311.dom
     have h311 := h311.mono (up_le S297.size)
     have ns312 := ns312.mono (up_le S297.size)
     have S302 := S297.call r303
     refine FL.v (E.fieldAddr tf74_0 rfl) ?_
     obtain ⟨w317, run318, S319⟩ := S302.store (P := Tryz.prog) (t := 68) (i := 0) (j := 0) (cs' := [v304, v310, Value.int .i64 y21.rule, Value.string y21.main, Value.int .i64 y21.a, Value.int .i64 y21.b]) (l' := (.box b294 74 [v304, v310, Value.int .i64 y21.rule, Value.string y21.main, Value.int .i64 y21.a, Value.int .i64 y21.b] :: .row 3 1 v60 n61 cs62 :: .box b49 74 [v45, v47, Value.int .i64 y21.rule, Value.string y21.main, Value.int .i64 y21.a, Value.int .i64 y21.b] :: .box b0 92 [v23, Value.bool s22.2] :: .row 74 6 v23 n25 cs26 :: L)) (v := Value.agg #[v304, v310]) (c := [v304, v310]) rfl Tryz.sizeOf68 rfl rfl (ones_cons h305.one (ones_cons h311.one ones_nil)) (Nat.le_of_ble_eq_true rfl) rfl rfl
     refine FL.act rfl rfl (E.store rfl rfl run318) ?_
     obtain ⟨H320, S321, i322, at323⟩ := S319.sealBox (i := 0) (l' := (.row 3 1 v60 n61 cs62 :: .box b49 74 [v45, v47, Value.int .i64 y21.rule, Value.string y21.main, Value.int .i64 y21.a, Value.int .i64 y21.b] :: .box b0 92 [v23, Value.bool s22.2] :: .row 74 6 v23 n25 cs26 :: L)) rfl rfl
     refine FL.nil (FW.seq (FW.region ?_))
     refine FL.v (E.move (v := Value.pointer (some (⟨b0, 0, none⟩ : Addr))) rfl) ?_
     refine FL.v (E.move (v := Value.pointer (some (⟨b0, 0, none⟩ : Addr))) rfl) ?_
     refine FL.v (E.nilCheck rfl) ?_
     refine FL.v (E.fieldAddr tf92_1 rfl) ?_
     refine FL.v (E.load rfl (run_load1 Tryz.isAgg4 (S321.box_now (i := 2) rfl) rfl)) ?_
     refine FL.v (E.move (v := Value.bool s22.2) rfl) ?_
     obtain ⟨t324, hqt324, hp⟩ := bnd hp
     refine FL.cut 5 (fun f w => ∃ H : GH, St H0 w0 H w (.row 3 1 v60 n61 cs62 :: .box b49 74 [v45, v47, Value.int .i64 y21.rule, Value.string y21.main, Value.int .i64 y21.a, Value.int .i64 y21.b] :: .box b0 92 [v23, Value.bool s22.2] :: .row 74 6 v23 n25 cs26 :: L) ∧ Inc H320 H ∧ f 0 = Value.pointer (some (⟨b0, 0, none⟩ : Addr)) ∧ f 3 = Value.pointer (some ⟨b294, 0, none⟩) ∧ f 9 = Value.pointer (some (⟨b0, 0, none⟩ : Addr)) ∧ f 19 = Value.bool t324) ?_ ?_
     ·
      clear hp; have hp := hqt324; clear hqt324
      rcases ifB hp with ⟨c330, hp⟩ | ⟨c330, hp⟩
      ·
       refine FL.skip (wF_no rfl rfl rfl c330) rfl ?_
       refine FL.skip (wF_no rfl rfl rfl c330) rfl ?_
       refine FL.skip (wF_no rfl rfl rfl c330) rfl ?_
       refine FL.skip (wF_no rfl rfl rfl c330) rfl ?_
       obtain rfl := Option.some.inj hp
       refine FL.v (E.pickT rfl c330 rfl) ?_
       exact FL.nil ⟨rfl, _, S321, (Inc.rfl _), rfl, rfl, rfl, rfl⟩
      ·
       refine FL.val (wF_yes rfl rfl rfl c330) rfl rfl (E.fieldAddr tf74_0 rfl) ?_
       refine FL.val (wF_yes rfl rfl rfl c330) rfl rfl (E.load rfl (run_loadA Tryz.isAgg68 Tryz.sizeOf68 ((at323.now S321.sl).sub (j := 0) (n := 2) (c := [v304, v310]) rfl) rfl)) ?_
       obtain ⟨r331, hr332, hp⟩ := bnd hp
       refine FL.call (wF_yes rfl rfl rfl c330) rfl rfl (E.call Tryz.call120 (A1 rfl)) (w_impl_IsSequent S321.sl r298 v304 (h305.mono (upI.tr i322)) v310 (h311.mono (upI.tr i322)) hr332) ?_
       rintro e w333 ⟨rfl, r334⟩
       refine ⟨_, rfl, ?_⟩
       have S335 := S321.call r334
       refine FL.val (wF_yes rfl rfl rfl c330) rfl rfl (E.not rfl) ?_
       obtain rfl := Option.some.inj hp
       refine FL.v (E.pickF rfl c330 rfl) ?_
       exact FL.nil ⟨rfl, _, S335, (Inc.rfl _), rfl, rfl, rfl, rfl⟩
     rintro f329 w328 ⟨H325, S326, i327, k336, k337, k338, k339⟩
     refine FL.v (E.move k339) ?_
     refine FL.cut 7 (fun f w => ∃ H : GH, St H0 w0 H w (.row 3 1 v60 n61 cs62 :: .box b49 74 [v45, v47, Value.int .i64 y21.rule, Value.string y21.main, Value.int .i64 y21.a, Value.int .i64 y21.b] :: .box b0 92 [v23, Value.bool s22.2] :: .row 74 6 v23 n25 cs26 :: L) ∧ Inc H325 H ∧ f 0 = Value.pointer (some (⟨b0, 0, none⟩ : Addr)) ∧ f 3 = Value.pointer (some ⟨b294, 0, none⟩) ∧ f 9 = Value.pointer (some (⟨b0, 0, none⟩ : Addr)) ∧ f 27 = Value.bool (bif t324 then true else (decide (200 ≤ (len s22.1))))) ?_ ?_
     ·
      rcases bcase t324 with c345 | c345
      ·
       refine FL.skip (wF_no rfl rfl rfl c345) rfl ?_
       refine FL.skip (wF_no rfl rfl rfl c345) rfl ?_
       refine FL.skip (wF_no rfl rfl rfl c345) rfl ?_
       refine FL.skip (wF_no rfl rfl rfl c345) rfl ?_
       refine FL.skip (wF_no rfl rfl rfl c345) rfl ?_
       refine FL.skip (wF_no rfl rfl rfl c345) rfl ?_
       refine FL.v (E.pickT rfl c345 rfl) ?_
       exact FL.nil ⟨rfl, _, S326, (Inc.rfl _), k336, k337, k338, (congrArg Value.bool (bifT c345).symm)⟩
      ·
       refine FL.val (wF_yes rfl rfl rfl c345) rfl rfl (E.move k336) ?_
       refine FL.val (wF_yes rfl rfl rfl c345) rfl rfl (E.nilCheck rfl) ?_
       refine FL.val (wF_yes rfl rfl rfl c345) rfl rfl (E.fieldAddr tf92_0 rfl) ?_
       refine FL.val (wF_yes rfl rfl rfl c345) rfl rfl (E.load rfl (run_load1 Tryz.isAgg24 (S326.box_now (i := 2) rfl) rfl)) ?_
       refine FL.val (wF_yes rfl rfl rfl c345) rfl rfl (E.lenO te24 rfl S326 (i := 3) rfl els27 (by decide)) ?_
       refine FL.val (wF_yes rfl rfl rfl c345) rfl rfl (E.geq rfl rfl) ?_
       refine FL.v (E.pickF rfl c345 rfl) ?_
       exact FL.nil ⟨rfl, _, S326, (Inc.rfl _), k336, k337, k338, (congrArg Value.bool (bifF c345).symm)⟩
     rintro f344 w343 ⟨H340, S341, i342, k346, k347, k348, k349⟩
     refine FL.v (E.nilCheck k348) ?_
     refine FL.v (E.fieldAddr tf92_1 rfl) ?_
     obtain ⟨w350, run351, S352⟩ := S341.store (P := Tryz.prog) (t := 4) (i := 2) (j := 1) (cs' := [v23, Value.bool (bif t324 then true else (decide (200 ≤ (len s22.1))))]) (l' := (.row 3 1 v60 n61 cs62 :: .box b49 74 [v45, v47, Value.int .i64 y21.rule, Value.string y21.main, Value.int .i64 y21.a, Value.int .i64 y21.b] :: .box b0 92 [v23, Value.bool (bif t324 then true else (decide (200 ≤ (len s22.1))))] :: .row 74 6 v23 n25 cs26 :: L)) (v := Value.bool (bif t324 then true else (decide (200 ≤ (len s22.1))))) (c := [Value.bool (bif t324 then true else (decide (200 ≤ (len s22.1))))]) rfl Tryz.sizeOf4 rfl rfl (ones_cons rfl ones_nil) (Nat.le_of_ble_eq_true rfl) rfl rfl
     refine FL.act rfl rfl (E.store rfl k349 run351) ?_
     refine FL.nil (FW.seq ?_)
     obtain ⟨xs363, hz364, hp⟩ := bnd hp
     refine FW.drawB (Sl H340) (fun f w => ∃ H : GH, ∃ v378 : Value, ∃ n379 : Nat, ∃ cs380 : List Value, St H0 w0 H w (.row 3 1 v60 n61 cs62 :: .box b49 74 [v45, v47, Value.int .i64 y21.rule, Value.string y21.main, Value.int .i64 y21.a, Value.int .i64 y21.b] :: .box b0 92 [v378, Value.bool (bif t324 then true else (decide (200 ≤ (len s22.1))))] :: .row 74 6 v378 n379 cs380 :: L) ∧ Inc H340 H ∧ Els (up w0.heap.size H) eSeqStep 6 cs380 xs363 ∧ (bl cs380).Nodup ∧ f 0 = Value.pointer (some (⟨b0, 0, none⟩ : Addr))) (by kernel_rfl) S352.sl ?_ ?_
     ·
      intro w353 r354
      have S355 := S352.call r354
      refine FB.phase [10] (fun w => WAt w (Addr.add ⟨b0, 0, none⟩ 0) [v23]) ?_
      refine FB.t (i := 0) (bs 11 1) rfl (SP.on ((S355.box_now (i := 2) rfl).sub (j := 0) (n := 1) (c := [v23]) rfl) (SP.nil S355.sl)) rfl (fun w' hw' => (E.move k346)) ?_
      refine FB.t (i := 1) (bs 11 3) rfl (SP.on ((S355.box_now (i := 2) rfl).sub (j := 0) (n := 1) (c := [v23]) rfl) (SP.nil S355.sl)) rfl (fun w' hw' => (E.move k346)) ?_
      refine FB.t (i := 2) (bs 11 7) rfl (SP.on ((S355.box_now (i := 2) rfl).sub (j := 0) (n := 1) (c := [v23]) rfl) (SP.nil S355.sl)) rfl (fun w' hw' => (E.nilCheck rfl)) ?_
      refine FB.t (i := 3) (bs 11 15) rfl (SP.on ((S355.box_now (i := 2) rfl).sub (j := 0) (n := 1) (c := [v23]) rfl) (SP.nil S355.sl)) rfl (fun w' hw' => (E.fieldAddr tf92_0 rfl)) ?_
      refine FB.p (i := 4) (bs 11 31) 0 [7, 8, 9, 10] rfl (SP.on ((S355.box_now (i := 2) rfl).sub (j := 0) (n := 1) (c := [v23]) rfl) (SP.nil S355.sl)) rfl rfl (fun w' hw' => (E.load rfl (run_load0 Tryz.isAgg24 hw' rfl))) ?_
      refine FB.t (i := 5) (bs 11 63) rfl (SP.on ((S355.box_now (i := 2) rfl).sub (j := 0) (n := 1) (c := [v23]) rfl) (SP.nil S355.sl)) rfl (fun w' hw' => (E.load k347 (run_loadA Tryz.isAgg74 Tryz.sizeOf74 ((at323.mono (i327.tr i342)).now hw') rfl))) ?_
      refine FB.all1 (i := 6) (by kernel_rfl) ?_
      ·
       obtain ⟨v356, w357, run358, S359⟩ := S355.buildSlice (P := Tryz.prog) te24 [Value.agg #[v304, v310, Value.int .i64 y21.rule, Value.string y21.main, Value.int .i64 y21.a, Value.int .i64 y21.b]] (parts := #[(0, Value.agg #[v304, v310, Value.int .i64 y21.rule, Value.string y21.main, Value.int .i64 y21.a, Value.int .i64 y21.b])]) (cells := [v304, v310, Value.int .i64 y21.rule, Value.string y21.main, Value.int .i64 y21.a, Value.int .i64 y21.b]) rfl (szs_cons rfl szs_nil) (fc_cons rfl fc_nil) (ones_cons h305.one (ones_cons h311.one (ones_cons rfl (ones_cons rfl (ones_cons rfl (ones_cons rfl ones_nil)))))) (Nat.le_of_ble_eq_true rfl)
       have els360 : Els (up w0.heap.size H340) eSeqStep 6 [v304, v310, Value.int .i64 y21.rule, Value.string y21.main, Value.int .i64 y21.a, Value.int .i64 y21.b] [(SeqStep.mk r298 y21.rule y21.main y21.a y21.b)] := (Els.snoc (H := (up w0.heap.size H340)) (E := eSeqStep) (k := 6) (c := [v304, v310, Value.int .i64 y21.rule, Value.string y21.main, Value.int .i64 y21.a, Value.int .i64 y21.b]) (x := (SeqStep.mk r298 y21.rule y21.main y21.a y21.b)) Els.nil rfl ⟨_, _, rfl, (h305.mono (up_mono ((i322.tr i327).tr i342))), (h311.mono (up_mono ((i322.tr i327).tr i342)))⟩)
       have nd361 : (bl [v304, v310, Value.int .i64 y21.rule, Value.string y21.main, Value.int .i64 y21.a, Value.int .i64 y21.b]).Nodup := by exact nd_two ap316.dis
       have nv362 : New H56 [v304, v310, Value.int .i64 y21.rule, Value.string y21.main, Value.int .i64 y21.a, Value.int .i64 y21.b] := by exact (New.two nv309 nv315)
       refine FC.val (l' := (bs 11 127)) rfl (by kernel_rfl) rfl rfl rfl (E.buildSlice (B1 rfl) run358) ?_
       refine ⟨(SP.on ((S359.box_now (i := 3) rfl).sub (j := 0) (n := 1) (c := [v23]) rfl) (SP.nil S359.sl)), ?_⟩
       refine FB.all1 (i := 7) (by kernel_rfl) ?_
       ·
        obtain ⟨v365, w368, n366, cs367, run369, S370, els371, ce372⟩ := S359.appendO (P := Tryz.prog) te24 (i := 4) (j := 0) rfl (els27.mono (up_mono ((((r59.run.inc.tr r303.inc).tr i322).tr i327).tr i342))) rfl els360 hz364
        have S370 : St H0 w0 H340 w368 (.row 74 6 v356 1 [v304, v310, Value.int .i64 y21.rule, Value.string y21.main, Value.int .i64 y21.a, Value.int .i64 y21.b] :: .row 3 1 v60 n61 cs62 :: .box b49 74 [v45, v47, Value.int .i64 y21.rule, Value.string y21.main, Value.int .i64 y21.a, Value.int .i64 y21.b] :: .box b0 92 [v23, Value.bool (bif t324 then true else (decide (200 ≤ (len s22.1))))] :: .row 74 6 v365 n366 cs367 :: L) := S370
        have nd373 : (bl cs367).Nodup := by rw [ce372]; exact nd_app nd28 nd361 (Els.dom (els27.mono (upI.tr r59.run.inc))) (by exact nv362)
        have S374 : St H0 w0 H340 w368 (.row 3 1 v60 n61 cs62 :: .box b49 74 [v45, v47, Value.int .i64 y21.rule, Value.string y21.main, Value.int .i64 y21.a, Value.int .i64 y21.b] :: .box b0 92 [v23, Value.bool (bif t324 then true else (decide (200 ≤ (len s22.1))))] :: .row 74 6 v365 n366 cs367 :: L) := S370.drop 0
        refine FC.val (l' := (bs 11 255)) rfl (by kernel_rfl) rfl rfl rfl (E.append rfl rfl run369) ?_
        refine ⟨(SP.on ((S374.box_now (i := 2) rfl).sub (j := 0) (n := 1) (c := [v23]) rfl) (SP.nil S374.sl)), ?_⟩
        refine FB.t (i := 8) (bs 11 511) rfl (SP.on ((S374.box_now (i := 2) rfl).sub (j := 0) (n := 1) (c := [v23]) rfl) (SP.nil S374.sl)) rfl (fun w' hw' => (E.nilCheck rfl)) ?_
        refine FB.t (i := 9) (bs 11 1023) rfl (SP.on ((S374.box_now (i := 2) rfl).sub (j := 0) (n := 1) (c := [v23]) rfl) (SP.nil S374.sl)) rfl (fun w' hw' => (E.fieldAddr tf92_0 rfl)) ?_
        refine FB.all1 (i := 10) (by kernel_rfl) ?_
        ·
         obtain ⟨w375, run376, S377⟩ := S374.store (P := Tryz.prog) (t := 24) (i := 2) (j := 0) (cs' := [v365, Value.bool (bif t324 then true else (decide (200 ≤ (len s22.1))))]) (l' := (.row 3 1 v60 n61 cs62 :: .box b49 74 [v45, v47, Value.int .i64 y21.rule, Value.string y21.main, Value.int .i64 y21.a, Value.int .i64 y21.b] :: .box b0 92 [v365, Value.bool (bif t324 then true else (decide (200 ≤ (len s22.1))))] :: .row 74 6 v365 n366 cs367 :: L)) (v := v365) (c := [v365]) rfl Tryz.sizeOf24 (Ln.cells (S374.row_ln (i := 3) rfl)) rfl (ones_cons (Ln.one (S374.row_ln (i := 3) rfl)) ones_nil) (Nat.le_of_ble_eq_true rfl) rfl rfl
         refine FC.act (l' := (bs 11 2047)) rfl (by kernel_rfl) rfl rfl (E.store rfl rfl run376) ?_
         refine ⟨(SP.o (SP.nil S377.sl)), ?_⟩
         exact FB.done (by kernel_rfl) ⟨_, _, _, _, S377, (Inc.rfl _), els371, nd373, k346⟩
     ·
      rintro f387 w386 ⟨H383, v378, n379, cs380, S384, i385, els381, nd382, k388⟩
      refine FW.seq (FW.region ?_)
      refine FL.v (E.move k388) ?_
      refine FL.v (E.nilCheck rfl) ?_
      refine FL.v (E.fieldAddr tf92_0 rfl) ?_
      refine FL.v (E.load rfl (run_load1 Tryz.isAgg24 (S384.box_now (i := 2) rfl) rfl)) ?_
      refine FL.v (E.lenO te24 rfl S384 (i := 3) rfl els381 (by decide)) ?_
      refine FL.v (E.sub rfl rfl) ?_
      refine FL.v (E.assign (v := Value.int .i64 (wr ((len xs363) - 1))) rfl) ?_
      refine FL.nil ?_
      refine FW.ret ?_
      obtain rfl := Option.some.inj hp
      exact ⟨.inr rfl, res1 rfl rfl (by rw [hR288]; exact ⟨_, _, _, _, rfl, S384, ((((r303.inc.tr i322).tr i327).tr i342).tr i385), els381, nd382⟩)⟩
    clear hq288
    refine FL.call rfl rfl rfl (E.call Tryz.call70 (A2 rfl rfl)) hc288 ?_
    intro e w392 hQ288
    rw [hR288] at hQ288
    obtain ⟨H389, v289, n290, cs291, rfl, S390, i391, els292, nd293⟩ := hQ288
    refine ⟨_, rfl, ?_⟩
    refine FL.nil (FW.region ?_)
    refine FL.v (E.add k34 rfl) ?_
    refine FL.v (E.move (v := Value.int .i64 (wr (((i22 : Nat) : Int) + 1))) rfl) ?_
    refine FL.nil ?_
    obtain rfl := Option.some.inj hp
    exact ⟨rfl, ⟨_, _, _, _, (S390.selT (a := [.row 3 1 v60 n61 cs62, .box b49 74 [v45, v47, Value.int .i64 y21.rule, Value.string y21.main, Value.int .i64 y21.a, Value.int .i64 y21.b], .box b0 92 [v289, Value.bool s288.2.1], .row 74 6 v289 n290 cs291]) (l' := [.box b0 92 [v289, Value.bool s288.2.1], .row 74 6 v289 n290 cs291]) [2, 3] (by decide) rfl), ((i31.tr r59.run.inc).tr i391), els292, nd293, (nat_succ rfl (lt_of_get hx22) (p1.mono ((i31.tr r59.run.inc).tr i391)).le), k35, k36, k37, k38⟩⟩
 ·
  clear hp hq
  rintro s22 f404 w403 ⟨H400, v23, n25, cs26, S401, i402, els27, nd28, k405, k406, k407, k408, k409⟩
  refine FW.seq (FW.region ?_)
  refine FL.v (E.lss k405 k409) ?_
  refine FL.nil (FW.seq ?_)
  refine FW.condF rfl dlt_len ?_
  refine FW.exit ?_
  exact ⟨nofun, rfl, ⟨_, _, _, _, S401, i402, els27, nd28, k406⟩⟩
 ·
  clear hq
  intro e f398 w397 hD
  rcases q22 with s22 | x22
  ·
   obtain ⟨rfl, hD⟩ := hD
   obtain ⟨H394, v23, n25, cs26, S395, i396, els27, nd28, k399⟩ := hD
   replace hp := el_go hp
   refine FW.seq (FW.region ?_)
   refine FL.v (E.move k399) ?_
   refine FL.v (E.nilCheck rfl) ?_
   refine FL.v (E.fieldAddr tf92_0 rfl) ?_
   refine FL.v (E.load rfl (run_load1 Tryz.isAgg24 (S395.box_now (i := 0) rfl) rfl)) ?_
   refine FL.v (E.lenO te24 rfl S395 (i := 1) rfl els27 (by decide)) ?_
   refine FL.v (E.sub rfl rfl) ?_
   refine FL.v (E.assign (v := Value.int .i64 (wr ((len s22.1) - 1))) rfl) ?_
   refine FL.nil ?_
   refine FW.ret ?_
   obtain rfl := Option.some.inj hp
   exact ⟨.inr rfl, res1 rfl rfl ⟨_, _, _, _, rfl, ⟨S395, i396⟩, els27, nd28⟩⟩
  ·
   exact x22.elim

end Go.Proofs
