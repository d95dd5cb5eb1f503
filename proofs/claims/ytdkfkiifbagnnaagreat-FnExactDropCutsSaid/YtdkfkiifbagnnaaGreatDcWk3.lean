/- Part of the walks and plain laws behind the claim: it proves helpers, under no condition beyond their own. -/
import Derived.Test.YtdkfkiifbagnnaaGreatDcWk2
set_option linter.unusedVariables false
set_option maxRecDepth 100000
namespace Go.Proofs
open Go.Mr Go.Pu Go.PF Go.RowKit

@[reducible] def p_impl_premisesOf (Ha : GH) (wa : World) (r : (List Sequent)) : Ending → World → Prop :=
 fun e w' => ∃ H' : GH, ∃ v0 : Value, ∃ n0 : Nat, ∃ c0 : List Value, e = .returned (v0) ∧ St Ha wa H' w' [.row 68 2 v0 n0 c0] ∧ Els H' eSequent 2 c0 r
set_option maxHeartbeats 4000000 in
theorem w_impl_premisesOf {Ha : GH} {wa : World} (hs : Sl Ha wa) (a0 : Sequent) (v0_0 : Value) (p0_0 : RSl Ha eS 1 v0_0 a0.left) (v0_1 : Value) (p0_1 : RSl Ha eS 1 v0_1 a0.right) (a1 : Int) (v2 : Value) (a2 : Fo) (p2 : FAt Ha v2 a2) {r : (List Sequent)} (hp : (PF.impl_premisesOf a0 a1 a2) = some r) :
  Calls Tryz.prog 156 #[Value.agg #[v0_0, v0_1], Value.int .i64 a1, v2] wa (p_impl_premisesOf Ha wa r) := by
 unfold PF.impl_premisesOf at hp
 have S0 := St.init hs
 refine calls_go (N := 180) (args := [Value.agg #[v0_0, v0_1], Value.int .i64 a1, v2]) Tryz.func156 rfl rfl rfl ?_
 refine FW.seq (FW.region ?_)
 obtain ⟨b21, w22, run23, S24⟩ := S0.box (P := Tryz.prog) 68 [v0_0, v0_1] (v := Value.agg #[v0_0, v0_1]) rfl (ones_cons p0_0.one (ones_cons p0_1.one ones_nil))
 refine FL.v (E.box rfl run23) ?_
 obtain ⟨H25, S26, i27, at28⟩ := S24.sealBox (i := 0) (l' := []) rfl rfl
 refine FL.v (E.assign (v := Value.slice none 0 0) rfl) ?_
 refine FL.nil (FW.seq ?_)
 obtain ⟨y32, hy33, hp⟩ := bnd hp
 obtain ⟨r40, hr41, hp⟩ := bnd hp
 obtain ⟨r50, hr51, hp⟩ := bnd hp
 refine FW.drawB (Sl H25) (fun f w => ∃ H : GH, ∃ v60 : Value, ∃ v62 : Value, ∃ n63 : Nat, ∃ cs64 : List Value, ∃ v66 : Value, ∃ n67 : Nat, ∃ cs69 : List Value, St Ha wa H w [.row 9 1 v62 n63 cs64, .row 9 1 v66 n67 cs69] ∧ Inc H25 H ∧ FAt H v60 a2 ∧ Els (up wa.heap.size H) eS 1 cs64 r40 ∧ Els (up wa.heap.size H) eS 1 cs69 r50 ∧ f 1 = Value.int .i64 a1 ∧ f 2 = v60 ∧ f 3 = Value.pointer (some ⟨b21, 0, none⟩) ∧ f 7 = v62 ∧ f 8 = v66) (by kernel_rfl) S26.sl ?_ ?_
 ·
  intro w29 r30
  have S31 := S26.call r30
  refine FB.t (i := 0) (bs 16 1) rfl (SP.nil S31.sl) rfl (fun w' hw' => (E.fieldAddr tf68_0 rfl)) ?_
  refine FB.t (i := 1) (bs 16 3) rfl (SP.nil S31.sl) rfl (fun w' hw' => (E.load rfl (run_load1 Tryz.isAgg22 (at28.now hw') rfl))) ?_
  refine FB.t (i := 2) (bs 16 7) rfl (SP.nil S31.sl) rfl (fun w' hw' => (E.move (v := v2) rfl)) ?_
  obtain ⟨q34, v36, v37, rfl, at35, h38, h39⟩ := FAt.open p2 hy33
  refine FB.t (i := 3) (bs 16 15) rfl (SP.nil S31.sl) rfl (fun w' hw' => (E.nilCheck rfl)) ?_
  refine FB.t (i := 4) (bs 16 31) rfl (SP.nil S31.sl) rfl (fun w' hw' => (E.fieldAddr tf109_3 rfl)) ?_
  refine FB.t (i := 5) (bs 16 63) rfl (SP.nil S31.sl) rfl (fun w' hw' => (E.load rfl (run_load1 Tryz.isAgg9 ((at35.mono i27).now hw') rfl))) ?_
  refine FB.t (i := 7) (bs 16 191) rfl (SP.nil S31.sl) rfl (fun w' hw' => (E.fieldAddr tf68_1 rfl)) ?_
  refine FB.t (i := 8) (bs 16 447) rfl (SP.nil S31.sl) rfl (fun w' hw' => (E.load rfl (run_load1 Tryz.isAgg22 (at28.now hw') rfl))) ?_
  refine FB.t (i := 9) (bs 16 959) rfl (SP.nil S31.sl) rfl (fun w' hw' => (E.move (v := Value.pointer (some q34)) rfl)) ?_
  refine FB.t (i := 10) (bs 16 1983) rfl (SP.nil S31.sl) rfl (fun w' hw' => (E.nilCheck rfl)) ?_
  refine FB.t (i := 11) (bs 16 4031) rfl (SP.nil S31.sl) rfl (fun w' hw' => (E.fieldAddr tf109_3 rfl)) ?_
  refine FB.t (i := 12) (bs 16 8127) rfl (SP.nil S31.sl) rfl (fun w' hw' => (E.load rfl (run_load1 Tryz.isAgg9 ((at35.mono i27).now hw') rfl))) ?_
  refine FB.all1 (i := 6) (by kernel_rfl) ?_
  ·
   refine FC.call (l' := (bs 16 8191)) rfl (by kernel_rfl) rfl rfl rfl (E.call Tryz.call125 (A2 rfl rfl)) (w_impl_lacking S31.sl v0_0 a0.left (p0_0.mono i27) y32.text hr41) ?_
   rintro e w43 ⟨H42, v46, n47, cs48, rfl, r45, els49⟩
   refine ⟨_, rfl, ?_⟩
   have els49 := els49.mono (up_le S31.size)
   have S44 := S31.join (l' := [.row 9 1 v46 n47 cs48]) r45 rfl
   refine ⟨(SP.nil (Sl.of_inc r45.run.inc S44.sl)), ?_⟩
   refine FB.all1 (i := 13) (by kernel_rfl) ?_
   ·
    refine FC.call (l' := (bs 16 16383)) rfl (by kernel_rfl) rfl rfl rfl (E.call Tryz.call125 (A2 rfl rfl)) (w_impl_lacking S44.sl v0_1 a0.right (p0_1.mono (i27.tr r45.run.inc)) y32.text hr51) ?_
    rintro e w53 ⟨H52, v56, n57, cs58, rfl, r55, els59⟩
    refine ⟨_, rfl, ?_⟩
    have els59 := els59.mono (up_le S44.size)
    have S54 := S44.join (l' := [.row 9 1 v56 n57 cs58, .row 9 1 v46 n47 cs48]) r55 rfl
    refine ⟨(SP.nil (Sl.of_inc (r45.run.inc.tr r55.run.inc) S54.sl)), ?_⟩
    refine FB.t (i := 14) (bs 16 32767) rfl (SP.nil (Sl.of_inc (r45.run.inc.tr r55.run.inc) S54.sl)) rfl (fun w' hw' => (E.assign (v := v46) rfl)) ?_
    refine FB.t (i := 15) (bs 16 65535) rfl (SP.nil (Sl.of_inc (r45.run.inc.tr r55.run.inc) S54.sl)) rfl (fun w' hw' => (E.assign (v := v56) rfl)) ?_
    exact FB.done (by kernel_rfl) ⟨_, _, _, _, _, _, _, _, (S54.sel [1, 0] (by decide) rfl), (r45.run.inc.tr r55.run.inc), (p2.mono ((i27.tr r45.run.inc).tr r55.run.inc)), (els49.mono (up_mono r55.run.inc)), els59, rfl, rfl, rfl, rfl, rfl⟩
 ·
  rintro f75 w74 ⟨H71, v60, v62, n63, cs64, v66, n67, cs69, S72, i73, h61, els65, els70, k76, k77, k78, k79, k80⟩
  refine FW.seq ?_
  refine FW.draw (fun w' => Run w74.heap.size H71 w74 H71 w') (by kernel_rfl) (by kernel_rfl) (run_drew S72.sl) ?_
  refine FD.val rfl rfl rfl (fun w' hw' => (E.move k77)) ?_
  obtain ⟨y81, hy82, hp⟩ := bnd hp
  obtain ⟨q83, v85, v86, rfl, at84, h87, h88⟩ := FAt.open h61 hy82
  refine FD.val rfl rfl rfl (fun w' hw' => (E.nilCheck rfl)) ?_
  refine FD.val rfl rfl rfl (fun w' hw' => (E.fieldAddr tf109_1 rfl)) ?_
  refine FD.val rfl rfl rfl (fun w' hw' => (E.load rfl (run_load1 Tryz.isAgg101 (at84.now (S72.call hw').sl) rfl))) ?_
  refine FD.val rfl rfl rfl (fun w' hw' => (E.move k77)) ?_
  refine FD.val rfl rfl rfl (fun w' hw' => (E.nilCheck rfl)) ?_
  refine FD.val rfl rfl rfl (fun w' hw' => (E.fieldAddr tf109_2 rfl)) ?_
  refine FD.val rfl rfl rfl (fun w' hw' => (E.load rfl (run_load1 Tryz.isAgg101 (at84.now (S72.call hw').sl) rfl))) ?_
  refine FD.val rfl rfl rfl (fun w' hw' => (E.assign (v := v85) rfl)) ?_
  refine FD.val rfl rfl rfl (fun w' hw' => (E.assign (v := v86) rfl)) ?_
  refine FD.nil ?_
  intro w89 r91
  have S90 := S72.call r91
  refine FW.seq (FW.seq (FW.region ?_))
  refine FL.v (E.move k76) ?_
  refine FL.nil (FW.block (FW.seq (FW.region ?_)))
  refine FL.v (E.eql rfl rfl) ?_
  refine FL.v (E.assign (v := Value.bool (a1 == 2)) rfl) ?_
  refine FL.nil ?_
  rcases ifB hp with ⟨c92, hp⟩ | ⟨c92, hp⟩
  ·
   refine FW.condT rfl c92 ?_
   refine FW.seq ?_
   obtain ⟨y96, hy97, hp⟩ := bnd hp
   obtain ⟨r115, hr116, hp⟩ := bnd hp
   refine FW.drawB (Sl H71) (fun f w => ∃ H : GH, ∃ v144 : Value, ∃ n145 : Nat, ∃ cs146 : List Value, St Ha wa H w [.row 68 2 v144 n145 cs146] ∧ Inc H71 H ∧ Els (up wa.heap.size H) eSequent 2 cs146 [(Sequent.mk r40 r115)] ∧ (bl cs146).Nodup ∧ f 6 = v144) (by kernel_rfl) S90.sl ?_ ?_
   ·
    intro w93 r94
    have S95 := S90.call r94
    refine FB.t (i := 0) (bs 12 1) rfl (SP.nil S95.sl) rfl (fun w' hw' => (E.move k79)) ?_
    refine FB.t (i := 1) (bs 12 3) rfl (SP.nil S95.sl) rfl (fun w' hw' => (E.fieldAddr tf68_1 k78)) ?_
    refine FB.t (i := 2) (bs 12 7) rfl (SP.nil S95.sl) rfl (fun w' hw' => (E.load rfl (run_load1 Tryz.isAgg22 ((at28.mono i73).now hw') rfl))) ?_
    refine FB.t (i := 3) (bs 12 15) rfl (SP.nil S95.sl) rfl (fun w' hw' => (E.move (v := v85) rfl)) ?_
    obtain ⟨q98, v100, v101, rfl, at99, h102, h103⟩ := FAt.open h87 hy97
    refine FB.t (i := 4) (bs 12 31) rfl (SP.nil S95.sl) rfl (fun w' hw' => (E.nilCheck rfl)) ?_
    refine FB.t (i := 5) (bs 12 63) rfl (SP.nil S95.sl) rfl (fun w' hw' => (E.fieldAddr tf109_3 rfl)) ?_
    refine FB.t (i := 6) (bs 12 127) rfl (SP.nil S95.sl) rfl (fun w' hw' => (E.load rfl (run_load1 Tryz.isAgg9 (at99.now hw') rfl))) ?_
    refine FB.all1 (i := 7) (by kernel_rfl) ?_
    ·
     obtain ⟨v104, w105, run106, S107⟩ := S95.buildSlice (P := Tryz.prog) te22 [Value.string y96.text] (parts := #[(0, Value.string y96.text)]) (cells := [Value.string y96.text]) rfl (szs_cons rfl szs_nil) (fc_cons rfl fc_nil) (ones_cons rfl ones_nil) (Nat.le_of_ble_eq_true rfl)
     have els108 : Els (up wa.heap.size H71) eS 1 [Value.string y96.text] [y96.text] := (Els.snoc (H := (up wa.heap.size H71)) (E := eS) (k := 1) (c := [Value.string y96.text]) (x := y96.text) Els.nil rfl rfl)
     refine FC.val (l' := (bs 12 255)) rfl (by kernel_rfl) rfl rfl rfl (E.buildSlice (B1 rfl) run106) ?_
     refine ⟨(SP.nil S107.sl), ?_⟩
     refine FB.all1 (i := 8) (by kernel_rfl) ?_
     ·
      obtain ⟨H110, S111, i112, h113, nv114⟩ := S107.sealRowU (i := 0) (l' := [.row 9 1 v62 n63 cs64, .row 9 1 v66 n67 cs69]) rfl els108 (by decide) rfl
      refine FC.call (l' := (bs 12 511)) rfl (by kernel_rfl) rfl rfl rfl (E.call Tryz.call68 (A2 rfl rfl)) (w_impl_with S111.sl v0_1 a0.right (p0_1.mono ((i27.tr i73).tr i112)) v104 [y96.text] (h113.mono upI) hr116) ?_
      rintro e w118 ⟨H117, v123, n124, cs125, rfl, r120, els126⟩
      refine ⟨_, rfl, ?_⟩
      obtain ⟨H121, r120, hU122⟩ := St.lendX i112 S107.sl r120
      have els126 := els126.mono (hU122.tr (up_le S107.size))
      have S119 := S107.join (l' := [.row 9 1 v123 n124 cs125, .row 9 1 v104 1 [Value.string y96.text], .row 9 1 v62 n63 cs64, .row 9 1 v66 n67 cs69]) r120 rfl
      refine ⟨(SP.nil (Sl.of_inc r120.run.inc S119.sl)), ?_⟩
      obtain ⟨H127, S128, i129, h130, nv131⟩ := S119.sealRowU (i := 2) (l' := [.row 9 1 v123 n124 cs125, .row 9 1 v104 1 [Value.string y96.text], .row 9 1 v66 n67 cs69]) rfl (els65.mono (up_mono r120.run.inc)) (by decide) rfl
      obtain ⟨H132, S133, i134, h135, nv136⟩ := S128.sealRowU (i := 0) (l' := [.row 9 1 v104 1 [Value.string y96.text], .row 9 1 v66 n67 cs69]) rfl (els126.mono (up_mono i129)) (by decide) rfl
      refine FB.t (i := 9) (bs 12 1023) rfl (SP.nil (Sl.of_inc r120.run.inc S119.sl)) rfl (fun w' hw' => (E.build (B2 rfl rfl) (run_build _ 68 #[(0, v62), (1, v123)] #[v62, v123] (by obtain ⟨_, _, rfl⟩ := RSl.ln (h130.mono (upI.tr i134)); obtain ⟨_, _, rfl⟩ := RSl.ln (h135.mono upI); rfl)))) ?_
      refine FB.all1 (i := 10) (by kernel_rfl) ?_
      ·
       obtain ⟨v137, w138, run139, S140⟩ := S133.buildSlice (P := Tryz.prog) te172 [Value.agg #[v62, v123]] (parts := #[(0, Value.agg #[v62, v123])]) (cells := [v62, v123]) rfl (szs_cons rfl szs_nil) (fc_cons rfl fc_nil) (ones_cons h130.one (ones_cons h135.one ones_nil)) (Nat.le_of_ble_eq_true rfl)
       have els141 : Els (up wa.heap.size H132) eSequent 2 [v62, v123] [(Sequent.mk r40 r115)] := (Els.snoc (H := (up wa.heap.size H132)) (E := eSequent) (k := 2) (c := [v62, v123]) (x := (Sequent.mk r40 r115)) Els.nil rfl ⟨_, _, rfl, (h130.mono (up_mono i134)), h135⟩)
       have nd142 : (bl [v62, v123]).Nodup := by exact nd_two (New.apart (h130.mono (up_mono (Inc.rfl _))) nv136)
       have nv143 : New H121 [v62, v123] := by exact (New.two nv131 (nv136.anti i129))
       refine FC.val (l' := (bs 12 2047)) rfl (by kernel_rfl) rfl rfl rfl (E.buildSlice (B1 rfl) run139) ?_
       refine ⟨(SP.nil (Sl.of_inc ((r120.run.inc.tr i129).tr i134) S140.sl)), ?_⟩
       refine FB.t (i := 11) (bs 12 4095) rfl (SP.nil (Sl.of_inc ((r120.run.inc.tr i129).tr i134) S140.sl)) rfl (fun w' hw' => (E.assign (v := v137) rfl)) ?_
       exact FB.done (by kernel_rfl) ⟨_, _, _, _, (S140.sel [0] (by decide) rfl), ((r120.run.inc.tr i129).tr i134), els141, nd142, rfl⟩
   ·
    rintro f153 w152 ⟨H149, v144, n145, cs146, S150, i151, els147, nd148, k154⟩
    refine FW.ret ?_
    obtain rfl := Option.some.inj hp
    exact ⟨.inr rfl, res1 rfl k154 ⟨_, _, _, _, rfl, S150, (els147.mono upI)⟩⟩
  ·
   refine FW.condF rfl c92 ?_
   refine FW.seq (FW.region ?_)
   refine FL.v (E.eql rfl rfl) ?_
   refine FL.v (E.assign (v := Value.bool (a1 == 3)) rfl) ?_
   refine FL.nil ?_
   rcases ifB hp with ⟨c155, hp⟩ | ⟨c155, hp⟩
   ·
    refine FW.condT rfl c155 ?_
    refine FW.seq ?_
    obtain ⟨y159, hy160, hp⟩ := bnd hp
    obtain ⟨r178, hr179, hp⟩ := bnd hp
    refine FW.drawB (Sl H71) (fun f w => ∃ H : GH, ∃ v207 : Value, ∃ n208 : Nat, ∃ cs209 : List Value, St Ha wa H w [.row 68 2 v207 n208 cs209] ∧ Inc H71 H ∧ Els (up wa.heap.size H) eSequent 2 cs209 [(Sequent.mk r178 r50)] ∧ (bl cs209).Nodup ∧ f 6 = v207) (by kernel_rfl) S90.sl ?_ ?_
    ·
     intro w156 r157
     have S158 := S90.call r157
     refine FB.t (i := 0) (bs 12 1) rfl (SP.nil S158.sl) rfl (fun w' hw' => (E.fieldAddr tf68_0 k78)) ?_
     refine FB.t (i := 1) (bs 12 3) rfl (SP.nil S158.sl) rfl (fun w' hw' => (E.load rfl (run_load1 Tryz.isAgg22 ((at28.mono i73).now hw') rfl))) ?_
     refine FB.t (i := 2) (bs 12 7) rfl (SP.nil S158.sl) rfl (fun w' hw' => (E.move (v := v85) rfl)) ?_
     obtain ⟨q161, v163, v164, rfl, at162, h165, h166⟩ := FAt.open h87 hy160
     refine FB.t (i := 3) (bs 12 15) rfl (SP.nil S158.sl) rfl (fun w' hw' => (E.nilCheck rfl)) ?_
     refine FB.t (i := 4) (bs 12 31) rfl (SP.nil S158.sl) rfl (fun w' hw' => (E.fieldAddr tf109_3 rfl)) ?_
     refine FB.t (i := 5) (bs 12 63) rfl (SP.nil S158.sl) rfl (fun w' hw' => (E.load rfl (run_load1 Tryz.isAgg9 (at162.now hw') rfl))) ?_
     refine FB.t (i := 8) (bs 12 319) rfl (SP.nil S158.sl) rfl (fun w' hw' => (E.move k80)) ?_
     refine FB.all1 (i := 6) (by kernel_rfl) ?_
     ·
      obtain ⟨v167, w168, run169, S170⟩ := S158.buildSlice (P := Tryz.prog) te22 [Value.string y159.text] (parts := #[(0, Value.string y159.text)]) (cells := [Value.string y159.text]) rfl (szs_cons rfl szs_nil) (fc_cons rfl fc_nil) (ones_cons rfl ones_nil) (Nat.le_of_ble_eq_true rfl)
      have els171 : Els (up wa.heap.size H71) eS 1 [Value.string y159.text] [y159.text] := (Els.snoc (H := (up wa.heap.size H71)) (E := eS) (k := 1) (c := [Value.string y159.text]) (x := y159.text) Els.nil rfl rfl)
      refine FC.val (l' := (bs 12 383)) rfl (by kernel_rfl) rfl rfl rfl (E.buildSlice (B1 rfl) run169) ?_
      refine ⟨(SP.nil S170.sl), ?_⟩
      refine FB.all1 (i := 7) (by kernel_rfl) ?_
      ·
       obtain ⟨H173, S174, i175, h176, nv177⟩ := S170.sealRowU (i := 0) (l' := [.row 9 1 v62 n63 cs64, .row 9 1 v66 n67 cs69]) rfl els171 (by decide) rfl
       refine FC.call (l' := (bs 12 511)) rfl (by kernel_rfl) rfl rfl rfl (E.call Tryz.call68 (A2 rfl rfl)) (w_impl_with S174.sl v0_0 a0.left (p0_0.mono ((i27.tr i73).tr i175)) v167 [y159.text] (h176.mono upI) hr179) ?_
       rintro e w181 ⟨H180, v186, n187, cs188, rfl, r183, els189⟩
       refine ⟨_, rfl, ?_⟩
       obtain ⟨H184, r183, hU185⟩ := St.lendX i175 S170.sl r183
       have els189 := els189.mono (hU185.tr (up_le S170.size))
       have S182 := S170.join (l' := [.row 9 1 v186 n187 cs188, .row 9 1 v167 1 [Value.string y159.text], .row 9 1 v62 n63 cs64, .row 9 1 v66 n67 cs69]) r183 rfl
       refine ⟨(SP.nil (Sl.of_inc r183.run.inc S182.sl)), ?_⟩
       obtain ⟨H190, S191, i192, h193, nv194⟩ := S182.sealRowU (i := 0) (l' := [.row 9 1 v167 1 [Value.string y159.text], .row 9 1 v62 n63 cs64, .row 9 1 v66 n67 cs69]) rfl els189 (by decide) rfl
       obtain ⟨H195, S196, i197, h198, nv199⟩ := S191.sealRowU (i := 2) (l' := [.row 9 1 v167 1 [Value.string y159.text], .row 9 1 v62 n63 cs64]) rfl (els70.mono (up_mono (r183.run.inc.tr i192))) (by decide) rfl
       refine FB.t (i := 9) (bs 12 1023) rfl (SP.nil (Sl.of_inc r183.run.inc S182.sl)) rfl (fun w' hw' => (E.build (B2 rfl rfl) (run_build _ 68 #[(0, v186), (1, v66)] #[v186, v66] (by obtain ⟨_, _, rfl⟩ := RSl.ln (h193.mono (upI.tr i197)); obtain ⟨_, _, rfl⟩ := RSl.ln (h198.mono upI); rfl)))) ?_
       refine FB.all1 (i := 10) (by kernel_rfl) ?_
       ·
        obtain ⟨v200, w201, run202, S203⟩ := S196.buildSlice (P := Tryz.prog) te172 [Value.agg #[v186, v66]] (parts := #[(0, Value.agg #[v186, v66])]) (cells := [v186, v66]) rfl (szs_cons rfl szs_nil) (fc_cons rfl fc_nil) (ones_cons h193.one (ones_cons h198.one ones_nil)) (Nat.le_of_ble_eq_true rfl)
        have els204 : Els (up wa.heap.size H195) eSequent 2 [v186, v66] [(Sequent.mk r178 r50)] := (Els.snoc (H := (up wa.heap.size H195)) (E := eSequent) (k := 2) (c := [v186, v66]) (x := (Sequent.mk r178 r50)) Els.nil rfl ⟨_, _, rfl, (h193.mono (up_mono i197)), h198⟩)
        have nd205 : (bl [v186, v66]).Nodup := by exact nd_two (New.apart (h193.mono (up_mono (Inc.rfl _))) nv199)
        have nv206 : New H184 [v186, v66] := by exact (New.two nv194 (nv199.anti i192))
        refine FC.val (l' := (bs 12 2047)) rfl (by kernel_rfl) rfl rfl rfl (E.buildSlice (B1 rfl) run202) ?_
        refine ⟨(SP.nil (Sl.of_inc ((r183.run.inc.tr i192).tr i197) S203.sl)), ?_⟩
        refine FB.t (i := 11) (bs 12 4095) rfl (SP.nil (Sl.of_inc ((r183.run.inc.tr i192).tr i197) S203.sl)) rfl (fun w' hw' => (E.assign (v := v200) rfl)) ?_
        exact FB.done (by kernel_rfl) ⟨_, _, _, _, (S203.sel [0] (by decide) rfl), ((r183.run.inc.tr i192).tr i197), els204, nd205, rfl⟩
    ·
     rintro f216 w215 ⟨H212, v207, n208, cs209, S213, i214, els210, nd211, k217⟩
     refine FW.ret ?_
     obtain rfl := Option.some.inj hp
     exact ⟨.inr rfl, res1 rfl k217 ⟨_, _, _, _, rfl, S213, (els210.mono upI)⟩⟩
   ·
    refine FW.condF rfl c155 ?_
    refine FW.seq (FW.region ?_)
    refine FL.v (E.eql rfl rfl) ?_
    refine FL.v (E.assign (v := Value.bool (a1 == 4)) rfl) ?_
    refine FL.nil ?_
    rcases ifB hp with ⟨c218, hp⟩ | ⟨c218, hp⟩
    ·
     refine FW.condT rfl c218 ?_
     refine FW.seq ?_
     obtain ⟨y222, hy223, hp⟩ := bnd hp
     obtain ⟨y230, hy231, hp⟩ := bnd hp
     obtain ⟨r253, hr254, hp⟩ := bnd hp
     refine FW.drawB (Sl H71) (fun f w => ∃ H : GH, ∃ v275 : Value, ∃ n276 : Nat, ∃ cs277 : List Value, St Ha wa H w [.row 68 2 v275 n276 cs277] ∧ Inc H71 H ∧ Els H eSequent 2 cs277 [(Sequent.mk r253 a0.right)] ∧ f 6 = v275) (by kernel_rfl) S90.sl ?_ ?_
     ·
      intro w219 r220
      have S221 := S90.call r220
      refine FB.t (i := 0) (bs 16 1) rfl (SP.nil S221.sl) rfl (fun w' hw' => (E.move k79)) ?_
      refine FB.t (i := 1) (bs 16 3) rfl (SP.nil S221.sl) rfl (fun w' hw' => (E.move (v := v85) rfl)) ?_
      obtain ⟨q224, v226, v227, rfl, at225, h228, h229⟩ := FAt.open h87 hy223
      refine FB.t (i := 2) (bs 16 7) rfl (SP.nil S221.sl) rfl (fun w' hw' => (E.nilCheck rfl)) ?_
      refine FB.t (i := 3) (bs 16 15) rfl (SP.nil S221.sl) rfl (fun w' hw' => (E.fieldAddr tf109_3 rfl)) ?_
      refine FB.t (i := 4) (bs 16 31) rfl (SP.nil S221.sl) rfl (fun w' hw' => (E.load rfl (run_load1 Tryz.isAgg9 (at225.now hw') rfl))) ?_
      refine FB.t (i := 5) (bs 16 63) rfl (SP.nil S221.sl) rfl (fun w' hw' => (E.move (v := v86) rfl)) ?_
      obtain ⟨q232, v234, v235, rfl, at233, h236, h237⟩ := FAt.open h88 hy231
      refine FB.t (i := 6) (bs 16 127) rfl (SP.nil S221.sl) rfl (fun w' hw' => (E.nilCheck rfl)) ?_
      refine FB.t (i := 7) (bs 16 255) rfl (SP.nil S221.sl) rfl (fun w' hw' => (E.fieldAddr tf109_3 rfl)) ?_
      refine FB.t (i := 8) (bs 16 511) rfl (SP.nil S221.sl) rfl (fun w' hw' => (E.load rfl (run_load1 Tryz.isAgg9 (at233.now hw') rfl))) ?_
      refine FB.t (i := 11) (bs 16 2559) rfl (SP.nil S221.sl) rfl (fun w' hw' => (E.fieldAddr tf68_1 k78)) ?_
      refine FB.t (i := 12) (bs 16 6655) rfl (SP.nil S221.sl) rfl (fun w' hw' => (E.load rfl (run_load1 Tryz.isAgg22 ((at28.mono i73).now hw') rfl))) ?_
      refine FB.all1 (i := 9) (by kernel_rfl) ?_
      ·
       obtain ⟨v238, w239, run240, S241⟩ := S221.buildSlice (P := Tryz.prog) te22 [Value.string y222.text, Value.string y230.text] (parts := #[(0, Value.string y222.text), (1, Value.string y230.text)]) (cells := [Value.string y222.text, Value.string y230.text]) rfl (szs_cons rfl (szs_cons rfl szs_nil)) (fc_cons rfl (fc_cons rfl fc_nil)) (ones_cons rfl (ones_cons rfl ones_nil)) (Nat.le_of_ble_eq_true rfl)
       have els242 : Els (up wa.heap.size H71) eS 1 [Value.string y222.text, Value.string y230.text] [y222.text, y230.text] := (Els.snoc (H := (up wa.heap.size H71)) (E := eS) (k := 1) (c := [Value.string y230.text]) (x := y230.text) (Els.snoc (H := (up wa.heap.size H71)) (E := eS) (k := 1) (c := [Value.string y222.text]) (x := y222.text) Els.nil rfl rfl) rfl rfl)
       refine FC.val (l' := (bs 16 7167)) rfl (by kernel_rfl) rfl rfl rfl (E.buildSlice (B2 rfl rfl) run240) ?_
       refine ⟨(SP.nil S241.sl), ?_⟩
       refine FB.all1 (i := 10) (by kernel_rfl) ?_
       ·
        obtain ⟨H243, S244, i245, h246, nv247⟩ := S241.sealRowU (i := 1) (l' := [.row 9 1 v238 2 [Value.string y222.text, Value.string y230.text], .row 9 1 v66 n67 cs69]) rfl els65 (by decide) rfl
        obtain ⟨H248, S249, i250, h251, nv252⟩ := S244.sealRowU (i := 0) (l' := [.row 9 1 v66 n67 cs69]) rfl (els242.mono (up_mono i245)) (by decide) rfl
        refine FC.call (l' := (bs 16 8191)) rfl (by kernel_rfl) rfl rfl rfl (E.call Tryz.call68 (A2 rfl rfl)) (w_impl_with S249.sl v62 r40 (h246.mono (upI.tr i250)) v238 [y222.text, y230.text] (h251.mono upI) hr254) ?_
        rintro e w256 ⟨H255, v261, n262, cs263, rfl, r258, els264⟩
        refine ⟨_, rfl, ?_⟩
        obtain ⟨H259, r258, hU260⟩ := St.lendX (i245.tr i250) S241.sl r258
        have els264 := els264.mono (hU260.tr (up_le S241.size))
        have S257 := S241.join (l' := [.row 9 1 v261 n262 cs263, .row 9 1 v238 2 [Value.string y222.text, Value.string y230.text], .row 9 1 v62 n63 cs64, .row 9 1 v66 n67 cs69]) r258 rfl
        refine ⟨(SP.nil (Sl.of_inc r258.run.inc S257.sl)), ?_⟩
        obtain ⟨H265, S266, i267, h268, nv269⟩ := S257.sealRowU (i := 0) (l' := [.row 9 1 v238 2 [Value.string y222.text, Value.string y230.text], .row 9 1 v62 n63 cs64, .row 9 1 v66 n67 cs69]) rfl els264 (by decide) rfl
        refine FB.t (i := 13) (bs 16 16383) rfl (SP.nil (Sl.of_inc r258.run.inc S257.sl)) rfl (fun w' hw' => (E.build (B2 rfl rfl) (run_build _ 68 #[(0, v261), (1, v0_1)] #[v261, v0_1] (by obtain ⟨_, _, rfl⟩ := RSl.ln (h268.mono upI); obtain ⟨_, _, rfl⟩ := RSl.ln (p0_1.mono (((i27.tr i73).tr r258.run.inc).tr i267)); rfl)))) ?_
        refine FB.all1 (i := 14) (by kernel_rfl) ?_
        ·
         obtain ⟨v270, w271, run272, S273⟩ := S266.buildSlice (P := Tryz.prog) te172 [Value.agg #[v261, v0_1]] (parts := #[(0, Value.agg #[v261, v0_1])]) (cells := [v261, v0_1]) rfl (szs_cons rfl szs_nil) (fc_cons rfl fc_nil) (ones_cons h268.one (ones_cons p0_1.one ones_nil)) (Nat.le_of_ble_eq_true rfl)
         have els274 : Els H265 eSequent 2 [v261, v0_1] [(Sequent.mk r253 a0.right)] := (Els.snoc (H := H265) (E := eSequent) (k := 2) (c := [v261, v0_1]) (x := (Sequent.mk r253 a0.right)) Els.nil rfl ⟨_, _, rfl, (h268.mono upI), (p0_1.mono (((i27.tr i73).tr r258.run.inc).tr i267))⟩)
         refine FC.val (l' := (bs 16 32767)) rfl (by kernel_rfl) rfl rfl rfl (E.buildSlice (B1 rfl) run272) ?_
         refine ⟨(SP.nil (Sl.of_inc (r258.run.inc.tr i267) S273.sl)), ?_⟩
         refine FB.t (i := 15) (bs 16 65535) rfl (SP.nil (Sl.of_inc (r258.run.inc.tr i267) S273.sl)) rfl (fun w' hw' => (E.assign (v := v270) rfl)) ?_
         exact FB.done (by kernel_rfl) ⟨_, _, _, _, (S273.sel [0] (by decide) rfl), (r258.run.inc.tr i267), els274, rfl⟩
     ·
      rintro f283 w282 ⟨H279, v275, n276, cs277, S280, i281, els278, k284⟩
      refine FW.ret ?_
      obtain rfl := Option.some.inj hp
      exact ⟨.inr rfl, res1 rfl k284 ⟨_, _, _, _, rfl, S280, els278⟩⟩
    ·
     refine FW.condF rfl c218 ?_
     refine FW.seq (FW.region ?_)
     refine FL.v (E.eql rfl rfl) ?_
     refine FL.v (E.assign (v := Value.bool (a1 == 5)) rfl) ?_
     refine FL.nil ?_
     rcases ifB hp with ⟨c285, hp⟩ | ⟨c285, hp⟩
     ·
      refine FW.condT rfl c285 ?_
      refine FW.seq ?_
      obtain ⟨y289, hy290, hp⟩ := bnd hp
      obtain ⟨r312, hr313, hp⟩ := bnd hp
      obtain ⟨y329, hy330, hp⟩ := bnd hp
      obtain ⟨r352, hr353, hp⟩ := bnd hp
      refine FW.drawB (Sl H71) (fun f w => ∃ H : GH, ∃ v374 : Value, ∃ n375 : Nat, ∃ cs376 : List Value, St Ha wa H w [.row 68 2 v374 n375 cs376] ∧ Inc H71 H ∧ Els H eSequent 2 cs376 [(Sequent.mk a0.left r312), (Sequent.mk a0.left r352)] ∧ f 6 = v374) (by kernel_rfl) S90.sl ?_ ?_
      ·
       intro w286 r287
       have S288 := S90.call r287
       refine FB.t (i := 0) (bs 22 1) rfl (SP.nil S288.sl) rfl (fun w' hw' => (E.fieldAddr tf68_0 k78)) ?_
       refine FB.t (i := 1) (bs 22 3) rfl (SP.nil S288.sl) rfl (fun w' hw' => (E.load rfl (run_load1 Tryz.isAgg22 ((at28.mono i73).now hw') rfl))) ?_
       refine FB.t (i := 2) (bs 22 7) rfl (SP.nil S288.sl) rfl (fun w' hw' => (E.move k80)) ?_
       refine FB.t (i := 3) (bs 22 15) rfl (SP.nil S288.sl) rfl (fun w' hw' => (E.move (v := v85) rfl)) ?_
       obtain ⟨q291, v293, v294, rfl, at292, h295, h296⟩ := FAt.open h87 hy290
       refine FB.t (i := 4) (bs 22 31) rfl (SP.nil S288.sl) rfl (fun w' hw' => (E.nilCheck rfl)) ?_
       refine FB.t (i := 5) (bs 22 63) rfl (SP.nil S288.sl) rfl (fun w' hw' => (E.fieldAddr tf109_3 rfl)) ?_
       refine FB.t (i := 6) (bs 22 127) rfl (SP.nil S288.sl) rfl (fun w' hw' => (E.load rfl (run_load1 Tryz.isAgg9 (at292.now hw') rfl))) ?_
       refine FB.t (i := 10) (bs 22 1151) rfl (SP.nil S288.sl) rfl (fun w' hw' => (E.fieldAddr tf68_0 k78)) ?_
       refine FB.t (i := 11) (bs 22 3199) rfl (SP.nil S288.sl) rfl (fun w' hw' => (E.load rfl (run_load1 Tryz.isAgg22 ((at28.mono i73).now hw') rfl))) ?_
       refine FB.t (i := 12) (bs 22 7295) rfl (SP.nil S288.sl) rfl (fun w' hw' => (E.move k80)) ?_
       refine FB.t (i := 13) (bs 22 15487) rfl (SP.nil S288.sl) rfl (fun w' hw' => (E.move (v := v86) rfl)) ?_
       obtain ⟨q331, v333, v334, rfl, at332, h335, h336⟩ := FAt.open h88 hy330
       refine FB.t (i := 14) (bs 22 31871) rfl (SP.nil S288.sl) rfl (fun w' hw' => (E.nilCheck rfl)) ?_
       refine FB.t (i := 15) (bs 22 64639) rfl (SP.nil S288.sl) rfl (fun w' hw' => (E.fieldAddr tf109_3 rfl)) ?_
       refine FB.t (i := 16) (bs 22 130175) rfl (SP.nil S288.sl) rfl (fun w' hw' => (E.load rfl (run_load1 Tryz.isAgg9 (at332.now hw') rfl))) ?_
       refine FB.all2 (i := 7) (j := 17) (by kernel_rfl) ?_ ?_
       ·
        obtain ⟨v297, w298, run299, S300⟩ := S288.buildSlice (P := Tryz.prog) te22 [Value.string y289.text] (parts := #[(0, Value.string y289.text)]) (cells := [Value.string y289.text]) rfl (szs_cons rfl szs_nil) (fc_cons rfl fc_nil) (ones_cons rfl ones_nil) (Nat.le_of_ble_eq_true rfl)
        have els301 : Els (up wa.heap.size H71) eS 1 [Value.string y289.text] [y289.text] := (Els.snoc (H := (up wa.heap.size H71)) (E := eS) (k := 1) (c := [Value.string y289.text]) (x := y289.text) Els.nil rfl rfl)
        refine FC.val (l' := (bs 22 130303)) rfl (by kernel_rfl) rfl rfl rfl (E.buildSlice (B1 rfl) run299) ?_
        refine ⟨(SP.nil S300.sl), ?_⟩
        refine FB.all2 (i := 8) (j := 17) (by kernel_rfl) ?_ ?_
        ·
         obtain ⟨H302, S303, i304, h305, nv306⟩ := S300.sealRowU (i := 2) (l' := [.row 9 1 v297 1 [Value.string y289.text], .row 9 1 v62 n63 cs64]) rfl els70 (by decide) rfl
         obtain ⟨H307, S308, i309, h310, nv311⟩ := S303.sealRowU (i := 0) (l' := [.row 9 1 v62 n63 cs64]) rfl (els301.mono (up_mono i304)) (by decide) rfl
         refine FC.call (l' := (bs 22 130559)) rfl (by kernel_rfl) rfl rfl rfl (E.call Tryz.call68 (A2 rfl rfl)) (w_impl_with S308.sl v66 r50 (h305.mono (upI.tr i309)) v297 [y289.text] (h310.mono upI) hr313) ?_
         rintro e w315 ⟨H314, v320, n321, cs322, rfl, r317, els323⟩
         refine ⟨_, rfl, ?_⟩
         obtain ⟨H318, r317, hU319⟩ := St.lendX (i304.tr i309) S300.sl r317
         have els323 := els323.mono (hU319.tr (up_le S300.size))
         have S316 := S300.join (l' := [.row 9 1 v320 n321 cs322, .row 9 1 v297 1 [Value.string y289.text], .row 9 1 v62 n63 cs64, .row 9 1 v66 n67 cs69]) r317 rfl
         refine ⟨(SP.nil (Sl.of_inc r317.run.inc S316.sl)), ?_⟩
         obtain ⟨H324, S325, i326, h327, nv328⟩ := S316.sealRowU (i := 0) (l' := [.row 9 1 v297 1 [Value.string y289.text], .row 9 1 v62 n63 cs64, .row 9 1 v66 n67 cs69]) rfl els323 (by decide) rfl
         refine FB.t (i := 9) (bs 22 131071) rfl (SP.nil (Sl.of_inc r317.run.inc S316.sl)) rfl (fun w' hw' => (E.build (B2 rfl rfl) (run_build _ 68 #[(0, v0_0), (1, v320)] #[v0_0, v320] (by obtain ⟨_, _, rfl⟩ := RSl.ln (p0_0.mono (((i27.tr i73).tr r317.run.inc).tr i326)); obtain ⟨_, _, rfl⟩ := RSl.ln (h327.mono upI); rfl)))) ?_
         refine FB.all1 (i := 17) (by kernel_rfl) ?_
         ·
          obtain ⟨v337, w338, run339, S340⟩ := S325.buildSlice (P := Tryz.prog) te22 [Value.string y329.text] (parts := #[(0, Value.string y329.text)]) (cells := [Value.string y329.text]) rfl (szs_cons rfl szs_nil) (fc_cons rfl fc_nil) (ones_cons rfl ones_nil) (Nat.le_of_ble_eq_true rfl)
          have els341 : Els (up wa.heap.size H324) eS 1 [Value.string y329.text] [y329.text] := (Els.snoc (H := (up wa.heap.size H324)) (E := eS) (k := 1) (c := [Value.string y329.text]) (x := y329.text) Els.nil rfl rfl)
          refine FC.val (l' := (bs 22 262143)) rfl (by kernel_rfl) rfl rfl rfl (E.buildSlice (B1 rfl) run339) ?_
          refine ⟨(SP.nil (Sl.of_inc (r317.run.inc.tr i326) S340.sl)), ?_⟩
          refine FB.all1 (i := 18) (by kernel_rfl) ?_
          ·
           obtain ⟨H342, S343, i344, h345, nv346⟩ := S340.sealRowU (i := 3) (l' := [.row 9 1 v337 1 [Value.string y329.text], .row 9 1 v297 1 [Value.string y289.text], .row 9 1 v62 n63 cs64]) rfl (els70.mono (up_mono (r317.run.inc.tr i326))) (by decide) rfl
           obtain ⟨H347, S348, i349, h350, nv351⟩ := S343.sealRowU (i := 0) (l' := [.row 9 1 v297 1 [Value.string y289.text], .row 9 1 v62 n63 cs64]) rfl (els341.mono (up_mono i344)) (by decide) rfl
           refine FC.call (l' := (bs 22 524287)) rfl (by kernel_rfl) rfl rfl rfl (E.call Tryz.call68 (A2 rfl rfl)) (w_impl_with S348.sl v66 r50 (h345.mono (upI.tr i349)) v337 [y329.text] (h350.mono upI) hr353) ?_
           rintro e w355 ⟨H354, v360, n361, cs362, rfl, r357, els363⟩
           refine ⟨_, rfl, ?_⟩
           obtain ⟨H358, r357, hU359⟩ := St.lendX (i344.tr i349) S340.sl r357
           have els363 := els363.mono (hU359.tr (up_le S340.size))
           have S356 := S340.join (l' := [.row 9 1 v360 n361 cs362, .row 9 1 v337 1 [Value.string y329.text], .row 9 1 v297 1 [Value.string y289.text], .row 9 1 v62 n63 cs64, .row 9 1 v66 n67 cs69]) r357 rfl
           refine ⟨(SP.nil (Sl.of_inc ((r317.run.inc.tr i326).tr r357.run.inc) S356.sl)), ?_⟩
           obtain ⟨H364, S365, i366, h367, nv368⟩ := S356.sealRowU (i := 0) (l' := [.row 9 1 v337 1 [Value.string y329.text], .row 9 1 v297 1 [Value.string y289.text], .row 9 1 v62 n63 cs64, .row 9 1 v66 n67 cs69]) rfl els363 (by decide) rfl
           refine FB.t (i := 19) (bs 22 1048575) rfl (SP.nil (Sl.of_inc ((r317.run.inc.tr i326).tr r357.run.inc) S356.sl)) rfl (fun w' hw' => (E.build (B2 rfl rfl) (run_build _ 68 #[(0, v0_0), (1, v360)] #[v0_0, v360] (by obtain ⟨_, _, rfl⟩ := RSl.ln (p0_0.mono (((((i27.tr i73).tr r317.run.inc).tr i326).tr r357.run.inc).tr i366)); obtain ⟨_, _, rfl⟩ := RSl.ln (h367.mono upI); rfl)))) ?_
           refine FB.all1 (i := 20) (by kernel_rfl) ?_
           ·
            obtain ⟨v369, w370, run371, S372⟩ := S365.buildSlice (P := Tryz.prog) te172 [Value.agg #[v0_0, v320], Value.agg #[v0_0, v360]] (parts := #[(0, Value.agg #[v0_0, v320]), (1, Value.agg #[v0_0, v360])]) (cells := [v0_0, v320, v0_0, v360]) rfl (szs_cons rfl (szs_cons rfl szs_nil)) (fc_cons rfl (fc_cons rfl fc_nil)) (ones_cons p0_0.one (ones_cons h327.one (ones_cons p0_0.one (ones_cons h367.one ones_nil)))) (Nat.le_of_ble_eq_true rfl)
            have els373 : Els H364 eSequent 2 [v0_0, v320, v0_0, v360] [(Sequent.mk a0.left r312), (Sequent.mk a0.left r352)] := (Els.snoc (H := H364) (E := eSequent) (k := 2) (c := [v0_0, v360]) (x := (Sequent.mk a0.left r352)) (Els.snoc (H := H364) (E := eSequent) (k := 2) (c := [v0_0, v320]) (x := (Sequent.mk a0.left r312)) Els.nil rfl ⟨_, _, rfl, (p0_0.mono (((((i27.tr i73).tr r317.run.inc).tr i326).tr r357.run.inc).tr i366)), (h327.mono (upI.tr (r357.run.inc.tr i366)))⟩) rfl ⟨_, _, rfl, (p0_0.mono (((((i27.tr i73).tr r317.run.inc).tr i326).tr r357.run.inc).tr i366)), (h367.mono upI)⟩)
            refine FC.val (l' := (bs 22 2097151)) rfl (by kernel_rfl) rfl rfl rfl (E.buildSlice (B2 rfl rfl) run371) ?_
            refine ⟨(SP.nil (Sl.of_inc (((r317.run.inc.tr i326).tr r357.run.inc).tr i366) S372.sl)), ?_⟩
            refine FB.t (i := 21) (bs 22 4194303) rfl (SP.nil (Sl.of_inc (((r317.run.inc.tr i326).tr r357.run.inc).tr i366) S372.sl)) rfl (fun w' hw' => (E.assign (v := v369) rfl)) ?_
            exact FB.done (by kernel_rfl) ⟨_, _, _, _, (S372.sel [0] (by decide) rfl), (((r317.run.inc.tr i326).tr r357.run.inc).tr i366), els373, rfl⟩
        ·
         obtain ⟨v337, w338, run339, S340⟩ := S300.buildSlice (P := Tryz.prog) te22 [Value.string y329.text] (parts := #[(0, Value.string y329.text)]) (cells := [Value.string y329.text]) rfl (szs_cons rfl szs_nil) (fc_cons rfl fc_nil) (ones_cons rfl ones_nil) (Nat.le_of_ble_eq_true rfl)
         have els341 : Els (up wa.heap.size H71) eS 1 [Value.string y329.text] [y329.text] := (Els.snoc (H := (up wa.heap.size H71)) (E := eS) (k := 1) (c := [Value.string y329.text]) (x := y329.text) Els.nil rfl rfl)
         refine FC.val (l' := (bs 22 261375)) rfl (by kernel_rfl) rfl rfl rfl (E.buildSlice (B1 rfl) run339) ?_
         refine ⟨(SP.nil S340.sl), ?_⟩
         refine FB.all1 (i := 8) (by kernel_rfl) ?_
         ·
          obtain ⟨H302, S303, i304, h305, nv306⟩ := S340.sealRowU (i := 3) (l' := [.row 9 1 v337 1 [Value.string y329.text], .row 9 1 v297 1 [Value.string y289.text], .row 9 1 v62 n63 cs64]) rfl els70 (by decide) rfl
          obtain ⟨H307, S308, i309, h310, nv311⟩ := S303.sealRowU (i := 1) (l' := [.row 9 1 v337 1 [Value.string y329.text], .row 9 1 v62 n63 cs64]) rfl (els301.mono (up_mono i304)) (by decide) rfl
          refine FC.call (l' := (bs 22 261631)) rfl (by kernel_rfl) rfl rfl rfl (E.call Tryz.call68 (A2 rfl rfl)) (w_impl_with S308.sl v66 r50 (h305.mono (upI.tr i309)) v297 [y289.text] (h310.mono upI) hr313) ?_
          rintro e w315 ⟨H314, v320, n321, cs322, rfl, r317, els323⟩
          refine ⟨_, rfl, ?_⟩
          obtain ⟨H318, r317, hU319⟩ := St.lendX (i304.tr i309) S340.sl r317
          have els323 := els323.mono (hU319.tr (up_le S340.size))
          have S316 := S340.join (l' := [.row 9 1 v320 n321 cs322, .row 9 1 v337 1 [Value.string y329.text], .row 9 1 v297 1 [Value.string y289.text], .row 9 1 v62 n63 cs64, .row 9 1 v66 n67 cs69]) r317 rfl
          refine ⟨(SP.nil (Sl.of_inc r317.run.inc S316.sl)), ?_⟩
          obtain ⟨H324, S325, i326, h327, nv328⟩ := S316.sealRowU (i := 0) (l' := [.row 9 1 v337 1 [Value.string y329.text], .row 9 1 v297 1 [Value.string y289.text], .row 9 1 v62 n63 cs64, .row 9 1 v66 n67 cs69]) rfl els323 (by decide) rfl
          refine FB.t (i := 9) (bs 22 262143) rfl (SP.nil (Sl.of_inc r317.run.inc S316.sl)) rfl (fun w' hw' => (E.build (B2 rfl rfl) (run_build _ 68 #[(0, v0_0), (1, v320)] #[v0_0, v320] (by obtain ⟨_, _, rfl⟩ := RSl.ln (p0_0.mono (((i27.tr i73).tr r317.run.inc).tr i326)); obtain ⟨_, _, rfl⟩ := RSl.ln (h327.mono upI); rfl)))) ?_
          refine FB.all1 (i := 18) (by kernel_rfl) ?_
          ·
           obtain ⟨H342, S343, i344, h345, nv346⟩ := S325.sealRowU (i := 3) (l' := [.row 9 1 v337 1 [Value.string y329.text], .row 9 1 v297 1 [Value.string y289.text], .row 9 1 v62 n63 cs64]) rfl (els70.mono (up_mono (r317.run.inc.tr i326))) (by decide) rfl
           obtain ⟨H347, S348, i349, h350, nv351⟩ := S343.sealRowU (i := 0) (l' := [.row 9 1 v297 1 [Value.string y289.text], .row 9 1 v62 n63 cs64]) rfl (els341.mono (up_mono ((r317.run.inc.tr i326).tr i344))) (by decide) rfl
           refine FC.call (l' := (bs 22 524287)) rfl (by kernel_rfl) rfl rfl rfl (E.call Tryz.call68 (A2 rfl rfl)) (w_impl_with S348.sl v66 r50 (h345.mono (upI.tr i349)) v337 [y329.text] (h350.mono upI) hr353) ?_
           rintro e w355 ⟨H354, v360, n361, cs362, rfl, r357, els363⟩
           refine ⟨_, rfl, ?_⟩
           obtain ⟨H358, r357, hU359⟩ := St.lendX (i344.tr i349) S325.sl r357
           have els363 := els363.mono (hU359.tr (up_le S325.size))
           have S356 := S325.join (l' := [.row 9 1 v360 n361 cs362, .row 9 1 v337 1 [Value.string y329.text], .row 9 1 v297 1 [Value.string y289.text], .row 9 1 v62 n63 cs64, .row 9 1 v66 n67 cs69]) r357 rfl
           refine ⟨(SP.nil (Sl.of_inc ((r317.run.inc.tr i326).tr r357.run.inc) S356.sl)), ?_⟩
           obtain ⟨H364, S365, i366, h367, nv368⟩ := S356.sealRowU (i := 0) (l' := [.row 9 1 v337 1 [Value.string y329.text], .row 9 1 v297 1 [Value.string y289.text], .row 9 1 v62 n63 cs64, .row 9 1 v66 n67 cs69]) rfl els363 (by decide) rfl
           refine FB.t (i := 19) (bs 22 1048575) rfl (SP.nil (Sl.of_inc ((r317.run.inc.tr i326).tr r357.run.inc) S356.sl)) rfl (fun w' hw' => (E.build (B2 rfl rfl) (run_build _ 68 #[(0, v0_0), (1, v360)] #[v0_0, v360] (by obtain ⟨_, _, rfl⟩ := RSl.ln (p0_0.mono (((((i27.tr i73).tr r317.run.inc).tr i326).tr r357.run.inc).tr i366)); obtain ⟨_, _, rfl⟩ := RSl.ln (h367.mono upI); rfl)))) ?_
           refine FB.all1 (i := 20) (by kernel_rfl) ?_
           ·
            obtain ⟨v369, w370, run371, S372⟩ := S365.buildSlice (P := Tryz.prog) te172 [Value.agg #[v0_0, v320], Value.agg #[v0_0, v360]] (parts := #[(0, Value.agg #[v0_0, v320]), (1, Value.agg #[v0_0, v360])]) (cells := [v0_0, v320, v0_0, v360]) rfl (szs_cons rfl (szs_cons rfl szs_nil)) (fc_cons rfl (fc_cons rfl fc_nil)) (ones_cons p0_0.one (ones_cons h327.one (ones_cons p0_0.one (ones_cons h367.one ones_nil)))) (Nat.le_of_ble_eq_true rfl)
            have els373 : Els H364 eSequent 2 [v0_0, v320, v0_0, v360] [(Sequent.mk a0.left r312), (Sequent.mk a0.left r352)] := (Els.snoc (H := H364) (E := eSequent) (k := 2) (c := [v0_0, v360]) (x := (Sequent.mk a0.left r352)) (Els.snoc (H := H364) (E := eSequent) (k := 2) (c := [v0_0, v320]) (x := (Sequent.mk a0.left r312)) Els.nil rfl ⟨_, _, rfl, (p0_0.mono (((((i27.tr i73).tr r317.run.inc).tr i326).tr r357.run.inc).tr i366)), (h327.mono (upI.tr (r357.run.inc.tr i366)))⟩) rfl ⟨_, _, rfl, (p0_0.mono (((((i27.tr i73).tr r317.run.inc).tr i326).tr r357.run.inc).tr i366)), (h367.mono upI)⟩)
            refine FC.val (l' := (bs 22 2097151)) rfl (by kernel_rfl) rfl rfl rfl (E.buildSlice (B2 rfl rfl) run371) ?_
            refine ⟨(SP.nil (Sl.of_inc (((r317.run.inc.tr i326).tr r357.run.inc).tr i366) S372.sl)), ?_⟩
            refine FB.t (i := 21) (bs 22 4194303) rfl (SP.nil (Sl.of_inc (((r317.run.inc.tr i326).tr r357.run.inc).tr i366) S372.sl)) rfl (fun w' hw' => (E.assign (v := v369) rfl)) ?_
            exact FB.done (by kernel_rfl) ⟨_, _, _, _, (S372.sel [0] (by decide) rfl), (((r317.run.inc.tr i326).tr r357.run.inc).tr i366), els373, rfl⟩
       ·
        obtain ⟨v337, w338, run339, S340⟩ := S288.buildSlice (P := Tryz.prog) te22 [Value.string y329.text] (parts := #[(0, Value.string y329.text)]) (cells := [Value.string y329.text]) rfl (szs_cons rfl szs_nil) (fc_cons rfl fc_nil) (ones_cons rfl ones_nil) (Nat.le_of_ble_eq_true rfl)
        have els341 : Els (up wa.heap.size H71) eS 1 [Value.string y329.text] [y329.text] := (Els.snoc (H := (up wa.heap.size H71)) (E := eS) (k := 1) (c := [Value.string y329.text]) (x := y329.text) Els.nil rfl rfl)
        refine FC.val (l' := (bs 22 261247)) rfl (by kernel_rfl) rfl rfl rfl (E.buildSlice (B1 rfl) run339) ?_
        refine ⟨(SP.nil S340.sl), ?_⟩
        refine FB.all1 (i := 7) (by kernel_rfl) ?_
        ·
         obtain ⟨v297, w298, run299, S300⟩ := S340.buildSlice (P := Tryz.prog) te22 [Value.string y289.text] (parts := #[(0, Value.string y289.text)]) (cells := [Value.string y289.text]) rfl (szs_cons rfl szs_nil) (fc_cons rfl fc_nil) (ones_cons rfl ones_nil) (Nat.le_of_ble_eq_true rfl)
         have els301 : Els (up wa.heap.size H71) eS 1 [Value.string y289.text] [y289.text] := (Els.snoc (H := (up wa.heap.size H71)) (E := eS) (k := 1) (c := [Value.string y289.text]) (x := y289.text) Els.nil rfl rfl)
         refine FC.val (l' := (bs 22 261375)) rfl (by kernel_rfl) rfl rfl rfl (E.buildSlice (B1 rfl) run299) ?_
         refine ⟨(SP.nil S300.sl), ?_⟩
         refine FB.all1 (i := 8) (by kernel_rfl) ?_
         ·
          obtain ⟨H302, S303, i304, h305, nv306⟩ := S300.sealRowU (i := 3) (l' := [.row 9 1 v297 1 [Value.string y289.text], .row 9 1 v337 1 [Value.string y329.text], .row 9 1 v62 n63 cs64]) rfl els70 (by decide) rfl
          obtain ⟨H307, S308, i309, h310, nv311⟩ := S303.sealRowU (i := 0) (l' := [.row 9 1 v337 1 [Value.string y329.text], .row 9 1 v62 n63 cs64]) rfl (els301.mono (up_mono i304)) (by decide) rfl
          refine FC.call (l' := (bs 22 261631)) rfl (by kernel_rfl) rfl rfl rfl (E.call Tryz.call68 (A2 rfl rfl)) (w_impl_with S308.sl v66 r50 (h305.mono (upI.tr i309)) v297 [y289.text] (h310.mono upI) hr313) ?_
          rintro e w315 ⟨H314, v320, n321, cs322, rfl, r317, els323⟩
          refine ⟨_, rfl, ?_⟩
          obtain ⟨H318, r317, hU319⟩ := St.lendX (i304.tr i309) S300.sl r317
          have els323 := els323.mono (hU319.tr (up_le S300.size))
          have S316 := S300.join (l' := [.row 9 1 v320 n321 cs322, .row 9 1 v297 1 [Value.string y289.text], .row 9 1 v337 1 [Value.string y329.text], .row 9 1 v62 n63 cs64, .row 9 1 v66 n67 cs69]) r317 rfl
          refine ⟨(SP.nil (Sl.of_inc r317.run.inc S316.sl)), ?_⟩
          obtain ⟨H324, S325, i326, h327, nv328⟩ := S316.sealRowU (i := 0) (l' := [.row 9 1 v297 1 [Value.string y289.text], .row 9 1 v337 1 [Value.string y329.text], .row 9 1 v62 n63 cs64, .row 9 1 v66 n67 cs69]) rfl els323 (by decide) rfl
          refine FB.t (i := 9) (bs 22 262143) rfl (SP.nil (Sl.of_inc r317.run.inc S316.sl)) rfl (fun w' hw' => (E.build (B2 rfl rfl) (run_build _ 68 #[(0, v0_0), (1, v320)] #[v0_0, v320] (by obtain ⟨_, _, rfl⟩ := RSl.ln (p0_0.mono (((i27.tr i73).tr r317.run.inc).tr i326)); obtain ⟨_, _, rfl⟩ := RSl.ln (h327.mono upI); rfl)))) ?_
          refine FB.all1 (i := 18) (by kernel_rfl) ?_
          ·
           obtain ⟨H342, S343, i344, h345, nv346⟩ := S325.sealRowU (i := 3) (l' := [.row 9 1 v297 1 [Value.string y289.text], .row 9 1 v337 1 [Value.string y329.text], .row 9 1 v62 n63 cs64]) rfl (els70.mono (up_mono (r317.run.inc.tr i326))) (by decide) rfl
           obtain ⟨H347, S348, i349, h350, nv351⟩ := S343.sealRowU (i := 1) (l' := [.row 9 1 v297 1 [Value.string y289.text], .row 9 1 v62 n63 cs64]) rfl (els341.mono (up_mono ((r317.run.inc.tr i326).tr i344))) (by decide) rfl
           refine FC.call (l' := (bs 22 524287)) rfl (by kernel_rfl) rfl rfl rfl (E.call Tryz.call68 (A2 rfl rfl)) (w_impl_with S348.sl v66 r50 (h345.mono (upI.tr i349)) v337 [y329.text] (h350.mono upI) hr353) ?_
           rintro e w355 ⟨H354, v360, n361, cs362, rfl, r357, els363⟩
           refine ⟨_, rfl, ?_⟩
           obtain ⟨H358, r357, hU359⟩ := St.lendX (i344.tr i349) S325.sl r357
           have els363 := els363.mono (hU359.tr (up_le S325.size))
           have S356 := S325.join (l' := [.row 9 1 v360 n361 cs362, .row 9 1 v297 1 [Value.string y289.text], .row 9 1 v337 1 [Value.string y329.text], .row 9 1 v62 n63 cs64, .row 9 1 v66 n67 cs69]) r357 rfl
           refine ⟨(SP.nil (Sl.of_inc ((r317.run.inc.tr i326).tr r357.run.inc) S356.sl)), ?_⟩
           obtain ⟨H364, S365, i366, h367, nv368⟩ := S356.sealRowU (i := 0) (l' := [.row 9 1 v297 1 [Value.string y289.text], .row 9 1 v337 1 [Value.string y329.text], .row 9 1 v62 n63 cs64, .row 9 1 v66 n67 cs69]) rfl els363 (by decide) rfl
           refine FB.t (i := 19) (bs 22 1048575) rfl (SP.nil (Sl.of_inc ((r317.run.inc.tr i326).tr r357.run.inc) S356.sl)) rfl (fun w' hw' => (E.build (B2 rfl rfl) (run_build _ 68 #[(0, v0_0), (1, v360)] #[v0_0, v360] (by obtain ⟨_, _, rfl⟩ := RSl.ln (p0_0.mono (((((i27.tr i73).tr r317.run.inc).tr i326).tr r357.run.inc).tr i366)); obtain ⟨_, _, rfl⟩ := RSl.ln (h367.mono upI); rfl)))) ?_
           refine FB.all1 (i := 20) (by kernel_rfl) ?_
           ·
            obtain ⟨v369, w370, run371, S372⟩ := S365.buildSlice (P := Tryz.prog) te172 [Value.agg #[v0_0, v320], Value.agg #[v0_0, v360]] (parts := #[(0, Value.agg #[v0_0, v320]), (1, Value.agg #[v0_0, v360])]) (cells := [v0_0, v320, v0_0, v360]) rfl (szs_cons rfl (szs_cons rfl szs_nil)) (fc_cons rfl (fc_cons rfl fc_nil)) (ones_cons p0_0.one (ones_cons h327.one (ones_cons p0_0.one (ones_cons h367.one ones_nil)))) (Nat.le_of_ble_eq_true rfl)
            have els373 : Els H364 eSequent 2 [v0_0, v320, v0_0, v360] [(Sequent.mk a0.left r312), (Sequent.mk a0.left r352)] := (Els.snoc (H := H364) (E := eSequent) (k := 2) (c := [v0_0, v360]) (x := (Sequent.mk a0.left r352)) (Els.snoc (H := H364) (E := eSequent) (k := 2) (c := [v0_0, v320]) (x := (Sequent.mk a0.left r312)) Els.nil rfl ⟨_, _, rfl, (p0_0.mono (((((i27.tr i73).tr r317.run.inc).tr i326).tr r357.run.inc).tr i366)), (h327.mono (upI.tr (r357.run.inc.tr i366)))⟩) rfl ⟨_, _, rfl, (p0_0.mono (((((i27.tr i73).tr r317.run.inc).tr i326).tr r357.run.inc).tr i366)), (h367.mono upI)⟩)
            refine FC.val (l' := (bs 22 2097151)) rfl (by kernel_rfl) rfl rfl rfl (E.buildSlice (B2 rfl rfl) run371) ?_
            refine ⟨(SP.nil (Sl.of_inc (((r317.run.inc.tr i326).tr r357.run.inc).tr i366) S372.sl)), ?_⟩
            refine FB.t (i := 21) (bs 22 4194303) rfl (SP.nil (Sl.of_inc (((r317.run.inc.tr i326).tr r357.run.inc).tr i366) S372.sl)) rfl (fun w' hw' => (E.assign (v := v369) rfl)) ?_
            exact FB.done (by kernel_rfl) ⟨_, _, _, _, (S372.sel [0] (by decide) rfl), (((r317.run.inc.tr i326).tr r357.run.inc).tr i366), els373, rfl⟩
      ·
       rintro f382 w381 ⟨H378, v374, n375, cs376, S379, i380, els377, k383⟩
       refine FW.ret ?_
       obtain rfl := Option.some.inj hp
       exact ⟨.inr rfl, res1 rfl k383 ⟨_, _, _, _, rfl, S379, els377⟩⟩
     ·
      refine FW.condF rfl c285 ?_
      refine FW.seq (FW.region ?_)
      refine FL.v (E.eql rfl rfl) ?_
      refine FL.v (E.assign (v := Value.bool (a1 == 6)) rfl) ?_
      refine FL.nil ?_
      rcases ifB hp with ⟨c384, hp⟩ | ⟨c384, hp⟩
      ·
       refine FW.condT rfl c384 ?_
       refine FW.seq ?_
       obtain ⟨y388, hy389, hp⟩ := bnd hp
       obtain ⟨r411, hr412, hp⟩ := bnd hp
       obtain ⟨y428, hy429, hp⟩ := bnd hp
       obtain ⟨r451, hr452, hp⟩ := bnd hp
       refine FW.drawB (Sl H71) (fun f w => ∃ H : GH, ∃ v473 : Value, ∃ n474 : Nat, ∃ cs475 : List Value, St Ha wa H w [.row 68 2 v473 n474 cs475] ∧ Inc H71 H ∧ Els H eSequent 2 cs475 [(Sequent.mk r411 a0.right), (Sequent.mk r451 a0.right)] ∧ f 6 = v473) (by kernel_rfl) S90.sl ?_ ?_
       ·
        intro w385 r386
        have S387 := S90.call r386
        refine FB.t (i := 0) (bs 22 1) rfl (SP.nil S387.sl) rfl (fun w' hw' => (E.move k79)) ?_
        refine FB.t (i := 1) (bs 22 3) rfl (SP.nil S387.sl) rfl (fun w' hw' => (E.move (v := v85) rfl)) ?_
        obtain ⟨q390, v392, v393, rfl, at391, h394, h395⟩ := FAt.open h87 hy389
        refine FB.t (i := 2) (bs 22 7) rfl (SP.nil S387.sl) rfl (fun w' hw' => (E.nilCheck rfl)) ?_
        refine FB.t (i := 3) (bs 22 15) rfl (SP.nil S387.sl) rfl (fun w' hw' => (E.fieldAddr tf109_3 rfl)) ?_
        refine FB.t (i := 4) (bs 22 31) rfl (SP.nil S387.sl) rfl (fun w' hw' => (E.load rfl (run_load1 Tryz.isAgg9 (at391.now hw') rfl))) ?_
        refine FB.t (i := 7) (bs 22 159) rfl (SP.nil S387.sl) rfl (fun w' hw' => (E.fieldAddr tf68_1 k78)) ?_
        refine FB.t (i := 8) (bs 22 415) rfl (SP.nil S387.sl) rfl (fun w' hw' => (E.load rfl (run_load1 Tryz.isAgg22 ((at28.mono i73).now hw') rfl))) ?_
        refine FB.t (i := 10) (bs 22 1439) rfl (SP.nil S387.sl) rfl (fun w' hw' => (E.move k79)) ?_
        refine FB.t (i := 11) (bs 22 3487) rfl (SP.nil S387.sl) rfl (fun w' hw' => (E.move (v := v86) rfl)) ?_
        obtain ⟨q430, v432, v433, rfl, at431, h434, h435⟩ := FAt.open h88 hy429
        refine FB.t (i := 12) (bs 22 7583) rfl (SP.nil S387.sl) rfl (fun w' hw' => (E.nilCheck rfl)) ?_
        refine FB.t (i := 13) (bs 22 15775) rfl (SP.nil S387.sl) rfl (fun w' hw' => (E.fieldAddr tf109_3 rfl)) ?_
        refine FB.t (i := 14) (bs 22 32159) rfl (SP.nil S387.sl) rfl (fun w' hw' => (E.load rfl (run_load1 Tryz.isAgg9 (at431.now hw') rfl))) ?_
        refine FB.t (i := 17) (bs 22 163231) rfl (SP.nil S387.sl) rfl (fun w' hw' => (E.fieldAddr tf68_1 k78)) ?_
        refine FB.t (i := 18) (bs 22 425375) rfl (SP.nil S387.sl) rfl (fun w' hw' => (E.load rfl (run_load1 Tryz.isAgg22 ((at28.mono i73).now hw') rfl))) ?_
        refine FB.all2 (i := 5) (j := 15) (by kernel_rfl) ?_ ?_
        ·
         obtain ⟨v396, w397, run398, S399⟩ := S387.buildSlice (P := Tryz.prog) te22 [Value.string y388.text] (parts := #[(0, Value.string y388.text)]) (cells := [Value.string y388.text]) rfl (szs_cons rfl szs_nil) (fc_cons rfl fc_nil) (ones_cons rfl ones_nil) (Nat.le_of_ble_eq_true rfl)
         have els400 : Els (up wa.heap.size H71) eS 1 [Value.string y388.text] [y388.text] := (Els.snoc (H := (up wa.heap.size H71)) (E := eS) (k := 1) (c := [Value.string y388.text]) (x := y388.text) Els.nil rfl rfl)
         refine FC.val (l' := (bs 22 425407)) rfl (by kernel_rfl) rfl rfl rfl (E.buildSlice (B1 rfl) run398) ?_
         refine ⟨(SP.nil S399.sl), ?_⟩
         refine FB.all2 (i := 6) (j := 15) (by kernel_rfl) ?_ ?_
         ·
          obtain ⟨H401, S402, i403, h404, nv405⟩ := S399.sealRowU (i := 1) (l' := [.row 9 1 v396 1 [Value.string y388.text], .row 9 1 v66 n67 cs69]) rfl els65 (by decide) rfl
          obtain ⟨H406, S407, i408, h409, nv410⟩ := S402.sealRowU (i := 0) (l' := [.row 9 1 v66 n67 cs69]) rfl (els400.mono (up_mono i403)) (by decide) rfl
          refine FC.call (l' := (bs 22 425471)) rfl (by kernel_rfl) rfl rfl rfl (E.call Tryz.call68 (A2 rfl rfl)) (w_impl_with S407.sl v62 r40 (h404.mono (upI.tr i408)) v396 [y388.text] (h409.mono upI) hr412) ?_
          rintro e w414 ⟨H413, v419, n420, cs421, rfl, r416, els422⟩
          refine ⟨_, rfl, ?_⟩
          obtain ⟨H417, r416, hU418⟩ := St.lendX (i403.tr i408) S399.sl r416
          have els422 := els422.mono (hU418.tr (up_le S399.size))
          have S415 := S399.join (l' := [.row 9 1 v419 n420 cs421, .row 9 1 v396 1 [Value.string y388.text], .row 9 1 v62 n63 cs64, .row 9 1 v66 n67 cs69]) r416 rfl
          refine ⟨(SP.nil (Sl.of_inc r416.run.inc S415.sl)), ?_⟩
          obtain ⟨H423, S424, i425, h426, nv427⟩ := S415.sealRowU (i := 0) (l' := [.row 9 1 v396 1 [Value.string y388.text], .row 9 1 v62 n63 cs64, .row 9 1 v66 n67 cs69]) rfl els422 (by decide) rfl
          refine FB.t (i := 9) (bs 22 425983) rfl (SP.nil (Sl.of_inc r416.run.inc S415.sl)) rfl (fun w' hw' => (E.build (B2 rfl rfl) (run_build _ 68 #[(0, v419), (1, v0_1)] #[v419, v0_1] (by obtain ⟨_, _, rfl⟩ := RSl.ln (h426.mono upI); obtain ⟨_, _, rfl⟩ := RSl.ln (p0_1.mono (((i27.tr i73).tr r416.run.inc).tr i425)); rfl)))) ?_
          refine FB.all1 (i := 15) (by kernel_rfl) ?_
          ·
           obtain ⟨v436, w437, run438, S439⟩ := S424.buildSlice (P := Tryz.prog) te22 [Value.string y428.text] (parts := #[(0, Value.string y428.text)]) (cells := [Value.string y428.text]) rfl (szs_cons rfl szs_nil) (fc_cons rfl fc_nil) (ones_cons rfl ones_nil) (Nat.le_of_ble_eq_true rfl)
           have els440 : Els (up wa.heap.size H423) eS 1 [Value.string y428.text] [y428.text] := (Els.snoc (H := (up wa.heap.size H423)) (E := eS) (k := 1) (c := [Value.string y428.text]) (x := y428.text) Els.nil rfl rfl)
           refine FC.val (l' := (bs 22 458751)) rfl (by kernel_rfl) rfl rfl rfl (E.buildSlice (B1 rfl) run438) ?_
           refine ⟨(SP.nil (Sl.of_inc (r416.run.inc.tr i425) S439.sl)), ?_⟩
           refine FB.all1 (i := 16) (by kernel_rfl) ?_
           ·
            obtain ⟨H441, S442, i443, h444, nv445⟩ := S439.sealRowU (i := 2) (l' := [.row 9 1 v436 1 [Value.string y428.text], .row 9 1 v396 1 [Value.string y388.text], .row 9 1 v66 n67 cs69]) rfl (els65.mono (up_mono (r416.run.inc.tr i425))) (by decide) rfl
            obtain ⟨H446, S447, i448, h449, nv450⟩ := S442.sealRowU (i := 0) (l' := [.row 9 1 v396 1 [Value.string y388.text], .row 9 1 v66 n67 cs69]) rfl (els440.mono (up_mono i443)) (by decide) rfl
            refine FC.call (l' := (bs 22 524287)) rfl (by kernel_rfl) rfl rfl rfl (E.call Tryz.call68 (A2 rfl rfl)) (w_impl_with S447.sl v62 r40 (h444.mono (upI.tr i448)) v436 [y428.text] (h449.mono upI) hr452) ?_
            rintro e w454 ⟨H453, v459, n460, cs461, rfl, r456, els462⟩
            refine ⟨_, rfl, ?_⟩
            obtain ⟨H457, r456, hU458⟩ := St.lendX (i443.tr i448) S439.sl r456
            have els462 := els462.mono (hU458.tr (up_le S439.size))
            have S455 := S439.join (l' := [.row 9 1 v459 n460 cs461, .row 9 1 v436 1 [Value.string y428.text], .row 9 1 v396 1 [Value.string y388.text], .row 9 1 v62 n63 cs64, .row 9 1 v66 n67 cs69]) r456 rfl
            refine ⟨(SP.nil (Sl.of_inc ((r416.run.inc.tr i425).tr r456.run.inc) S455.sl)), ?_⟩
            obtain ⟨H463, S464, i465, h466, nv467⟩ := S455.sealRowU (i := 0) (l' := [.row 9 1 v436 1 [Value.string y428.text], .row 9 1 v396 1 [Value.string y388.text], .row 9 1 v62 n63 cs64, .row 9 1 v66 n67 cs69]) rfl els462 (by decide) rfl
            refine FB.t (i := 19) (bs 22 1048575) rfl (SP.nil (Sl.of_inc ((r416.run.inc.tr i425).tr r456.run.inc) S455.sl)) rfl (fun w' hw' => (E.build (B2 rfl rfl) (run_build _ 68 #[(0, v459), (1, v0_1)] #[v459, v0_1] (by obtain ⟨_, _, rfl⟩ := RSl.ln (h466.mono upI); obtain ⟨_, _, rfl⟩ := RSl.ln (p0_1.mono (((((i27.tr i73).tr r416.run.inc).tr i425).tr r456.run.inc).tr i465)); rfl)))) ?_
            refine FB.all1 (i := 20) (by kernel_rfl) ?_
            ·
             obtain ⟨v468, w469, run470, S471⟩ := S464.buildSlice (P := Tryz.prog) te172 [Value.agg #[v419, v0_1], Value.agg #[v459, v0_1]] (parts := #[(0, Value.agg #[v419, v0_1]), (1, Value.agg #[v459, v0_1])]) (cells := [v419, v0_1, v459, v0_1]) rfl (szs_cons rfl (szs_cons rfl szs_nil)) (fc_cons rfl (fc_cons rfl fc_nil)) (ones_cons h426.one (ones_cons p0_1.one (ones_cons h466.one (ones_cons p0_1.one ones_nil)))) (Nat.le_of_ble_eq_true rfl)
             have els472 : Els H463 eSequent 2 [v419, v0_1, v459, v0_1] [(Sequent.mk r411 a0.right), (Sequent.mk r451 a0.right)] := (Els.snoc (H := H463) (E := eSequent) (k := 2) (c := [v459, v0_1]) (x := (Sequent.mk r451 a0.right)) (Els.snoc (H := H463) (E := eSequent) (k := 2) (c := [v419, v0_1]) (x := (Sequent.mk r411 a0.right)) Els.nil rfl ⟨_, _, rfl, (h426.mono (upI.tr (r456.run.inc.tr i465))), (p0_1.mono (((((i27.tr i73).tr r416.run.inc).tr i425).tr r456.run.inc).tr i465))⟩) rfl ⟨_, _, rfl, (h466.mono upI), (p0_1.mono (((((i27.tr i73).tr r416.run.inc).tr i425).tr r456.run.inc).tr i465))⟩)
             refine FC.val (l' := (bs 22 2097151)) rfl (by kernel_rfl) rfl rfl rfl (E.buildSlice (B2 rfl rfl) run470) ?_
             refine ⟨(SP.nil (Sl.of_inc (((r416.run.inc.tr i425).tr r456.run.inc).tr i465) S471.sl)), ?_⟩
             refine FB.t (i := 21) (bs 22 4194303) rfl (SP.nil (Sl.of_inc (((r416.run.inc.tr i425).tr r456.run.inc).tr i465) S471.sl)) rfl (fun w' hw' => (E.assign (v := v468) rfl)) ?_
             exact FB.done (by kernel_rfl) ⟨_, _, _, _, (S471.sel [0] (by decide) rfl), (((r416.run.inc.tr i425).tr r456.run.inc).tr i465), els472, rfl⟩
         ·
          obtain ⟨v436, w437, run438, S439⟩ := S399.buildSlice (P := Tryz.prog) te22 [Value.string y428.text] (parts := #[(0, Value.string y428.text)]) (cells := [Value.string y428.text]) rfl (szs_cons rfl szs_nil) (fc_cons rfl fc_nil) (ones_cons rfl ones_nil) (Nat.le_of_ble_eq_true rfl)
          have els440 : Els (up wa.heap.size H71) eS 1 [Value.string y428.text] [y428.text] := (Els.snoc (H := (up wa.heap.size H71)) (E := eS) (k := 1) (c := [Value.string y428.text]) (x := y428.text) Els.nil rfl rfl)
          refine FC.val (l' := (bs 22 458175)) rfl (by kernel_rfl) rfl rfl rfl (E.buildSlice (B1 rfl) run438) ?_
          refine ⟨(SP.nil S439.sl), ?_⟩
          refine FB.all1 (i := 6) (by kernel_rfl) ?_
          ·
           obtain ⟨H401, S402, i403, h404, nv405⟩ := S439.sealRowU (i := 2) (l' := [.row 9 1 v436 1 [Value.string y428.text], .row 9 1 v396 1 [Value.string y388.text], .row 9 1 v66 n67 cs69]) rfl els65 (by decide) rfl
           obtain ⟨H406, S407, i408, h409, nv410⟩ := S402.sealRowU (i := 1) (l' := [.row 9 1 v436 1 [Value.string y428.text], .row 9 1 v66 n67 cs69]) rfl (els400.mono (up_mono i403)) (by decide) rfl
           refine FC.call (l' := (bs 22 458239)) rfl (by kernel_rfl) rfl rfl rfl (E.call Tryz.call68 (A2 rfl rfl)) (w_impl_with S407.sl v62 r40 (h404.mono (upI.tr i408)) v396 [y388.text] (h409.mono upI) hr412) ?_
           rintro e w414 ⟨H413, v419, n420, cs421, rfl, r416, els422⟩
           refine ⟨_, rfl, ?_⟩
           obtain ⟨H417, r416, hU418⟩ := St.lendX (i403.tr i408) S439.sl r416
           have els422 := els422.mono (hU418.tr (up_le S439.size))
           have S415 := S439.join (l' := [.row 9 1 v419 n420 cs421, .row 9 1 v436 1 [Value.string y428.text], .row 9 1 v396 1 [Value.string y388.text], .row 9 1 v62 n63 cs64, .row 9 1 v66 n67 cs69]) r416 rfl
           refine ⟨(SP.nil (Sl.of_inc r416.run.inc S415.sl)), ?_⟩
           obtain ⟨H423, S424, i425, h426, nv427⟩ := S415.sealRowU (i := 0) (l' := [.row 9 1 v436 1 [Value.string y428.text], .row 9 1 v396 1 [Value.string y388.text], .row 9 1 v62 n63 cs64, .row 9 1 v66 n67 cs69]) rfl els422 (by decide) rfl
           refine FB.t (i := 9) (bs 22 458751) rfl (SP.nil (Sl.of_inc r416.run.inc S415.sl)) rfl (fun w' hw' => (E.build (B2 rfl rfl) (run_build _ 68 #[(0, v419), (1, v0_1)] #[v419, v0_1] (by obtain ⟨_, _, rfl⟩ := RSl.ln (h426.mono upI); obtain ⟨_, _, rfl⟩ := RSl.ln (p0_1.mono (((i27.tr i73).tr r416.run.inc).tr i425)); rfl)))) ?_
           refine FB.all1 (i := 16) (by kernel_rfl) ?_
           ·
            obtain ⟨H441, S442, i443, h444, nv445⟩ := S424.sealRowU (i := 2) (l' := [.row 9 1 v436 1 [Value.string y428.text], .row 9 1 v396 1 [Value.string y388.text], .row 9 1 v66 n67 cs69]) rfl (els65.mono (up_mono (r416.run.inc.tr i425))) (by decide) rfl
            obtain ⟨H446, S447, i448, h449, nv450⟩ := S442.sealRowU (i := 0) (l' := [.row 9 1 v396 1 [Value.string y388.text], .row 9 1 v66 n67 cs69]) rfl (els440.mono (up_mono ((r416.run.inc.tr i425).tr i443))) (by decide) rfl
            refine FC.call (l' := (bs 22 524287)) rfl (by kernel_rfl) rfl rfl rfl (E.call Tryz.call68 (A2 rfl rfl)) (w_impl_with S447.sl v62 r40 (h444.mono (upI.tr i448)) v436 [y428.text] (h449.mono upI) hr452) ?_
            rintro e w454 ⟨H453, v459, n460, cs461, rfl, r456, els462⟩
            refine ⟨_, rfl, ?_⟩
            obtain ⟨H457, r456, hU458⟩ := St.lendX (i443.tr i448) S424.sl r456
            have els462 := els462.mono (hU458.tr (up_le S424.size))
            have S455 := S424.join (l' := [.row 9 1 v459 n460 cs461, .row 9 1 v436 1 [Value.string y428.text], .row 9 1 v396 1 [Value.string y388.text], .row 9 1 v62 n63 cs64, .row 9 1 v66 n67 cs69]) r456 rfl
            refine ⟨(SP.nil (Sl.of_inc ((r416.run.inc.tr i425).tr r456.run.inc) S455.sl)), ?_⟩
            obtain ⟨H463, S464, i465, h466, nv467⟩ := S455.sealRowU (i := 0) (l' := [.row 9 1 v436 1 [Value.string y428.text], .row 9 1 v396 1 [Value.string y388.text], .row 9 1 v62 n63 cs64, .row 9 1 v66 n67 cs69]) rfl els462 (by decide) rfl
            refine FB.t (i := 19) (bs 22 1048575) rfl (SP.nil (Sl.of_inc ((r416.run.inc.tr i425).tr r456.run.inc) S455.sl)) rfl (fun w' hw' => (E.build (B2 rfl rfl) (run_build _ 68 #[(0, v459), (1, v0_1)] #[v459, v0_1] (by obtain ⟨_, _, rfl⟩ := RSl.ln (h466.mono upI); obtain ⟨_, _, rfl⟩ := RSl.ln (p0_1.mono (((((i27.tr i73).tr r416.run.inc).tr i425).tr r456.run.inc).tr i465)); rfl)))) ?_
            refine FB.all1 (i := 20) (by kernel_rfl) ?_
            ·
             obtain ⟨v468, w469, run470, S471⟩ := S464.buildSlice (P := Tryz.prog) te172 [Value.agg #[v419, v0_1], Value.agg #[v459, v0_1]] (parts := #[(0, Value.agg #[v419, v0_1]), (1, Value.agg #[v459, v0_1])]) (cells := [v419, v0_1, v459, v0_1]) rfl (szs_cons rfl (szs_cons rfl szs_nil)) (fc_cons rfl (fc_cons rfl fc_nil)) (ones_cons h426.one (ones_cons p0_1.one (ones_cons h466.one (ones_cons p0_1.one ones_nil)))) (Nat.le_of_ble_eq_true rfl)
             have els472 : Els H463 eSequent 2 [v419, v0_1, v459, v0_1] [(Sequent.mk r411 a0.right), (Sequent.mk r451 a0.right)] := (Els.snoc (H := H463) (E := eSequent) (k := 2) (c := [v459, v0_1]) (x := (Sequent.mk r451 a0.right)) (Els.snoc (H := H463) (E := eSequent) (k := 2) (c := [v419, v0_1]) (x := (Sequent.mk r411 a0.right)) Els.nil rfl ⟨_, _, rfl, (h426.mono (upI.tr (r456.run.inc.tr i465))), (p0_1.mono (((((i27.tr i73).tr r416.run.inc).tr i425).tr r456.run.inc).tr i465))⟩) rfl ⟨_, _, rfl, (h466.mono upI), (p0_1.mono (((((i27.tr i73).tr r416.run.inc).tr i425).tr r456.run.inc).tr i465))⟩)
             refine FC.val (l' := (bs 22 2097151)) rfl (by kernel_rfl) rfl rfl rfl (E.buildSlice (B2 rfl rfl) run470) ?_
             refine ⟨(SP.nil (Sl.of_inc (((r416.run.inc.tr i425).tr r456.run.inc).tr i465) S471.sl)), ?_⟩
             refine FB.t (i := 21) (bs 22 4194303) rfl (SP.nil (Sl.of_inc (((r416.run.inc.tr i425).tr r456.run.inc).tr i465) S471.sl)) rfl (fun w' hw' => (E.assign (v := v468) rfl)) ?_
             exact FB.done (by kernel_rfl) ⟨_, _, _, _, (S471.sel [0] (by decide) rfl), (((r416.run.inc.tr i425).tr r456.run.inc).tr i465), els472, rfl⟩
        ·
         obtain ⟨v436, w437, run438, S439⟩ := S387.buildSlice (P := Tryz.prog) te22 [Value.string y428.text] (parts := #[(0, Value.string y428.text)]) (cells := [Value.string y428.text]) rfl (szs_cons rfl szs_nil) (fc_cons rfl fc_nil) (ones_cons rfl ones_nil) (Nat.le_of_ble_eq_true rfl)
         have els440 : Els (up wa.heap.size H71) eS 1 [Value.string y428.text] [y428.text] := (Els.snoc (H := (up wa.heap.size H71)) (E := eS) (k := 1) (c := [Value.string y428.text]) (x := y428.text) Els.nil rfl rfl)
         refine FC.val (l' := (bs 22 458143)) rfl (by kernel_rfl) rfl rfl rfl (E.buildSlice (B1 rfl) run438) ?_
         refine ⟨(SP.nil S439.sl), ?_⟩
         refine FB.all1 (i := 5) (by kernel_rfl) ?_
         ·
          obtain ⟨v396, w397, run398, S399⟩ := S439.buildSlice (P := Tryz.prog) te22 [Value.string y388.text] (parts := #[(0, Value.string y388.text)]) (cells := [Value.string y388.text]) rfl (szs_cons rfl szs_nil) (fc_cons rfl fc_nil) (ones_cons rfl ones_nil) (Nat.le_of_ble_eq_true rfl)
          have els400 : Els (up wa.heap.size H71) eS 1 [Value.string y388.text] [y388.text] := (Els.snoc (H := (up wa.heap.size H71)) (E := eS) (k := 1) (c := [Value.string y388.text]) (x := y388.text) Els.nil rfl rfl)
          refine FC.val (l' := (bs 22 458175)) rfl (by kernel_rfl) rfl rfl rfl (E.buildSlice (B1 rfl) run398) ?_
          refine ⟨(SP.nil S399.sl), ?_⟩
          refine FB.all1 (i := 6) (by kernel_rfl) ?_
          ·
           obtain ⟨H401, S402, i403, h404, nv405⟩ := S399.sealRowU (i := 2) (l' := [.row 9 1 v396 1 [Value.string y388.text], .row 9 1 v436 1 [Value.string y428.text], .row 9 1 v66 n67 cs69]) rfl els65 (by decide) rfl
           obtain ⟨H406, S407, i408, h409, nv410⟩ := S402.sealRowU (i := 0) (l' := [.row 9 1 v436 1 [Value.string y428.text], .row 9 1 v66 n67 cs69]) rfl (els400.mono (up_mono i403)) (by decide) rfl
           refine FC.call (l' := (bs 22 458239)) rfl (by kernel_rfl) rfl rfl rfl (E.call Tryz.call68 (A2 rfl rfl)) (w_impl_with S407.sl v62 r40 (h404.mono (upI.tr i408)) v396 [y388.text] (h409.mono upI) hr412) ?_
           rintro e w414 ⟨H413, v419, n420, cs421, rfl, r416, els422⟩
           refine ⟨_, rfl, ?_⟩
           obtain ⟨H417, r416, hU418⟩ := St.lendX (i403.tr i408) S399.sl r416
           have els422 := els422.mono (hU418.tr (up_le S399.size))
           have S415 := S399.join (l' := [.row 9 1 v419 n420 cs421, .row 9 1 v396 1 [Value.string y388.text], .row 9 1 v436 1 [Value.string y428.text], .row 9 1 v62 n63 cs64, .row 9 1 v66 n67 cs69]) r416 rfl
           refine ⟨(SP.nil (Sl.of_inc r416.run.inc S415.sl)), ?_⟩
           obtain ⟨H423, S424, i425, h426, nv427⟩ := S415.sealRowU (i := 0) (l' := [.row 9 1 v396 1 [Value.string y388.text], .row 9 1 v436 1 [Value.string y428.text], .row 9 1 v62 n63 cs64, .row 9 1 v66 n67 cs69]) rfl els422 (by decide) rfl
           refine FB.t (i := 9) (bs 22 458751) rfl (SP.nil (Sl.of_inc r416.run.inc S415.sl)) rfl (fun w' hw' => (E.build (B2 rfl rfl) (run_build _ 68 #[(0, v419), (1, v0_1)] #[v419, v0_1] (by obtain ⟨_, _, rfl⟩ := RSl.ln (h426.mono upI); obtain ⟨_, _, rfl⟩ := RSl.ln (p0_1.mono (((i27.tr i73).tr r416.run.inc).tr i425)); rfl)))) ?_
           refine FB.all1 (i := 16) (by kernel_rfl) ?_
           ·
            obtain ⟨H441, S442, i443, h444, nv445⟩ := S424.sealRowU (i := 2) (l' := [.row 9 1 v396 1 [Value.string y388.text], .row 9 1 v436 1 [Value.string y428.text], .row 9 1 v66 n67 cs69]) rfl (els65.mono (up_mono (r416.run.inc.tr i425))) (by decide) rfl
            obtain ⟨H446, S447, i448, h449, nv450⟩ := S442.sealRowU (i := 1) (l' := [.row 9 1 v396 1 [Value.string y388.text], .row 9 1 v66 n67 cs69]) rfl (els440.mono (up_mono ((r416.run.inc.tr i425).tr i443))) (by decide) rfl
            refine FC.call (l' := (bs 22 524287)) rfl (by kernel_rfl) rfl rfl rfl (E.call Tryz.call68 (A2 rfl rfl)) (w_impl_with S447.sl v62 r40 (h444.mono (upI.tr i448)) v436 [y428.text] (h449.mono upI) hr452) ?_
            rintro e w454 ⟨H453, v459, n460, cs461, rfl, r456, els462⟩
            refine ⟨_, rfl, ?_⟩
            obtain ⟨H457, r456, hU458⟩ := St.lendX (i443.tr i448) S424.sl r456
            have els462 := els462.mono (hU458.tr (up_le S424.size))
            have S455 := S424.join (l' := [.row 9 1 v459 n460 cs461, .row 9 1 v396 1 [Value.string y388.text], .row 9 1 v436 1 [Value.string y428.text], .row 9 1 v62 n63 cs64, .row 9 1 v66 n67 cs69]) r456 rfl
            refine ⟨(SP.nil (Sl.of_inc ((r416.run.inc.tr i425).tr r456.run.inc) S455.sl)), ?_⟩
            obtain ⟨H463, S464, i465, h466, nv467⟩ := S455.sealRowU (i := 0) (l' := [.row 9 1 v396 1 [Value.string y388.text], .row 9 1 v436 1 [Value.string y428.text], .row 9 1 v62 n63 cs64, .row 9 1 v66 n67 cs69]) rfl els462 (by decide) rfl
            refine FB.t (i := 19) (bs 22 1048575) rfl (SP.nil (Sl.of_inc ((r416.run.inc.tr i425).tr r456.run.inc) S455.sl)) rfl (fun w' hw' => (E.build (B2 rfl rfl) (run_build _ 68 #[(0, v459), (1, v0_1)] #[v459, v0_1] (by obtain ⟨_, _, rfl⟩ := RSl.ln (h466.mono upI); obtain ⟨_, _, rfl⟩ := RSl.ln (p0_1.mono (((((i27.tr i73).tr r416.run.inc).tr i425).tr r456.run.inc).tr i465)); rfl)))) ?_
            refine FB.all1 (i := 20) (by kernel_rfl) ?_
            ·
             obtain ⟨v468, w469, run470, S471⟩ := S464.buildSlice (P := Tryz.prog) te172 [Value.agg #[v419, v0_1], Value.agg #[v459, v0_1]] (parts := #[(0, Value.agg #[v419, v0_1]), (1, Value.agg #[v459, v0_1])]) (cells := [v419, v0_1, v459, v0_1]) rfl (szs_cons rfl (szs_cons rfl szs_nil)) (fc_cons rfl (fc_cons rfl fc_nil)) (ones_cons h426.one (ones_cons p0_1.one (ones_cons h466.one (ones_cons p0_1.one ones_nil)))) (Nat.le_of_ble_eq_true rfl)
             have els472 : Els H463 eSequent 2 [v419, v0_1, v459, v0_1] [(Sequent.mk r411 a0.right), (Sequent.mk r451 a0.right)] := (Els.snoc (H := H463) (E := eSequent) (k := 2) (c := [v459, v0_1]) (x := (Sequent.mk r451 a0.right)) (Els.snoc (H := H463) (E := eSequent) (k := 2) (c := [v419, v0_1]) (x := (Sequent.mk r411 a0.right)) Els.nil rfl ⟨_, _, rfl, (h426.mono (upI.tr (r456.run.inc.tr i465))), (p0_1.mono (((((i27.tr i73).tr r416.run.inc).tr i425).tr r456.run.inc).tr i465))⟩) rfl ⟨_, _, rfl, (h466.mono upI), (p0_1.mono (((((i27.tr i73).tr r416.run.inc).tr i425).tr r456.run.inc).tr i465))⟩)
             refine FC.val (l' := (bs 22 2097151)) rfl (by kernel_rfl) rfl rfl rfl (E.buildSlice (B2 rfl rfl) run470) ?_
             refine ⟨(SP.nil (Sl.of_inc (((r416.run.inc.tr i425).tr r456.run.inc).tr i465) S471.sl)), ?_⟩
             refine FB.t (i := 21) (bs 22 4194303) rfl (SP.nil (Sl.of_inc (((r416.run.inc.tr i425).tr r456.run.inc).tr i465) S471.sl)) rfl (fun w' hw' => (E.assign (v := v468) rfl)) ?_
             exact FB.done (by kernel_rfl) ⟨_, _, _, _, (S471.sel [0] (by decide) rfl), (((r416.run.inc.tr i425).tr r456.run.inc).tr i465), els472, rfl⟩
       ·
        rintro f481 w480 ⟨H477, v473, n474, cs475, S478, i479, els476, k482⟩
        refine FW.ret ?_
        obtain rfl := Option.some.inj hp
        exact ⟨.inr rfl, res1 rfl k482 ⟨_, _, _, _, rfl, S478, els476⟩⟩
      ·
       refine FW.condF rfl c384 ?_
       refine FW.seq (FW.region ?_)
       refine FL.v (E.eql rfl rfl) ?_
       refine FL.v (E.assign (v := Value.bool (a1 == 7)) rfl) ?_
       refine FL.nil ?_
       rcases ifB hp with ⟨c483, hp⟩ | ⟨c483, hp⟩
       ·
        refine FW.condT rfl c483 ?_
        refine FW.seq ?_
        obtain ⟨y487, hy488, hp⟩ := bnd hp
        obtain ⟨y495, hy496, hp⟩ := bnd hp
        obtain ⟨r518, hr519, hp⟩ := bnd hp
        refine FW.drawB (Sl H71) (fun f w => ∃ H : GH, ∃ v540 : Value, ∃ n541 : Nat, ∃ cs542 : List Value, St Ha wa H w [.row 68 2 v540 n541 cs542] ∧ Inc H71 H ∧ Els H eSequent 2 cs542 [(Sequent.mk a0.left r518)] ∧ f 6 = v540) (by kernel_rfl) S90.sl ?_ ?_
        ·
         intro w484 r485
         have S486 := S90.call r485
         refine FB.t (i := 0) (bs 16 1) rfl (SP.nil S486.sl) rfl (fun w' hw' => (E.fieldAddr tf68_0 k78)) ?_
         refine FB.t (i := 1) (bs 16 3) rfl (SP.nil S486.sl) rfl (fun w' hw' => (E.load rfl (run_load1 Tryz.isAgg22 ((at28.mono i73).now hw') rfl))) ?_
         refine FB.t (i := 2) (bs 16 7) rfl (SP.nil S486.sl) rfl (fun w' hw' => (E.move k80)) ?_
         refine FB.t (i := 3) (bs 16 15) rfl (SP.nil S486.sl) rfl (fun w' hw' => (E.move (v := v85) rfl)) ?_
         obtain ⟨q489, v491, v492, rfl, at490, h493, h494⟩ := FAt.open h87 hy488
         refine FB.t (i := 4) (bs 16 31) rfl (SP.nil S486.sl) rfl (fun w' hw' => (E.nilCheck rfl)) ?_
         refine FB.t (i := 5) (bs 16 63) rfl (SP.nil S486.sl) rfl (fun w' hw' => (E.fieldAddr tf109_3 rfl)) ?_
         refine FB.t (i := 6) (bs 16 127) rfl (SP.nil S486.sl) rfl (fun w' hw' => (E.load rfl (run_load1 Tryz.isAgg9 (at490.now hw') rfl))) ?_
         refine FB.t (i := 7) (bs 16 255) rfl (SP.nil S486.sl) rfl (fun w' hw' => (E.move (v := v86) rfl)) ?_
         obtain ⟨q497, v499, v500, rfl, at498, h501, h502⟩ := FAt.open h88 hy496
         refine FB.t (i := 8) (bs 16 511) rfl (SP.nil S486.sl) rfl (fun w' hw' => (E.nilCheck rfl)) ?_
         refine FB.t (i := 9) (bs 16 1023) rfl (SP.nil S486.sl) rfl (fun w' hw' => (E.fieldAddr tf109_3 rfl)) ?_
         refine FB.t (i := 10) (bs 16 2047) rfl (SP.nil S486.sl) rfl (fun w' hw' => (E.load rfl (run_load1 Tryz.isAgg9 (at498.now hw') rfl))) ?_
         refine FB.all1 (i := 11) (by kernel_rfl) ?_
         ·
          obtain ⟨v503, w504, run505, S506⟩ := S486.buildSlice (P := Tryz.prog) te22 [Value.string y487.text, Value.string y495.text] (parts := #[(0, Value.string y487.text), (1, Value.string y495.text)]) (cells := [Value.string y487.text, Value.string y495.text]) rfl (szs_cons rfl (szs_cons rfl szs_nil)) (fc_cons rfl (fc_cons rfl fc_nil)) (ones_cons rfl (ones_cons rfl ones_nil)) (Nat.le_of_ble_eq_true rfl)
          have els507 : Els (up wa.heap.size H71) eS 1 [Value.string y487.text, Value.string y495.text] [y487.text, y495.text] := (Els.snoc (H := (up wa.heap.size H71)) (E := eS) (k := 1) (c := [Value.string y495.text]) (x := y495.text) (Els.snoc (H := (up wa.heap.size H71)) (E := eS) (k := 1) (c := [Value.string y487.text]) (x := y487.text) Els.nil rfl rfl) rfl rfl)
          refine FC.val (l' := (bs 16 4095)) rfl (by kernel_rfl) rfl rfl rfl (E.buildSlice (B2 rfl rfl) run505) ?_
          refine ⟨(SP.nil S506.sl), ?_⟩
          refine FB.all1 (i := 12) (by kernel_rfl) ?_
          ·
           obtain ⟨H508, S509, i510, h511, nv512⟩ := S506.sealRowU (i := 2) (l' := [.row 9 1 v503 2 [Value.string y487.text, Value.string y495.text], .row 9 1 v62 n63 cs64]) rfl els70 (by decide) rfl
           obtain ⟨H513, S514, i515, h516, nv517⟩ := S509.sealRowU (i := 0) (l' := [.row 9 1 v62 n63 cs64]) rfl (els507.mono (up_mono i510)) (by decide) rfl
           refine FC.call (l' := (bs 16 8191)) rfl (by kernel_rfl) rfl rfl rfl (E.call Tryz.call68 (A2 rfl rfl)) (w_impl_with S514.sl v66 r50 (h511.mono (upI.tr i515)) v503 [y487.text, y495.text] (h516.mono upI) hr519) ?_
           rintro e w521 ⟨H520, v526, n527, cs528, rfl, r523, els529⟩
           refine ⟨_, rfl, ?_⟩
           obtain ⟨H524, r523, hU525⟩ := St.lendX (i510.tr i515) S506.sl r523
           have els529 := els529.mono (hU525.tr (up_le S506.size))
           have S522 := S506.join (l' := [.row 9 1 v526 n527 cs528, .row 9 1 v503 2 [Value.string y487.text, Value.string y495.text], .row 9 1 v62 n63 cs64, .row 9 1 v66 n67 cs69]) r523 rfl
           refine ⟨(SP.nil (Sl.of_inc r523.run.inc S522.sl)), ?_⟩
           obtain ⟨H530, S531, i532, h533, nv534⟩ := S522.sealRowU (i := 0) (l' := [.row 9 1 v503 2 [Value.string y487.text, Value.string y495.text], .row 9 1 v62 n63 cs64, .row 9 1 v66 n67 cs69]) rfl els529 (by decide) rfl
           refine FB.t (i := 13) (bs 16 16383) rfl (SP.nil (Sl.of_inc r523.run.inc S522.sl)) rfl (fun w' hw' => (E.build (B2 rfl rfl) (run_build _ 68 #[(0, v0_0), (1, v526)] #[v0_0, v526] (by obtain ⟨_, _, rfl⟩ := RSl.ln (p0_0.mono (((i27.tr i73).tr r523.run.inc).tr i532)); obtain ⟨_, _, rfl⟩ := RSl.ln (h533.mono upI); rfl)))) ?_
           refine FB.all1 (i := 14) (by kernel_rfl) ?_
           ·
            obtain ⟨v535, w536, run537, S538⟩ := S531.buildSlice (P := Tryz.prog) te172 [Value.agg #[v0_0, v526]] (parts := #[(0, Value.agg #[v0_0, v526])]) (cells := [v0_0, v526]) rfl (szs_cons rfl szs_nil) (fc_cons rfl fc_nil) (ones_cons p0_0.one (ones_cons h533.one ones_nil)) (Nat.le_of_ble_eq_true rfl)
            have els539 : Els H530 eSequent 2 [v0_0, v526] [(Sequent.mk a0.left r518)] := (Els.snoc (H := H530) (E := eSequent) (k := 2) (c := [v0_0, v526]) (x := (Sequent.mk a0.left r518)) Els.nil rfl ⟨_, _, rfl, (p0_0.mono (((i27.tr i73).tr r523.run.inc).tr i532)), (h533.mono upI)⟩)
            refine FC.val (l' := (bs 16 32767)) rfl (by kernel_rfl) rfl rfl rfl (E.buildSlice (B1 rfl) run537) ?_
            refine ⟨(SP.nil (Sl.of_inc (r523.run.inc.tr i532) S538.sl)), ?_⟩
            refine FB.t (i := 15) (bs 16 65535) rfl (SP.nil (Sl.of_inc (r523.run.inc.tr i532) S538.sl)) rfl (fun w' hw' => (E.assign (v := v535) rfl)) ?_
            exact FB.done (by kernel_rfl) ⟨_, _, _, _, (S538.sel [0] (by decide) rfl), (r523.run.inc.tr i532), els539, rfl⟩
        ·
         rintro f548 w547 ⟨H544, v540, n541, cs542, S545, i546, els543, k549⟩
         refine FW.ret ?_
         obtain rfl := Option.some.inj hp
         exact ⟨.inr rfl, res1 rfl k549 ⟨_, _, _, _, rfl, S545, els543⟩⟩
       ·
        refine FW.condF rfl c483 ?_
        refine FW.seq (FW.region ?_)
        refine FL.v (E.eql rfl rfl) ?_
        refine FL.v (E.assign (v := Value.bool (a1 == 8)) rfl) ?_
        refine FL.nil ?_
        rcases ifB hp with ⟨c550, hp⟩ | ⟨c550, hp⟩
        ·
         refine FW.condT rfl c550 ?_
         refine FW.seq ?_
         obtain ⟨y554, hy555, hp⟩ := bnd hp
         obtain ⟨r572, hr573, hp⟩ := bnd hp
         obtain ⟨y594, hy595, hp⟩ := bnd hp
         obtain ⟨r612, hr613, hp⟩ := bnd hp
         refine FW.drawB (Sl H71) (fun f w => ∃ H : GH, ∃ v634 : Value, ∃ n635 : Nat, ∃ cs636 : List Value, St Ha wa H w [.row 68 2 v634 n635 cs636] ∧ Inc H71 H ∧ Els H eSequent 2 cs636 [(Sequent.mk r40 r572), (Sequent.mk r612 a0.right)] ∧ f 6 = v634) (by kernel_rfl) S90.sl ?_ ?_
         ·
          intro w551 r552
          have S553 := S90.call r552
          refine FB.t (i := 0) (bs 22 1) rfl (SP.nil S553.sl) rfl (fun w' hw' => (E.move k79)) ?_
          refine FB.t (i := 1) (bs 22 3) rfl (SP.nil S553.sl) rfl (fun w' hw' => (E.fieldAddr tf68_1 k78)) ?_
          refine FB.t (i := 2) (bs 22 7) rfl (SP.nil S553.sl) rfl (fun w' hw' => (E.load rfl (run_load1 Tryz.isAgg22 ((at28.mono i73).now hw') rfl))) ?_
          refine FB.t (i := 3) (bs 22 15) rfl (SP.nil S553.sl) rfl (fun w' hw' => (E.move (v := v85) rfl)) ?_
          obtain ⟨q556, v558, v559, rfl, at557, h560, h561⟩ := FAt.open h87 hy555
          refine FB.t (i := 4) (bs 22 31) rfl (SP.nil S553.sl) rfl (fun w' hw' => (E.nilCheck rfl)) ?_
          refine FB.t (i := 5) (bs 22 63) rfl (SP.nil S553.sl) rfl (fun w' hw' => (E.fieldAddr tf109_3 rfl)) ?_
          refine FB.t (i := 6) (bs 22 127) rfl (SP.nil S553.sl) rfl (fun w' hw' => (E.load rfl (run_load1 Tryz.isAgg9 (at557.now hw') rfl))) ?_
          refine FB.t (i := 10) (bs 22 1151) rfl (SP.nil S553.sl) rfl (fun w' hw' => (E.move k79)) ?_
          refine FB.t (i := 11) (bs 22 3199) rfl (SP.nil S553.sl) rfl (fun w' hw' => (E.move (v := v86) rfl)) ?_
          obtain ⟨q596, v598, v599, rfl, at597, h600, h601⟩ := FAt.open h88 hy595
          refine FB.t (i := 12) (bs 22 7295) rfl (SP.nil S553.sl) rfl (fun w' hw' => (E.nilCheck rfl)) ?_
          refine FB.t (i := 13) (bs 22 15487) rfl (SP.nil S553.sl) rfl (fun w' hw' => (E.fieldAddr tf109_3 rfl)) ?_
          refine FB.t (i := 14) (bs 22 31871) rfl (SP.nil S553.sl) rfl (fun w' hw' => (E.load rfl (run_load1 Tryz.isAgg9 (at597.now hw') rfl))) ?_
          refine FB.t (i := 17) (bs 22 162943) rfl (SP.nil S553.sl) rfl (fun w' hw' => (E.fieldAddr tf68_1 k78)) ?_
          refine FB.t (i := 18) (bs 22 425087) rfl (SP.nil S553.sl) rfl (fun w' hw' => (E.load rfl (run_load1 Tryz.isAgg22 ((at28.mono i73).now hw') rfl))) ?_
          refine FB.all2 (i := 7) (j := 15) (by kernel_rfl) ?_ ?_
          ·
           obtain ⟨v562, w563, run564, S565⟩ := S553.buildSlice (P := Tryz.prog) te22 [Value.string y554.text] (parts := #[(0, Value.string y554.text)]) (cells := [Value.string y554.text]) rfl (szs_cons rfl szs_nil) (fc_cons rfl fc_nil) (ones_cons rfl ones_nil) (Nat.le_of_ble_eq_true rfl)
           have els566 : Els (up wa.heap.size H71) eS 1 [Value.string y554.text] [y554.text] := (Els.snoc (H := (up wa.heap.size H71)) (E := eS) (k := 1) (c := [Value.string y554.text]) (x := y554.text) Els.nil rfl rfl)
           refine FC.val (l' := (bs 22 425215)) rfl (by kernel_rfl) rfl rfl rfl (E.buildSlice (B1 rfl) run564) ?_
           refine ⟨(SP.nil S565.sl), ?_⟩
           refine FB.all2 (i := 8) (j := 15) (by kernel_rfl) ?_ ?_
           ·
            obtain ⟨H567, S568, i569, h570, nv571⟩ := S565.sealRowU (i := 0) (l' := [.row 9 1 v62 n63 cs64, .row 9 1 v66 n67 cs69]) rfl els566 (by decide) rfl
            refine FC.call (l' := (bs 22 425471)) rfl (by kernel_rfl) rfl rfl rfl (E.call Tryz.call68 (A2 rfl rfl)) (w_impl_with S568.sl v0_1 a0.right (p0_1.mono ((i27.tr i73).tr i569)) v562 [y554.text] (h570.mono upI) hr573) ?_
            rintro e w575 ⟨H574, v580, n581, cs582, rfl, r577, els583⟩
            refine ⟨_, rfl, ?_⟩
            obtain ⟨H578, r577, hU579⟩ := St.lendX i569 S565.sl r577
            have els583 := els583.mono (hU579.tr (up_le S565.size))
            have S576 := S565.join (l' := [.row 9 1 v580 n581 cs582, .row 9 1 v562 1 [Value.string y554.text], .row 9 1 v62 n63 cs64, .row 9 1 v66 n67 cs69]) r577 rfl
            refine ⟨(SP.nil (Sl.of_inc r577.run.inc S576.sl)), ?_⟩
            obtain ⟨H584, S585, i586, h587, nv588⟩ := S576.sealRowU (i := 2) (l' := [.row 9 1 v580 n581 cs582, .row 9 1 v562 1 [Value.string y554.text], .row 9 1 v66 n67 cs69]) rfl (els65.mono (up_mono r577.run.inc)) (by decide) rfl
            obtain ⟨H589, S590, i591, h592, nv593⟩ := S585.sealRowU (i := 0) (l' := [.row 9 1 v562 1 [Value.string y554.text], .row 9 1 v66 n67 cs69]) rfl (els583.mono (up_mono i586)) (by decide) rfl
            refine FB.t (i := 9) (bs 22 425983) rfl (SP.nil (Sl.of_inc r577.run.inc S576.sl)) rfl (fun w' hw' => (E.build (B2 rfl rfl) (run_build _ 68 #[(0, v62), (1, v580)] #[v62, v580] (by obtain ⟨_, _, rfl⟩ := RSl.ln (h587.mono (upI.tr i591)); obtain ⟨_, _, rfl⟩ := RSl.ln (h592.mono upI); rfl)))) ?_
            refine FB.all1 (i := 15) (by kernel_rfl) ?_
            ·
             obtain ⟨v602, w603, run604, S605⟩ := S590.buildSlice (P := Tryz.prog) te22 [Value.string y594.text] (parts := #[(0, Value.string y594.text)]) (cells := [Value.string y594.text]) rfl (szs_cons rfl szs_nil) (fc_cons rfl fc_nil) (ones_cons rfl ones_nil) (Nat.le_of_ble_eq_true rfl)
             have els606 : Els (up wa.heap.size H589) eS 1 [Value.string y594.text] [y594.text] := (Els.snoc (H := (up wa.heap.size H589)) (E := eS) (k := 1) (c := [Value.string y594.text]) (x := y594.text) Els.nil rfl rfl)
             refine FC.val (l' := (bs 22 458751)) rfl (by kernel_rfl) rfl rfl rfl (E.buildSlice (B1 rfl) run604) ?_
             refine ⟨(SP.nil (Sl.of_inc ((r577.run.inc.tr i586).tr i591) S605.sl)), ?_⟩
             refine FB.all1 (i := 16) (by kernel_rfl) ?_
             ·
              obtain ⟨H607, S608, i609, h610, nv611⟩ := S605.sealRowU (i := 0) (l' := [.row 9 1 v562 1 [Value.string y554.text], .row 9 1 v66 n67 cs69]) rfl els606 (by decide) rfl
              refine FC.call (l' := (bs 22 524287)) rfl (by kernel_rfl) rfl rfl rfl (E.call Tryz.call68 (A2 rfl rfl)) (w_impl_with S608.sl v62 r40 (h587.mono (upI.tr (i591.tr i609))) v602 [y594.text] (h610.mono upI) hr613) ?_
              rintro e w615 ⟨H614, v620, n621, cs622, rfl, r617, els623⟩
              refine ⟨_, rfl, ?_⟩
              obtain ⟨H618, r617, hU619⟩ := St.lendX i609 S605.sl r617
              have els623 := els623.mono (hU619.tr (up_le S605.size))
              have S616 := S605.join (l' := [.row 9 1 v620 n621 cs622, .row 9 1 v602 1 [Value.string y594.text], .row 9 1 v562 1 [Value.string y554.text], .row 9 1 v66 n67 cs69]) r617 rfl
              refine ⟨(SP.nil (Sl.of_inc (((r577.run.inc.tr i586).tr i591).tr r617.run.inc) S616.sl)), ?_⟩
              obtain ⟨H624, S625, i626, h627, nv628⟩ := S616.sealRowU (i := 0) (l' := [.row 9 1 v602 1 [Value.string y594.text], .row 9 1 v562 1 [Value.string y554.text], .row 9 1 v66 n67 cs69]) rfl els623 (by decide) rfl
              refine FB.t (i := 19) (bs 22 1048575) rfl (SP.nil (Sl.of_inc (((r577.run.inc.tr i586).tr i591).tr r617.run.inc) S616.sl)) rfl (fun w' hw' => (E.build (B2 rfl rfl) (run_build _ 68 #[(0, v620), (1, v0_1)] #[v620, v0_1] (by obtain ⟨_, _, rfl⟩ := RSl.ln (h627.mono upI); obtain ⟨_, _, rfl⟩ := RSl.ln (p0_1.mono ((((((i27.tr i73).tr r577.run.inc).tr i586).tr i591).tr r617.run.inc).tr i626)); rfl)))) ?_
              refine FB.all1 (i := 20) (by kernel_rfl) ?_
              ·
               obtain ⟨v629, w630, run631, S632⟩ := S625.buildSlice (P := Tryz.prog) te172 [Value.agg #[v62, v580], Value.agg #[v620, v0_1]] (parts := #[(0, Value.agg #[v62, v580]), (1, Value.agg #[v620, v0_1])]) (cells := [v62, v580, v620, v0_1]) rfl (szs_cons rfl (szs_cons rfl szs_nil)) (fc_cons rfl (fc_cons rfl fc_nil)) (ones_cons h587.one (ones_cons h592.one (ones_cons h627.one (ones_cons p0_1.one ones_nil)))) (Nat.le_of_ble_eq_true rfl)
               have els633 : Els H624 eSequent 2 [v62, v580, v620, v0_1] [(Sequent.mk r40 r572), (Sequent.mk r612 a0.right)] := (Els.snoc (H := H624) (E := eSequent) (k := 2) (c := [v620, v0_1]) (x := (Sequent.mk r612 a0.right)) (Els.snoc (H := H624) (E := eSequent) (k := 2) (c := [v62, v580]) (x := (Sequent.mk r40 r572)) Els.nil rfl ⟨_, _, rfl, (h587.mono (upI.tr ((i591.tr r617.run.inc).tr i626))), (h592.mono (upI.tr (r617.run.inc.tr i626)))⟩) rfl ⟨_, _, rfl, (h627.mono upI), (p0_1.mono ((((((i27.tr i73).tr r577.run.inc).tr i586).tr i591).tr r617.run.inc).tr i626))⟩)
               refine FC.val (l' := (bs 22 2097151)) rfl (by kernel_rfl) rfl rfl rfl (E.buildSlice (B2 rfl rfl) run631) ?_
               refine ⟨(SP.nil (Sl.of_inc ((((r577.run.inc.tr i586).tr i591).tr r617.run.inc).tr i626) S632.sl)), ?_⟩
               refine FB.t (i := 21) (bs 22 4194303) rfl (SP.nil (Sl.of_inc ((((r577.run.inc.tr i586).tr i591).tr r617.run.inc).tr i626) S632.sl)) rfl (fun w' hw' => (E.assign (v := v629) rfl)) ?_
               exact FB.done (by kernel_rfl) ⟨_, _, _, _, (S632.sel [0] (by decide) rfl), ((((r577.run.inc.tr i586).tr i591).tr r617.run.inc).tr i626), els633, rfl⟩
           ·
            obtain ⟨v602, w603, run604, S605⟩ := S565.buildSlice (P := Tryz.prog) te22 [Value.string y594.text] (parts := #[(0, Value.string y594.text)]) (cells := [Value.string y594.text]) rfl (szs_cons rfl szs_nil) (fc_cons rfl fc_nil) (ones_cons rfl ones_nil) (Nat.le_of_ble_eq_true rfl)
            have els606 : Els (up wa.heap.size H71) eS 1 [Value.string y594.text] [y594.text] := (Els.snoc (H := (up wa.heap.size H71)) (E := eS) (k := 1) (c := [Value.string y594.text]) (x := y594.text) Els.nil rfl rfl)
            refine FC.val (l' := (bs 22 457983)) rfl (by kernel_rfl) rfl rfl rfl (E.buildSlice (B1 rfl) run604) ?_
            refine ⟨(SP.nil S605.sl), ?_⟩
            refine FB.all1 (i := 8) (by kernel_rfl) ?_
            ·
             obtain ⟨H567, S568, i569, h570, nv571⟩ := S605.sealRowU (i := 1) (l' := [.row 9 1 v602 1 [Value.string y594.text], .row 9 1 v62 n63 cs64, .row 9 1 v66 n67 cs69]) rfl els566 (by decide) rfl
             refine FC.call (l' := (bs 22 458239)) rfl (by kernel_rfl) rfl rfl rfl (E.call Tryz.call68 (A2 rfl rfl)) (w_impl_with S568.sl v0_1 a0.right (p0_1.mono ((i27.tr i73).tr i569)) v562 [y554.text] (h570.mono upI) hr573) ?_
             rintro e w575 ⟨H574, v580, n581, cs582, rfl, r577, els583⟩
             refine ⟨_, rfl, ?_⟩
             obtain ⟨H578, r577, hU579⟩ := St.lendX i569 S605.sl r577
             have els583 := els583.mono (hU579.tr (up_le S605.size))
             have S576 := S605.join (l' := [.row 9 1 v580 n581 cs582, .row 9 1 v602 1 [Value.string y594.text], .row 9 1 v562 1 [Value.string y554.text], .row 9 1 v62 n63 cs64, .row 9 1 v66 n67 cs69]) r577 rfl
             refine ⟨(SP.nil (Sl.of_inc r577.run.inc S576.sl)), ?_⟩
             obtain ⟨H584, S585, i586, h587, nv588⟩ := S576.sealRowU (i := 3) (l' := [.row 9 1 v580 n581 cs582, .row 9 1 v602 1 [Value.string y594.text], .row 9 1 v562 1 [Value.string y554.text], .row 9 1 v66 n67 cs69]) rfl (els65.mono (up_mono r577.run.inc)) (by decide) rfl
             obtain ⟨H589, S590, i591, h592, nv593⟩ := S585.sealRowU (i := 0) (l' := [.row 9 1 v602 1 [Value.string y594.text], .row 9 1 v562 1 [Value.string y554.text], .row 9 1 v66 n67 cs69]) rfl (els583.mono (up_mono i586)) (by decide) rfl
             refine FB.t (i := 9) (bs 22 458751) rfl (SP.nil (Sl.of_inc r577.run.inc S576.sl)) rfl (fun w' hw' => (E.build (B2 rfl rfl) (run_build _ 68 #[(0, v62), (1, v580)] #[v62, v580] (by obtain ⟨_, _, rfl⟩ := RSl.ln (h587.mono (upI.tr i591)); obtain ⟨_, _, rfl⟩ := RSl.ln (h592.mono upI); rfl)))) ?_
             refine FB.all1 (i := 16) (by kernel_rfl) ?_
             ·
              obtain ⟨H607, S608, i609, h610, nv611⟩ := S590.sealRowU (i := 0) (l' := [.row 9 1 v562 1 [Value.string y554.text], .row 9 1 v66 n67 cs69]) rfl (els606.mono (up_mono ((r577.run.inc.tr i586).tr i591))) (by decide) rfl
              refine FC.call (l' := (bs 22 524287)) rfl (by kernel_rfl) rfl rfl rfl (E.call Tryz.call68 (A2 rfl rfl)) (w_impl_with S608.sl v62 r40 (h587.mono (upI.tr (i591.tr i609))) v602 [y594.text] (h610.mono upI) hr613) ?_
              rintro e w615 ⟨H614, v620, n621, cs622, rfl, r617, els623⟩
              refine ⟨_, rfl, ?_⟩
              obtain ⟨H618, r617, hU619⟩ := St.lendX i609 S590.sl r617
              have els623 := els623.mono (hU619.tr (up_le S590.size))
              have S616 := S590.join (l' := [.row 9 1 v620 n621 cs622, .row 9 1 v602 1 [Value.string y594.text], .row 9 1 v562 1 [Value.string y554.text], .row 9 1 v66 n67 cs69]) r617 rfl
              refine ⟨(SP.nil (Sl.of_inc (((r577.run.inc.tr i586).tr i591).tr r617.run.inc) S616.sl)), ?_⟩
              obtain ⟨H624, S625, i626, h627, nv628⟩ := S616.sealRowU (i := 0) (l' := [.row 9 1 v602 1 [Value.string y594.text], .row 9 1 v562 1 [Value.string y554.text], .row 9 1 v66 n67 cs69]) rfl els623 (by decide) rfl
              refine FB.t (i := 19) (bs 22 1048575) rfl (SP.nil (Sl.of_inc (((r577.run.inc.tr i586).tr i591).tr r617.run.inc) S616.sl)) rfl (fun w' hw' => (E.build (B2 rfl rfl) (run_build _ 68 #[(0, v620), (1, v0_1)] #[v620, v0_1] (by obtain ⟨_, _, rfl⟩ := RSl.ln (h627.mono upI); obtain ⟨_, _, rfl⟩ := RSl.ln (p0_1.mono ((((((i27.tr i73).tr r577.run.inc).tr i586).tr i591).tr r617.run.inc).tr i626)); rfl)))) ?_
              refine FB.all1 (i := 20) (by kernel_rfl) ?_
              ·
               obtain ⟨v629, w630, run631, S632⟩ := S625.buildSlice (P := Tryz.prog) te172 [Value.agg #[v62, v580], Value.agg #[v620, v0_1]] (parts := #[(0, Value.agg #[v62, v580]), (1, Value.agg #[v620, v0_1])]) (cells := [v62, v580, v620, v0_1]) rfl (szs_cons rfl (szs_cons rfl szs_nil)) (fc_cons rfl (fc_cons rfl fc_nil)) (ones_cons h587.one (ones_cons h592.one (ones_cons h627.one (ones_cons p0_1.one ones_nil)))) (Nat.le_of_ble_eq_true rfl)
               have els633 : Els H624 eSequent 2 [v62, v580, v620, v0_1] [(Sequent.mk r40 r572), (Sequent.mk r612 a0.right)] := (Els.snoc (H := H624) (E := eSequent) (k := 2) (c := [v620, v0_1]) (x := (Sequent.mk r612 a0.right)) (Els.snoc (H := H624) (E := eSequent) (k := 2) (c := [v62, v580]) (x := (Sequent.mk r40 r572)) Els.nil rfl ⟨_, _, rfl, (h587.mono (upI.tr ((i591.tr r617.run.inc).tr i626))), (h592.mono (upI.tr (r617.run.inc.tr i626)))⟩) rfl ⟨_, _, rfl, (h627.mono upI), (p0_1.mono ((((((i27.tr i73).tr r577.run.inc).tr i586).tr i591).tr r617.run.inc).tr i626))⟩)
               refine FC.val (l' := (bs 22 2097151)) rfl (by kernel_rfl) rfl rfl rfl (E.buildSlice (B2 rfl rfl) run631) ?_
               refine ⟨(SP.nil (Sl.of_inc ((((r577.run.inc.tr i586).tr i591).tr r617.run.inc).tr i626) S632.sl)), ?_⟩
               refine FB.t (i := 21) (bs 22 4194303) rfl (SP.nil (Sl.of_inc ((((r577.run.inc.tr i586).tr i591).tr r617.run.inc).tr i626) S632.sl)) rfl (fun w' hw' => (E.assign (v := v629) rfl)) ?_
               exact FB.done (by kernel_rfl) ⟨_, _, _, _, (S632.sel [0] (by decide) rfl), ((((r577.run.inc.tr i586).tr i591).tr r617.run.inc).tr i626), els633, rfl⟩
          ·
           obtain ⟨v602, w603, run604, S605⟩ := S553.buildSlice (P := Tryz.prog) te22 [Value.string y594.text] (parts := #[(0, Value.string y594.text)]) (cells := [Value.string y594.text]) rfl (szs_cons rfl szs_nil) (fc_cons rfl fc_nil) (ones_cons rfl ones_nil) (Nat.le_of_ble_eq_true rfl)
           have els606 : Els (up wa.heap.size H71) eS 1 [Value.string y594.text] [y594.text] := (Els.snoc (H := (up wa.heap.size H71)) (E := eS) (k := 1) (c := [Value.string y594.text]) (x := y594.text) Els.nil rfl rfl)
           refine FC.val (l' := (bs 22 457855)) rfl (by kernel_rfl) rfl rfl rfl (E.buildSlice (B1 rfl) run604) ?_
           refine ⟨(SP.nil S605.sl), ?_⟩
           refine FB.all1 (i := 7) (by kernel_rfl) ?_
           ·
            obtain ⟨v562, w563, run564, S565⟩ := S605.buildSlice (P := Tryz.prog) te22 [Value.string y554.text] (parts := #[(0, Value.string y554.text)]) (cells := [Value.string y554.text]) rfl (szs_cons rfl szs_nil) (fc_cons rfl fc_nil) (ones_cons rfl ones_nil) (Nat.le_of_ble_eq_true rfl)
            have els566 : Els (up wa.heap.size H71) eS 1 [Value.string y554.text] [y554.text] := (Els.snoc (H := (up wa.heap.size H71)) (E := eS) (k := 1) (c := [Value.string y554.text]) (x := y554.text) Els.nil rfl rfl)
            refine FC.val (l' := (bs 22 457983)) rfl (by kernel_rfl) rfl rfl rfl (E.buildSlice (B1 rfl) run564) ?_
            refine ⟨(SP.nil S565.sl), ?_⟩
            refine FB.all1 (i := 8) (by kernel_rfl) ?_
            ·
             obtain ⟨H567, S568, i569, h570, nv571⟩ := S565.sealRowU (i := 0) (l' := [.row 9 1 v602 1 [Value.string y594.text], .row 9 1 v62 n63 cs64, .row 9 1 v66 n67 cs69]) rfl els566 (by decide) rfl
             refine FC.call (l' := (bs 22 458239)) rfl (by kernel_rfl) rfl rfl rfl (E.call Tryz.call68 (A2 rfl rfl)) (w_impl_with S568.sl v0_1 a0.right (p0_1.mono ((i27.tr i73).tr i569)) v562 [y554.text] (h570.mono upI) hr573) ?_
             rintro e w575 ⟨H574, v580, n581, cs582, rfl, r577, els583⟩
             refine ⟨_, rfl, ?_⟩
             obtain ⟨H578, r577, hU579⟩ := St.lendX i569 S565.sl r577
             have els583 := els583.mono (hU579.tr (up_le S565.size))
             have S576 := S565.join (l' := [.row 9 1 v580 n581 cs582, .row 9 1 v562 1 [Value.string y554.text], .row 9 1 v602 1 [Value.string y594.text], .row 9 1 v62 n63 cs64, .row 9 1 v66 n67 cs69]) r577 rfl
             refine ⟨(SP.nil (Sl.of_inc r577.run.inc S576.sl)), ?_⟩
             obtain ⟨H584, S585, i586, h587, nv588⟩ := S576.sealRowU (i := 3) (l' := [.row 9 1 v580 n581 cs582, .row 9 1 v562 1 [Value.string y554.text], .row 9 1 v602 1 [Value.string y594.text], .row 9 1 v66 n67 cs69]) rfl (els65.mono (up_mono r577.run.inc)) (by decide) rfl
             obtain ⟨H589, S590, i591, h592, nv593⟩ := S585.sealRowU (i := 0) (l' := [.row 9 1 v562 1 [Value.string y554.text], .row 9 1 v602 1 [Value.string y594.text], .row 9 1 v66 n67 cs69]) rfl (els583.mono (up_mono i586)) (by decide) rfl
             refine FB.t (i := 9) (bs 22 458751) rfl (SP.nil (Sl.of_inc r577.run.inc S576.sl)) rfl (fun w' hw' => (E.build (B2 rfl rfl) (run_build _ 68 #[(0, v62), (1, v580)] #[v62, v580] (by obtain ⟨_, _, rfl⟩ := RSl.ln (h587.mono (upI.tr i591)); obtain ⟨_, _, rfl⟩ := RSl.ln (h592.mono upI); rfl)))) ?_
             refine FB.all1 (i := 16) (by kernel_rfl) ?_
             ·
              obtain ⟨H607, S608, i609, h610, nv611⟩ := S590.sealRowU (i := 1) (l' := [.row 9 1 v562 1 [Value.string y554.text], .row 9 1 v66 n67 cs69]) rfl (els606.mono (up_mono ((r577.run.inc.tr i586).tr i591))) (by decide) rfl
              refine FC.call (l' := (bs 22 524287)) rfl (by kernel_rfl) rfl rfl rfl (E.call Tryz.call68 (A2 rfl rfl)) (w_impl_with S608.sl v62 r40 (h587.mono (upI.tr (i591.tr i609))) v602 [y594.text] (h610.mono upI) hr613) ?_
              rintro e w615 ⟨H614, v620, n621, cs622, rfl, r617, els623⟩
              refine ⟨_, rfl, ?_⟩
              obtain ⟨H618, r617, hU619⟩ := St.lendX i609 S590.sl r617
              have els623 := els623.mono (hU619.tr (up_le S590.size))
              have S616 := S590.join (l' := [.row 9 1 v620 n621 cs622, .row 9 1 v562 1 [Value.string y554.text], .row 9 1 v602 1 [Value.string y594.text], .row 9 1 v66 n67 cs69]) r617 rfl
              refine ⟨(SP.nil (Sl.of_inc (((r577.run.inc.tr i586).tr i591).tr r617.run.inc) S616.sl)), ?_⟩
              obtain ⟨H624, S625, i626, h627, nv628⟩ := S616.sealRowU (i := 0) (l' := [.row 9 1 v562 1 [Value.string y554.text], .row 9 1 v602 1 [Value.string y594.text], .row 9 1 v66 n67 cs69]) rfl els623 (by decide) rfl
              refine FB.t (i := 19) (bs 22 1048575) rfl (SP.nil (Sl.of_inc (((r577.run.inc.tr i586).tr i591).tr r617.run.inc) S616.sl)) rfl (fun w' hw' => (E.build (B2 rfl rfl) (run_build _ 68 #[(0, v620), (1, v0_1)] #[v620, v0_1] (by obtain ⟨_, _, rfl⟩ := RSl.ln (h627.mono upI); obtain ⟨_, _, rfl⟩ := RSl.ln (p0_1.mono ((((((i27.tr i73).tr r577.run.inc).tr i586).tr i591).tr r617.run.inc).tr i626)); rfl)))) ?_
              refine FB.all1 (i := 20) (by kernel_rfl) ?_
              ·
               obtain ⟨v629, w630, run631, S632⟩ := S625.buildSlice (P := Tryz.prog) te172 [Value.agg #[v62, v580], Value.agg #[v620, v0_1]] (parts := #[(0, Value.agg #[v62, v580]), (1, Value.agg #[v620, v0_1])]) (cells := [v62, v580, v620, v0_1]) rfl (szs_cons rfl (szs_cons rfl szs_nil)) (fc_cons rfl (fc_cons rfl fc_nil)) (ones_cons h587.one (ones_cons h592.one (ones_cons h627.one (ones_cons p0_1.one ones_nil)))) (Nat.le_of_ble_eq_true rfl)
               have els633 : Els H624 eSequent 2 [v62, v580, v620, v0_1] [(Sequent.mk r40 r572), (Sequent.mk r612 a0.right)] := (Els.snoc (H := H624) (E := eSequent) (k := 2) (c := [v620, v0_1]) (x := (Sequent.mk r612 a0.right)) (Els.snoc (H := H624) (E := eSequent) (k := 2) (c := [v62, v580]) (x := (Sequent.mk r40 r572)) Els.nil rfl ⟨_, _, rfl, (h587.mono (upI.tr ((i591.tr r617.run.inc).tr i626))), (h592.mono (upI.tr (r617.run.inc.tr i626)))⟩) rfl ⟨_, _, rfl, (h627.mono upI), (p0_1.mono ((((((i27.tr i73).tr r577.run.inc).tr i586).tr i591).tr r617.run.inc).tr i626))⟩)
               refine FC.val (l' := (bs 22 2097151)) rfl (by kernel_rfl) rfl rfl rfl (E.buildSlice (B2 rfl rfl) run631) ?_
               refine ⟨(SP.nil (Sl.of_inc ((((r577.run.inc.tr i586).tr i591).tr r617.run.inc).tr i626) S632.sl)), ?_⟩
               refine FB.t (i := 21) (bs 22 4194303) rfl (SP.nil (Sl.of_inc ((((r577.run.inc.tr i586).tr i591).tr r617.run.inc).tr i626) S632.sl)) rfl (fun w' hw' => (E.assign (v := v629) rfl)) ?_
               exact FB.done (by kernel_rfl) ⟨_, _, _, _, (S632.sel [0] (by decide) rfl), ((((r577.run.inc.tr i586).tr i591).tr r617.run.inc).tr i626), els633, rfl⟩
         ·
          rintro f642 w641 ⟨H638, v634, n635, cs636, S639, i640, els637, k643⟩
          refine FW.ret ?_
          obtain rfl := Option.some.inj hp
          exact ⟨.inr rfl, res1 rfl k643 ⟨_, _, _, _, rfl, S639, els637⟩⟩
        ·
         refine FW.condF rfl c550 ?_
         refine FW.skip (FW.seq ?_)
         obtain ⟨y647, hy648, hp⟩ := bnd hp
         obtain ⟨r665, hr666, hp⟩ := bnd hp
         obtain ⟨y677, hy678, hp⟩ := bnd hp
         obtain ⟨r700, hr701, hp⟩ := bnd hp
         refine FW.drawB (Sl H71) (fun f w => ∃ H : GH, ∃ v729 : Value, ∃ n730 : Nat, ∃ cs731 : List Value, St Ha wa H w [.row 68 2 v729 n730 cs731] ∧ Inc H71 H ∧ Els (up wa.heap.size H) eSequent 2 cs731 [(Sequent.mk r665 r700)] ∧ (bl cs731).Nodup ∧ f 6 = v729) (by kernel_rfl) S90.sl ?_ ?_
         ·
          intro w644 r645
          have S646 := S90.call r645
          refine FB.t (i := 0) (bs 18 1) rfl (SP.nil S646.sl) rfl (fun w' hw' => (E.fieldAddr tf68_0 k78)) ?_
          refine FB.t (i := 1) (bs 18 3) rfl (SP.nil S646.sl) rfl (fun w' hw' => (E.load rfl (run_load1 Tryz.isAgg22 ((at28.mono i73).now hw') rfl))) ?_
          refine FB.t (i := 2) (bs 18 7) rfl (SP.nil S646.sl) rfl (fun w' hw' => (E.move (v := v85) rfl)) ?_
          obtain ⟨q649, v651, v652, rfl, at650, h653, h654⟩ := FAt.open h87 hy648
          refine FB.t (i := 3) (bs 18 15) rfl (SP.nil S646.sl) rfl (fun w' hw' => (E.nilCheck rfl)) ?_
          refine FB.t (i := 4) (bs 18 31) rfl (SP.nil S646.sl) rfl (fun w' hw' => (E.fieldAddr tf109_3 rfl)) ?_
          refine FB.t (i := 5) (bs 18 63) rfl (SP.nil S646.sl) rfl (fun w' hw' => (E.load rfl (run_load1 Tryz.isAgg9 (at650.now hw') rfl))) ?_
          refine FB.t (i := 8) (bs 18 319) rfl (SP.nil S646.sl) rfl (fun w' hw' => (E.move k80)) ?_
          refine FB.t (i := 9) (bs 18 831) rfl (SP.nil S646.sl) rfl (fun w' hw' => (E.move (v := v86) rfl)) ?_
          obtain ⟨q679, v681, v682, rfl, at680, h683, h684⟩ := FAt.open h88 hy678
          refine FB.t (i := 10) (bs 18 1855) rfl (SP.nil S646.sl) rfl (fun w' hw' => (E.nilCheck rfl)) ?_
          refine FB.t (i := 11) (bs 18 3903) rfl (SP.nil S646.sl) rfl (fun w' hw' => (E.fieldAddr tf109_3 rfl)) ?_
          refine FB.t (i := 12) (bs 18 7999) rfl (SP.nil S646.sl) rfl (fun w' hw' => (E.load rfl (run_load1 Tryz.isAgg9 (at680.now hw') rfl))) ?_
          refine FB.all2 (i := 6) (j := 13) (by kernel_rfl) ?_ ?_
          ·
           obtain ⟨v655, w656, run657, S658⟩ := S646.buildSlice (P := Tryz.prog) te22 [Value.string y647.text] (parts := #[(0, Value.string y647.text)]) (cells := [Value.string y647.text]) rfl (szs_cons rfl szs_nil) (fc_cons rfl fc_nil) (ones_cons rfl ones_nil) (Nat.le_of_ble_eq_true rfl)
           have els659 : Els (up wa.heap.size H71) eS 1 [Value.string y647.text] [y647.text] := (Els.snoc (H := (up wa.heap.size H71)) (E := eS) (k := 1) (c := [Value.string y647.text]) (x := y647.text) Els.nil rfl rfl)
           refine FC.val (l' := (bs 18 8063)) rfl (by kernel_rfl) rfl rfl rfl (E.buildSlice (B1 rfl) run657) ?_
           refine ⟨(SP.nil S658.sl), ?_⟩
           refine FB.all2 (i := 7) (j := 13) (by kernel_rfl) ?_ ?_
           ·
            obtain ⟨H660, S661, i662, h663, nv664⟩ := S658.sealRowU (i := 0) (l' := [.row 9 1 v62 n63 cs64, .row 9 1 v66 n67 cs69]) rfl els659 (by decide) rfl
            refine FC.call (l' := (bs 18 8191)) rfl (by kernel_rfl) rfl rfl rfl (E.call Tryz.call68 (A2 rfl rfl)) (w_impl_with S661.sl v0_0 a0.left (p0_0.mono ((i27.tr i73).tr i662)) v655 [y647.text] (h663.mono upI) hr666) ?_
            rintro e w668 ⟨H667, v673, n674, cs675, rfl, r670, els676⟩
            refine ⟨_, rfl, ?_⟩
            obtain ⟨H671, r670, hU672⟩ := St.lendX i662 S658.sl r670
            have els676 := els676.mono (hU672.tr (up_le S658.size))
            have S669 := S658.join (l' := [.row 9 1 v673 n674 cs675, .row 9 1 v655 1 [Value.string y647.text], .row 9 1 v62 n63 cs64, .row 9 1 v66 n67 cs69]) r670 rfl
            refine ⟨(SP.nil (Sl.of_inc r670.run.inc S669.sl)), ?_⟩
            refine FB.all1 (i := 13) (by kernel_rfl) ?_
            ·
             obtain ⟨v685, w686, run687, S688⟩ := S669.buildSlice (P := Tryz.prog) te22 [Value.string y677.text] (parts := #[(0, Value.string y677.text)]) (cells := [Value.string y677.text]) rfl (szs_cons rfl szs_nil) (fc_cons rfl fc_nil) (ones_cons rfl ones_nil) (Nat.le_of_ble_eq_true rfl)
             have els689 : Els (up wa.heap.size H671) eS 1 [Value.string y677.text] [y677.text] := (Els.snoc (H := (up wa.heap.size H671)) (E := eS) (k := 1) (c := [Value.string y677.text]) (x := y677.text) Els.nil rfl rfl)
             refine FC.val (l' := (bs 18 16383)) rfl (by kernel_rfl) rfl rfl rfl (E.buildSlice (B1 rfl) run687) ?_
             refine ⟨(SP.nil (Sl.of_inc r670.run.inc S688.sl)), ?_⟩
             refine FB.all1 (i := 14) (by kernel_rfl) ?_
             ·
              obtain ⟨H690, S691, i692, h693, nv694⟩ := S688.sealRowU (i := 4) (l' := [.row 9 1 v685 1 [Value.string y677.text], .row 9 1 v673 n674 cs675, .row 9 1 v655 1 [Value.string y647.text], .row 9 1 v62 n63 cs64]) rfl (els70.mono (up_mono r670.run.inc)) (by decide) rfl
              obtain ⟨H695, S696, i697, h698, nv699⟩ := S691.sealRowU (i := 0) (l' := [.row 9 1 v673 n674 cs675, .row 9 1 v655 1 [Value.string y647.text], .row 9 1 v62 n63 cs64]) rfl (els689.mono (up_mono i692)) (by decide) rfl
              refine FC.call (l' := (bs 18 32767)) rfl (by kernel_rfl) rfl rfl rfl (E.call Tryz.call68 (A2 rfl rfl)) (w_impl_with S696.sl v66 r50 (h693.mono (upI.tr i697)) v685 [y677.text] (h698.mono upI) hr701) ?_
              rintro e w703 ⟨H702, v708, n709, cs710, rfl, r705, els711⟩
              refine ⟨_, rfl, ?_⟩
              obtain ⟨H706, r705, hU707⟩ := St.lendX (i692.tr i697) S688.sl r705
              have els711 := els711.mono (hU707.tr (up_le S688.size))
              have S704 := S688.join (l' := [.row 9 1 v708 n709 cs710, .row 9 1 v685 1 [Value.string y677.text], .row 9 1 v673 n674 cs675, .row 9 1 v655 1 [Value.string y647.text], .row 9 1 v62 n63 cs64, .row 9 1 v66 n67 cs69]) r705 rfl
              refine ⟨(SP.nil (Sl.of_inc (r670.run.inc.tr r705.run.inc) S704.sl)), ?_⟩
              obtain ⟨H712, S713, i714, h715, nv716⟩ := S704.sealRowU (i := 2) (l' := [.row 9 1 v708 n709 cs710, .row 9 1 v685 1 [Value.string y677.text], .row 9 1 v655 1 [Value.string y647.text], .row 9 1 v62 n63 cs64, .row 9 1 v66 n67 cs69]) rfl (els676.mono (up_mono r705.run.inc)) (by decide) rfl
              obtain ⟨H717, S718, i719, h720, nv721⟩ := S713.sealRowU (i := 0) (l' := [.row 9 1 v685 1 [Value.string y677.text], .row 9 1 v655 1 [Value.string y647.text], .row 9 1 v62 n63 cs64, .row 9 1 v66 n67 cs69]) rfl (els711.mono (up_mono i714)) (by decide) rfl
              refine FB.t (i := 15) (bs 18 65535) rfl (SP.nil (Sl.of_inc (r670.run.inc.tr r705.run.inc) S704.sl)) rfl (fun w' hw' => (E.build (B2 rfl rfl) (run_build _ 68 #[(0, v673), (1, v708)] #[v673, v708] (by obtain ⟨_, _, rfl⟩ := RSl.ln (h715.mono (upI.tr i719)); obtain ⟨_, _, rfl⟩ := RSl.ln (h720.mono upI); rfl)))) ?_
              refine FB.all1 (i := 16) (by kernel_rfl) ?_
              ·
               obtain ⟨v722, w723, run724, S725⟩ := S718.buildSlice (P := Tryz.prog) te172 [Value.agg #[v673, v708]] (parts := #[(0, Value.agg #[v673, v708])]) (cells := [v673, v708]) rfl (szs_cons rfl szs_nil) (fc_cons rfl fc_nil) (ones_cons h715.one (ones_cons h720.one ones_nil)) (Nat.le_of_ble_eq_true rfl)
               have els726 : Els (up wa.heap.size H717) eSequent 2 [v673, v708] [(Sequent.mk r665 r700)] := (Els.snoc (H := (up wa.heap.size H717)) (E := eSequent) (k := 2) (c := [v673, v708]) (x := (Sequent.mk r665 r700)) Els.nil rfl ⟨_, _, rfl, (h715.mono (up_mono i719)), h720⟩)
               have nd727 : (bl [v673, v708]).Nodup := by exact nd_two (New.apart (h715.mono (up_mono (Inc.rfl _))) nv721)
               have nv728 : New H706 [v673, v708] := by exact (New.two nv716 (nv721.anti i714))
               refine FC.val (l' := (bs 18 131071)) rfl (by kernel_rfl) rfl rfl rfl (E.buildSlice (B1 rfl) run724) ?_
               refine ⟨(SP.nil (Sl.of_inc (((r670.run.inc.tr r705.run.inc).tr i714).tr i719) S725.sl)), ?_⟩
               refine FB.t (i := 17) (bs 18 262143) rfl (SP.nil (Sl.of_inc (((r670.run.inc.tr r705.run.inc).tr i714).tr i719) S725.sl)) rfl (fun w' hw' => (E.assign (v := v722) rfl)) ?_
               exact FB.done (by kernel_rfl) ⟨_, _, _, _, (S725.sel [0] (by decide) rfl), (((r670.run.inc.tr r705.run.inc).tr i714).tr i719), els726, nd727, rfl⟩
           ·
            obtain ⟨v685, w686, run687, S688⟩ := S658.buildSlice (P := Tryz.prog) te22 [Value.string y677.text] (parts := #[(0, Value.string y677.text)]) (cells := [Value.string y677.text]) rfl (szs_cons rfl szs_nil) (fc_cons rfl fc_nil) (ones_cons rfl ones_nil) (Nat.le_of_ble_eq_true rfl)
            have els689 : Els (up wa.heap.size H71) eS 1 [Value.string y677.text] [y677.text] := (Els.snoc (H := (up wa.heap.size H71)) (E := eS) (k := 1) (c := [Value.string y677.text]) (x := y677.text) Els.nil rfl rfl)
            refine FC.val (l' := (bs 18 16255)) rfl (by kernel_rfl) rfl rfl rfl (E.buildSlice (B1 rfl) run687) ?_
            refine ⟨(SP.nil S688.sl), ?_⟩
            refine FB.all1 (i := 7) (by kernel_rfl) ?_
            ·
             obtain ⟨H660, S661, i662, h663, nv664⟩ := S688.sealRowU (i := 1) (l' := [.row 9 1 v685 1 [Value.string y677.text], .row 9 1 v62 n63 cs64, .row 9 1 v66 n67 cs69]) rfl els659 (by decide) rfl
             refine FC.call (l' := (bs 18 16383)) rfl (by kernel_rfl) rfl rfl rfl (E.call Tryz.call68 (A2 rfl rfl)) (w_impl_with S661.sl v0_0 a0.left (p0_0.mono ((i27.tr i73).tr i662)) v655 [y647.text] (h663.mono upI) hr666) ?_
             rintro e w668 ⟨H667, v673, n674, cs675, rfl, r670, els676⟩
             refine ⟨_, rfl, ?_⟩
             obtain ⟨H671, r670, hU672⟩ := St.lendX i662 S688.sl r670
             have els676 := els676.mono (hU672.tr (up_le S688.size))
             have S669 := S688.join (l' := [.row 9 1 v673 n674 cs675, .row 9 1 v685 1 [Value.string y677.text], .row 9 1 v655 1 [Value.string y647.text], .row 9 1 v62 n63 cs64, .row 9 1 v66 n67 cs69]) r670 rfl
             refine ⟨(SP.nil (Sl.of_inc r670.run.inc S669.sl)), ?_⟩
             refine FB.all1 (i := 14) (by kernel_rfl) ?_
             ·
              obtain ⟨H690, S691, i692, h693, nv694⟩ := S669.sealRowU (i := 4) (l' := [.row 9 1 v673 n674 cs675, .row 9 1 v685 1 [Value.string y677.text], .row 9 1 v655 1 [Value.string y647.text], .row 9 1 v62 n63 cs64]) rfl (els70.mono (up_mono r670.run.inc)) (by decide) rfl
              obtain ⟨H695, S696, i697, h698, nv699⟩ := S691.sealRowU (i := 1) (l' := [.row 9 1 v673 n674 cs675, .row 9 1 v655 1 [Value.string y647.text], .row 9 1 v62 n63 cs64]) rfl (els689.mono (up_mono (r670.run.inc.tr i692))) (by decide) rfl
              refine FC.call (l' := (bs 18 32767)) rfl (by kernel_rfl) rfl rfl rfl (E.call Tryz.call68 (A2 rfl rfl)) (w_impl_with S696.sl v66 r50 (h693.mono (upI.tr i697)) v685 [y677.text] (h698.mono upI) hr701) ?_
              rintro e w703 ⟨H702, v708, n709, cs710, rfl, r705, els711⟩
              refine ⟨_, rfl, ?_⟩
              obtain ⟨H706, r705, hU707⟩ := St.lendX (i692.tr i697) S669.sl r705
              have els711 := els711.mono (hU707.tr (up_le S669.size))
              have S704 := S669.join (l' := [.row 9 1 v708 n709 cs710, .row 9 1 v673 n674 cs675, .row 9 1 v685 1 [Value.string y677.text], .row 9 1 v655 1 [Value.string y647.text], .row 9 1 v62 n63 cs64, .row 9 1 v66 n67 cs69]) r705 rfl
              refine ⟨(SP.nil (Sl.of_inc (r670.run.inc.tr r705.run.inc) S704.sl)), ?_⟩
              obtain ⟨H712, S713, i714, h715, nv716⟩ := S704.sealRowU (i := 1) (l' := [.row 9 1 v708 n709 cs710, .row 9 1 v685 1 [Value.string y677.text], .row 9 1 v655 1 [Value.string y647.text], .row 9 1 v62 n63 cs64, .row 9 1 v66 n67 cs69]) rfl (els676.mono (up_mono r705.run.inc)) (by decide) rfl
              obtain ⟨H717, S718, i719, h720, nv721⟩ := S713.sealRowU (i := 0) (l' := [.row 9 1 v685 1 [Value.string y677.text], .row 9 1 v655 1 [Value.string y647.text], .row 9 1 v62 n63 cs64, .row 9 1 v66 n67 cs69]) rfl (els711.mono (up_mono i714)) (by decide) rfl
              refine FB.t (i := 15) (bs 18 65535) rfl (SP.nil (Sl.of_inc (r670.run.inc.tr r705.run.inc) S704.sl)) rfl (fun w' hw' => (E.build (B2 rfl rfl) (run_build _ 68 #[(0, v673), (1, v708)] #[v673, v708] (by obtain ⟨_, _, rfl⟩ := RSl.ln (h715.mono (upI.tr i719)); obtain ⟨_, _, rfl⟩ := RSl.ln (h720.mono upI); rfl)))) ?_
              refine FB.all1 (i := 16) (by kernel_rfl) ?_
              ·
               obtain ⟨v722, w723, run724, S725⟩ := S718.buildSlice (P := Tryz.prog) te172 [Value.agg #[v673, v708]] (parts := #[(0, Value.agg #[v673, v708])]) (cells := [v673, v708]) rfl (szs_cons rfl szs_nil) (fc_cons rfl fc_nil) (ones_cons h715.one (ones_cons h720.one ones_nil)) (Nat.le_of_ble_eq_true rfl)
               have els726 : Els (up wa.heap.size H717) eSequent 2 [v673, v708] [(Sequent.mk r665 r700)] := (Els.snoc (H := (up wa.heap.size H717)) (E := eSequent) (k := 2) (c := [v673, v708]) (x := (Sequent.mk r665 r700)) Els.nil rfl ⟨_, _, rfl, (h715.mono (up_mono i719)), h720⟩)
               have nd727 : (bl [v673, v708]).Nodup := by exact nd_two (New.apart (h715.mono (up_mono (Inc.rfl _))) nv721)
               have nv728 : New H706 [v673, v708] := by exact (New.two nv716 (nv721.anti i714))
               refine FC.val (l' := (bs 18 131071)) rfl (by kernel_rfl) rfl rfl rfl (E.buildSlice (B1 rfl) run724) ?_
               refine ⟨(SP.nil (Sl.of_inc (((r670.run.inc.tr r705.run.inc).tr i714).tr i719) S725.sl)), ?_⟩
               refine FB.t (i := 17) (bs 18 262143) rfl (SP.nil (Sl.of_inc (((r670.run.inc.tr r705.run.inc).tr i714).tr i719) S725.sl)) rfl (fun w' hw' => (E.assign (v := v722) rfl)) ?_
               exact FB.done (by kernel_rfl) ⟨_, _, _, _, (S725.sel [0] (by decide) rfl), (((r670.run.inc.tr r705.run.inc).tr i714).tr i719), els726, nd727, rfl⟩
          ·
           obtain ⟨v685, w686, run687, S688⟩ := S646.buildSlice (P := Tryz.prog) te22 [Value.string y677.text] (parts := #[(0, Value.string y677.text)]) (cells := [Value.string y677.text]) rfl (szs_cons rfl szs_nil) (fc_cons rfl fc_nil) (ones_cons rfl ones_nil) (Nat.le_of_ble_eq_true rfl)
           have els689 : Els (up wa.heap.size H71) eS 1 [Value.string y677.text] [y677.text] := (Els.snoc (H := (up wa.heap.size H71)) (E := eS) (k := 1) (c := [Value.string y677.text]) (x := y677.text) Els.nil rfl rfl)
           refine FC.val (l' := (bs 18 16191)) rfl (by kernel_rfl) rfl rfl rfl (E.buildSlice (B1 rfl) run687) ?_
           refine ⟨(SP.nil S688.sl), ?_⟩
           refine FB.all1 (i := 6) (by kernel_rfl) ?_
           ·
            obtain ⟨v655, w656, run657, S658⟩ := S688.buildSlice (P := Tryz.prog) te22 [Value.string y647.text] (parts := #[(0, Value.string y647.text)]) (cells := [Value.string y647.text]) rfl (szs_cons rfl szs_nil) (fc_cons rfl fc_nil) (ones_cons rfl ones_nil) (Nat.le_of_ble_eq_true rfl)
            have els659 : Els (up wa.heap.size H71) eS 1 [Value.string y647.text] [y647.text] := (Els.snoc (H := (up wa.heap.size H71)) (E := eS) (k := 1) (c := [Value.string y647.text]) (x := y647.text) Els.nil rfl rfl)
            refine FC.val (l' := (bs 18 16255)) rfl (by kernel_rfl) rfl rfl rfl (E.buildSlice (B1 rfl) run657) ?_
            refine ⟨(SP.nil S658.sl), ?_⟩
            refine FB.all1 (i := 7) (by kernel_rfl) ?_
            ·
             obtain ⟨H660, S661, i662, h663, nv664⟩ := S658.sealRowU (i := 0) (l' := [.row 9 1 v685 1 [Value.string y677.text], .row 9 1 v62 n63 cs64, .row 9 1 v66 n67 cs69]) rfl els659 (by decide) rfl
             refine FC.call (l' := (bs 18 16383)) rfl (by kernel_rfl) rfl rfl rfl (E.call Tryz.call68 (A2 rfl rfl)) (w_impl_with S661.sl v0_0 a0.left (p0_0.mono ((i27.tr i73).tr i662)) v655 [y647.text] (h663.mono upI) hr666) ?_
             rintro e w668 ⟨H667, v673, n674, cs675, rfl, r670, els676⟩
             refine ⟨_, rfl, ?_⟩
             obtain ⟨H671, r670, hU672⟩ := St.lendX i662 S658.sl r670
             have els676 := els676.mono (hU672.tr (up_le S658.size))
             have S669 := S658.join (l' := [.row 9 1 v673 n674 cs675, .row 9 1 v655 1 [Value.string y647.text], .row 9 1 v685 1 [Value.string y677.text], .row 9 1 v62 n63 cs64, .row 9 1 v66 n67 cs69]) r670 rfl
             refine ⟨(SP.nil (Sl.of_inc r670.run.inc S669.sl)), ?_⟩
             refine FB.all1 (i := 14) (by kernel_rfl) ?_
             ·
              obtain ⟨H690, S691, i692, h693, nv694⟩ := S669.sealRowU (i := 4) (l' := [.row 9 1 v673 n674 cs675, .row 9 1 v655 1 [Value.string y647.text], .row 9 1 v685 1 [Value.string y677.text], .row 9 1 v62 n63 cs64]) rfl (els70.mono (up_mono r670.run.inc)) (by decide) rfl
              obtain ⟨H695, S696, i697, h698, nv699⟩ := S691.sealRowU (i := 2) (l' := [.row 9 1 v673 n674 cs675, .row 9 1 v655 1 [Value.string y647.text], .row 9 1 v62 n63 cs64]) rfl (els689.mono (up_mono (r670.run.inc.tr i692))) (by decide) rfl
              refine FC.call (l' := (bs 18 32767)) rfl (by kernel_rfl) rfl rfl rfl (E.call Tryz.call68 (A2 rfl rfl)) (w_impl_with S696.sl v66 r50 (h693.mono (upI.tr i697)) v685 [y677.text] (h698.mono upI) hr701) ?_
              rintro e w703 ⟨H702, v708, n709, cs710, rfl, r705, els711⟩
              refine ⟨_, rfl, ?_⟩
              obtain ⟨H706, r705, hU707⟩ := St.lendX (i692.tr i697) S669.sl r705
              have els711 := els711.mono (hU707.tr (up_le S669.size))
              have S704 := S669.join (l' := [.row 9 1 v708 n709 cs710, .row 9 1 v673 n674 cs675, .row 9 1 v655 1 [Value.string y647.text], .row 9 1 v685 1 [Value.string y677.text], .row 9 1 v62 n63 cs64, .row 9 1 v66 n67 cs69]) r705 rfl
              refine ⟨(SP.nil (Sl.of_inc (r670.run.inc.tr r705.run.inc) S704.sl)), ?_⟩
              obtain ⟨H712, S713, i714, h715, nv716⟩ := S704.sealRowU (i := 1) (l' := [.row 9 1 v708 n709 cs710, .row 9 1 v655 1 [Value.string y647.text], .row 9 1 v685 1 [Value.string y677.text], .row 9 1 v62 n63 cs64, .row 9 1 v66 n67 cs69]) rfl (els676.mono (up_mono r705.run.inc)) (by decide) rfl
              obtain ⟨H717, S718, i719, h720, nv721⟩ := S713.sealRowU (i := 0) (l' := [.row 9 1 v655 1 [Value.string y647.text], .row 9 1 v685 1 [Value.string y677.text], .row 9 1 v62 n63 cs64, .row 9 1 v66 n67 cs69]) rfl (els711.mono (up_mono i714)) (by decide) rfl
              refine FB.t (i := 15) (bs 18 65535) rfl (SP.nil (Sl.of_inc (r670.run.inc.tr r705.run.inc) S704.sl)) rfl (fun w' hw' => (E.build (B2 rfl rfl) (run_build _ 68 #[(0, v673), (1, v708)] #[v673, v708] (by obtain ⟨_, _, rfl⟩ := RSl.ln (h715.mono (upI.tr i719)); obtain ⟨_, _, rfl⟩ := RSl.ln (h720.mono upI); rfl)))) ?_
              refine FB.all1 (i := 16) (by kernel_rfl) ?_
              ·
               obtain ⟨v722, w723, run724, S725⟩ := S718.buildSlice (P := Tryz.prog) te172 [Value.agg #[v673, v708]] (parts := #[(0, Value.agg #[v673, v708])]) (cells := [v673, v708]) rfl (szs_cons rfl szs_nil) (fc_cons rfl fc_nil) (ones_cons h715.one (ones_cons h720.one ones_nil)) (Nat.le_of_ble_eq_true rfl)
               have els726 : Els (up wa.heap.size H717) eSequent 2 [v673, v708] [(Sequent.mk r665 r700)] := (Els.snoc (H := (up wa.heap.size H717)) (E := eSequent) (k := 2) (c := [v673, v708]) (x := (Sequent.mk r665 r700)) Els.nil rfl ⟨_, _, rfl, (h715.mono (up_mono i719)), h720⟩)
               have nd727 : (bl [v673, v708]).Nodup := by exact nd_two (New.apart (h715.mono (up_mono (Inc.rfl _))) nv721)
               have nv728 : New H706 [v673, v708] := by exact (New.two nv716 (nv721.anti i714))
               refine FC.val (l' := (bs 18 131071)) rfl (by kernel_rfl) rfl rfl rfl (E.buildSlice (B1 rfl) run724) ?_
               refine ⟨(SP.nil (Sl.of_inc (((r670.run.inc.tr r705.run.inc).tr i714).tr i719) S725.sl)), ?_⟩
               refine FB.t (i := 17) (bs 18 262143) rfl (SP.nil (Sl.of_inc (((r670.run.inc.tr r705.run.inc).tr i714).tr i719) S725.sl)) rfl (fun w' hw' => (E.assign (v := v722) rfl)) ?_
               exact FB.done (by kernel_rfl) ⟨_, _, _, _, (S725.sel [0] (by decide) rfl), (((r670.run.inc.tr r705.run.inc).tr i714).tr i719), els726, nd727, rfl⟩
         ·
          rintro f738 w737 ⟨H734, v729, n730, cs731, S735, i736, els732, nd733, k739⟩
          refine FW.ret ?_
          obtain rfl := Option.some.inj hp
          exact ⟨.inr rfl, res1 rfl k739 ⟨_, _, _, _, rfl, S735, (els732.mono upI)⟩⟩

set_option maxHeartbeats 4000000 in
theorem w_impl_seqCorrect {Ha : GH} {wa : World} (hs : Sl Ha wa) (v0 : Value) (a0 : List SeqStep) (p0 : RSl Ha eSeqStep 6 v0 a0) (a1 : Int) {r : Bool} (hp : (PF.impl_seqCorrect a0 a1) = some r) :
  Calls Tryz.prog 158 #[v0, Value.int .i64 a1] wa (Sc Ha wa (Value.bool r)) := by
 unfold PF.impl_seqCorrect at hp
 have S0 := St.init hs
 refine calls_go (N := 184) (args := [v0, Value.int .i64 a1]) Tryz.func158 rfl rfl rfl ?_
 refine FW.seq (FW.region ?_)
 obtain ⟨b21, w22, run23, S24⟩ := S0.box (P := Tryz.prog) 24 [v0] (v := v0) p0.cells (ones_cons p0.one ones_nil)
 refine FL.v (E.box rfl run23) ?_
 obtain ⟨H25, S26, i27, at28⟩ := S24.sealBox (i := 0) (l' := []) rfl rfl
 obtain ⟨b29, w30, run31, S32⟩ := S26.box (P := Tryz.prog) 3 [Value.int .i64 a1] (v := Value.int .i64 a1) rfl (ones_cons rfl ones_nil)
 refine FL.v (E.box rfl run31) ?_
 obtain ⟨H33, S34, i35, at36⟩ := S32.sealBox (i := 0) (l' := []) rfl rfl
 refine FL.v (E.assign (v := Value.bool false) rfl) ?_
 refine FL.nil (FW.seq (FW.region ?_))
 refine FL.v (E.load rfl (run_load0 Tryz.isAgg24 ((at28.mono i35).now S34.sl) rfl)) ?_
 refine FL.v (E.load rfl (run_load0 Tryz.isAgg3 (at36.now S34.sl) rfl)) ?_
 obtain ⟨x43, hx44, hp⟩ := bnd hp
 obtain ⟨p37, cs38, pt39, l40, at41, rel42⟩ := p0.at hx44
 obtain ⟨v45, v47, rfl, h46, h48⟩ := eSeqStep_open rel42
 refine FL.v (E.indexAddr te24 rfl rfl pt39) ?_
 refine FL.v (E.load rfl (run_loadA Tryz.isAgg74 Tryz.sizeOf74 ((at41.mono (i27.tr i35)).now S34.sl) rfl)) ?_
 obtain ⟨b49, w50, run51, S52⟩ := S34.alloc (P := Tryz.prog) 74 [Value.slice none 0 0, Value.slice none 0 0, Value.int .i64 0, Value.string ByteArray.empty, Value.int .i64 0, Value.int .i64 0] Tryz.zeroValue74 rfl (ones_cons rfl (ones_cons rfl (ones_cons rfl (ones_cons rfl (ones_cons rfl (ones_cons rfl ones_nil))))))
 refine FL.v (E.alloc run51) ?_
 obtain ⟨w53, run54, S55⟩ := S52.store0 (P := Tryz.prog) (t := 74) (i := 0) (cs' := [v45, v47, Value.int .i64 x43.rule, Value.string x43.main, Value.int .i64 x43.a, Value.int .i64 x43.b]) (l' := [.box b49 74 [v45, v47, Value.int .i64 x43.rule, Value.string x43.main, Value.int .i64 x43.a, Value.int .i64 x43.b]]) (v := Value.agg #[v45, v47, Value.int .i64 x43.rule, Value.string x43.main, Value.int .i64 x43.a, Value.int .i64 x43.b]) (c := [v45, v47, Value.int .i64 x43.rule, Value.string x43.main, Value.int .i64 x43.a, Value.int .i64 x43.b]) rfl Tryz.sizeOf74 rfl rfl (ones_cons h46.one (ones_cons h48.one (ones_cons rfl (ones_cons rfl (ones_cons rfl (ones_cons rfl ones_nil)))))) (Nat.le_of_ble_eq_true rfl) rfl rfl
 refine FL.act rfl rfl (E.store rfl rfl run54) ?_
 obtain ⟨H56, S57, i58, at59⟩ := S55.sealBox (i := 0) (l' := []) rfl rfl
 refine FL.nil (FW.seq (FW.seq (FW.region ?_)))
 refine FL.v (E.fieldAddr tf74_0 rfl) ?_
 refine FL.v (E.load rfl (run_loadA Tryz.isAgg68 Tryz.sizeOf68 ((at59.now S57.sl).sub (j := 0) (n := 2) (c := [v45, v47]) rfl) rfl)) ?_
 obtain ⟨r60, hr61, hp⟩ := bnd hp
 refine FL.call rfl rfl rfl (E.call Tryz.call120 (A1 rfl)) (w_impl_IsSequent S57.sl x43.seq v45 (h46.mono ((i27.tr i35).tr i58)) v47 (h48.mono ((i27.tr i35).tr i58)) hr61) ?_
 rintro e w62 ⟨rfl, r63⟩
 refine ⟨_, rfl, ?_⟩
 have S64 := S57.call r63
 refine FL.v (E.not rfl) ?_
 refine FL.nil ?_
 rcases ifB hp with ⟨c65, hp⟩ | ⟨c65, hp⟩
 ·
  refine FW.condT rfl c65 ?_
  refine FW.seq (FW.region ?_)
  refine FL.v (E.assign (v := Value.bool false) rfl) ?_
  refine FL.nil ?_
  refine FW.ret ?_
  obtain rfl := Option.some.inj hp
  exact ⟨.inr rfl, res1 rfl rfl ⟨rfl, S64.back⟩⟩
 ·
  refine FW.condF rfl c65 ?_
  refine FW.skip (FW.seq (FW.region ?_))
  refine FL.v (E.makeFunc A0 (A2 rfl rfl)) ?_
  refine FL.v (E.assign (v := Value.func (.func 194) #[] #[Value.pointer (some ⟨b29, 0, none⟩), Value.pointer (some ⟨b21, 0, none⟩)]) rfl) ?_
  refine FL.nil (FW.seq (FW.region ?_))
  refine FL.v (E.assign (v := Value.func (.func 195) #[] #[]) rfl) ?_
  refine FL.nil (FW.seq (FW.seq (FW.region ?_)))
  refine FL.v (E.fieldAddr tf74_1 rfl) ?_
  refine FL.v (E.load rfl (run_load1 Tryz.isAgg3 (at59.now S64.sl) rfl)) ?_
  refine FL.v (E.eql rfl rfl) ?_
  refine FL.nil ?_
  rcases ifB hp with ⟨c66, hp⟩ | ⟨c66, hp⟩
  ·
   refine FW.condT rfl c66 ?_
   refine FW.seq (FW.region ?_)
   refine FL.v (E.fieldAddr tf74_2 rfl) ?_
   refine FL.v (E.load rfl (run_load1 Tryz.isAgg9 (at59.now S64.sl) rfl)) ?_
   refine FL.v (E.eqlS rfl rfl) ?_
   refine FL.v (E.move (v := Value.bool (x43.main.toList == (ByteArray.mk #[]).toList)) rfl) ?_
   refine FL.cut 4 (fun f w => ∃ H : GH, St Ha wa H w [] ∧ Inc H56 H ∧ f 5 = Value.pointer (some ⟨b49, 0, none⟩) ∧ f 32 = Value.bool (bif (x43.main.toList == (ByteArray.mk #[]).toList) then (x43.a == 0) else false)) ?_ ?_
   ·
    rcases bcase (x43.main.toList == (ByteArray.mk #[]).toList) with c73 | c73
    ·
     refine FL.val (wF_yes rfl rfl rfl c73) rfl rfl (E.fieldAddr tf74_3 rfl) ?_
     refine FL.val (wF_yes rfl rfl rfl c73) rfl rfl (E.load rfl (run_load1 Tryz.isAgg3 (at59.now S64.sl) rfl)) ?_
     refine FL.val (wF_yes rfl rfl rfl c73) rfl rfl (E.eql rfl rfl) ?_
     refine FL.v (E.pickT rfl c73 rfl) ?_
     exact FL.nil ⟨rfl, _, S64, (Inc.rfl _), rfl, (congrArg Value.bool (bifT c73).symm)⟩
    ·
     refine FL.skip (wF_no rfl rfl rfl c73) rfl ?_
     refine FL.skip (wF_no rfl rfl rfl c73) rfl ?_
     refine FL.skip (wF_no rfl rfl rfl c73) rfl ?_
     refine FL.v (E.pickF rfl c73 rfl) ?_
     exact FL.nil ⟨rfl, _, S64, (Inc.rfl _), rfl, (congrArg Value.bool (bifF c73).symm)⟩
   rintro f72 w71 ⟨H68, S69, i70, k74, k75⟩
   refine FL.v (E.move k75) ?_
   refine FL.cut 4 (fun f w => ∃ H : GH, St Ha wa H w [] ∧ Inc H68 H ∧ f 5 = Value.pointer (some ⟨b49, 0, none⟩) ∧ f 37 = Value.bool (bif (bif (x43.main.toList == (ByteArray.mk #[]).toList) then (x43.a == 0) else false) then (x43.b == 0) else false)) ?_ ?_
   ·
    rcases bcase (bif (x43.main.toList == (ByteArray.mk #[]).toList) then (x43.a == 0) else false) with c82 | c82
    ·
     refine FL.val (wF_yes rfl rfl rfl c82) rfl rfl (E.fieldAddr tf74_4 k74) ?_
     refine FL.val (wF_yes rfl rfl rfl c82) rfl rfl (E.load rfl (run_load1 Tryz.isAgg3 ((at59.mono i70).now S69.sl) rfl)) ?_
     refine FL.val (wF_yes rfl rfl rfl c82) rfl rfl (E.eql rfl rfl) ?_
     refine FL.v (E.pickT rfl c82 rfl) ?_
     exact FL.nil ⟨rfl, _, S69, (Inc.rfl _), k74, (congrArg Value.bool (bifT c82).symm)⟩
    ·
     refine FL.skip (wF_no rfl rfl rfl c82) rfl ?_
     refine FL.skip (wF_no rfl rfl rfl c82) rfl ?_
     refine FL.skip (wF_no rfl rfl rfl c82) rfl ?_
     refine FL.v (E.pickF rfl c82 rfl) ?_
     exact FL.nil ⟨rfl, _, S69, (Inc.rfl _), k74, (congrArg Value.bool (bifF c82).symm)⟩
   rintro f81 w80 ⟨H77, S78, i79, k83, k84⟩
   refine FL.v (E.move k84) ?_
   obtain ⟨t90, hqt90, hp⟩ := bnd hp
   refine FL.cut 4 (fun f w => ∃ H : GH, St Ha wa H w [] ∧ Inc H77 H ∧ f 42 = Value.bool t90) ?_ ?_
   ·
    clear hp; have hp := hqt90; clear hqt90
    rcases ifB hp with ⟨c96, hp⟩ | ⟨c96, hp⟩
    ·
     refine FL.val (wF_yes rfl rfl rfl c96) rfl rfl (E.fieldAddr tf74_0 k83) ?_
     refine FL.val (wF_yes rfl rfl rfl c96) rfl rfl (E.load rfl (run_loadA Tryz.isAgg68 Tryz.sizeOf68 (((at59.mono (i70.tr i79)).now S78.sl).sub (j := 0) (n := 2) (c := [v45, v47]) rfl) rfl)) ?_
     obtain ⟨r97, hr98, hp⟩ := bnd hp
     refine FL.call (wF_yes rfl rfl rfl c96) rfl rfl (E.call Tryz.call154 (A1 rfl)) (w_impl_isSeqAxiom S78.sl x43.seq v45 (h46.mono ((((i27.tr i35).tr i58).tr i70).tr i79)) v47 (h48.mono ((((i27.tr i35).tr i58).tr i70).tr i79)) hr98) ?_
     rintro e w99 ⟨rfl, r100⟩
     refine ⟨_, rfl, ?_⟩
     have S101 := S78.call r100
     obtain rfl := Option.some.inj hp
     refine FL.v (E.pickT rfl c96 rfl) ?_
     exact FL.nil ⟨rfl, _, S101, (Inc.rfl _), rfl⟩
    ·
     refine FL.skip (wF_no rfl rfl rfl c96) rfl ?_
     refine FL.skip (wF_no rfl rfl rfl c96) rfl ?_
     refine FL.skip (wF_no rfl rfl rfl c96) rfl ?_
     obtain rfl := Option.some.inj hp
     refine FL.v (E.pickF rfl c96 rfl) ?_
     exact FL.nil ⟨rfl, _, S78, (Inc.rfl _), rfl⟩
   rintro f95 w94 ⟨H91, S92, i93, k102⟩
   refine FL.v (E.assign k102) ?_
   refine FL.nil ?_
   refine FW.ret ?_
   obtain rfl := Option.some.inj hp
   exact ⟨.inr rfl, res1 rfl rfl ⟨rfl, S92.back⟩⟩
  ·
   refine FW.condF rfl c66 ?_
   refine FW.skip (FW.seq (FW.seq (FW.region ?_)))
   refine FL.v (E.fieldAddr tf74_1 rfl) ?_
   refine FL.v (E.load rfl (run_load1 Tryz.isAgg3 (at59.now S64.sl) rfl)) ?_
   refine FL.v (E.eql rfl rfl) ?_
   refine FL.nil ?_
   rcases ifB hp with ⟨c103, hp⟩ | ⟨c103, hp⟩
   ·
    refine FW.condT rfl c103 ?_
    refine FW.seq (FW.region ?_)
    refine FL.v (E.fieldAddr tf74_2 rfl) ?_
    refine FL.v (E.load rfl (run_load1 Tryz.isAgg9 (at59.now S64.sl) rfl)) ?_
    refine FL.v (E.eqlS rfl rfl) ?_
    refine FL.v (E.move (v := Value.bool (x43.main.toList == (ByteArray.mk #[]).toList)) rfl) ?_
    refine FL.cut 4 (fun f w => ∃ H : GH, St Ha wa H w [] ∧ Inc H56 H ∧ f 5 = Value.pointer (some ⟨b49, 0, none⟩) ∧ f 6 = Value.func (.func 194) #[] #[Value.pointer (some ⟨b29, 0, none⟩), Value.pointer (some ⟨b21, 0, none⟩)] ∧ f 53 = Value.bool (bif (x43.main.toList == (ByteArray.mk #[]).toList) then (x43.b == 0) else false)) ?_ ?_
    ·
     rcases bcase (x43.main.toList == (ByteArray.mk #[]).toList) with c110 | c110
     ·
      refine FL.val (wF_yes rfl rfl rfl c110) rfl rfl (E.fieldAddr tf74_4 rfl) ?_
      refine FL.val (wF_yes rfl rfl rfl c110) rfl rfl (E.load rfl (run_load1 Tryz.isAgg3 (at59.now S64.sl) rfl)) ?_
      refine FL.val (wF_yes rfl rfl rfl c110) rfl rfl (E.eql rfl rfl) ?_
      refine FL.v (E.pickT rfl c110 rfl) ?_
      exact FL.nil ⟨rfl, _, S64, (Inc.rfl _), rfl, rfl, (congrArg Value.bool (bifT c110).symm)⟩
     ·
      refine FL.skip (wF_no rfl rfl rfl c110) rfl ?_
      refine FL.skip (wF_no rfl rfl rfl c110) rfl ?_
      refine FL.skip (wF_no rfl rfl rfl c110) rfl ?_
      refine FL.v (E.pickF rfl c110 rfl) ?_
      exact FL.nil ⟨rfl, _, S64, (Inc.rfl _), rfl, rfl, (congrArg Value.bool (bifF c110).symm)⟩
    rintro f109 w108 ⟨H105, S106, i107, k111, k112, k113⟩
    refine FL.v (E.move k113) ?_
    obtain ⟨t119, hqt119, hp⟩ := bnd hp
    refine FL.cut 6 (fun f w => ∃ H : GH, St Ha wa H w [] ∧ Inc H105 H ∧ f 60 = Value.bool t119) ?_ ?_
    ·
     clear hp; have hp := hqt119; clear hqt119
     rcases ifB hp with ⟨c125, hp⟩ | ⟨c125, hp⟩
     ·
      refine FL.val (wF_yes rfl rfl rfl c125) rfl rfl (E.move k112) ?_
      refine FL.val (wF_yes rfl rfl rfl c125) rfl rfl (E.fieldAddr tf74_3 k111) ?_
      refine FL.val (wF_yes rfl rfl rfl c125) rfl rfl (E.load rfl (run_load1 Tryz.isAgg3 ((at59.mono i107).now S106.sl) rfl)) ?_
      refine FL.val (wF_yes rfl rfl rfl c125) rfl rfl (E.makeFunc A0 (A1 k111)) ?_
      obtain ⟨r126, hr127, hp⟩ := bnd hp
      refine FL.call (wF_yes rfl rfl rfl c125) rfl rfl (E.callV Tryz.call194 rfl (appA (A2 rfl rfl) #[Value.pointer (some ⟨b29, 0, none⟩), Value.pointer (some ⟨b21, 0, none⟩)])) (w_impl_seqCorrect_1 S106.sl x43.a (Value.func (.func 198) #[] #[Value.pointer (some ⟨b49, 0, none⟩)]) (fun x0 => PF.impl_seqCorrect_3 x0 x43) (fun H2 w2 hi2 hs2 x0 y0_0 z0_0 y0_1 z0_1 r hr => ⟨198, #[Value.pointer (some ⟨b49, 0, none⟩)], rfl, Tryz.call198, w_impl_seqCorrect_3 hs2 x0 y0_0 z0_0 y0_1 z0_1 ⟨b49, 0, none⟩ x43 v45 ((h46.mono (((i27.tr i35).tr i58).tr i107)).mono hi2) v47 ((h48.mono (((i27.tr i35).tr i58).tr i107)).mono hi2) ((at59.mono i107).mono hi2) hr⟩) ⟨b29, 0, none⟩ a1 (at36.mono (i58.tr i107)) ⟨b21, 0, none⟩ a0 v0 (p0.mono (((i27.tr i35).tr i58).tr i107)) (at28.mono ((i35.tr i58).tr i107)) hr127) ?_
      rintro e w128 ⟨rfl, r129⟩
      refine ⟨_, rfl, ?_⟩
      have S130 := S106.call r129
      obtain rfl := Option.some.inj hp
      refine FL.v (E.pickT rfl c125 rfl) ?_
      exact FL.nil ⟨rfl, _, S130, (Inc.rfl _), rfl⟩
     ·
      refine FL.skip (wF_no rfl rfl rfl c125) rfl ?_
      refine FL.skip (wF_no rfl rfl rfl c125) rfl ?_
      refine FL.skip (wF_no rfl rfl rfl c125) rfl ?_
      refine FL.skip (wF_no rfl rfl rfl c125) rfl ?_
      refine FL.skip (wF_no rfl rfl rfl c125) rfl ?_
      obtain rfl := Option.some.inj hp
      refine FL.v (E.pickF rfl c125 rfl) ?_
      exact FL.nil ⟨rfl, _, S106, (Inc.rfl _), rfl⟩
    rintro f124 w123 ⟨H120, S121, i122, k131⟩
    refine FL.v (E.assign k131) ?_
    refine FL.nil ?_
    refine FW.ret ?_
    obtain rfl := Option.some.inj hp
    exact ⟨.inr rfl, res1 rfl rfl ⟨rfl, S121.back⟩⟩
   ·
    refine FW.condF rfl c103 ?_
    refine FW.skip (FW.seq (FW.region ?_))
    refine FL.v (E.fieldAddr tf74_2 rfl) ?_
    refine FL.v (E.load rfl (run_load1 Tryz.isAgg9 (at59.now S64.sl) rfl)) ?_
    obtain ⟨r132, hr133, hp⟩ := bnd hp
    refine FL.call rfl rfl rfl (E.call Tryz.call78 (A1 rfl)) (w_impl_parse S64.sl x43.main hr133) ?_
    rintro e w135 ⟨H134, v138, rfl, r137, h139⟩
    refine ⟨_, rfl, ?_⟩
    have S136 := S64.call r137
    refine FL.v (E.move (v := Value.tuple #[v138, Value.bool r132.2]) rfl) ?_
    refine FL.v (E.extract (i := 0) rfl rfl) ?_
    refine FL.v (E.extract (i := 1) rfl rfl) ?_
    refine FL.v (E.assign (v := v138) rfl) ?_
    refine FL.v (E.assign (v := Value.bool r132.2) rfl) ?_
    refine FL.nil (FW.seq (FW.block (FW.seq (FW.region ?_))))
    refine FL.v (E.move (v := Value.bool r132.2) rfl) ?_
    refine FL.v (E.not rfl) ?_
    refine FL.v (E.assign (v := Value.bool (!r132.2)) rfl) ?_
    refine FL.nil ?_
    rcases ifB hp with ⟨c140, hp⟩ | ⟨c140, hp⟩
    ·
     refine FW.condT rfl c140 ?_
     refine FW.seq (FW.region ?_)
     refine FL.v (E.assign (v := Value.bool false) rfl) ?_
     refine FL.nil ?_
     refine FW.ret ?_
     obtain rfl := Option.some.inj hp
     exact ⟨.inr rfl, res1 rfl rfl ⟨rfl, S136.back⟩⟩
    ·
     refine FW.condF rfl c140 ?_
     refine FW.seq (FW.region ?_)
     refine FL.v (E.fieldAddr tf74_1 rfl) ?_
     refine FL.v (E.load rfl (run_load1 Tryz.isAgg3 ((at59.mono r137.inc).now S136.sl) rfl)) ?_
     refine FL.v (E.eql rfl rfl) ?_
     refine FL.v (E.assign (v := Value.bool (x43.rule == 11)) rfl) ?_
     refine FL.nil ?_
     rcases ifB hp with ⟨c141, hp⟩ | ⟨c141, hp⟩
     ·
      refine FW.condT rfl c141 ?_
      refine FW.seq ?_
      obtain ⟨r116, hr117, hp⟩ := bnd hp
      obtain ⟨r165, hr166, hp⟩ := bnd hp
      obtain ⟨t141_35, hqt141_35, hp⟩ := bnd hp
      refine FW.drawB (Sl H134) (fun f w => ∃ H : GH, St Ha wa H w [] ∧ Inc H134 H ∧ f 4 = Value.bool t141_35) (by kernel_rfl) S136.sl ?_ ?_
      ·
       intro w142 r143
       have S144 := S136.call r143
       refine FB.t (i := 0) (bs 37 1) rfl (SP.nil S144.sl) rfl (fun w' hw' => (E.move (v := Value.func (.func 194) #[] #[Value.pointer (some ⟨b29, 0, none⟩), Value.pointer (some ⟨b21, 0, none⟩)]) rfl)) ?_
       refine FB.t (i := 1) (bs 37 3) rfl (SP.nil S144.sl) rfl (fun w' hw' => (E.fieldAddr tf74_3 rfl)) ?_
       refine FB.t (i := 2) (bs 37 7) rfl (SP.nil S144.sl) rfl (fun w' hw' => (E.load rfl (run_load1 Tryz.isAgg3 ((at59.mono r137.inc).now hw') rfl))) ?_
       refine FB.t (i := 3) (bs 37 15) rfl (SP.nil S144.sl) rfl (fun w' hw' => (E.move (v := Value.func (.func 195) #[] #[]) rfl)) ?_
       refine FB.t (i := 4) (bs 37 31) rfl (SP.nil S144.sl) rfl (fun w' hw' => (E.fieldAddr tf74_0 rfl)) ?_
       refine FB.t (i := 5) (bs 37 63) rfl (SP.nil S144.sl) rfl (fun w' hw' => (E.fieldAddrN tf68_0 rfl rfl)) ?_
       refine FB.t (i := 6) (bs 37 127) rfl (SP.nil S144.sl) rfl (fun w' hw' => (E.load rfl (run_load1 Tryz.isAgg22 ((at59.mono r137.inc).now hw') rfl))) ?_
       refine FB.t (i := 7) (bs 37 255) rfl (SP.nil S144.sl) rfl (fun w' hw' => (E.fieldAddr tf74_0 rfl)) ?_
       refine FB.t (i := 8) (bs 37 511) rfl (SP.nil S144.sl) rfl (fun w' hw' => (E.fieldAddrN tf68_1 rfl rfl)) ?_
       refine FB.t (i := 9) (bs 37 1023) rfl (SP.nil S144.sl) rfl (fun w' hw' => (E.load rfl (run_load1 Tryz.isAgg22 ((at59.mono r137.inc).now hw') rfl))) ?_
       refine FB.t (i := 10) (bs 37 2047) rfl (SP.nil S144.sl) rfl (fun w' hw' => (E.fieldAddr tf74_2 rfl)) ?_
       refine FB.t (i := 11) (bs 37 4095) rfl (SP.nil S144.sl) rfl (fun w' hw' => (E.load rfl (run_load1 Tryz.isAgg9 ((at59.mono r137.inc).now hw') rfl))) ?_
       refine FB.all1 (i := 12) (by kernel_rfl) ?_
       ·
        obtain ⟨v67, w76, run85, S86⟩ := S144.buildSlice (P := Tryz.prog) te22 [Value.string x43.main] (parts := #[(0, Value.string x43.main)]) (cells := [Value.string x43.main]) rfl (szs_cons rfl szs_nil) (fc_cons rfl fc_nil) (ones_cons rfl ones_nil) (Nat.le_of_ble_eq_true rfl)
        have els87 : Els (up wa.heap.size H134) eS 1 [Value.string x43.main] [x43.main] := (Els.snoc (H := (up wa.heap.size H134)) (E := eS) (k := 1) (c := [Value.string x43.main]) (x := x43.main) Els.nil rfl rfl)
        refine FC.val (l' := (bs 37 8191)) rfl (by kernel_rfl) rfl rfl rfl (E.buildSlice (B1 rfl) run85) ?_
        refine ⟨(SP.nil S86.sl), ?_⟩
        refine FB.all1 (i := 13) (by kernel_rfl) ?_
        ·
         obtain ⟨H88, S89, i104, h114, nv115⟩ := S86.sealRowU (i := 0) (l' := []) rfl els87 (by decide) rfl
         refine FC.call (l' := (bs 37 16383)) rfl (by kernel_rfl) rfl rfl rfl (E.call Tryz.call68 (A2 rfl rfl)) (w_impl_with S89.sl v47 x43.seq.right (h48.mono ((((i27.tr i35).tr i58).tr r137.inc).tr i104)) v67 [x43.main] (h114.mono upI) hr117) ?_
         rintro e w145 ⟨H118, v150, n151, cs152, rfl, r147, els153⟩
         refine ⟨_, rfl, ?_⟩
         obtain ⟨H148, r147, hU149⟩ := St.lendX i104 S86.sl r147
         have els153 := els153.mono (hU149.tr (up_le S86.size))
         have S146 := S86.join (l' := [.row 9 1 v150 n151 cs152, .row 9 1 v67 1 [Value.string x43.main]]) r147 rfl
         refine ⟨(SP.nil (Sl.of_inc r147.run.inc S146.sl)), ?_⟩
         obtain ⟨H154, S155, i156, h157, nv158⟩ := S146.sealRowU (i := 0) (l' := [.row 9 1 v67 1 [Value.string x43.main]]) rfl els153 (by decide) rfl
         refine FB.t (i := 14) (bs 37 32767) rfl (SP.nil (Sl.of_inc r147.run.inc S146.sl)) rfl (fun w' hw' => (E.build (B2 rfl rfl) (run_build _ 68 #[(0, v45), (1, v150)] #[v45, v150] (by obtain ⟨_, _, rfl⟩ := RSl.ln (h46.mono (((((i27.tr i35).tr i58).tr r137.inc).tr r147.run.inc).tr i156)); obtain ⟨_, _, rfl⟩ := RSl.ln (h157.mono upI); rfl)))) ?_
         refine FB.all1 (i := 15) (by kernel_rfl) ?_
         ·
          refine FC.call (l' := (bs 37 65535)) rfl (by kernel_rfl) rfl rfl rfl (E.callV Tryz.call195 rfl (appA (A1 rfl) #[])) (w_impl_seqCorrect_2 S155.sl (Sequent.mk x43.seq.left r116) v45 (h46.mono (((((i27.tr i35).tr i58).tr r137.inc).tr r147.run.inc).tr i156)) v150 (h157.mono upI)) ?_
          rintro e w160 ⟨H159, q163, rfl, r162, h164⟩
          refine ⟨_, rfl, ?_⟩
          have S161 := S155.call r162
          refine ⟨(SP.nil (Sl.of_inc ((r147.run.inc.tr i156).tr r162.inc) S161.sl)), ?_⟩
          refine FB.all1 (i := 16) (by kernel_rfl) ?_
          ·
           refine FC.call (l' := (bs 37 131071)) rfl (by kernel_rfl) rfl rfl rfl (E.callV Tryz.call194 rfl (appA (A2 rfl rfl) #[Value.pointer (some ⟨b29, 0, none⟩), Value.pointer (some ⟨b21, 0, none⟩)])) (w_impl_seqCorrect_1 S161.sl x43.a (Value.func (.func 196) #[] #[Value.pointer (some q163)]) (fun x0 => PF.impl_seqCorrect_2_1 x0 (Sequent.mk x43.seq.left r116)) (fun H2 w2 hi2 hs2 x0 y0_0 z0_0 y0_1 z0_1 r hr => ⟨196, #[Value.pointer (some q163)], rfl, Tryz.call196, w_impl_seqCorrect_2_1 hs2 x0 y0_0 z0_0 y0_1 z0_1 q163 (Sequent.mk x43.seq.left r116) v45 ((h46.mono ((((((i27.tr i35).tr i58).tr r137.inc).tr r147.run.inc).tr i156).tr r162.inc)).mono hi2) v150 ((h157.mono (upI.tr r162.inc)).mono hi2) (h164.mono hi2) hr⟩) ⟨b29, 0, none⟩ a1 (at36.mono ((((i58.tr r137.inc).tr r147.run.inc).tr i156).tr r162.inc)) ⟨b21, 0, none⟩ a0 v0 (p0.mono ((((((i27.tr i35).tr i58).tr r137.inc).tr r147.run.inc).tr i156).tr r162.inc)) (at28.mono (((((i35.tr i58).tr r137.inc).tr r147.run.inc).tr i156).tr r162.inc)) hr166) ?_
           rintro e w167 ⟨rfl, r168⟩
           refine ⟨_, rfl, ?_⟩
           have S169 := S161.call r168
           refine ⟨(SP.nil (Sl.of_inc ((r147.run.inc.tr i156).tr r162.inc) S169.sl)), ?_⟩
           refine FB.t (i := 17) (bs 37 262143) rfl (SP.nil (Sl.of_inc ((r147.run.inc.tr i156).tr r162.inc) S169.sl)) rfl (fun w' hw' => (E.move (v := Value.bool r165) rfl)) ?_
           rcases ifB hqt141_35 with ⟨hc141_17, hqt141_35⟩ | ⟨hc141_17, hqt141_35⟩
           ·
            obtain ⟨r181, hr182, hqt141_35⟩ := bnd hqt141_35
            obtain ⟨r204, hr205, hqt141_35⟩ := bnd hqt141_35
            refine FB.t (i := 18) (bs 37 524287) rfl (SP.nil (Sl.of_inc ((r147.run.inc.tr i156).tr r162.inc) S169.sl)) (wF_yes rfl rfl rfl hc141_17) (fun w' hw' => (E.move (v := Value.func (.func 194) #[] #[Value.pointer (some ⟨b29, 0, none⟩), Value.pointer (some ⟨b21, 0, none⟩)]) rfl)) ?_
            refine FB.t (i := 19) (bs 37 1048575) rfl (SP.nil (Sl.of_inc ((r147.run.inc.tr i156).tr r162.inc) S169.sl)) (wF_yes rfl rfl rfl hc141_17) (fun w' hw' => (E.fieldAddr tf74_4 rfl)) ?_
            refine FB.t (i := 20) (bs 37 2097151) rfl (SP.nil (Sl.of_inc ((r147.run.inc.tr i156).tr r162.inc) S169.sl)) (wF_yes rfl rfl rfl hc141_17) (fun w' hw' => (E.load rfl (run_load1 Tryz.isAgg3 ((at59.mono r137.inc).now hw') rfl))) ?_
            refine FB.t (i := 21) (bs 37 4194303) rfl (SP.nil (Sl.of_inc ((r147.run.inc.tr i156).tr r162.inc) S169.sl)) (wF_yes rfl rfl rfl hc141_17) (fun w' hw' => (E.move (v := Value.func (.func 195) #[] #[]) rfl)) ?_
            refine FB.t (i := 22) (bs 37 8388607) rfl (SP.nil (Sl.of_inc ((r147.run.inc.tr i156).tr r162.inc) S169.sl)) (wF_yes rfl rfl rfl hc141_17) (fun w' hw' => (E.fieldAddr tf74_0 rfl)) ?_
            refine FB.t (i := 23) (bs 37 16777215) rfl (SP.nil (Sl.of_inc ((r147.run.inc.tr i156).tr r162.inc) S169.sl)) (wF_yes rfl rfl rfl hc141_17) (fun w' hw' => (E.fieldAddrN tf68_0 rfl rfl)) ?_
            refine FB.t (i := 24) (bs 37 33554431) rfl (SP.nil (Sl.of_inc ((r147.run.inc.tr i156).tr r162.inc) S169.sl)) (wF_yes rfl rfl rfl hc141_17) (fun w' hw' => (E.load rfl (run_load1 Tryz.isAgg22 ((at59.mono r137.inc).now hw') rfl))) ?_
            refine FB.t (i := 25) (bs 37 67108863) rfl (SP.nil (Sl.of_inc ((r147.run.inc.tr i156).tr r162.inc) S169.sl)) (wF_yes rfl rfl rfl hc141_17) (fun w' hw' => (E.fieldAddr tf74_2 rfl)) ?_
            refine FB.t (i := 26) (bs 37 134217727) rfl (SP.nil (Sl.of_inc ((r147.run.inc.tr i156).tr r162.inc) S169.sl)) (wF_yes rfl rfl rfl hc141_17) (fun w' hw' => (E.load rfl (run_load1 Tryz.isAgg9 ((at59.mono r137.inc).now hw') rfl))) ?_
            refine FB.t (i := 29) (bs 37 671088639) rfl (SP.nil (Sl.of_inc ((r147.run.inc.tr i156).tr r162.inc) S169.sl)) (wF_yes rfl rfl rfl hc141_17) (fun w' hw' => (E.fieldAddr tf74_0 rfl)) ?_
            refine FB.t (i := 30) (bs 37 1744830463) rfl (SP.nil (Sl.of_inc ((r147.run.inc.tr i156).tr r162.inc) S169.sl)) (wF_yes rfl rfl rfl hc141_17) (fun w' hw' => (E.fieldAddrN tf68_1 rfl rfl)) ?_
            refine FB.t (i := 31) (bs 37 3892314111) rfl (SP.nil (Sl.of_inc ((r147.run.inc.tr i156).tr r162.inc) S169.sl)) (wF_yes rfl rfl rfl hc141_17) (fun w' hw' => (E.load rfl (run_load1 Tryz.isAgg22 ((at59.mono r137.inc).now hw') rfl))) ?_
            refine FB.all1 (i := 27) (by kernel_rfl) ?_
            ·
             obtain ⟨v170, w171, run173, S174⟩ := S169.buildSlice (P := Tryz.prog) te22 [Value.string x43.main] (parts := #[(0, Value.string x43.main)]) (cells := [Value.string x43.main]) rfl (szs_cons rfl szs_nil) (fc_cons rfl fc_nil) (ones_cons rfl ones_nil) (Nat.le_of_ble_eq_true rfl)
             have els175 : Els (up wa.heap.size H159) eS 1 [Value.string x43.main] [x43.main] := (Els.snoc (H := (up wa.heap.size H159)) (E := eS) (k := 1) (c := [Value.string x43.main]) (x := x43.main) Els.nil rfl rfl)
             refine FC.val (l' := (bs 37 4026531839)) rfl (by kernel_rfl) (wF_yes rfl rfl rfl hc141_17) rfl rfl (E.buildSlice (B1 rfl) run173) ?_
             refine ⟨(SP.nil (Sl.of_inc ((r147.run.inc.tr i156).tr r162.inc) S174.sl)), ?_⟩
             refine FB.all1 (i := 28) (by kernel_rfl) ?_
             ·
              obtain ⟨H176, S177, i178, h179, nv180⟩ := S174.sealRowU (i := 0) (l' := [.row 9 1 v67 1 [Value.string x43.main]]) rfl els175 (by decide) rfl
              refine FC.call (l' := (bs 37 4294967295)) rfl (by kernel_rfl) (wF_yes rfl rfl rfl hc141_17) rfl rfl (E.call Tryz.call68 (A2 rfl rfl)) (w_impl_with S177.sl v45 x43.seq.left (h46.mono (((((((i27.tr i35).tr i58).tr r137.inc).tr r147.run.inc).tr i156).tr r162.inc).tr i178)) v170 [x43.main] (h179.mono upI) hr182) ?_
              rintro e w184 ⟨H183, v189, n190, cs191, rfl, r186, els192⟩
              refine ⟨_, rfl, ?_⟩
              obtain ⟨H187, r186, hU188⟩ := St.lendX i178 S174.sl r186
              have els192 := els192.mono (hU188.tr (up_le S174.size))
              have S185 := S174.join (l' := [.row 9 1 v189 n190 cs191, .row 9 1 v170 1 [Value.string x43.main], .row 9 1 v67 1 [Value.string x43.main]]) r186 rfl
              refine ⟨(SP.nil (Sl.of_inc (((r147.run.inc.tr i156).tr r162.inc).tr r186.run.inc) S185.sl)), ?_⟩
              obtain ⟨H193, S194, i195, h196, nv197⟩ := S185.sealRowU (i := 0) (l' := [.row 9 1 v170 1 [Value.string x43.main], .row 9 1 v67 1 [Value.string x43.main]]) rfl els192 (by decide) rfl
              refine FB.t (i := 32) (bs 37 8589934591) rfl (SP.nil (Sl.of_inc (((r147.run.inc.tr i156).tr r162.inc).tr r186.run.inc) S185.sl)) (wF_yes rfl rfl rfl hc141_17) (fun w' hw' => (E.build (B2 rfl rfl) (run_build _ 68 #[(0, v189), (1, v47)] #[v189, v47] (by obtain ⟨_, _, rfl⟩ := RSl.ln (h196.mono upI); obtain ⟨_, _, rfl⟩ := RSl.ln (h48.mono ((((((((i27.tr i35).tr i58).tr r137.inc).tr r147.run.inc).tr i156).tr r162.inc).tr r186.run.inc).tr i195)); rfl)))) ?_
              refine FB.all1 (i := 33) (by kernel_rfl) ?_
              ·
               refine FC.call (l' := (bs 37 17179869183)) rfl (by kernel_rfl) (wF_yes rfl rfl rfl hc141_17) rfl rfl (E.callV Tryz.call195 rfl (appA (A1 rfl) #[])) (w_impl_seqCorrect_2 S194.sl (Sequent.mk r181 x43.seq.right) v189 (h196.mono upI) v47 (h48.mono ((((((((i27.tr i35).tr i58).tr r137.inc).tr r147.run.inc).tr i156).tr r162.inc).tr r186.run.inc).tr i195))) ?_
               rintro e w199 ⟨H198, q202, rfl, r201, h203⟩
               refine ⟨_, rfl, ?_⟩
               have S200 := S194.call r201
               refine ⟨(SP.nil (Sl.of_inc (((((r147.run.inc.tr i156).tr r162.inc).tr r186.run.inc).tr i195).tr r201.inc) S200.sl)), ?_⟩
               refine FB.all1 (i := 34) (by kernel_rfl) ?_
               ·
                refine FC.call (l' := (bs 37 34359738367)) rfl (by kernel_rfl) (wF_yes rfl rfl rfl hc141_17) rfl rfl (E.callV Tryz.call194 rfl (appA (A2 rfl rfl) #[Value.pointer (some ⟨b29, 0, none⟩), Value.pointer (some ⟨b21, 0, none⟩)])) (w_impl_seqCorrect_1 S200.sl x43.b (Value.func (.func 196) #[] #[Value.pointer (some q202)]) (fun x0 => PF.impl_seqCorrect_2_1 x0 (Sequent.mk r181 x43.seq.right)) (fun H2 w2 hi2 hs2 x0 y0_0 z0_0 y0_1 z0_1 r hr => ⟨196, #[Value.pointer (some q202)], rfl, Tryz.call196, w_impl_seqCorrect_2_1 hs2 x0 y0_0 z0_0 y0_1 z0_1 q202 (Sequent.mk r181 x43.seq.right) v189 ((h196.mono (upI.tr r201.inc)).mono hi2) v47 ((h48.mono (((((((((i27.tr i35).tr i58).tr r137.inc).tr r147.run.inc).tr i156).tr r162.inc).tr r186.run.inc).tr i195).tr r201.inc)).mono hi2) (h203.mono hi2) hr⟩) ⟨b29, 0, none⟩ a1 (at36.mono (((((((i58.tr r137.inc).tr r147.run.inc).tr i156).tr r162.inc).tr r186.run.inc).tr i195).tr r201.inc)) ⟨b21, 0, none⟩ a0 v0 (p0.mono (((((((((i27.tr i35).tr i58).tr r137.inc).tr r147.run.inc).tr i156).tr r162.inc).tr r186.run.inc).tr i195).tr r201.inc)) (at28.mono ((((((((i35.tr i58).tr r137.inc).tr r147.run.inc).tr i156).tr r162.inc).tr r186.run.inc).tr i195).tr r201.inc)) hr205) ?_
                rintro e w206 ⟨rfl, r207⟩
                refine ⟨_, rfl, ?_⟩
                have S208 := S200.call r207
                refine ⟨(SP.nil (Sl.of_inc (((((r147.run.inc.tr i156).tr r162.inc).tr r186.run.inc).tr i195).tr r201.inc) S208.sl)), ?_⟩
                refine FB.t (i := 35) (bs 37 68719476735) rfl (SP.nil (Sl.of_inc (((((r147.run.inc.tr i156).tr r162.inc).tr r186.run.inc).tr i195).tr r201.inc) S208.sl)) rfl (fun w' hw' => (E.asB (E.pickT rfl hc141_17 rfl) (Option.some.inj hqt141_35))) ?_
                refine FB.t (i := 36) (bs 37 137438953471) rfl (SP.nil (Sl.of_inc (((((r147.run.inc.tr i156).tr r162.inc).tr r186.run.inc).tr i195).tr r201.inc) S208.sl)) rfl (fun w' hw' => (E.assign (v := Value.bool t141_35) rfl)) ?_
                exact FB.done (by kernel_rfl) ⟨_, (S208.sel [] (by decide) rfl), (((((r147.run.inc.tr i156).tr r162.inc).tr r186.run.inc).tr i195).tr r201.inc), rfl⟩
           ·
            refine FB.skip (i := 18) (l' := (bs 37 524287)) rfl (by kernel_rfl) (by kernel_rfl) (by kernel_rfl) (by kernel_rfl) (by kernel_rfl) (SP.nil (Sl.of_inc ((r147.run.inc.tr i156).tr r162.inc) S169.sl)) (wF_no rfl rfl rfl hc141_17) rfl rfl ?_
            refine FB.skip (i := 19) (l' := (bs 37 1048575)) rfl (by kernel_rfl) (by kernel_rfl) (by kernel_rfl) (by kernel_rfl) (by kernel_rfl) (SP.nil (Sl.of_inc ((r147.run.inc.tr i156).tr r162.inc) S169.sl)) (wF_no rfl rfl rfl hc141_17) rfl rfl ?_
            refine FB.skip (i := 20) (l' := (bs 37 2097151)) rfl (by kernel_rfl) (by kernel_rfl) (by kernel_rfl) (by kernel_rfl) (by kernel_rfl) (SP.nil (Sl.of_inc ((r147.run.inc.tr i156).tr r162.inc) S169.sl)) (wF_no rfl rfl rfl hc141_17) rfl rfl ?_
            refine FB.skip (i := 21) (l' := (bs 37 4194303)) rfl (by kernel_rfl) (by kernel_rfl) (by kernel_rfl) (by kernel_rfl) (by kernel_rfl) (SP.nil (Sl.of_inc ((r147.run.inc.tr i156).tr r162.inc) S169.sl)) (wF_no rfl rfl rfl hc141_17) rfl rfl ?_
            refine FB.skip (i := 22) (l' := (bs 37 8388607)) rfl (by kernel_rfl) (by kernel_rfl) (by kernel_rfl) (by kernel_rfl) (by kernel_rfl) (SP.nil (Sl.of_inc ((r147.run.inc.tr i156).tr r162.inc) S169.sl)) (wF_no rfl rfl rfl hc141_17) rfl rfl ?_
            refine FB.skip (i := 23) (l' := (bs 37 16777215)) rfl (by kernel_rfl) (by kernel_rfl) (by kernel_rfl) (by kernel_rfl) (by kernel_rfl) (SP.nil (Sl.of_inc ((r147.run.inc.tr i156).tr r162.inc) S169.sl)) (wF_no rfl rfl rfl hc141_17) rfl rfl ?_
            refine FB.skip (i := 24) (l' := (bs 37 33554431)) rfl (by kernel_rfl) (by kernel_rfl) (by kernel_rfl) (by kernel_rfl) (by kernel_rfl) (SP.nil (Sl.of_inc ((r147.run.inc.tr i156).tr r162.inc) S169.sl)) (wF_no rfl rfl rfl hc141_17) rfl rfl ?_
            refine FB.skip (i := 25) (l' := (bs 37 67108863)) rfl (by kernel_rfl) (by kernel_rfl) (by kernel_rfl) (by kernel_rfl) (by kernel_rfl) (SP.nil (Sl.of_inc ((r147.run.inc.tr i156).tr r162.inc) S169.sl)) (wF_no rfl rfl rfl hc141_17) rfl rfl ?_
            refine FB.skip (i := 26) (l' := (bs 37 134217727)) rfl (by kernel_rfl) (by kernel_rfl) (by kernel_rfl) (by kernel_rfl) (by kernel_rfl) (SP.nil (Sl.of_inc ((r147.run.inc.tr i156).tr r162.inc) S169.sl)) (wF_no rfl rfl rfl hc141_17) rfl rfl ?_
            refine FB.skip (i := 27) (l' := (bs 37 268435455)) rfl (by kernel_rfl) (by kernel_rfl) (by kernel_rfl) (by kernel_rfl) (by kernel_rfl) (SP.nil (Sl.of_inc ((r147.run.inc.tr i156).tr r162.inc) S169.sl)) (wF_no rfl rfl rfl hc141_17) rfl rfl ?_
            refine FB.skip (i := 28) (l' := (bs 37 536870911)) rfl (by kernel_rfl) (by kernel_rfl) (by kernel_rfl) (by kernel_rfl) (by kernel_rfl) (SP.nil (Sl.of_inc ((r147.run.inc.tr i156).tr r162.inc) S169.sl)) (wF_no rfl rfl rfl hc141_17) rfl rfl ?_
            refine FB.skip (i := 29) (l' := (bs 37 1073741823)) rfl (by kernel_rfl) (by kernel_rfl) (by kernel_rfl) (by kernel_rfl) (by kernel_rfl) (SP.nil (Sl.of_inc ((r147.run.inc.tr i156).tr r162.inc) S169.sl)) (wF_no rfl rfl rfl hc141_17) rfl rfl ?_
            refine FB.skip (i := 30) (l' := (bs 37 2147483647)) rfl (by kernel_rfl) (by kernel_rfl) (by kernel_rfl) (by kernel_rfl) (by kernel_rfl) (SP.nil (Sl.of_inc ((r147.run.inc.tr i156).tr r162.inc) S169.sl)) (wF_no rfl rfl rfl hc141_17) rfl rfl ?_
            refine FB.skip (i := 31) (l' := (bs 37 4294967295)) rfl (by kernel_rfl) (by kernel_rfl) (by kernel_rfl) (by kernel_rfl) (by kernel_rfl) (SP.nil (Sl.of_inc ((r147.run.inc.tr i156).tr r162.inc) S169.sl)) (wF_no rfl rfl rfl hc141_17) rfl rfl ?_
            refine FB.skip (i := 32) (l' := (bs 37 8589934591)) rfl (by kernel_rfl) (by kernel_rfl) (by kernel_rfl) (by kernel_rfl) (by kernel_rfl) (SP.nil (Sl.of_inc ((r147.run.inc.tr i156).tr r162.inc) S169.sl)) (wF_no rfl rfl rfl hc141_17) rfl rfl ?_
            refine FB.skip (i := 33) (l' := (bs 37 17179869183)) rfl (by kernel_rfl) (by kernel_rfl) (by kernel_rfl) (by kernel_rfl) (by kernel_rfl) (SP.nil (Sl.of_inc ((r147.run.inc.tr i156).tr r162.inc) S169.sl)) (wF_no rfl rfl rfl hc141_17) rfl rfl ?_
            refine FB.skip (i := 34) (l' := (bs 37 34359738367)) rfl (by kernel_rfl) (by kernel_rfl) (by kernel_rfl) (by kernel_rfl) (by kernel_rfl) (SP.nil (Sl.of_inc ((r147.run.inc.tr i156).tr r162.inc) S169.sl)) (wF_no rfl rfl rfl hc141_17) rfl rfl ?_
            refine FB.t (i := 35) (bs 37 68719476735) rfl (SP.nil (Sl.of_inc ((r147.run.inc.tr i156).tr r162.inc) S169.sl)) rfl (fun w' hw' => (E.asB (E.pickF rfl hc141_17 rfl) (Option.some.inj hqt141_35))) ?_
            refine FB.t (i := 36) (bs 37 137438953471) rfl (SP.nil (Sl.of_inc ((r147.run.inc.tr i156).tr r162.inc) S169.sl)) rfl (fun w' hw' => (E.assign (v := Value.bool t141_35) rfl)) ?_
            exact FB.done (by kernel_rfl) ⟨_, (S169.sel [] (by decide) rfl), ((r147.run.inc.tr i156).tr r162.inc), rfl⟩
      ·
       rintro f213 w212 ⟨H209, S210, i211, k214⟩
       refine FW.ret ?_
       obtain rfl := Option.some.inj hp
       exact ⟨.inr rfl, res1 rfl k214 ⟨rfl, S210.back⟩⟩
     ·
      refine FW.condF rfl c141 ?_
      refine FW.skip (FW.seq ?_)
      refine FW.draw (fun w' => Run w135.heap.size H134 w135 H134 w') (by kernel_rfl) (by kernel_rfl) (run_drew S136.sl) ?_
      refine FD.val rfl rfl rfl (fun w' hw' => (E.move (v := v138) rfl)) ?_
      obtain ⟨y215, hy216, hp⟩ := bnd hp
      obtain ⟨q217, v219, v220, rfl, at218, h221, h222⟩ := FAt.open h139 hy216
      refine FD.val rfl rfl rfl (fun w' hw' => (E.nilCheck rfl)) ?_
      refine FD.val rfl rfl rfl (fun w' hw' => (E.fieldAddr tf109_0 rfl)) ?_
      refine FD.val rfl rfl rfl (fun w' hw' => (E.load rfl (run_load1 Tryz.isAgg5 (at218.now (S136.call hw').sl) rfl))) ?_
      refine FD.call rfl rfl rfl (fun w' hw' => (E.call Tryz.call191 (A2 rfl rfl))) (fun w' hw' => Calls.cls hw' (w_impl_ruleFor (S136.call hw').sl y215.op true)) ?_
      refine FD.val rfl rfl rfl (fun w' hw' => (E.fieldAddr tf74_1 rfl)) ?_
      refine FD.val rfl rfl rfl (fun w' hw' => (E.load rfl (run_load1 Tryz.isAgg3 ((at59.mono r137.inc).now (S136.call hw').sl) rfl))) ?_
      refine FD.val rfl rfl rfl (fun w' hw' => (E.eql rfl rfl)) ?_
      refine FD.val rfl rfl rfl (fun w' hw' => (E.move (v := Value.bool ((PF.impl_ruleFor y215.op true) == x43.rule)) rfl)) ?_
      obtain ⟨t223, hqt223, hp⟩ := bnd hp
      refine FD.cut 7 (fun f => f 5 = Value.pointer (some ⟨b49, 0, none⟩) ∧ f 6 = Value.func (.func 194) #[] #[Value.pointer (some ⟨b29, 0, none⟩), Value.pointer (some ⟨b21, 0, none⟩)] ∧ f 7 = Value.func (.func 195) #[] #[] ∧ f 8 = Value.pointer (some q217) ∧ f 125 = Value.bool t223) ?_ ?_
      ·
       clear hp; have hp := hqt223; clear hqt223
       rcases ifB hp with ⟨c225, hp⟩ | ⟨c225, hp⟩
       ·
        refine FD.val (wF_yes rfl rfl rfl c225) rfl rfl (fun w' hw' => (E.fieldAddr tf74_0 rfl)) ?_
        refine FD.val (wF_yes rfl rfl rfl c225) rfl rfl (fun w' hw' => (E.fieldAddrN tf68_0 rfl rfl)) ?_
        refine FD.val (wF_yes rfl rfl rfl c225) rfl rfl (fun w' hw' => (E.load rfl (run_load1 Tryz.isAgg22 ((at59.mono r137.inc).now (S136.call hw').sl) rfl))) ?_
        refine FD.val (wF_yes rfl rfl rfl c225) rfl rfl (fun w' hw' => (E.fieldAddr tf74_2 rfl)) ?_
        refine FD.val (wF_yes rfl rfl rfl c225) rfl rfl (fun w' hw' => (E.load rfl (run_load1 Tryz.isAgg9 ((at59.mono r137.inc).now (S136.call hw').sl) rfl))) ?_
        obtain ⟨r226, hr227, hp⟩ := bnd hp
        refine FD.call (wF_yes rfl rfl rfl c225) rfl rfl (fun w' hw' => (E.call Tryz.call189 (A2 rfl rfl))) (fun w' hw' => Calls.cls hw' (w_slices_Contains_string_string (S136.call hw').sl v45 x43.seq.left (h46.mono (((i27.tr i35).tr i58).tr r137.inc)) x43.main hr227)) ?_
        obtain rfl := Option.some.inj hp
        refine FD.val rfl rfl rfl (fun w' hw' => (E.pickT rfl c225 rfl)) ?_
        exact FD.nil ⟨rfl, rfl, rfl, rfl, rfl⟩
       ·
        refine FD.skip (wF_no rfl rfl rfl c225) rfl ?_
        refine FD.skip (wF_no rfl rfl rfl c225) rfl ?_
        refine FD.skip (wF_no rfl rfl rfl c225) rfl ?_
        refine FD.skip (wF_no rfl rfl rfl c225) rfl ?_
        refine FD.skip (wF_no rfl rfl rfl c225) rfl ?_
        refine FD.skip (wF_no rfl rfl rfl c225) rfl ?_
        obtain rfl := Option.some.inj hp
        refine FD.val rfl rfl rfl (fun w' hw' => (E.pickF rfl c225 rfl)) ?_
        exact FD.nil ⟨rfl, rfl, rfl, rfl, rfl⟩
      rintro f224 ⟨k228, k229, k230, k231, k232⟩
      refine FD.val rfl rfl rfl (fun w' hw' => (E.assign k232)) ?_
      refine FD.nil ?_
      intro w233 r235
      have S234 := S136.call r235
      refine FW.seq ?_
      refine FW.draw (fun w' => Run w233.heap.size H134 w233 H134 w') (by kernel_rfl) (by kernel_rfl) (run_drew S234.sl) ?_
      refine FD.val rfl rfl rfl (fun w' hw' => (E.move k231)) ?_
      refine FD.val rfl rfl rfl (fun w' hw' => (E.nilCheck rfl)) ?_
      refine FD.val rfl rfl rfl (fun w' hw' => (E.fieldAddr tf109_0 rfl)) ?_
      refine FD.val rfl rfl rfl (fun w' hw' => (E.load rfl (run_load1 Tryz.isAgg5 (at218.now (S234.call hw').sl) rfl))) ?_
      refine FD.call rfl rfl rfl (fun w' hw' => (E.call Tryz.call191 (A2 rfl rfl))) (fun w' hw' => Calls.cls hw' (w_impl_ruleFor (S234.call hw').sl y215.op false)) ?_
      refine FD.val rfl rfl rfl (fun w' hw' => (E.fieldAddr tf74_1 k228)) ?_
      refine FD.val rfl rfl rfl (fun w' hw' => (E.load rfl (run_load1 Tryz.isAgg3 ((at59.mono r137.inc).now (S234.call hw').sl) rfl))) ?_
      refine FD.val rfl rfl rfl (fun w' hw' => (E.eql rfl rfl)) ?_
      refine FD.val rfl rfl rfl (fun w' hw' => (E.move (v := Value.bool ((PF.impl_ruleFor y215.op false) == x43.rule)) rfl)) ?_
      obtain ⟨t236, hqt236, hp⟩ := bnd hp
      refine FD.cut 7 (fun f => f 5 = Value.pointer (some ⟨b49, 0, none⟩) ∧ f 6 = Value.func (.func 194) #[] #[Value.pointer (some ⟨b29, 0, none⟩), Value.pointer (some ⟨b21, 0, none⟩)] ∧ f 7 = Value.func (.func 195) #[] #[] ∧ f 8 = Value.pointer (some q217) ∧ f 10 = Value.bool t223 ∧ f 141 = Value.bool t236) ?_ ?_
      ·
       clear hp; have hp := hqt236; clear hqt236
       rcases ifB hp with ⟨c238, hp⟩ | ⟨c238, hp⟩
       ·
        refine FD.val (wF_yes rfl rfl rfl c238) rfl rfl (fun w' hw' => (E.fieldAddr tf74_0 k228)) ?_
        refine FD.val (wF_yes rfl rfl rfl c238) rfl rfl (fun w' hw' => (E.fieldAddrN tf68_1 rfl rfl)) ?_
        refine FD.val (wF_yes rfl rfl rfl c238) rfl rfl (fun w' hw' => (E.load rfl (run_load1 Tryz.isAgg22 ((at59.mono r137.inc).now (S234.call hw').sl) rfl))) ?_
        refine FD.val (wF_yes rfl rfl rfl c238) rfl rfl (fun w' hw' => (E.fieldAddr tf74_2 k228)) ?_
        refine FD.val (wF_yes rfl rfl rfl c238) rfl rfl (fun w' hw' => (E.load rfl (run_load1 Tryz.isAgg9 ((at59.mono r137.inc).now (S234.call hw').sl) rfl))) ?_
        obtain ⟨r239, hr240, hp⟩ := bnd hp
        refine FD.call (wF_yes rfl rfl rfl c238) rfl rfl (fun w' hw' => (E.call Tryz.call189 (A2 rfl rfl))) (fun w' hw' => Calls.cls hw' (w_slices_Contains_string_string (S234.call hw').sl v47 x43.seq.right (h48.mono (((i27.tr i35).tr i58).tr r137.inc)) x43.main hr240)) ?_
        obtain rfl := Option.some.inj hp
        refine FD.val rfl rfl rfl (fun w' hw' => (E.pickT rfl c238 rfl)) ?_
        exact FD.nil ⟨k228, k229, k230, k231, rfl, rfl⟩
       ·
        refine FD.skip (wF_no rfl rfl rfl c238) rfl ?_
        refine FD.skip (wF_no rfl rfl rfl c238) rfl ?_
        refine FD.skip (wF_no rfl rfl rfl c238) rfl ?_
        refine FD.skip (wF_no rfl rfl rfl c238) rfl ?_
        refine FD.skip (wF_no rfl rfl rfl c238) rfl ?_
        refine FD.skip (wF_no rfl rfl rfl c238) rfl ?_
        obtain rfl := Option.some.inj hp
        refine FD.val rfl rfl rfl (fun w' hw' => (E.pickF rfl c238 rfl)) ?_
        exact FD.nil ⟨k228, k229, k230, k231, rfl, rfl⟩
      rintro f237 ⟨k241, k242, k243, k244, k245, k246⟩
      refine FD.val rfl rfl rfl (fun w' hw' => (E.assign k246)) ?_
      refine FD.nil ?_
      intro w247 r249
      have S248 := S234.call r249
      refine FW.seq (FW.seq (FW.region ?_))
      refine FL.v (E.fieldAddr tf74_1 k241) ?_
      refine FL.v (E.load rfl (run_load1 Tryz.isAgg3 ((at59.mono r137.inc).now S248.sl) rfl)) ?_
      refine FL.v (E.eql rfl rfl) ?_
      refine FL.v (E.move (v := Value.bool (x43.rule == 0)) rfl) ?_
      refine FL.cut 7 (fun f w => ∃ H : GH, St Ha wa H w [] ∧ Inc H134 H ∧ f 5 = Value.pointer (some ⟨b49, 0, none⟩) ∧ f 6 = Value.func (.func 194) #[] #[Value.pointer (some ⟨b29, 0, none⟩), Value.pointer (some ⟨b21, 0, none⟩)] ∧ f 7 = Value.func (.func 195) #[] #[] ∧ f 8 = Value.pointer (some q217) ∧ f 152 = Value.bool (bif (x43.rule == 0) then true else (bif (!t223) then (!t236) else false))) ?_ ?_
      ·
       rcases bcase (x43.rule == 0) with c255 | c255
       ·
        refine FL.skip (wF_no rfl rfl rfl c255) rfl ?_
        refine FL.skip (wF_no rfl rfl rfl c255) rfl ?_
        refine FL.skip (wF_no rfl rfl rfl c255) rfl ?_
        refine FL.skip (wF_undef rfl rfl rfl) rfl ?_
        refine FL.skip (wF_undef rfl rfl rfl) rfl ?_
        refine FL.skip (wF_no rfl rfl rfl c255) rfl ?_
        refine FL.v (E.pickT rfl c255 rfl) ?_
        exact FL.nil ⟨rfl, _, S248, (Inc.rfl _), k241, k242, k243, k244, (congrArg Value.bool (bifT c255).symm)⟩
       ·
        refine FL.val (wF_yes rfl rfl rfl c255) rfl rfl (E.move k245) ?_
        refine FL.val (wF_yes rfl rfl rfl c255) rfl rfl (E.not rfl) ?_
        refine FL.val (wF_yes rfl rfl rfl c255) rfl rfl (E.move (v := Value.bool (!t223)) rfl) ?_
        refine FL.cut 3 (fun f w => ∃ H : GH, St Ha wa H w [] ∧ Inc H134 H ∧ f 5 = Value.pointer (some ⟨b49, 0, none⟩) ∧ f 6 = Value.func (.func 194) #[] #[Value.pointer (some ⟨b29, 0, none⟩), Value.pointer (some ⟨b21, 0, none⟩)] ∧ f 7 = Value.func (.func 195) #[] #[] ∧ f 8 = Value.pointer (some q217) ∧ f 145 = Value.bool (x43.rule == 0) ∧ f 151 = Value.bool (bif (!t223) then (!t236) else false)) ?_ ?_
        ·
         rcases bcase (!t223) with c261 | c261
         ·
          refine FL.val (wF_yes rfl rfl rfl c261) rfl rfl (E.move (v := Value.bool t236) rfl) ?_
          refine FL.val (wF_yes rfl rfl rfl c261) rfl rfl (E.not rfl) ?_
          refine FL.val (wF_yes rfl rfl rfl c255) rfl rfl (E.pickT rfl c261 rfl) ?_
          exact FL.nil ⟨rfl, _, S248, (Inc.rfl _), k241, k242, k243, k244, rfl, (congrArg Value.bool (bifT c261).symm)⟩
         ·
          refine FL.skip (wF_no rfl rfl rfl c261) rfl ?_
          refine FL.skip (wF_no rfl rfl rfl c261) rfl ?_
          refine FL.val (wF_yes rfl rfl rfl c255) rfl rfl (E.pickF rfl c261 rfl) ?_
          exact FL.nil ⟨rfl, _, S248, (Inc.rfl _), k241, k242, k243, k244, rfl, (congrArg Value.bool (bifF c261).symm)⟩
        rintro f260 w259 ⟨H256, S257, i258, k262, k263, k264, k265, k266, k267⟩
        refine FL.v (E.pickF k266 c255 k267) ?_
        exact FL.nil ⟨rfl, _, S257, i258, k262, k263, k264, k265, (congrArg Value.bool (bifF c255).symm)⟩
      rintro f254 w253 ⟨H250, S251, i252, k268, k269, k270, k271, k272⟩
      refine FL.nil ?_
      rcases ifB hp with ⟨c273, hp⟩ | ⟨c273, hp⟩
      ·
       refine FW.condT k272 c273 ?_
       refine FW.seq (FW.region ?_)
       refine FL.v (E.assign (v := Value.bool false) rfl) ?_
       refine FL.nil ?_
       refine FW.ret ?_
       obtain rfl := Option.some.inj hp
       exact ⟨.inr rfl, res1 rfl rfl ⟨rfl, S251.back⟩⟩
      ·
       refine FW.condF k272 c273 ?_
       refine FW.skip (FW.seq (FW.region ?_))
       refine FL.v (E.fieldAddr tf74_0 k268) ?_
       refine FL.v (E.load rfl (run_loadA Tryz.isAgg68 Tryz.sizeOf68 (((at59.mono (r137.inc.tr i252)).now S251.sl).sub (j := 0) (n := 2) (c := [v45, v47]) rfl) rfl)) ?_
       refine FL.v (E.fieldAddr tf74_1 k268) ?_
       refine FL.v (E.load rfl (run_load1 Tryz.isAgg3 ((at59.mono (r137.inc.tr i252)).now S251.sl) rfl)) ?_
       refine FL.v (E.move k271) ?_
       obtain ⟨r274, hr275, hp⟩ := bnd hp
       refine FL.call rfl rfl rfl (E.call Tryz.call156 (A3 rfl rfl rfl)) (w_impl_premisesOf S251.sl x43.seq v45 (h46.mono ((((i27.tr i35).tr i58).tr r137.inc).tr i252)) v47 (h48.mono ((((i27.tr i35).tr i58).tr r137.inc).tr i252)) x43.rule (Value.pointer (some q217)) r132.1 (h139.mono i252) hr275) ?_
       rintro e w277 ⟨H276, v280, n281, cs282, rfl, r279, els283⟩
       refine ⟨_, rfl, ?_⟩
       have S278 := S251.join (l' := [.row 68 2 v280 n281 cs282]) r279 rfl
       refine FL.v (E.assign (v := v280) rfl) ?_
       refine FL.nil (FW.seq (FW.seq ?_))
       obtain ⟨x293, hx294, hp⟩ := bnd hp
       obtain ⟨r306, hr307, hp⟩ := bnd hp
       refine FW.drawB (SX Ha wa H276 [.row 68 2 v280 n281 cs282]) (fun f w => ∃ H : GH, St Ha wa H w [.row 68 2 v280 n281 cs282] ∧ Inc H276 H ∧ f 5 = Value.pointer (some ⟨b49, 0, none⟩) ∧ f 6 = Value.func (.func 194) #[] #[Value.pointer (some ⟨b29, 0, none⟩), Value.pointer (some ⟨b21, 0, none⟩)] ∧ f 7 = Value.func (.func 195) #[] #[] ∧ f 12 = v280 ∧ f 168 = Value.bool (!r306)) (by kernel_rfl) S278.sl ?_ ?_
       ·
        intro w284 r285
        have S286 := S278.call r285
        refine FB.t (i := 0) (bs 10 1) rfl (SP.nil ⟨_, S286, (Inc.rfl _)⟩) rfl (fun w' hw' => (E.move k269)) ?_
        refine FB.t (i := 1) (bs 10 3) rfl (SP.nil ⟨_, S286, (Inc.rfl _)⟩) rfl (fun w' hw' => (E.fieldAddr tf74_3 k268)) ?_
        refine FB.t (i := 2) (bs 10 7) rfl (SP.nil ⟨_, S286, (Inc.rfl _)⟩) rfl (fun w' hw' => (E.load rfl (run_load1 Tryz.isAgg3 ((at59.mono ((r137.inc.tr i252).tr r279.run.inc)).now hw'.sl) rfl))) ?_
        refine FB.t (i := 3) (bs 10 15) rfl (SP.nil ⟨_, S286, (Inc.rfl _)⟩) rfl (fun w' hw' => (E.move k270)) ?_
        refine FB.t (i := 4) (bs 10 31) rfl (SP.nil ⟨_, S286, (Inc.rfl _)⟩) rfl (fun w' hw' => (E.move (v := v280) rfl)) ?_
        obtain ⟨p287, cs288, pt289, l290, at291, rel292, hall295⟩ := S286.row_atA (i := 0) rfl els283 (by decide) hx294
        obtain ⟨v296, v298, rfl, h297, h299⟩ := eSequent_open rel292
        refine FB.t (i := 5) (bs 10 63) rfl (SP.nil ⟨_, S286, (Inc.rfl _)⟩) rfl (fun w' hw' => (E.indexAddr te172 rfl rfl pt289)) ?_
        refine FB.t (i := 6) (bs 10 127) rfl (SP.nil ⟨_, S286, (Inc.rfl _)⟩) rfl (fun w' hw' => (E.load rfl (run_loadA Tryz.isAgg68 Tryz.sizeOf68 (hw'.use fun _ st => hall295 _ _ _ 0 st rfl) rfl))) ?_
        refine FB.all1 (i := 7) (by kernel_rfl) ?_
        ·
         refine FC.call (l' := (bs 10 255)) rfl (by kernel_rfl) rfl rfl rfl (E.callV Tryz.call195 rfl (appA (A1 rfl) #[])) (w_impl_seqCorrect_2 S286.sl x293 v296 h297 v298 h299) ?_
         rintro e w301 ⟨H300, q304, rfl, r303, h305⟩
         refine ⟨_, rfl, ?_⟩
         have S302 := S286.call r303
         refine ⟨(SP.nil ⟨_, S302, r303.inc⟩), ?_⟩
         refine FB.all1 (i := 8) (by kernel_rfl) ?_
         ·
          refine FC.call (l' := (bs 10 511)) rfl (by kernel_rfl) rfl rfl rfl (E.callV Tryz.call194 rfl (appA (A2 rfl rfl) #[Value.pointer (some ⟨b29, 0, none⟩), Value.pointer (some ⟨b21, 0, none⟩)])) (w_impl_seqCorrect_1 S302.sl x43.a (Value.func (.func 196) #[] #[Value.pointer (some q304)]) (fun x0 => PF.impl_seqCorrect_2_1 x0 x293) (fun H2 w2 hi2 hs2 x0 y0_0 z0_0 y0_1 z0_1 r hr => ⟨196, #[Value.pointer (some q304)], rfl, Tryz.call196, w_impl_seqCorrect_2_1 hs2 x0 y0_0 z0_0 y0_1 z0_1 q304 x293 v296 ((h297.mono r303.inc).mono hi2) v298 ((h299.mono r303.inc).mono hi2) (h305.mono hi2) hr⟩) ⟨b29, 0, none⟩ a1 (at36.mono ((((i58.tr r137.inc).tr i252).tr r279.run.inc).tr r303.inc)) ⟨b21, 0, none⟩ a0 v0 (p0.mono ((((((i27.tr i35).tr i58).tr r137.inc).tr i252).tr r279.run.inc).tr r303.inc)) (at28.mono (((((i35.tr i58).tr r137.inc).tr i252).tr r279.run.inc).tr r303.inc)) hr307) ?_
          rintro e w308 ⟨rfl, r309⟩
          refine ⟨_, rfl, ?_⟩
          have S310 := S302.call r309
          refine ⟨(SP.nil ⟨_, S310, r303.inc⟩), ?_⟩
          refine FB.t (i := 9) (bs 10 1023) rfl (SP.nil ⟨_, S310, r303.inc⟩) rfl (fun w' hw' => (E.not rfl)) ?_
          exact FB.done (by kernel_rfl) ⟨_, S310, r303.inc, k268, k269, k270, rfl, rfl⟩
       ·
        rintro f315 w314 ⟨H311, S312, i313, k316, k317, k318, k319, k320⟩
        rcases ifB hp with ⟨c321, hp⟩ | ⟨c321, hp⟩
        ·
         refine FW.condT k320 c321 ?_
         refine FW.seq (FW.region ?_)
         refine FL.v (E.assign (v := Value.bool false) rfl) ?_
         refine FL.nil ?_
         refine FW.ret ?_
         obtain rfl := Option.some.inj hp
         exact ⟨.inr rfl, res1 rfl rfl ⟨rfl, S312.back⟩⟩
        ·
         refine FW.condF k320 c321 ?_
         refine FW.skip (FW.seq (FW.seq (FW.region ?_)))
         refine FL.v (E.move k319) ?_
         refine FL.v (E.lenO te172 rfl S312 (i := 0) rfl els283 (by decide)) ?_
         refine FL.v (E.eql rfl rfl) ?_
         refine FL.nil ?_
         rcases ifB hp with ⟨c322, hp⟩ | ⟨c322, hp⟩
         ·
          refine FW.condT rfl c322 ?_
          refine FW.seq (FW.region ?_)
          refine FL.v (E.fieldAddr tf74_4 k316) ?_
          refine FL.v (E.load rfl (run_load1 Tryz.isAgg3 ((at59.mono (((r137.inc.tr i252).tr r279.run.inc).tr i313)).now S312.sl) rfl)) ?_
          refine FL.v (E.eql rfl rfl) ?_
          refine FL.v (E.assign (v := Value.bool (x43.b == 0)) rfl) ?_
          refine FL.nil ?_
          refine FW.ret ?_
          obtain rfl := Option.some.inj hp
          exact ⟨.inr rfl, res1 rfl rfl ⟨rfl, S312.back⟩⟩
         ·
          refine FW.condF rfl c322 ?_
          refine FW.skip (FW.seq ?_)
          obtain ⟨x332, hx333, hp⟩ := bnd hp
          obtain ⟨r345, hr346, hp⟩ := bnd hp
          refine FW.drawB (SX Ha wa H311 [.row 68 2 v280 n281 cs282]) (fun f w => ∃ H : GH, St Ha wa H w [] ∧ Inc H311 H ∧ f 4 = Value.bool r345) (by kernel_rfl) S312.sl ?_ ?_
          ·
           intro w323 r324
           have S325 := S312.call r324
           refine FB.t (i := 0) (bs 10 1) rfl (SP.nil ⟨_, S325, (Inc.rfl _)⟩) rfl (fun w' hw' => (E.move k317)) ?_
           refine FB.t (i := 1) (bs 10 3) rfl (SP.nil ⟨_, S325, (Inc.rfl _)⟩) rfl (fun w' hw' => (E.fieldAddr tf74_4 k316)) ?_
           refine FB.t (i := 2) (bs 10 7) rfl (SP.nil ⟨_, S325, (Inc.rfl _)⟩) rfl (fun w' hw' => (E.load rfl (run_load1 Tryz.isAgg3 ((at59.mono (((r137.inc.tr i252).tr r279.run.inc).tr i313)).now hw'.sl) rfl))) ?_
           refine FB.t (i := 3) (bs 10 15) rfl (SP.nil ⟨_, S325, (Inc.rfl _)⟩) rfl (fun w' hw' => (E.move k318)) ?_
           refine FB.t (i := 4) (bs 10 31) rfl (SP.nil ⟨_, S325, (Inc.rfl _)⟩) rfl (fun w' hw' => (E.move k319)) ?_
           obtain ⟨p326, cs327, pt328, l329, at330, rel331, hall334⟩ := S325.row_atA (i := 0) rfl els283 (by decide) hx333
           obtain ⟨v335, v337, rfl, h336, h338⟩ := eSequent_open rel331
           refine FB.t (i := 5) (bs 10 63) rfl (SP.nil ⟨_, S325, (Inc.rfl _)⟩) rfl (fun w' hw' => (E.indexAddr te172 rfl rfl pt328)) ?_
           refine FB.t (i := 6) (bs 10 127) rfl (SP.nil ⟨_, S325, (Inc.rfl _)⟩) rfl (fun w' hw' => (E.load rfl (run_loadA Tryz.isAgg68 Tryz.sizeOf68 (hw'.use fun _ st => hall334 _ _ _ 0 st rfl) rfl))) ?_
           refine FB.all1 (i := 7) (by kernel_rfl) ?_
           ·
            refine FC.call (l' := (bs 10 255)) rfl (by kernel_rfl) rfl rfl rfl (E.callV Tryz.call195 rfl (appA (A1 rfl) #[])) (w_impl_seqCorrect_2 S325.sl x332 v335 (h336.mono i313) v337 (h338.mono i313)) ?_
            rintro e w340 ⟨H339, q343, rfl, r342, h344⟩
            refine ⟨_, rfl, ?_⟩
            have S341 := S325.call r342
            refine ⟨(SP.nil ⟨_, S341, r342.inc⟩), ?_⟩
            refine FB.all1 (i := 8) (by kernel_rfl) ?_
            ·
             refine FC.call (l' := (bs 10 511)) rfl (by kernel_rfl) rfl rfl rfl (E.callV Tryz.call194 rfl (appA (A2 rfl rfl) #[Value.pointer (some ⟨b29, 0, none⟩), Value.pointer (some ⟨b21, 0, none⟩)])) (w_impl_seqCorrect_1 S341.sl x43.b (Value.func (.func 196) #[] #[Value.pointer (some q343)]) (fun x0 => PF.impl_seqCorrect_2_1 x0 x332) (fun H2 w2 hi2 hs2 x0 y0_0 z0_0 y0_1 z0_1 r hr => ⟨196, #[Value.pointer (some q343)], rfl, Tryz.call196, w_impl_seqCorrect_2_1 hs2 x0 y0_0 z0_0 y0_1 z0_1 q343 x332 v335 ((h336.mono (i313.tr r342.inc)).mono hi2) v337 ((h338.mono (i313.tr r342.inc)).mono hi2) (h344.mono hi2) hr⟩) ⟨b29, 0, none⟩ a1 (at36.mono (((((i58.tr r137.inc).tr i252).tr r279.run.inc).tr i313).tr r342.inc)) ⟨b21, 0, none⟩ a0 v0 (p0.mono (((((((i27.tr i35).tr i58).tr r137.inc).tr i252).tr r279.run.inc).tr i313).tr r342.inc)) (at28.mono ((((((i35.tr i58).tr r137.inc).tr i252).tr r279.run.inc).tr i313).tr r342.inc)) hr346) ?_
             rintro e w347 ⟨rfl, r348⟩
             refine ⟨_, rfl, ?_⟩
             have S349 := S341.call r348
             refine ⟨(SP.nil ⟨_, S349, r342.inc⟩), ?_⟩
             refine FB.t (i := 9) (bs 10 1023) rfl (SP.nil ⟨_, S349, r342.inc⟩) rfl (fun w' hw' => (E.assign (v := Value.bool r345) rfl)) ?_
             exact FB.done (by kernel_rfl) ⟨_, (S349.sel [] (by decide) rfl), r342.inc, rfl⟩
          ·
           rintro f354 w353 ⟨H350, S351, i352, k355⟩
           refine FW.ret ?_
           obtain rfl := Option.some.inj hp
           exact ⟨.inr rfl, res1 rfl k355 ⟨rfl, S351.back⟩⟩

theorem w_impl_firstBadSeq {Ha : GH} {wa : World} (hs : Sl Ha wa) (v0 : Value) (a0 : List SeqStep) (p0 : RSl Ha eSeqStep 6 v0 a0) {r : Int} (hp : (PF.impl_firstBadSeq a0) = some r) :
  Calls Tryz.prog 110 #[v0] wa (Sc Ha wa (Value.int .i64 r)) := by
 unfold PF.impl_firstBadSeq at hp
 have S0 := St.init hs
 refine calls_go (N := 15) (args := [v0]) Tryz.func110 rfl rfl rfl ?_
 refine FW.seq (FW.region ?_)
 refine FL.v (E.assign (v := Value.int .i64 0) rfl) ?_
 refine FL.nil (FW.seq (FW.seq (FW.region ?_)))
 refine FL.v (E.move (v := v0) rfl) ?_
 refine FL.v (E.lenP te24 rfl p0) ?_
 refine FL.v (E.move (v := Value.int .i64 0) rfl) ?_
 refine FL.nil ?_
 obtain ⟨q22, hq, hp⟩ := bndR hp
 refine FW.block ?_
 refine FW.mono (FW.forL (S := Unit) (X := Int) (fun (i22 : Nat) (s22 : Unit) f w => ∃ H : GH, St Ha wa H w [] ∧ Inc Ha H ∧ f 6 = Value.int .i64 ((i22 : Nat) : Int) ∧ f 0 = v0 ∧ f 5 = Value.int .i64 (len a0)) (fun q e f w => match q with | .go s22 => e = Exit.exit 0 ∧ (∃ H : GH, St Ha wa H w [] ∧ Inc Ha H) | .rt x => ((e = Exit.ret) ∧ (fun e f w => (e = Exit.normal ∨ e = Exit.ret) ∧ ∀ a, Fr (δ := []) 15 a f → ∃ v, (results Tryz.f110 a.tmps).run Tryz.prog w = .ok v w ∧ (Sc Ha wa (Value.int .i64 x)) (.returned v) w) e f w)) hq ⟨_, S0, (Inc.rfl _), rfl, rfl, rfl⟩ ?_ ?_) ?_
 ·
  clear hp hq
  rintro i22 y21 s22 f41 w40 ⟨H37, S38, i39, k42, k43, k44⟩ hx22 o51 hp
  refine FW.seq (FW.region ?_)
  refine FL.v (E.lssT k42 k44 (lss_len hx22)) ?_
  refine FL.nil (FW.seq ?_)
  refine FW.condT rfl rfl ?_
  refine FW.skip (FW.seq (FW.block (FW.seq (FW.region ?_))))
  refine FL.v (E.move k42) ?_
  refine FL.v (E.assign (v := Value.int .i64 ((i22 : Nat) : Int)) rfl) ?_
  refine FL.nil (FW.seq (FW.region ?_))
  refine FL.v (E.move k43) ?_
  refine FL.v (E.move (v := Value.int .i64 ((i22 : Nat) : Int)) rfl) ?_
  obtain ⟨r45, hr46, hp⟩ := bnd hp
  refine FL.call rfl rfl rfl (E.call Tryz.call158 (A2 rfl rfl)) (w_impl_seqCorrect S38.sl v0 a0 (p0.mono i39) ((i22 : Nat) : Int) hr46) ?_
  rintro e w47 ⟨rfl, r48⟩
  refine ⟨_, rfl, ?_⟩
  have S49 := S38.call r48
  refine FL.v (E.not rfl) ?_
  refine FL.nil ?_
  rcases ifB hp with ⟨c50, hp⟩ | ⟨c50, hp⟩
  ·
   refine FW.condT rfl c50 ?_
   refine FW.seq (FW.region ?_)
   refine FL.v (E.move (v := Value.int .i64 ((i22 : Nat) : Int)) rfl) ?_
   refine FL.v (E.assign (v := Value.int .i64 ((i22 : Nat) : Int)) rfl) ?_
   refine FL.nil ?_
   refine FW.ret ?_
   obtain rfl := Option.some.inj hp
   exact ⟨nofun, rfl, ⟨.inr rfl, res1 rfl rfl ⟨rfl, S49.back⟩⟩⟩
  ·
   refine FW.condF rfl c50 ?_
   refine FW.skip (FW.region ?_)
   refine FL.v (E.add k42 rfl) ?_
   refine FL.v (E.move (v := Value.int .i64 (wr (((i22 : Nat) : Int) + 1))) rfl) ?_
   refine FL.nil ?_
   obtain rfl := Option.some.inj hp
   exact ⟨rfl, ⟨_, S49, i39, (nat_succ rfl (lt_of_get hx22) (p0.mono i39).le), k43, k44⟩⟩
 ·
  clear hp hq
  rintro s22 f61 w60 ⟨H57, S58, i59, k62, k63, k64⟩
  refine FW.seq (FW.region ?_)
  refine FL.v (E.lss k62 k64) ?_
  refine FL.nil (FW.seq ?_)
  refine FW.condF rfl dlt_len ?_
  refine FW.exit ?_
  exact ⟨nofun, rfl, ⟨_, S58, i59⟩⟩
 ·
  clear hq
  intro e f56 w55 hD
  rcases q22 with s22 | x22
  ·
   obtain ⟨rfl, hD⟩ := hD
   obtain ⟨H52, S53, i54⟩ := hD
   replace hp := el_go hp
   refine FW.seq (FW.region ?_)
   refine FL.v (E.assign (v := Value.int .i64 (-1)) rfl) ?_
   refine FL.nil ?_
   refine FW.ret ?_
   obtain rfl := Option.some.inj hp
   exact ⟨.inr rfl, res1 rfl rfl ⟨rfl, S53.back⟩⟩
  ·
   obtain ⟨he, hL⟩ := hD
   replace hp := el_rt hp
   obtain rfl := Option.some.inj hp
   subst he
   exact hL

theorem w_impl_isSeqProof {Ha : GH} {wa : World} (hs : Sl Ha wa) (v0 : Value) (a0 : List SeqStep) (p0 : RSl Ha eSeqStep 6 v0 a0) {r : Bool} (hp : (PF.impl_isSeqProof a0) = some r) :
  Calls Tryz.prog 62 #[v0] wa (Sc Ha wa (Value.bool r)) := by
 unfold PF.impl_isSeqProof at hp
 have S0 := St.init hs
 refine calls_go (N := 11) (args := [v0]) Tryz.func62 rfl rfl rfl ?_
 refine FW.seq (FW.region ?_)
 refine FL.v (E.assign (v := Value.bool false) rfl) ?_
 refine FL.nil (FW.seq (FW.region ?_))
 refine FL.v (E.move (v := v0) rfl) ?_
 refine FL.v (E.lenP te24 rfl p0) ?_
 refine FL.call rfl rfl rfl (E.call Tryz.call91 (A3 rfl rfl rfl)) (w_impl_within S0.sl (len a0) 1 200) ?_
 rintro e w21 ⟨rfl, r22⟩
 refine ⟨_, rfl, ?_⟩
 have S23 := S0.call r22
 refine FL.v (E.move (v := Value.bool (PF.impl_within (len a0) 1 200)) rfl) ?_
 obtain ⟨t29, hqt29, hp⟩ := bnd hp
 refine FL.cut 4 (fun f w => ∃ H : GH, St Ha wa H w [] ∧ Inc Ha H ∧ f 10 = Value.bool t29) ?_ ?_
 ·
  clear hp; have hp := hqt29; clear hqt29
  rcases ifB hp with ⟨c35, hp⟩ | ⟨c35, hp⟩
  ·
   refine FL.val (wF_yes rfl rfl rfl c35) rfl rfl (E.move (v := v0) rfl) ?_
   obtain ⟨r36, hr37, hp⟩ := bnd hp
   refine FL.call (wF_yes rfl rfl rfl c35) rfl rfl (E.call Tryz.call110 (A1 rfl)) (w_impl_firstBadSeq S23.sl v0 a0 p0 hr37) ?_
   rintro e w38 ⟨rfl, r39⟩
   refine ⟨_, rfl, ?_⟩
   have S40 := S23.call r39
   refine FL.val (wF_yes rfl rfl rfl c35) rfl rfl (E.lss rfl rfl) ?_
   obtain rfl := Option.some.inj hp
   refine FL.v (E.pickT rfl c35 rfl) ?_
   exact FL.nil ⟨rfl, _, S40, (Inc.rfl _), rfl⟩
  ·
   refine FL.skip (wF_no rfl rfl rfl c35) rfl ?_
   refine FL.skip (wF_no rfl rfl rfl c35) rfl ?_
   refine FL.skip (wF_no rfl rfl rfl c35) rfl ?_
   obtain rfl := Option.some.inj hp
   refine FL.v (E.pickF rfl c35 rfl) ?_
   exact FL.nil ⟨rfl, _, S23, (Inc.rfl _), rfl⟩
 rintro f34 w33 ⟨H30, S31, i32, k41⟩
 refine FL.v (E.assign k41) ?_
 refine FL.nil ?_
 refine FW.ret ?_
 obtain rfl := Option.some.inj hp
 exact ⟨.inr rfl, res1 rfl rfl ⟨rfl, S31.back⟩⟩

@[reducible] def p_impl_last_impl_SeqStep (Ha : GH) (wa : World) (r : SeqStep) : Ending → World → Prop :=
 fun e w' => ∃ H' : GH, ∃ v0_0 : Value, ∃ v0_1 : Value, e = .returned (Value.agg #[v0_0, v0_1, Value.int .i64 r.rule, Value.string r.main, Value.int .i64 r.a, Value.int .i64 r.b]) ∧ Run wa.heap.size Ha wa H' w' ∧ RSl H' eS 1 v0_0 r.seq.left ∧ RSl H' eS 1 v0_1 r.seq.right
theorem w_impl_last_impl_SeqStep {Ha : GH} {wa : World} (hs : Sl Ha wa) (v0 : Value) (a0 : List SeqStep) (p0 : RSl Ha eSeqStep 6 v0 a0) {r : SeqStep} (hp : (PF.impl_last_impl_SeqStep a0) = some r) :
  Calls Tryz.prog 66 #[v0] wa (p_impl_last_impl_SeqStep Ha wa r) := by
 unfold PF.impl_last_impl_SeqStep at hp
 have S0 := St.init hs
 refine calls_go (N := 9) (args := [v0]) Tryz.func66 rfl rfl rfl ?_
 refine FW.seq (FW.region ?_)
 obtain ⟨b21, w22, run23, S24⟩ := S0.alloc (P := Tryz.prog) 74 [Value.slice none 0 0, Value.slice none 0 0, Value.int .i64 0, Value.string ByteArray.empty, Value.int .i64 0, Value.int .i64 0] Tryz.zeroValue74 rfl (ones_cons rfl (ones_cons rfl (ones_cons rfl (ones_cons rfl (ones_cons rfl (ones_cons rfl ones_nil))))))
 refine FL.v (E.alloc run23) ?_
 refine FL.nil (FW.seq (FW.region ?_))
 refine FL.v (E.move (v := v0) rfl) ?_
 refine FL.v (E.move (v := v0) rfl) ?_
 refine FL.v (E.lenP te24 rfl p0) ?_
 refine FL.v (E.sub rfl rfl) ?_
 obtain ⟨x31, hx32, hp⟩ := bnd hp
 obtain ⟨p25, cs26, pt27, l28, at29, rel30⟩ := p0.at hx32
 obtain ⟨v33, v35, rfl, h34, h36⟩ := eSeqStep_open rel30
 refine FL.v (E.indexAddr te24 rfl rfl pt27) ?_
 refine FL.v (E.load rfl (run_loadA Tryz.isAgg74 Tryz.sizeOf74 (at29.now S24.sl) rfl)) ?_
 obtain ⟨w37, run38, S39⟩ := S24.store0 (P := Tryz.prog) (t := 74) (i := 0) (cs' := [v33, v35, Value.int .i64 x31.rule, Value.string x31.main, Value.int .i64 x31.a, Value.int .i64 x31.b]) (l' := [.box b21 74 [v33, v35, Value.int .i64 x31.rule, Value.string x31.main, Value.int .i64 x31.a, Value.int .i64 x31.b]]) (v := Value.agg #[v33, v35, Value.int .i64 x31.rule, Value.string x31.main, Value.int .i64 x31.a, Value.int .i64 x31.b]) (c := [v33, v35, Value.int .i64 x31.rule, Value.string x31.main, Value.int .i64 x31.a, Value.int .i64 x31.b]) rfl Tryz.sizeOf74 rfl rfl (ones_cons h34.one (ones_cons h36.one (ones_cons rfl (ones_cons rfl (ones_cons rfl (ones_cons rfl ones_nil)))))) (Nat.le_of_ble_eq_true rfl) rfl rfl
 refine FL.act rfl rfl (E.store rfl rfl run38) ?_
 obtain ⟨H40, S41, i42, at43⟩ := S39.sealBox (i := 0) (l' := []) rfl rfl
 refine FL.nil ?_
 refine FW.ret ?_
 obtain rfl := Option.some.inj hp
 exact ⟨.inr rfl, resC rfl rfl (loadVar_A Tryz.isAgg74 Tryz.sizeOf74 (at43.now S41.sl) rfl) ⟨_, _, _, rfl, S41.run, (h34.mono i42), (h36.mono i42)⟩⟩

@[reducible] def p_impl_Sequent_clone (Ha : GH) (wa : World) (r : Sequent) : Ending → World → Prop :=
 fun e w' => ∃ H' : GH, ∃ v0_0 : Value, ∃ v0_1 : Value, e = .returned (Value.agg #[v0_0, v0_1]) ∧ Run wa.heap.size Ha wa H' w' ∧ (∃ c0 c1, Nest (up wa.heap.size H') eS 1 v0_0 r.left c0 ∧ Nest (up wa.heap.size H') eS 1 v0_1 r.right c1 ∧ Ap v0_0 c0 v0_1 c1)
theorem w_impl_Sequent_clone {Ha : GH} {wa : World} (hs : Sl Ha wa) (a0 : Sequent) (v0_0 : Value) (p0_0 : RSl Ha eS 1 v0_0 a0.left) (v0_1 : Value) (p0_1 : RSl Ha eS 1 v0_1 a0.right) {r : Sequent} (hp : (PF.impl_Sequent_clone a0) = some r) :
  Calls Tryz.prog 114 #[Value.agg #[v0_0, v0_1]] wa (p_impl_Sequent_clone Ha wa r) := by
 unfold PF.impl_Sequent_clone at hp
 have S0 := St.init hs
 refine calls_go (N := 10) (args := [Value.agg #[v0_0, v0_1]]) Tryz.func114 rfl rfl rfl ?_
 refine FW.seq (FW.region ?_)
 obtain ⟨b21, w22, run23, S24⟩ := S0.box (P := Tryz.prog) 68 [v0_0, v0_1] (v := Value.agg #[v0_0, v0_1]) rfl (ones_cons p0_0.one (ones_cons p0_1.one ones_nil))
 refine FL.v (E.box rfl run23) ?_
 obtain ⟨H25, S26, i27, at28⟩ := S24.sealBox (i := 0) (l' := []) rfl rfl
 obtain ⟨b29, w30, run31, S32⟩ := S26.alloc (P := Tryz.prog) 68 [Value.slice none 0 0, Value.slice none 0 0] Tryz.zeroValue68 rfl (ones_cons rfl (ones_cons rfl ones_nil))
 refine FL.v (E.alloc run31) ?_
 refine FL.nil (FW.seq ?_)
 obtain ⟨r36, hr37, hp⟩ := bnd hp
 obtain ⟨r46, hr47, hp⟩ := bnd hp
 refine FW.drawB (Sl H25) (fun f w => ∃ H : GH, ∃ v70 : Value, ∃ v73 : Value, St Ha wa H w [.box b29 68 [v70, v73]] ∧ Inc H25 H ∧ RSl (up wa.heap.size H) eS 1 v70 r36 ∧ RSl (up wa.heap.size H) eS 1 v73 r46 ∧ New H25 [v70] ∧ New H25 [v73] ∧ (∀ b ∈ bl [v70], b ∉ bl [v73]) ∧ f 2 = Value.pointer (some (⟨b29, 0, none⟩ : Addr))) (by kernel_rfl) S32.sl ?_ ?_
 ·
  intro w33 r34
  have S35 := S32.call r34
  refine FB.t (i := 0) (bs 8 1) rfl (SP.nil S35.sl) rfl (fun w' hw' => (E.fieldAddr tf68_0 rfl)) ?_
  refine FB.t (i := 1) (bs 8 3) rfl (SP.nil S35.sl) rfl (fun w' hw' => (E.load rfl (run_load1 Tryz.isAgg22 (at28.now hw') rfl))) ?_
  refine FB.t (i := 3) (bs 8 11) rfl (SP.nil S35.sl) rfl (fun w' hw' => (E.fieldAddr tf68_1 rfl)) ?_
  refine FB.t (i := 4) (bs 8 27) rfl (SP.nil S35.sl) rfl (fun w' hw' => (E.load rfl (run_load1 Tryz.isAgg22 (at28.now hw') rfl))) ?_
  refine FB.all1 (i := 2) (by kernel_rfl) ?_
  ·
   refine FC.call (l' := (bs 8 31)) rfl (by kernel_rfl) rfl rfl rfl (E.call Tryz.call160 (A1 rfl)) (w_slices_Clone_string_string S35.sl v0_0 a0.left (p0_0.mono i27) hr37) ?_
   rintro e w39 ⟨H38, v42, n43, cs44, rfl, r41, els45⟩
   refine ⟨_, rfl, ?_⟩
   have els45 := els45.mono (up_le S35.size)
   have S40 := S35.join (l' := [.row 9 1 v42 n43 cs44, .box b29 68 [Value.slice none 0 0, Value.slice none 0 0]]) r41 rfl
   refine ⟨(SP.nil (Sl.of_inc r41.run.inc S40.sl)), ?_⟩
   refine FB.all1 (i := 5) (by kernel_rfl) ?_
   ·
    refine FC.call (l' := (bs 8 63)) rfl (by kernel_rfl) rfl rfl rfl (E.call Tryz.call160 (A1 rfl)) (w_slices_Clone_string_string S40.sl v0_1 a0.right (p0_1.mono (i27.tr r41.run.inc)) hr47) ?_
    rintro e w49 ⟨H48, v52, n53, cs54, rfl, r51, els55⟩
    refine ⟨_, rfl, ?_⟩
    have els55 := els55.mono (up_le S40.size)
    have S50 := S40.join (l' := [.row 9 1 v52 n53 cs54, .row 9 1 v42 n43 cs44, .box b29 68 [Value.slice none 0 0, Value.slice none 0 0]]) r51 rfl
    refine ⟨(SP.nil (Sl.of_inc (r41.run.inc.tr r51.run.inc) S50.sl)), ?_⟩
    obtain ⟨H56, S57, i58, h59, nv60⟩ := S50.sealRowU (i := 1) (l' := [.row 9 1 v52 n53 cs54, .box b29 68 [Value.slice none 0 0, Value.slice none 0 0]]) rfl (els45.mono (up_mono r51.run.inc)) (by decide) rfl
    obtain ⟨H61, S62, i63, h64, nv65⟩ := S57.sealRowU (i := 0) (l' := [.box b29 68 [Value.slice none 0 0, Value.slice none 0 0]]) rfl (els55.mono (up_mono i58)) (by decide) rfl
    refine FB.t (i := 6) (bs 8 127) rfl (SP.nil (Sl.of_inc (r41.run.inc.tr r51.run.inc) S50.sl)) rfl (fun w' hw' => (E.build (B2 rfl rfl) (run_build _ 68 #[(0, v42), (1, v52)] #[v42, v52] (by obtain ⟨_, _, rfl⟩ := RSl.ln (h59.mono (upI.tr i63)); obtain ⟨_, _, rfl⟩ := RSl.ln (h64.mono upI); rfl)))) ?_
    refine FB.all1 (i := 7) (by kernel_rfl) ?_
    ·
     obtain ⟨w66, run67, S69⟩ := S62.store0 (P := Tryz.prog) (t := 68) (i := 0) (cs' := [v42, v52]) (l' := [.box b29 68 [v42, v52]]) (v := Value.agg #[v42, v52]) (c := [v42, v52]) rfl Tryz.sizeOf68 rfl rfl (ones_cons h59.one (ones_cons h64.one ones_nil)) (Nat.le_of_ble_eq_true rfl) rfl rfl
     refine FC.act (l' := (bs 8 255)) rfl (by kernel_rfl) rfl rfl (E.store rfl rfl run67) ?_
     refine ⟨(SP.nil (Sl.of_inc (((r41.run.inc.tr r51.run.inc).tr i58).tr i63) S69.sl)), ?_⟩
     exact FB.done (by kernel_rfl) ⟨_, _, _, S69, (((r41.run.inc.tr r51.run.inc).tr i58).tr i63), (h59.mono (up_mono i63)), h64, (nv60.anti (r41.run.inc.tr r51.run.inc)), (nv65.anti ((r41.run.inc.tr r51.run.inc).tr i58)), (New.apart (h59.mono (up_mono (Inc.rfl _))) nv65), rfl⟩
 ·
  rintro f81 w80 ⟨H77, v70, v73, S78, i79, h71, h74, nv72, nv75, hd76, k82⟩
  refine FW.ret ?_
  obtain rfl := Option.some.inj hp
  exact ⟨.inr rfl, resC rfl k82 (loadVar_A Tryz.isAgg68 Tryz.sizeOf68 (S78.box_now (i := 0) rfl) rfl) ⟨_, _, _, rfl, S78.run, (Ap.flat2 h71 eS_flat (by decide) h74 eS_flat (by decide) hd76)⟩⟩

@[reducible] def p_impl_mainOf (Ha : GH) (wa : World) (r : (Fo × Int)) : Ending → World → Prop :=
 fun e w' => ∃ H' : GH, ∃ v0 : Value, e = .returned (Value.tuple #[v0, Value.int .i64 r.2]) ∧ Run wa.heap.size Ha wa H' w' ∧ FAt H' v0 r.1
set_option maxHeartbeats 4000000 in
theorem w_impl_mainOf {Ha : GH} {wa : World} (hs : Sl Ha wa) (a0 : Sequent) (v0_0 : Value) (p0_0 : RSl Ha eS 1 v0_0 a0.left) (v0_1 : Value) (p0_1 : RSl Ha eS 1 v0_1 a0.right) {r : (Fo × Int)} (hp : (PF.impl_mainOf a0) = some r) :
  Calls Tryz.prog 155 #[Value.agg #[v0_0, v0_1]] wa (p_impl_mainOf Ha wa r) := by
 unfold PF.impl_mainOf at hp
 have S0 := St.init hs
 refine calls_go (N := 46) (args := [Value.agg #[v0_0, v0_1]]) Tryz.func155 rfl rfl rfl ?_
 refine FW.seq (FW.region ?_)
 obtain ⟨b21, w22, run23, S24⟩ := S0.box (P := Tryz.prog) 68 [v0_0, v0_1] (v := Value.agg #[v0_0, v0_1]) rfl (ones_cons p0_0.one (ones_cons p0_1.one ones_nil))
 refine FL.v (E.box rfl run23) ?_
 obtain ⟨H25, S26, i27, at28⟩ := S24.sealBox (i := 0) (l' := []) rfl rfl
 refine FL.v (E.assign (v := Value.pointer none) rfl) ?_
 refine FL.v (E.assign (v := Value.int .i64 0) rfl) ?_
 refine FL.nil (FW.seq (FW.seq (FW.region ?_)))
 refine FL.v (E.fieldAddr tf68_0 rfl) ?_
 refine FL.v (E.load rfl (run_load1 Tryz.isAgg22 (at28.now S26.sl) rfl)) ?_
 refine FL.v (E.fieldAddr tf68_1 rfl) ?_
 refine FL.v (E.load rfl (run_load1 Tryz.isAgg22 (at28.now S26.sl) rfl)) ?_
 obtain ⟨v29, w30, run31, S32⟩ := S26.buildSlice (P := Tryz.prog) te181 [v0_0, v0_1] (parts := #[(0, v0_0), (1, v0_1)]) (cells := [v0_0, v0_1]) rfl (szs_cons (cells_size p0_0.cells) (szs_cons (cells_size p0_1.cells) szs_nil)) (fc_cons p0_0.cells (fc_cons p0_1.cells fc_nil)) (ones_cons p0_0.one (ones_cons p0_1.one ones_nil)) (Nat.le_of_ble_eq_true rfl)
 have els33 : Els H25 (eL eS 1) 1 [v0_0, v0_1] [a0.left, a0.right] := (Els.snoc (H := H25) (E := (eL eS 1)) (k := 1) (c := [v0_1]) (x := a0.right) (Els.snoc (H := H25) (E := (eL eS 1)) (k := 1) (c := [v0_0]) (x := a0.left) Els.nil rfl ⟨_, rfl, (p0_0.mono i27)⟩) rfl ⟨_, rfl, (p0_1.mono i27)⟩)
 refine FL.v (E.buildSlice (B2 rfl rfl) run31) ?_
 refine FL.v (E.lenO te181 rfl S32 (i := 0) rfl els33 (by decide)) ?_
 refine FL.v (E.move (v := Value.int .i64 0) rfl) ?_
 refine FL.nil ?_
 obtain ⟨m34, hchk35, hp⟩ := bnd hp
 obtain ⟨q35, hq, hp⟩ := bndR hp
 refine FW.block ?_
 refine FW.mono (FW.forR (S := Unit) (X := (Fo × Int)) (fun (i35 : Nat) (s35 : Unit) f w => ∃ H : GH, St Ha wa H w [.row 22 1 v29 2 [v0_0, v0_1]] ∧ Inc H25 H ∧ f 17 = Value.int .i64 ((i35 : Nat) : Int) ∧ f 15 = v29 ∧ f 16 = Value.int .i64 (len [a0.left, a0.right])) (fun q e f w => match q with | .go s35 => e = Exit.exit 0 ∧ (∃ H : GH, St Ha wa H w [.row 22 1 v29 2 [v0_0, v0_1]] ∧ Inc H25 H) | .rt x => ((e = Exit.ret) ∧ (fun e f w => (e = Exit.normal ∨ e = Exit.ret) ∧ ∀ a, Fr (δ := []) 46 a f → ∃ v, (results Tryz.f155 a.tmps).run Tryz.prog w = .ok v w ∧ (p_impl_mainOf Ha wa x) (.returned v) w) e f w)) hq ⟨_, S32, (Inc.rfl _), rfl, rfl, rfl⟩ ?_ ?_) ?_
 ·
  clear hp hq
  rintro i35 s35 f118 w117 ⟨H114, S115, i116, k119, k120, k121⟩ hi35 hj35 o231 hp
  refine FW.seq (FW.region ?_)
  refine FL.v (E.lssT k119 k121 (lss_chk hj35 hchk35)) ?_
  refine FL.nil (FW.seq ?_)
  refine FW.condT rfl rfl ?_
  refine FW.skip (FW.seq (FW.block (FW.seq (FW.region ?_))))
  refine FL.v (E.move k119) ?_
  obtain ⟨x128, hx129, hp⟩ := bnd hp
  obtain ⟨p122, cs123, pt124, l125, at126, rel127⟩ := S115.row_at (i := 0) rfl els33 (by decide) hx129
  obtain ⟨v130, rfl, h131⟩ := eL_open rel127
  refine FL.v (E.indexAddr te181 k120 k119 pt124) ?_
  refine FL.v (E.load rfl (run_load0 Tryz.isAgg22 at126 rfl)) ?_
  refine FL.v (E.assign (v := Value.int .i64 ((i35 : Nat) : Int)) rfl) ?_
  refine FL.v (E.assign (v := v130) rfl) ?_
  refine FL.nil (FW.seq (FW.region ?_))
  refine FL.v (E.move (v := v130) rfl) ?_
  refine FL.v (E.lenP te22 rfl h131) ?_
  refine FL.v (E.move (v := Value.int .i64 0) rfl) ?_
  refine FL.nil ?_
  obtain ⟨q133, hq, hp⟩ := bndR hp
  refine FW.block ?_
  refine FW.mono (FW.forL (S := Unit) (X := (Lp Unit (Fo × Int))) (fun (i133 : Nat) (s133 : Unit) f w => ∃ H : GH, St Ha wa H w [.row 22 1 v29 2 [v0_0, v0_1]] ∧ Inc H114 H ∧ f 24 = Value.int .i64 ((i133 : Nat) : Int) ∧ f 4 = Value.int .i64 ((i35 : Nat) : Int) ∧ f 15 = v29 ∧ f 16 = Value.int .i64 (len [a0.left, a0.right]) ∧ f 17 = Value.int .i64 ((i35 : Nat) : Int) ∧ f 22 = v130 ∧ f 23 = Value.int .i64 (len x128)) (fun q e f w => match q with | .go s133 => e = Exit.exit 2 ∧ (∃ H : GH, St Ha wa H w [.row 22 1 v29 2 [v0_0, v0_1]] ∧ Inc H114 H ∧ f 15 = v29 ∧ f 16 = Value.int .i64 (len [a0.left, a0.right]) ∧ f 17 = Value.int .i64 ((i35 : Nat) : Int)) | .rt x => ((e = Exit.ret) ∧ (Rd ((fun (i35 : Nat) (s35 : Unit) f w => ∃ H : GH, St Ha wa H w [.row 22 1 v29 2 [v0_0, v0_1]] ∧ Inc H25 H ∧ f 17 = Value.int .i64 ((i35 : Nat) : Int) ∧ f 15 = v29 ∧ f 16 = Value.int .i64 (len [a0.left, a0.right])) (i35 + 1)) (fun q e f w => match q with | .go s35 => e = Exit.exit 0 ∧ (∃ H : GH, St Ha wa H w [.row 22 1 v29 2 [v0_0, v0_1]] ∧ Inc H25 H) | .rt x => ((e = Exit.ret) ∧ (fun e f w => (e = Exit.normal ∨ e = Exit.ret) ∧ ∀ a, Fr (δ := []) 46 a f → ∃ v, (results Tryz.f155 a.tmps).run Tryz.prog w = .ok v w ∧ (p_impl_mainOf Ha wa x) (.returned v) w) e f w)) x) e f w)) hq ⟨_, S115, (Inc.rfl _), rfl, rfl, k120, k121, k119, rfl, rfl⟩ ?_ ?_) ?_
  ·
   clear hp hq
   rintro i133 y132 s133 f176 w175 ⟨H172, S173, i174, k177, k178, k179, k180, k181, k182, k183⟩ hx133 o210 hp
   refine FW.seq (FW.region ?_)
   refine FL.v (E.lssT k177 k183 (lss_len hx133)) ?_
   refine FL.nil (FW.seq ?_)
   refine FW.condT rfl rfl ?_
   refine FW.skip (FW.seq (FW.block (FW.seq (FW.region ?_))))
   obtain ⟨p184, cs185, pt186, l187, at188, rel189⟩ := h131.at (ix_nat hx133)
   obtain rfl := eS_open rel189
   refine FL.v (E.indexAddr te22 k182 k177 pt186) ?_
   refine FL.v (E.load rfl (run_load0 Tryz.isAgg9 ((at188.mono (i116.tr i174)).now S173.sl) rfl)) ?_
   refine FL.v (E.assign (v := Value.string y132) rfl) ?_
   refine FL.nil (FW.seq (FW.region ?_))
   refine FL.v (E.move (v := Value.string y132) rfl) ?_
   obtain ⟨r190, hr191, hp⟩ := bnd hp
   refine FL.call rfl rfl rfl (E.call Tryz.call78 (A1 rfl)) (w_impl_parse S173.sl y132 hr191) ?_
   rintro e w193 ⟨H192, v196, rfl, r195, h197⟩
   refine ⟨_, rfl, ?_⟩
   have S194 := S173.call r195
   refine FL.v (E.move (v := Value.tuple #[v196, Value.bool r190.2]) rfl) ?_
   refine FL.v (E.extract (i := 0) rfl rfl) ?_
   refine FL.v (E.extract (i := 1) rfl rfl) ?_
   refine FL.v (E.assign (v := v196) rfl) ?_
   refine FL.v (E.assign (v := Value.bool r190.2) rfl) ?_
   refine FL.nil (FW.seq (FW.region ?_))
   refine FL.v (E.move (v := v196) rfl) ?_
   obtain ⟨y198, hy199, hp⟩ := bnd hp
   obtain ⟨q200, v202, v203, rfl, at201, h204, h205⟩ := FAt.open h197 hy199
   refine FL.v (E.nilCheck rfl) ?_
   refine FL.v (E.fieldAddr tf109_0 rfl) ?_
   refine FL.v (E.load rfl (run_load1 Tryz.isAgg5 (at201.now S194.sl) rfl)) ?_
   refine FL.v (E.move k178) ?_
   refine FL.v (E.eql rfl rfl) ?_
   refine FL.call rfl rfl rfl (E.call Tryz.call191 (A2 rfl rfl)) (w_impl_ruleFor S194.sl y198.op (((i35 : Nat) : Int) == 0)) ?_
   rintro e w206 ⟨rfl, r207⟩
   refine ⟨_, rfl, ?_⟩
   have S208 := S194.call r207
   refine FL.v (E.assign (v := Value.int .i64 (PF.impl_ruleFor y198.op (((i35 : Nat) : Int) == 0))) rfl) ?_
   refine FL.nil (FW.seq (FW.region ?_))
   refine FL.v (E.move (v := Value.int .i64 (PF.impl_ruleFor y198.op (((i35 : Nat) : Int) == 0))) rfl) ?_
   refine FL.v (E.neq rfl rfl) ?_
   refine FL.nil ?_
   rcases ifB hp with ⟨c209, hp⟩ | ⟨c209, hp⟩
   ·
    refine FW.condT rfl c209 ?_
    refine FW.seq (FW.region ?_)
    refine FL.v (E.move (v := Value.pointer (some q200)) rfl) ?_
    refine FL.v (E.move (v := Value.int .i64 (PF.impl_ruleFor y198.op (((i35 : Nat) : Int) == 0))) rfl) ?_
    refine FL.v (E.assign (v := Value.pointer (some q200)) rfl) ?_
    refine FL.v (E.assign (v := Value.int .i64 (PF.impl_ruleFor y198.op (((i35 : Nat) : Int) == 0))) rfl) ?_
    refine FL.nil ?_
    refine FW.ret ?_
    obtain rfl := Option.some.inj hp
    exact ⟨nofun, rfl, ⟨nofun, rfl, ⟨.inr rfl, res2 rfl rfl rfl ⟨_, _, rfl, S208.run, h197⟩⟩⟩⟩
   ·
    refine FW.condF rfl c209 ?_
    refine FW.skip (FW.region ?_)
    refine FL.v (E.add k177 rfl) ?_
    refine FL.v (E.move (v := Value.int .i64 (wr (((i133 : Nat) : Int) + 1))) rfl) ?_
    refine FL.nil ?_
    obtain rfl := Option.some.inj hp
    exact ⟨rfl, ⟨_, S208, (i174.tr r195.inc), (nat_succ rfl (lt_of_get hx133) (h131.mono ((i116.tr i174).tr r195.inc)).le), k178, k179, k180, k181, k182, k183⟩⟩
  ·
   clear hp hq
   rintro s133 f223 w222 ⟨H219, S220, i221, k224, k225, k226, k227, k228, k229, k230⟩
   refine FW.seq (FW.region ?_)
   refine FL.v (E.lss k224 k230) ?_
   refine FL.nil (FW.seq ?_)
   refine FW.condF rfl dlt_len ?_
   refine FW.exit ?_
   exact ⟨nofun, rfl, ⟨_, S220, i221, k226, k227, k228⟩⟩
  ·
   clear hq
   intro e f215 w214 hD
   rcases q133 with s133 | x133
   ·
    obtain ⟨rfl, hD⟩ := hD
    obtain ⟨H211, S212, i213, k216, k217, k218⟩ := hD
    replace hp := el_go hp
    refine FW.region ?_
    refine FL.v (E.add k218 rfl) ?_
    refine FL.v (E.move (v := Value.int .i64 (wr (((i35 : Nat) : Int) + 1))) rfl) ?_
    refine FL.nil ?_
    obtain rfl := Option.some.inj hp
    exact ⟨rfl, ⟨_, S212, (i116.tr i213), (nat_succ rfl hj35 (chk_le hchk35)), k216, k217⟩⟩
   ·
    obtain ⟨he, hL⟩ := hD
    replace hp := el_rt hp
    obtain rfl := Option.some.inj hp
    subst he
    exact hL
 ·
  clear hp hq
  rintro s35 f241 w240 ⟨H237, S238, i239, k242, k243, k244⟩
  refine FW.seq (FW.region ?_)
  refine FL.v (E.lss k242 k244) ?_
  refine FL.nil (FW.seq ?_)
  refine FW.condF rfl (dlt_maxchk hchk35) ?_
  refine FW.exit ?_
  exact ⟨nofun, rfl, ⟨_, S238, i239⟩⟩
 ·
  clear hq
  intro e f236 w235 hD
  rcases q35 with s35 | x35
  ·
   obtain ⟨rfl, hD⟩ := hD
   obtain ⟨H232, S233, i234⟩ := hD
   replace hp := el_go hp
   refine FW.seq (FW.region ?_)
   refine FL.v (E.assign (v := Value.pointer none) rfl) ?_
   refine FL.v (E.assign (v := Value.int .i64 0) rfl) ?_
   refine FL.nil ?_
   refine FW.ret ?_
   obtain rfl := Option.some.inj hp
   exact ⟨.inr rfl, res2 rfl rfl rfl ⟨_, _, rfl, S233.run, FAt.nil⟩⟩
  ·
   obtain ⟨he, hL⟩ := hD
   replace hp := el_rt hp
   obtain rfl := Option.some.inj hp
   subst he
   exact hL

@[reducible] def p_impl_seqSearch_search (H0 : GH) (w0 : World) (Ha : GH) (L : List MO) (b0 : Nat) (k0_0 : List Value) (r : (Bool × seqSearch)) : Ending → World → Prop :=
 fun e w' => ∃ H' : GH, ∃ v0_0r : Value, ∃ n0_0r : Nat, ∃ c0_0r : List Value, ∃ v0_1r : Value, e = .returned (Value.bool r.1) ∧ (St H0 w0 H' w' (.box b0 136 [v0_0r, v0_1r] :: .row 74 6 v0_0r n0_0r c0_0r :: L) ∧ Inc Ha H') ∧ Els (up w0.heap.size H') eSeqStep 6 c0_0r r.2.steps ∧ (bl c0_0r).Nodup ∧ Gr Ha k0_0 c0_0r ∧ PAt H' eSequent v0_1r r.2.open_
set_option maxHeartbeats 4000000 in
theorem w_impl_seqSearch_search_B {rec_impl_seqSearch_search : seqSearch → Sequent → Option (Bool × seqSearch)} (hrec_impl_seqSearch_search : ∀ {H0 Ha : GH} {w0 wa : World} {L : List MO} {a0 : seqSearch} {b0 : Nat} {v0_0 : Value} {n0_0 : Nat} {k0_0 : List Value} {v0_1 : Value} (S0 : St H0 w0 Ha wa (.box b0 136 [v0_0, v0_1] :: .row 74 6 v0_0 n0_0 k0_0 :: L)) (p0_0 : Els (up w0.heap.size Ha) eSeqStep 6 k0_0 a0.steps) (d0_0 : (bl k0_0).Nodup) (p0_1 : PAt Ha eSequent v0_1 a0.open_) (a1 : Sequent) (v1_0 : Value) (p1_0 : RSl Ha eS 1 v1_0 a1.left) (v1_1 : Value) (p1_1 : RSl Ha eS 1 v1_1 a1.right) {r : (Bool × seqSearch)} (hp : rec_impl_seqSearch_search a0 a1 = some r), Calls Tryz.prog 104 #[Value.pointer (some (⟨b0, 0, none⟩ : Addr)), Value.agg #[v1_0, v1_1]] wa (p_impl_seqSearch_search H0 w0 Ha L b0 k0_0 r)) {H0 Ha : GH} {w0 wa : World} {L : List MO} {a0 : seqSearch} {b0 : Nat} {v0_0 : Value} {n0_0 : Nat} {k0_0 : List Value} {v0_1 : Value} (S0 : St H0 w0 Ha wa (.box b0 136 [v0_0, v0_1] :: .row 74 6 v0_0 n0_0 k0_0 :: L)) (p0_0 : Els (up w0.heap.size Ha) eSeqStep 6 k0_0 a0.steps) (d0_0 : (bl k0_0).Nodup) (p0_1 : PAt Ha eSequent v0_1 a0.open_) (a1 : Sequent) (v1_0 : Value) (p1_0 : RSl Ha eS 1 v1_0 a1.left) (v1_1 : Value) (p1_1 : RSl Ha eS 1 v1_1 a1.right) {r : (Bool × seqSearch)} (hp : PF.impl_seqSearch_search_B rec_impl_seqSearch_search a0 a1 = some r) :
  Calls Tryz.prog 104 #[Value.pointer (some (⟨b0, 0, none⟩ : Addr)), Value.agg #[v1_0, v1_1]] wa (p_impl_seqSearch_search H0 w0 Ha L b0 k0_0 r) := by
 unfold PF.impl_seqSearch_search_B at hp
 refine calls_go (N := 83) (args := [Value.pointer (some (⟨b0, 0, none⟩ : Addr)), Value.agg #[v1_0, v1_1]]) Tryz.func104 rfl rfl rfl ?_
 refine FW.seq (FW.region ?_)
 obtain ⟨b21, w22, run23, S24⟩ := S0.box (P := Tryz.prog) 68 [v1_0, v1_1] (v := Value.agg #[v1_0, v1_1]) rfl (ones_cons p1_0.one (ones_cons p1_1.one ones_nil))
 refine FL.v (E.box rfl run23) ?_
 refine FL.v (E.assign (v := Value.bool false) rfl) ?_
 refine FL.nil (FW.seq (FW.seq (FW.region ?_)))
 refine FL.v (E.load rfl (run_loadA Tryz.isAgg68 Tryz.sizeOf68 (S24.box_now (i := 0) rfl) rfl)) ?_
 obtain ⟨r25, hr26, hp⟩ := bnd hp
 refine FL.call rfl rfl rfl (E.call Tryz.call120 (A1 rfl)) (w_impl_IsSequent S24.sl a1 v1_0 p1_0 v1_1 p1_1 hr26) ?_
 rintro e w27 ⟨rfl, r28⟩
 refine ⟨_, rfl, ?_⟩
 have S29 := S24.call r28
 refine FL.v (E.not rfl) ?_
 refine FL.nil ?_
 rcases ifB hp with ⟨c30, hp⟩ | ⟨c30, hp⟩
 ·
  refine FW.condT rfl c30 ?_
  refine FW.seq (FW.region ?_)
  refine FL.v (E.assign (v := Value.bool false) rfl) ?_
  refine FL.nil ?_
  refine FW.ret ?_
  obtain rfl := Option.some.inj hp
  exact ⟨.inr rfl, res1 rfl rfl ⟨_, _, _, _, _, rfl, ⟨(S29.selT (a := [.box b21 68 [v1_0, v1_1], .box b0 136 [v0_0, v0_1], .row 74 6 v0_0 n0_0 k0_0]) (l' := [.box b0 136 [v0_0, v0_1], .row 74 6 v0_0 n0_0 k0_0]) [1, 2] (by decide) rfl), (Inc.rfl _)⟩, p0_0, d0_0, Gr.rfl, p0_1⟩⟩
 ·
  refine FW.condF rfl c30 ?_
  refine FW.skip (FW.seq (FW.region ?_))
  refine FL.v (E.load rfl (run_loadA Tryz.isAgg68 Tryz.sizeOf68 (S29.box_now (i := 0) rfl) rfl)) ?_
  obtain ⟨r31, hr32, hp⟩ := bnd hp
  refine FL.call rfl rfl rfl (E.call Tryz.call114 (A1 rfl)) (w_impl_Sequent_clone S29.sl a1 v1_0 p1_0 v1_1 p1_1 hr32) ?_
  rintro e w34 ⟨H33, v37, v43, rfl, r36, ⟨c40, c46, ns39, ns45, ap49⟩⟩
  refine ⟨_, rfl, ?_⟩
  have h38 := ns39.rsl
  have nv41 : New Ha c40 := New.of_up S29.sl (fun b hb => ns39.dom b (.inr hb))
  have nv42 : New Ha [v37] := New.of_up S29.sl h38.dom
  have h38 := h38.mono (up_le S29.size)
  have ns39 := ns39.mono (up_le S29.size)
  have h44 := ns45.rsl
  have nv47 : New Ha c46 := New.of_up S29.sl (fun b hb => ns45.dom b (.inr hb))
  have nv48 : New Ha [v43] := New.of_up S29.sl h44.dom
  have h44 := h44.mono (up_le S29.size)
  have ns45 := ns45.mono (up_le S29.size)
  have S35 := S29.call r36
  refine FL.v (E.build (B2 rfl rfl) (run_build _ 74 #[(0, Value.agg #[v37, v43]), (1, Value.int .i64 1)] #[v37, v43, Value.int .i64 1, Value.string ByteArray.empty, Value.int .i64 0, Value.int .i64 0] (by obtain ⟨_, _, rfl⟩ := RSl.ln (h38.mono upI); obtain ⟨_, _, rfl⟩ := RSl.ln (h44.mono upI); rfl))) ?_
  obtain ⟨b50, w51, run52, S53⟩ := S35.alloc (P := Tryz.prog) 74 [Value.slice none 0 0, Value.slice none 0 0, Value.int .i64 0, Value.string ByteArray.empty, Value.int .i64 0, Value.int .i64 0] Tryz.zeroValue74 rfl (ones_cons rfl (ones_cons rfl (ones_cons rfl (ones_cons rfl (ones_cons rfl (ones_cons rfl ones_nil))))))
  refine FL.v (E.alloc run52) ?_
  obtain ⟨w54, run55, S56⟩ := S53.store0 (P := Tryz.prog) (t := 74) (i := 0) (cs' := [v37, v43, Value.int .i64 1, Value.string ByteArray.empty, Value.int .i64 0, Value.int .i64 0]) (l' := (.box b50 74 [v37, v43, Value.int .i64 1, Value.string ByteArray.empty, Value.int .i64 0, Value.int .i64 0] :: .box b21 68 [v1_0, v1_1] :: .box b0 136 [v0_0, v0_1] :: .row 74 6 v0_0 n0_0 k0_0 :: L)) (v := Value.agg #[v37, v43, Value.int .i64 1, Value.string ByteArray.empty, Value.int .i64 0, Value.int .i64 0]) (c := [v37, v43, Value.int .i64 1, Value.string ByteArray.empty, Value.int .i64 0, Value.int .i64 0]) rfl Tryz.sizeOf74 rfl rfl (ones_cons h38.one (ones_cons h44.one (ones_cons rfl (ones_cons rfl (ones_cons rfl (ones_cons rfl ones_nil)))))) (Nat.le_of_ble_eq_true rfl) rfl rfl
  refine FL.act rfl rfl (E.store rfl rfl run55) ?_
  refine FL.nil (FW.seq (FW.seq (FW.region ?_)))
  refine FL.v (E.load rfl (run_loadA Tryz.isAgg68 Tryz.sizeOf68 (S56.box_now (i := 1) rfl) rfl)) ?_
  obtain ⟨r57, hr58, hp⟩ := bnd hp
  refine FL.call rfl rfl rfl (E.call Tryz.call154 (A1 rfl)) (w_impl_isSeqAxiom S56.sl a1 v1_0 (p1_0.mono r36.inc) v1_1 (p1_1.mono r36.inc) hr58) ?_
  rintro e w59 ⟨rfl, r60⟩
  refine ⟨_, rfl, ?_⟩
  have S61 := S56.call r60
  refine FL.v (E.not rfl) ?_
  refine FL.nil ?_
  obtain ⟨q316, hq, hp⟩ := bndR hp
  refine FW.joinE (S := ((List SeqStep) × Int × ByteArray × Int × Int × (Option Sequent))) (X := (Bool × seqSearch)) (q := q316) (fun s315 f w => ∃ H : GH, ∃ v318 : Value, ∃ n319 : Nat, ∃ cs320 : List Value, ∃ v324 : Value, St H0 w0 H w (.box b50 74 [v37, v43, Value.int .i64 s315.2.1, Value.string s315.2.2.1, Value.int .i64 s315.2.2.2.1, Value.int .i64 s315.2.2.2.2.1] :: .box b0 136 [v318, v324] :: .row 74 6 v318 n319 cs320 :: L) ∧ Inc H33 H ∧ Els (up w0.heap.size H) eSeqStep 6 cs320 s315.1 ∧ PAt H eSequent v324 s315.2.2.2.2.2 ∧ (bl cs320).Nodup ∧ Gr H33 k0_0 cs320 ∧ f 0 = Value.pointer (some (⟨b0, 0, none⟩ : Addr)) ∧ f 5 = Value.pointer (some (⟨b50, 0, none⟩ : Addr))) (fun x e f w => (e = Exit.ret) ∧ (fun e f w => (e = Exit.normal ∨ e = Exit.ret) ∧ ∀ a, Fr (δ := []) 83 a f → ∃ v, (results Tryz.f104 a.tmps).run Tryz.prog w = .ok v w ∧ (p_impl_seqSearch_search H0 w0 Ha L b0 k0_0 x) (.returned v) w) e f w) ?_ ?_ ?_
  ·
   clear hp; have hp := hq; clear hq
   rcases ifB hp with ⟨c326, hp⟩ | ⟨c326, hp⟩
   ·
    refine FW.condT rfl c326 ?_
    refine FW.seq (FW.region ?_)
    refine FL.v (E.load rfl (run_loadA Tryz.isAgg68 Tryz.sizeOf68 (S61.box_now (i := 1) rfl) rfl)) ?_
    obtain ⟨r327, hr328, hp⟩ := bnd hp
    refine FL.call rfl rfl rfl (E.call Tryz.call155 (A1 rfl)) (w_impl_mainOf S61.sl a1 v1_0 (p1_0.mono r36.inc) v1_1 (p1_1.mono r36.inc) hr328) ?_
    rintro e w330 ⟨H329, v333, rfl, r332, h334⟩
    refine ⟨_, rfl, ?_⟩
    have S331 := S61.call r332
    refine FL.v (E.move (v := Value.tuple #[v333, Value.int .i64 r327.2]) rfl) ?_
    refine FL.v (E.extract (i := 0) rfl rfl) ?_
    refine FL.v (E.extract (i := 1) rfl rfl) ?_
    refine FL.v (E.assign (v := v333) rfl) ?_
    refine FL.v (E.assign (v := Value.int .i64 r327.2) rfl) ?_
    refine FL.nil (FW.seq (FW.seq (FW.region ?_)))
    refine FL.v (E.move (v := v333) rfl) ?_
    refine FL.v (E.eqlN Tryz.runUnderlying101 h334.isNil rfl rfl) ?_
    refine FL.nil ?_
    rcases ifB hp with ⟨c335, hp⟩ | ⟨c335, hp⟩
    ·
     refine FW.condT rfl c335 ?_
     refine FW.seq (FW.region ?_)
     refine FL.v (E.move (v := Value.pointer (some (⟨b0, 0, none⟩ : Addr))) rfl) ?_
     refine FL.v (E.nilCheck rfl) ?_
     refine FL.v (E.fieldAddr tf136_1 rfl) ?_
     obtain ⟨H336, S337, i338, at339⟩ := S331.sealBox (i := 1) (l' := (.box b50 74 [v37, v43, Value.int .i64 1, Value.string ByteArray.empty, Value.int .i64 0, Value.int .i64 0] :: .box b0 136 [v0_0, v0_1] :: .row 74 6 v0_0 n0_0 k0_0 :: L)) rfl rfl
     obtain ⟨w340, run341, S342⟩ := S337.store (P := Tryz.prog) (t := 134) (i := 1) (j := 1) (cs' := [v0_0, Value.pointer (some ⟨b21, 0, none⟩)]) (l' := (.box b50 74 [v37, v43, Value.int .i64 1, Value.string ByteArray.empty, Value.int .i64 0, Value.int .i64 0] :: .box b0 136 [v0_0, Value.pointer (some ⟨b21, 0, none⟩)] :: .row 74 6 v0_0 n0_0 k0_0 :: L)) (v := Value.pointer (some ⟨b21, 0, none⟩)) (c := [Value.pointer (some ⟨b21, 0, none⟩)]) rfl Tryz.sizeOf134 rfl rfl (ones_cons rfl ones_nil) (Nat.le_of_ble_eq_true rfl) rfl rfl
     refine FL.act rfl rfl (E.store rfl rfl run341) ?_
     refine FL.nil (FW.seq (FW.region ?_))
     refine FL.v (E.assign (v := Value.bool false) rfl) ?_
     refine FL.nil ?_
     refine FW.ret ?_
     obtain rfl := Option.some.inj hp
     exact ⟨nofun, rfl, ⟨.inr rfl, res1 rfl rfl ⟨_, _, _, _, _, rfl, ⟨(S342.selT (a := [.box b50 74 [v37, v43, Value.int .i64 1, Value.string ByteArray.empty, Value.int .i64 0, Value.int .i64 0], .box b0 136 [v0_0, Value.pointer (some ⟨b21, 0, none⟩)], .row 74 6 v0_0 n0_0 k0_0]) (l' := [.box b0 136 [v0_0, Value.pointer (some ⟨b21, 0, none⟩)], .row 74 6 v0_0 n0_0 k0_0]) [1, 2] (by decide) rfl), ((r36.inc.tr r332.inc).tr i338)⟩, (p0_0.mono (up_mono ((r36.inc.tr r332.inc).tr i338))), d0_0, Gr.rfl, (PAt.mk at339 ⟨_, _, rfl, (p1_0.mono ((r36.inc.tr r332.inc).tr i338)), (p1_1.mono ((r36.inc.tr r332.inc).tr i338))⟩)⟩⟩⟩
    ·
     refine FW.condF rfl c335 ?_
     refine FW.skip (FW.seq (FW.region ?_))
     refine FL.v (E.move (v := Value.int .i64 r327.2) rfl) ?_
     refine FL.v (E.fieldAddr tf74_1 rfl) ?_
     obtain ⟨w343, run344, S345⟩ := S331.store (P := Tryz.prog) (t := 3) (i := 0) (j := 2) (cs' := [v37, v43, Value.int .i64 r327.2, Value.string ByteArray.empty, Value.int .i64 0, Value.int .i64 0]) (l' := (.box b50 74 [v37, v43, Value.int .i64 r327.2, Value.string ByteArray.empty, Value.int .i64 0, Value.int .i64 0] :: .box b21 68 [v1_0, v1_1] :: .box b0 136 [v0_0, v0_1] :: .row 74 6 v0_0 n0_0 k0_0 :: L)) (v := Value.int .i64 r327.2) (c := [Value.int .i64 r327.2]) rfl Tryz.sizeOf3 rfl rfl (ones_cons rfl ones_nil) (Nat.le_of_ble_eq_true rfl) rfl rfl
     refine FL.act rfl rfl (E.store rfl rfl run344) ?_
     refine FL.nil (FW.seq (FW.region ?_))
     refine FL.v (E.move (v := v333) rfl) ?_
     obtain ⟨y346, hy347, hp⟩ := bnd hp
     obtain ⟨q348, v350, v351, rfl, at349, h352, h353⟩ := FAt.open h334 hy347
     refine FL.v (E.nilCheck rfl) ?_
     refine FL.v (E.fieldAddr tf109_3 rfl) ?_
     refine FL.v (E.load rfl (run_load1 Tryz.isAgg9 (at349.now S345.sl) rfl)) ?_
     refine FL.v (E.fieldAddr tf74_2 rfl) ?_
     obtain ⟨w354, run355, S356⟩ := S345.store (P := Tryz.prog) (t := 9) (i := 0) (j := 3) (cs' := [v37, v43, Value.int .i64 r327.2, Value.string y346.text, Value.int .i64 0, Value.int .i64 0]) (l' := (.box b50 74 [v37, v43, Value.int .i64 r327.2, Value.string y346.text, Value.int .i64 0, Value.int .i64 0] :: .box b21 68 [v1_0, v1_1] :: .box b0 136 [v0_0, v0_1] :: .row 74 6 v0_0 n0_0 k0_0 :: L)) (v := Value.string y346.text) (c := [Value.string y346.text]) rfl Tryz.sizeOf9 rfl rfl (ones_cons rfl ones_nil) (Nat.le_of_ble_eq_true rfl) rfl rfl
     refine FL.act rfl rfl (E.store rfl rfl run355) ?_
     refine FL.nil (FW.seq (FW.region ?_))
     refine FL.v (E.load rfl (run_loadA Tryz.isAgg68 Tryz.sizeOf68 (S356.box_now (i := 1) rfl) rfl)) ?_
     refine FL.v (E.move (v := Value.int .i64 r327.2) rfl) ?_
     refine FL.v (E.move (v := Value.pointer (some q348)) rfl) ?_
     obtain ⟨r357, hr358, hp⟩ := bnd hp
     refine FL.call rfl rfl rfl (E.call Tryz.call156 (A3 rfl rfl rfl)) (w_impl_premisesOf S356.sl a1 v1_0 (p1_0.mono (r36.inc.tr r332.inc)) v1_1 (p1_1.mono (r36.inc.tr r332.inc)) r327.2 (Value.pointer (some q348)) r327.1 h334 hr358) ?_
     rintro e w360 ⟨H359, v363, n364, cs365, rfl, r362, els366⟩
     refine ⟨_, rfl, ?_⟩
     have S361 := S356.join (l' := (.row 68 2 v363 n364 cs365 :: .box b50 74 [v37, v43, Value.int .i64 r327.2, Value.string y346.text, Value.int .i64 0, Value.int .i64 0] :: .box b21 68 [v1_0, v1_1] :: .box b0 136 [v0_0, v0_1] :: .row 74 6 v0_0 n0_0 k0_0 :: L)) r362 rfl
     refine FL.v (E.lenO te172 rfl S361 (i := 0) rfl els366 (by decide)) ?_
     refine FL.v (E.move (v := Value.int .i64 0) rfl) ?_
     refine FL.nil ?_
     obtain ⟨m367, hchk368, hp⟩ := bnd hp
     obtain ⟨q368, hq, hp⟩ := bndR hp
     refine FW.block ?_
     refine FW.mono (FW.forR (S := ((List SeqStep) × Int × Int × (Option Sequent))) (X := (Rs ((List SeqStep) × Int × ByteArray × Int × Int × (Option Sequent)) (Bool × seqSearch))) (fun (i368 : Nat) (s368 : ((List SeqStep) × Int × Int × (Option Sequent))) f w => ∃ H : GH, ∃ v497 : Value, ∃ n498 : Nat, ∃ cs499 : List Value, ∃ v503 : Value, St H0 w0 H w (.row 68 2 v363 n364 cs365 :: .box b50 74 [v37, v43, Value.int .i64 r327.2, Value.string y346.text, Value.int .i64 s368.2.1, Value.int .i64 s368.2.2.1] :: .box b0 136 [v497, v503] :: .row 74 6 v497 n498 cs499 :: L) ∧ Inc H359 H ∧ Els (up w0.heap.size H) eSeqStep 6 cs499 s368.1 ∧ PAt H eSequent v503 s368.2.2.2 ∧ (bl cs499).Nodup ∧ Gr H359 k0_0 cs499 ∧ f 41 = Value.int .i64 ((i368 : Nat) : Int) ∧ f 0 = Value.pointer (some (⟨b0, 0, none⟩ : Addr)) ∧ f 5 = Value.pointer (some (⟨b50, 0, none⟩ : Addr)) ∧ f 39 = v363 ∧ f 40 = Value.int .i64 (len r357)) (fun q e f w => match q with | .go s368 => e = Exit.exit 0 ∧ (∃ H : GH, ∃ v497 : Value, ∃ n498 : Nat, ∃ cs499 : List Value, ∃ v503 : Value, St H0 w0 H w (.row 68 2 v363 n364 cs365 :: .box b50 74 [v37, v43, Value.int .i64 r327.2, Value.string y346.text, Value.int .i64 s368.2.1, Value.int .i64 s368.2.2.1] :: .box b0 136 [v497, v503] :: .row 74 6 v497 n498 cs499 :: L) ∧ Inc H359 H ∧ Els (up w0.heap.size H) eSeqStep 6 cs499 s368.1 ∧ PAt H eSequent v503 s368.2.2.2 ∧ (bl cs499).Nodup ∧ Gr H359 k0_0 cs499 ∧ f 0 = Value.pointer (some (⟨b0, 0, none⟩ : Addr)) ∧ f 5 = Value.pointer (some (⟨b50, 0, none⟩ : Addr))) | .rt x => ((e = Exit.ret) ∧ (Jn (fun s315 f w => ∃ H : GH, ∃ v318 : Value, ∃ n319 : Nat, ∃ cs320 : List Value, ∃ v324 : Value, St H0 w0 H w (.box b50 74 [v37, v43, Value.int .i64 s315.2.1, Value.string s315.2.2.1, Value.int .i64 s315.2.2.2.1, Value.int .i64 s315.2.2.2.2.1] :: .box b0 136 [v318, v324] :: .row 74 6 v318 n319 cs320 :: L) ∧ Inc H33 H ∧ Els (up w0.heap.size H) eSeqStep 6 cs320 s315.1 ∧ PAt H eSequent v324 s315.2.2.2.2.2 ∧ (bl cs320).Nodup ∧ Gr H33 k0_0 cs320 ∧ f 0 = Value.pointer (some (⟨b0, 0, none⟩ : Addr)) ∧ f 5 = Value.pointer (some (⟨b50, 0, none⟩ : Addr))) (fun x e f w => (e = Exit.ret) ∧ (fun e f w => (e = Exit.normal ∨ e = Exit.ret) ∧ ∀ a, Fr (δ := []) 83 a f → ∃ v, (results Tryz.f104 a.tmps).run Tryz.prog w = .ok v w ∧ (p_impl_seqSearch_search H0 w0 Ha L b0 k0_0 x) (.returned v) w) e f w) x) e f w)) hq ⟨_, _, _, _, _, (S361.selT (a := [.row 68 2 v363 n364 cs365, .box b50 74 [v37, v43, Value.int .i64 r327.2, Value.string y346.text, Value.int .i64 0, Value.int .i64 0], .box b21 68 [v1_0, v1_1], .box b0 136 [v0_0, v0_1], .row 74 6 v0_0 n0_0 k0_0]) (l' := [.row 68 2 v363 n364 cs365, .box b50 74 [v37, v43, Value.int .i64 r327.2, Value.string y346.text, Value.int .i64 0, Value.int .i64 0], .box b0 136 [v0_0, v0_1], .row 74 6 v0_0 n0_0 k0_0]) [0, 1, 3, 4] (by decide) rfl), (Inc.rfl _), (p0_0.mono (up_mono ((r36.inc.tr r332.inc).tr r362.run.inc))), (p0_1.mono ((r36.inc.tr r332.inc).tr r362.run.inc)), d0_0, Gr.rfl, rfl, rfl, rfl, rfl, rfl⟩ ?_ ?_) ?_
     ·
      clear hp hq
      rintro i368 s368 f566 w565 ⟨H562, v497, n498, cs499, v503, S563, i564, els500, h504, nd501, gr502, k567, k568, k569, k570, k571⟩ hi368 hj368 o619 hp
      refine FW.seq (FW.region ?_)
      refine FL.v (E.lssT k567 k571 (lss_chk hj368 hchk368)) ?_
      refine FL.nil (FW.seq ?_)
      refine FW.condT rfl rfl ?_
      refine FW.skip (FW.seq (FW.block (FW.seq (FW.region ?_))))
      refine FL.v (E.move k567) ?_
      obtain ⟨x578, hx579, hp⟩ := bnd hp
      obtain ⟨p572, cs573, pt574, l575, at576, rel577⟩ := S563.row_at (i := 0) rfl els366 (by decide) hx579
      obtain ⟨v580, v582, rfl, h581, h583⟩ := eSequent_open rel577
      refine FL.v (E.indexAddr te172 k570 k567 pt574) ?_
      refine FL.v (E.load rfl (run_loadA Tryz.isAgg68 Tryz.sizeOf68 at576 rfl)) ?_
      obtain ⟨b584, w585, run586, S587⟩ := S563.alloc (P := Tryz.prog) 68 [Value.slice none 0 0, Value.slice none 0 0] Tryz.zeroValue68 rfl (ones_cons rfl (ones_cons rfl ones_nil))
      refine FL.v (E.alloc run586) ?_
      refine FL.v (E.assign (v := Value.int .i64 ((i368 : Nat) : Int)) rfl) ?_
      obtain ⟨w588, run589, S590⟩ := S587.store0 (P := Tryz.prog) (t := 68) (i := 0) (cs' := [v580, v582]) (l' := (.box b584 68 [v580, v582] :: .row 68 2 v363 n364 cs365 :: .box b50 74 [v37, v43, Value.int .i64 r327.2, Value.string y346.text, Value.int .i64 s368.2.1, Value.int .i64 s368.2.2.1] :: .box b0 136 [v497, v503] :: .row 74 6 v497 n498 cs499 :: L)) (v := Value.agg #[v580, v582]) (c := [v580, v582]) rfl Tryz.sizeOf68 rfl rfl (ones_cons h581.one (ones_cons h583.one ones_nil)) (Nat.le_of_ble_eq_true rfl) rfl rfl
      refine FL.act rfl rfl (E.store rfl rfl run589) ?_
      obtain ⟨H591, S592, i593, at594⟩ := S590.sealBox (i := 0) (l' := (.row 68 2 v363 n364 cs365 :: .box b50 74 [v37, v43, Value.int .i64 r327.2, Value.string y346.text, Value.int .i64 s368.2.1, Value.int .i64 s368.2.2.1] :: .box b0 136 [v497, v503] :: .row 74 6 v497 n498 cs499 :: L)) rfl rfl
      refine FL.nil (FW.seq (FW.seq (FW.region ?_)))
      refine FL.v (E.move k568) ?_
      refine FL.v (E.load rfl (run_loadA Tryz.isAgg68 Tryz.sizeOf68 (at594.now S592.sl) rfl)) ?_
      obtain ⟨r595, hr596, hp⟩ := bnd hp
      have S597 : St H0 w0 H591 w588 (.row 74 6 v497 n498 cs499 :: .row 68 2 v363 n364 cs365 :: .box b50 74 [v37, v43, Value.int .i64 r327.2, Value.string y346.text, Value.int .i64 s368.2.1, Value.int .i64 s368.2.2.1] :: .box b0 136 [v497, v503] :: L) := S592.front 3 rfl rfl
      have S598 : St H0 w0 H591 w588 (.box b0 136 [v497, v503] :: .row 74 6 v497 n498 cs499 :: .row 68 2 v363 n364 cs365 :: .box b50 74 [v37, v43, Value.int .i64 r327.2, Value.string y346.text, Value.int .i64 s368.2.1, Value.int .i64 s368.2.2.1] :: L) := S597.front 3 rfl rfl
      refine FL.call rfl rfl rfl (E.call Tryz.call104 (A2 rfl rfl)) (hrec_impl_seqSearch_search (L := (.row 68 2 v363 n364 cs365 :: .box b50 74 [v37, v43, Value.int .i64 r327.2, Value.string y346.text, Value.int .i64 s368.2.1, Value.int .i64 s368.2.2.1] :: L)) S598 (a0 := (seqSearch.mk s368.1 s368.2.2.2)) (els500.mono (up_mono i593)) nd501 (h504.mono i593) x578 v580 (h581.mono (i564.tr i593)) v582 (h583.mono (i564.tr i593)) hr596) ?_
      rintro e w600 ⟨H599, v603, n604, cs605, v609, rfl, ⟨S601, i602⟩, els606, nd607, gr608, h610⟩
      refine ⟨_, rfl, ?_⟩
      have S601 : St H0 w0 H599 w600 (.box b0 136 [v603, v609] :: .row 74 6 v603 n604 cs605 :: .row 68 2 v363 n364 cs365 :: .box b50 74 [v37, v43, Value.int .i64 r327.2, Value.string y346.text, Value.int .i64 s368.2.1, Value.int .i64 s368.2.2.1] :: L) := S601
      refine FL.v (E.not rfl) ?_
      refine FL.nil ?_
      rcases ifB hp with ⟨c611, hp⟩ | ⟨c611, hp⟩
      ·
       refine FW.condT rfl c611 ?_
       refine FW.seq (FW.region ?_)
       refine FL.v (E.assign (v := Value.bool false) rfl) ?_
       refine FL.nil ?_
       refine FW.ret ?_
       obtain rfl := Option.some.inj hp
       exact ⟨nofun, rfl, ⟨nofun, rfl, ⟨.inr rfl, res1 rfl rfl ⟨_, _, _, _, _, rfl, ⟨(S601.selT (a := [.box b0 136 [v603, v609], .row 74 6 v603 n604 cs605, .row 68 2 v363 n364 cs365, .box b50 74 [v37, v43, Value.int .i64 r327.2, Value.string y346.text, Value.int .i64 s368.2.1, Value.int .i64 s368.2.2.1]]) (l' := [.box b0 136 [v603, v609], .row 74 6 v603 n604 cs605]) [0, 1] (by decide) rfl), (((((r36.inc.tr r332.inc).tr r362.run.inc).tr i564).tr i593).tr i602)⟩, els606, nd607, ((gr502.tr (i564.tr i593) gr608).anti ((r36.inc.tr r332.inc).tr r362.run.inc)), h610⟩⟩⟩⟩
      ·
       refine FW.condF rfl c611 ?_
       refine FW.skip (FW.seq (FW.region ?_))
       refine FL.v (E.move (v := Value.int .i64 ((i368 : Nat) : Int)) rfl) ?_
       refine FL.v (E.eql rfl rfl) ?_
       refine FL.nil ?_
       rcases ifB hp with ⟨c612, hp⟩ | ⟨c612, hp⟩
       ·
        refine FW.condT rfl c612 ?_
        refine FW.region ?_
        refine FL.v (E.move k568) ?_
        refine FL.v (E.nilCheck rfl) ?_
        refine FL.v (E.fieldAddr tf136_0 rfl) ?_
        refine FL.v (E.load rfl (run_load1 Tryz.isAgg24 (S601.box_now (i := 0) rfl) rfl)) ?_
        refine FL.v (E.lenO te24 rfl S601 (i := 1) rfl els606 (by decide)) ?_
        refine FL.v (E.sub rfl rfl) ?_
        refine FL.v (E.fieldAddr tf74_3 k569) ?_
        obtain ⟨w613, run614, S615⟩ := S601.store (P := Tryz.prog) (t := 3) (i := 3) (j := 4) (cs' := [v37, v43, Value.int .i64 r327.2, Value.string y346.text, Value.int .i64 (wr ((len r595.2.steps) - 1)), Value.int .i64 s368.2.2.1]) (l' := (.box b0 136 [v603, v609] :: .row 74 6 v603 n604 cs605 :: .row 68 2 v363 n364 cs365 :: .box b50 74 [v37, v43, Value.int .i64 r327.2, Value.string y346.text, Value.int .i64 (wr ((len r595.2.steps) - 1)), Value.int .i64 s368.2.2.1] :: L)) (v := Value.int .i64 (wr ((len r595.2.steps) - 1))) (c := [Value.int .i64 (wr ((len r595.2.steps) - 1))]) rfl Tryz.sizeOf3 rfl rfl (ones_cons rfl ones_nil) (Nat.le_of_ble_eq_true rfl) rfl rfl
        refine FL.act rfl rfl (E.store rfl rfl run614) ?_
        refine FL.nil (FW.region ?_)
        refine FL.v (E.add k567 rfl) ?_
        refine FL.v (E.move (v := Value.int .i64 (wr (((i368 : Nat) : Int) + 1))) rfl) ?_
        refine FL.nil ?_
        obtain rfl := Option.some.inj hp
        exact ⟨rfl, ⟨_, _, _, _, _, (S615.selT (a := [.box b0 136 [v603, v609], .row 74 6 v603 n604 cs605, .row 68 2 v363 n364 cs365, .box b50 74 [v37, v43, Value.int .i64 r327.2, Value.string y346.text, Value.int .i64 (wr ((len r595.2.steps) - 1)), Value.int .i64 s368.2.2.1]]) (l' := [.row 68 2 v363 n364 cs365, .box b50 74 [v37, v43, Value.int .i64 r327.2, Value.string y346.text, Value.int .i64 (wr ((len r595.2.steps) - 1)), Value.int .i64 s368.2.2.1], .box b0 136 [v603, v609], .row 74 6 v603 n604 cs605]) [2, 3, 0, 1] (by decide) rfl), ((i564.tr i593).tr i602), els606, h610, nd607, ((gr502.tr (i564.tr i593) gr608).anti (Inc.rfl _)), (nat_succ rfl hj368 (chk_le hchk368)), k568, k569, k570, k571⟩⟩
       ·
        refine FW.condF rfl c612 ?_
        refine FW.region ?_
        refine FL.v (E.move k568) ?_
        refine FL.v (E.nilCheck rfl) ?_
        refine FL.v (E.fieldAddr tf136_0 rfl) ?_
        refine FL.v (E.load rfl (run_load1 Tryz.isAgg24 (S601.box_now (i := 0) rfl) rfl)) ?_
        refine FL.v (E.lenO te24 rfl S601 (i := 1) rfl els606 (by decide)) ?_
        refine FL.v (E.sub rfl rfl) ?_
        refine FL.v (E.fieldAddr tf74_4 k569) ?_
        obtain ⟨w616, run617, S618⟩ := S601.store (P := Tryz.prog) (t := 3) (i := 3) (j := 5) (cs' := [v37, v43, Value.int .i64 r327.2, Value.string y346.text, Value.int .i64 s368.2.1, Value.int .i64 (wr ((len r595.2.steps) - 1))]) (l' := (.box b0 136 [v603, v609] :: .row 74 6 v603 n604 cs605 :: .row 68 2 v363 n364 cs365 :: .box b50 74 [v37, v43, Value.int .i64 r327.2, Value.string y346.text, Value.int .i64 s368.2.1, Value.int .i64 (wr ((len r595.2.steps) - 1))] :: L)) (v := Value.int .i64 (wr ((len r595.2.steps) - 1))) (c := [Value.int .i64 (wr ((len r595.2.steps) - 1))]) rfl Tryz.sizeOf3 rfl rfl (ones_cons rfl ones_nil) (Nat.le_of_ble_eq_true rfl) rfl rfl
        refine FL.act rfl rfl (E.store rfl rfl run617) ?_
        refine FL.nil (FW.region ?_)
        refine FL.v (E.add k567 rfl) ?_
        refine FL.v (E.move (v := Value.int .i64 (wr (((i368 : Nat) : Int) + 1))) rfl) ?_
        refine FL.nil ?_
        obtain rfl := Option.some.inj hp
        exact ⟨rfl, ⟨_, _, _, _, _, (S618.selT (a := [.box b0 136 [v603, v609], .row 74 6 v603 n604 cs605, .row 68 2 v363 n364 cs365, .box b50 74 [v37, v43, Value.int .i64 r327.2, Value.string y346.text, Value.int .i64 s368.2.1, Value.int .i64 (wr ((len r595.2.steps) - 1))]]) (l' := [.row 68 2 v363 n364 cs365, .box b50 74 [v37, v43, Value.int .i64 r327.2, Value.string y346.text, Value.int .i64 s368.2.1, Value.int .i64 (wr ((len r595.2.steps) - 1))], .box b0 136 [v603, v609], .row 74 6 v603 n604 cs605]) [2, 3, 0, 1] (by decide) rfl), ((i564.tr i593).tr i602), els606, h610, nd607, ((gr502.tr (i564.tr i593) gr608).anti (Inc.rfl _)), (nat_succ rfl hj368 (chk_le hchk368)), k568, k569, k570, k571⟩⟩
     ·
      clear hp hq
      rintro s368 f631 w630 ⟨H627, v497, n498, cs499, v503, S628, i629, els500, h504, nd501, gr502, k632, k633, k634, k635, k636⟩
      refine FW.seq (FW.region ?_)
      refine FL.v (E.lss k632 k636) ?_
      refine FL.nil (FW.seq ?_)
      refine FW.condF rfl (dlt_maxchk hchk368) ?_
      refine FW.exit ?_
      exact ⟨nofun, rfl, ⟨_, _, _, _, _, S628, i629, els500, h504, nd501, (gr502.anti (Inc.rfl _)), k633, k634⟩⟩
     ·
      clear hq
      intro e f624 w623 hD
      rcases q368 with s368 | x368
      ·
       obtain ⟨rfl, hD⟩ := hD
       obtain ⟨H620, v497, n498, cs499, v503, S621, i622, els500, h504, nd501, gr502, k625, k626⟩ := hD
       replace hp := el_go hp
       obtain rfl := Option.some.inj hp
       exact ⟨rfl, ⟨_, _, _, _, _, (S621.selT (a := [.row 68 2 v363 n364 cs365, .box b50 74 [v37, v43, Value.int .i64 r327.2, Value.string y346.text, Value.int .i64 s368.2.1, Value.int .i64 s368.2.2.1], .box b0 136 [v497, v503], .row 74 6 v497 n498 cs499]) (l' := [.box b50 74 [v37, v43, Value.int .i64 r327.2, Value.string y346.text, Value.int .i64 s368.2.1, Value.int .i64 s368.2.2.1], .box b0 136 [v497, v503], .row 74 6 v497 n498 cs499]) [1, 2, 3] (by decide) rfl), ((r332.inc.tr r362.run.inc).tr i622), els500, h504, nd501, (gr502.anti (r332.inc.tr r362.run.inc)), k625, k626⟩⟩
      ·
       obtain ⟨he, hL⟩ := hD
       replace hp := el_rt hp
       obtain rfl := Option.some.inj hp
       subst he
       exact hL
   ·
    refine FW.condF rfl c326 ?_
    refine FW.skip ?_
    obtain rfl := Option.some.inj hp
    exact ⟨rfl, ⟨_, _, _, _, _, (S61.selT (a := [.box b50 74 [v37, v43, Value.int .i64 1, Value.string ByteArray.empty, Value.int .i64 0, Value.int .i64 0], .box b21 68 [v1_0, v1_1], .box b0 136 [v0_0, v0_1], .row 74 6 v0_0 n0_0 k0_0]) (l' := [.box b50 74 [v37, v43, Value.int .i64 1, Value.string ByteArray.empty, Value.int .i64 0, Value.int .i64 0], .box b0 136 [v0_0, v0_1], .row 74 6 v0_0 n0_0 k0_0]) [0, 2, 3] (by decide) rfl), (Inc.rfl _), (p0_0.mono (up_mono r36.inc)), (p0_1.mono r36.inc), d0_0, Gr.rfl, rfl, rfl⟩⟩
  ·
   rintro s315 rfl f641 w640 ⟨H637, v318, n319, cs320, v324, S638, i639, els321, h325, nd322, gr323, k642, k643⟩
   replace hp := el_go hp
   refine FW.seq ?_
   obtain ⟨xs69, hz70, hp⟩ := bnd hp
   refine FW.drawB (SX H0 w0 H637 (.box b50 74 [v37, v43, Value.int .i64 s315.2.1, Value.string s315.2.2.1, Value.int .i64 s315.2.2.2.1, Value.int .i64 s315.2.2.2.2.1] :: L)) (fun f w => ∃ H : GH, ∃ v86 : Value, ∃ n87 : Nat, ∃ cs88 : List Value, ∃ v92 : Value, St H0 w0 H w (.box b0 136 [v86, v92] :: .row 74 6 v86 n87 cs88 :: L) ∧ Inc H637 H ∧ Els (up w0.heap.size H) eSeqStep 6 cs88 xs69 ∧ PAt H eSequent v92 s315.2.2.2.2.2 ∧ (bl cs88).Nodup ∧ Gr Ha k0_0 cs88 ∧ f 0 = Value.pointer (some (⟨b0, 0, none⟩ : Addr))) (by kernel_rfl) S638.sl ?_ ?_
   ·
    intro w644 r645
    have S646 := S638.call r645
    refine FB.phase [10] (fun w => WAt w (Addr.add ⟨b0, 0, none⟩ 0) [v318]) ?_
    refine FB.t (i := 0) (bs 11 1) rfl (SP.on ((S646.box_now (i := 1) rfl).sub (j := 0) (n := 1) (c := [v318]) rfl) (SP.nil ⟨_, (S646.selT (a := [.box b50 74 [v37, v43, Value.int .i64 s315.2.1, Value.string s315.2.2.1, Value.int .i64 s315.2.2.2.1, Value.int .i64 s315.2.2.2.2.1], .box b0 136 [v318, v324], .row 74 6 v318 n319 cs320]) (l' := [.box b50 74 [v37, v43, Value.int .i64 s315.2.1, Value.string s315.2.2.1, Value.int .i64 s315.2.2.2.1, Value.int .i64 s315.2.2.2.2.1]]) [0] (by decide) rfl), (Inc.rfl _)⟩)) rfl (fun w' hw' => (E.move k642)) ?_
    refine FB.t (i := 1) (bs 11 3) rfl (SP.on ((S646.box_now (i := 1) rfl).sub (j := 0) (n := 1) (c := [v318]) rfl) (SP.nil ⟨_, (S646.selT (a := [.box b50 74 [v37, v43, Value.int .i64 s315.2.1, Value.string s315.2.2.1, Value.int .i64 s315.2.2.2.1, Value.int .i64 s315.2.2.2.2.1], .box b0 136 [v318, v324], .row 74 6 v318 n319 cs320]) (l' := [.box b50 74 [v37, v43, Value.int .i64 s315.2.1, Value.string s315.2.2.1, Value.int .i64 s315.2.2.2.1, Value.int .i64 s315.2.2.2.2.1]]) [0] (by decide) rfl), (Inc.rfl _)⟩)) rfl (fun w' hw' => (E.move k642)) ?_
    refine FB.t (i := 2) (bs 11 7) rfl (SP.on ((S646.box_now (i := 1) rfl).sub (j := 0) (n := 1) (c := [v318]) rfl) (SP.nil ⟨_, (S646.selT (a := [.box b50 74 [v37, v43, Value.int .i64 s315.2.1, Value.string s315.2.2.1, Value.int .i64 s315.2.2.2.1, Value.int .i64 s315.2.2.2.2.1], .box b0 136 [v318, v324], .row 74 6 v318 n319 cs320]) (l' := [.box b50 74 [v37, v43, Value.int .i64 s315.2.1, Value.string s315.2.2.1, Value.int .i64 s315.2.2.2.1, Value.int .i64 s315.2.2.2.2.1]]) [0] (by decide) rfl), (Inc.rfl _)⟩)) rfl (fun w' hw' => (E.nilCheck rfl)) ?_
    refine FB.t (i := 3) (bs 11 15) rfl (SP.on ((S646.box_now (i := 1) rfl).sub (j := 0) (n := 1) (c := [v318]) rfl) (SP.nil ⟨_, (S646.selT (a := [.box b50 74 [v37, v43, Value.int .i64 s315.2.1, Value.string s315.2.2.1, Value.int .i64 s315.2.2.2.1, Value.int .i64 s315.2.2.2.2.1], .box b0 136 [v318, v324], .row 74 6 v318 n319 cs320]) (l' := [.box b50 74 [v37, v43, Value.int .i64 s315.2.1, Value.string s315.2.2.1, Value.int .i64 s315.2.2.2.1, Value.int .i64 s315.2.2.2.2.1]]) [0] (by decide) rfl), (Inc.rfl _)⟩)) rfl (fun w' hw' => (E.fieldAddr tf136_0 rfl)) ?_
    refine FB.p (i := 4) (bs 11 31) 0 [7, 8, 9, 10] rfl (SP.on ((S646.box_now (i := 1) rfl).sub (j := 0) (n := 1) (c := [v318]) rfl) (SP.nil ⟨_, (S646.selT (a := [.box b50 74 [v37, v43, Value.int .i64 s315.2.1, Value.string s315.2.2.1, Value.int .i64 s315.2.2.2.1, Value.int .i64 s315.2.2.2.2.1], .box b0 136 [v318, v324], .row 74 6 v318 n319 cs320]) (l' := [.box b50 74 [v37, v43, Value.int .i64 s315.2.1, Value.string s315.2.2.1, Value.int .i64 s315.2.2.2.1, Value.int .i64 s315.2.2.2.2.1]]) [0] (by decide) rfl), (Inc.rfl _)⟩)) rfl rfl (fun w' hw' => (E.load rfl (run_load0 Tryz.isAgg24 hw' rfl))) ?_
    refine FB.t (i := 5) (bs 11 63) rfl (SP.on ((S646.box_now (i := 1) rfl).sub (j := 0) (n := 1) (c := [v318]) rfl) (SP.nil ⟨_, (S646.selT (a := [.box b50 74 [v37, v43, Value.int .i64 s315.2.1, Value.string s315.2.2.1, Value.int .i64 s315.2.2.2.1, Value.int .i64 s315.2.2.2.2.1], .box b0 136 [v318, v324], .row 74 6 v318 n319 cs320]) (l' := [.box b50 74 [v37, v43, Value.int .i64 s315.2.1, Value.string s315.2.2.1, Value.int .i64 s315.2.2.2.1, Value.int .i64 s315.2.2.2.2.1]]) [0] (by decide) rfl), (Inc.rfl _)⟩)) rfl (fun w' hw' => (E.load k643 (run_loadA Tryz.isAgg74 Tryz.sizeOf74 (SX.box_now hw' (i := 0) rfl) rfl))) ?_
    refine FB.all1 (i := 6) (by kernel_rfl) ?_
    ·
     obtain ⟨v62, w63, run64, S65⟩ := S646.buildSlice (P := Tryz.prog) te24 [Value.agg #[v37, v43, Value.int .i64 s315.2.1, Value.string s315.2.2.1, Value.int .i64 s315.2.2.2.1, Value.int .i64 s315.2.2.2.2.1]] (parts := #[(0, Value.agg #[v37, v43, Value.int .i64 s315.2.1, Value.string s315.2.2.1, Value.int .i64 s315.2.2.2.1, Value.int .i64 s315.2.2.2.2.1])]) (cells := [v37, v43, Value.int .i64 s315.2.1, Value.string s315.2.2.1, Value.int .i64 s315.2.2.2.1, Value.int .i64 s315.2.2.2.2.1]) rfl (szs_cons rfl szs_nil) (fc_cons rfl fc_nil) (ones_cons h38.one (ones_cons h44.one (ones_cons rfl (ones_cons rfl (ones_cons rfl (ones_cons rfl ones_nil)))))) (Nat.le_of_ble_eq_true rfl)
     have els66 : Els (up w0.heap.size H637) eSeqStep 6 [v37, v43, Value.int .i64 s315.2.1, Value.string s315.2.2.1, Value.int .i64 s315.2.2.2.1, Value.int .i64 s315.2.2.2.2.1] [(SeqStep.mk r31 s315.2.1 s315.2.2.1 s315.2.2.2.1 s315.2.2.2.2.1)] := (Els.snoc (H := (up w0.heap.size H637)) (E := eSeqStep) (k := 6) (c := [v37, v43, Value.int .i64 s315.2.1, Value.string s315.2.2.1, Value.int .i64 s315.2.2.2.1, Value.int .i64 s315.2.2.2.2.1]) (x := (SeqStep.mk r31 s315.2.1 s315.2.2.1 s315.2.2.2.1 s315.2.2.2.2.1)) Els.nil rfl ⟨_, _, rfl, (h38.mono (up_mono i639)), (h44.mono (up_mono i639))⟩)
     have nd67 : (bl [v37, v43, Value.int .i64 s315.2.1, Value.string s315.2.2.1, Value.int .i64 s315.2.2.2.1, Value.int .i64 s315.2.2.2.2.1]).Nodup := by exact nd_two ap49.dis
     have nv68 : New Ha [v37, v43, Value.int .i64 s315.2.1, Value.string s315.2.2.1, Value.int .i64 s315.2.2.2.1, Value.int .i64 s315.2.2.2.2.1] := by exact (New.two nv42 nv48)
     refine FC.val (l' := (bs 11 127)) rfl (by kernel_rfl) rfl rfl rfl (E.buildSlice (B1 rfl) run64) ?_
     refine ⟨(SP.on ((S65.box_now (i := 2) rfl).sub (j := 0) (n := 1) (c := [v318]) rfl) (SP.nil ⟨_, (S65.selT (a := [.row 74 6 v62 1 [v37, v43, Value.int .i64 s315.2.1, Value.string s315.2.2.1, Value.int .i64 s315.2.2.2.1, Value.int .i64 s315.2.2.2.2.1], .box b50 74 [v37, v43, Value.int .i64 s315.2.1, Value.string s315.2.2.1, Value.int .i64 s315.2.2.2.1, Value.int .i64 s315.2.2.2.2.1], .box b0 136 [v318, v324], .row 74 6 v318 n319 cs320]) (l' := [.box b50 74 [v37, v43, Value.int .i64 s315.2.1, Value.string s315.2.2.1, Value.int .i64 s315.2.2.2.1, Value.int .i64 s315.2.2.2.2.1]]) [1] (by decide) rfl), (Inc.rfl _)⟩)), ?_⟩
     refine FB.all1 (i := 7) (by kernel_rfl) ?_
     ·
      obtain ⟨v71, w75, n72, cs73, run76, S77, els78, ce79⟩ := S65.appendO (P := Tryz.prog) te24 (i := 3) (j := 0) rfl els321 rfl els66 hz70
      have S77 : St H0 w0 H637 w75 (.row 74 6 v62 1 [v37, v43, Value.int .i64 s315.2.1, Value.string s315.2.2.1, Value.int .i64 s315.2.2.2.1, Value.int .i64 s315.2.2.2.2.1] :: .box b50 74 [v37, v43, Value.int .i64 s315.2.1, Value.string s315.2.2.1, Value.int .i64 s315.2.2.2.1, Value.int .i64 s315.2.2.2.2.1] :: .box b0 136 [v318, v324] :: .row 74 6 v71 n72 cs73 :: L) := S77
      have nd80 : (bl cs73).Nodup := by rw [ce79]; exact Gr.nd_app nd322 nd67 gr323 (Els.dom (p0_0.mono (upI.tr (Inc.rfl _)))) (by exact nv68) (by exact dom_two (RSl.dom (h38.mono (upI.tr (Inc.rfl _)))) (RSl.dom (h44.mono (upI.tr (Inc.rfl _)))))
      have gr81 : Gr Ha k0_0 cs73 := by rw [ce79]; exact ((gr323.anti r36.inc).app (by exact nv68))
      have S82 : St H0 w0 H637 w75 (.box b50 74 [v37, v43, Value.int .i64 s315.2.1, Value.string s315.2.2.1, Value.int .i64 s315.2.2.2.1, Value.int .i64 s315.2.2.2.2.1] :: .box b0 136 [v318, v324] :: .row 74 6 v71 n72 cs73 :: L) := S77.drop 0
      refine FC.val (l' := (bs 11 255)) rfl (by kernel_rfl) rfl rfl rfl (E.append rfl rfl run76) ?_
      refine ⟨(SP.on ((S82.box_now (i := 1) rfl).sub (j := 0) (n := 1) (c := [v318]) rfl) (SP.nil ⟨_, (S82.selT (a := [.box b50 74 [v37, v43, Value.int .i64 s315.2.1, Value.string s315.2.2.1, Value.int .i64 s315.2.2.2.1, Value.int .i64 s315.2.2.2.2.1], .box b0 136 [v318, v324], .row 74 6 v71 n72 cs73]) (l' := [.box b50 74 [v37, v43, Value.int .i64 s315.2.1, Value.string s315.2.2.1, Value.int .i64 s315.2.2.2.1, Value.int .i64 s315.2.2.2.2.1]]) [0] (by decide) rfl), (Inc.rfl _)⟩)), ?_⟩
      refine FB.t (i := 8) (bs 11 511) rfl (SP.on ((S82.box_now (i := 1) rfl).sub (j := 0) (n := 1) (c := [v318]) rfl) (SP.nil ⟨_, (S82.selT (a := [.box b50 74 [v37, v43, Value.int .i64 s315.2.1, Value.string s315.2.2.1, Value.int .i64 s315.2.2.2.1, Value.int .i64 s315.2.2.2.2.1], .box b0 136 [v318, v324], .row 74 6 v71 n72 cs73]) (l' := [.box b50 74 [v37, v43, Value.int .i64 s315.2.1, Value.string s315.2.2.1, Value.int .i64 s315.2.2.2.1, Value.int .i64 s315.2.2.2.2.1]]) [0] (by decide) rfl), (Inc.rfl _)⟩)) rfl (fun w' hw' => (E.nilCheck rfl)) ?_
      refine FB.t (i := 9) (bs 11 1023) rfl (SP.on ((S82.box_now (i := 1) rfl).sub (j := 0) (n := 1) (c := [v318]) rfl) (SP.nil ⟨_, (S82.selT (a := [.box b50 74 [v37, v43, Value.int .i64 s315.2.1, Value.string s315.2.2.1, Value.int .i64 s315.2.2.2.1, Value.int .i64 s315.2.2.2.2.1], .box b0 136 [v318, v324], .row 74 6 v71 n72 cs73]) (l' := [.box b50 74 [v37, v43, Value.int .i64 s315.2.1, Value.string s315.2.2.1, Value.int .i64 s315.2.2.2.1, Value.int .i64 s315.2.2.2.2.1]]) [0] (by decide) rfl), (Inc.rfl _)⟩)) rfl (fun w' hw' => (E.fieldAddr tf136_0 rfl)) ?_
      refine FB.all1 (i := 10) (by kernel_rfl) ?_
      ·
       obtain ⟨w83, run84, S85⟩ := S82.store (P := Tryz.prog) (t := 24) (i := 1) (j := 0) (cs' := [v71, v324]) (l' := (.box b50 74 [v37, v43, Value.int .i64 s315.2.1, Value.string s315.2.2.1, Value.int .i64 s315.2.2.2.1, Value.int .i64 s315.2.2.2.2.1] :: .box b0 136 [v71, v324] :: .row 74 6 v71 n72 cs73 :: L)) (v := v71) (c := [v71]) rfl Tryz.sizeOf24 (Ln.cells (S82.row_ln (i := 2) rfl)) rfl (ones_cons (Ln.one (S82.row_ln (i := 2) rfl)) ones_nil) (Nat.le_of_ble_eq_true rfl) rfl rfl
       refine FC.act (l' := (bs 11 2047)) rfl (by kernel_rfl) rfl rfl (E.store rfl rfl run84) ?_
       refine ⟨(SP.o (SP.nil ⟨_, (S85.selT (a := [.box b50 74 [v37, v43, Value.int .i64 s315.2.1, Value.string s315.2.2.1, Value.int .i64 s315.2.2.2.1, Value.int .i64 s315.2.2.2.2.1], .box b0 136 [v71, v324], .row 74 6 v71 n72 cs73]) (l' := [.box b50 74 [v37, v43, Value.int .i64 s315.2.1, Value.string s315.2.2.1, Value.int .i64 s315.2.2.2.1, Value.int .i64 s315.2.2.2.2.1]]) [0] (by decide) rfl), (Inc.rfl _)⟩)), ?_⟩
       exact FB.done (by kernel_rfl) ⟨_, _, _, _, _, (S85.selT (a := [.box b50 74 [v37, v43, Value.int .i64 s315.2.1, Value.string s315.2.2.1, Value.int .i64 s315.2.2.2.1, Value.int .i64 s315.2.2.2.2.1], .box b0 136 [v71, v324], .row 74 6 v71 n72 cs73]) (l' := [.box b0 136 [v71, v324], .row 74 6 v71 n72 cs73]) [1, 2] (by decide) rfl), (Inc.rfl _), els78, h325, nd80, (gr81.anti (Inc.rfl _)), k642⟩
   ·
    rintro f98 w97 ⟨H94, v86, n87, cs88, v92, S95, i96, els89, h93, nd90, gr91, k99⟩
    refine FW.seq (FW.region ?_)
    refine FL.v (E.move k99) ?_
    refine FL.v (E.nilCheck rfl) ?_
    refine FL.v (E.fieldAddr tf136_0 rfl) ?_
    refine FL.v (E.load rfl (run_load1 Tryz.isAgg24 (S95.box_now (i := 0) rfl) rfl)) ?_
    refine FL.v (E.lenO te24 rfl S95 (i := 1) rfl els89 (by decide)) ?_
    refine FL.v (E.leq rfl rfl) ?_
    refine FL.v (E.assign (v := Value.bool (decide ((len xs69) ≤ 200))) rfl) ?_
    refine FL.nil ?_
    refine FW.ret ?_
    obtain rfl := Option.some.inj hp
    exact ⟨.inr rfl, res1 rfl rfl ⟨_, _, _, _, _, rfl, ⟨S95, ((r36.inc.tr i639).tr i96)⟩, els89, nd90, (gr91.anti (Inc.rfl _)), h93⟩⟩
  ·
   rintro x317 rfl e f w hne ⟨he, hL⟩
   replace hp := el_rt hp
   obtain rfl := Option.some.inj hp
   subst he
   exact hL
theorem w_impl_seqSearch_search_F (n : Nat) : ∀ {H0 Ha : GH} {w0 wa : World} {L : List MO} {a0 : seqSearch} {b0 : Nat} {v0_0 : Value} {n0_0 : Nat} {k0_0 : List Value} {v0_1 : Value} (S0 : St H0 w0 Ha wa (.box b0 136 [v0_0, v0_1] :: .row 74 6 v0_0 n0_0 k0_0 :: L)) (p0_0 : Els (up w0.heap.size Ha) eSeqStep 6 k0_0 a0.steps) (d0_0 : (bl k0_0).Nodup) (p0_1 : PAt Ha eSequent v0_1 a0.open_) (a1 : Sequent) (v1_0 : Value) (p1_0 : RSl Ha eS 1 v1_0 a1.left) (v1_1 : Value) (p1_1 : RSl Ha eS 1 v1_1 a1.right) {r : (Bool × seqSearch)} (hp : PF.impl_seqSearch_search_F n a0 a1 = some r), Calls Tryz.prog 104 #[Value.pointer (some (⟨b0, 0, none⟩ : Addr)), Value.agg #[v1_0, v1_1]] wa (p_impl_seqSearch_search H0 w0 Ha L b0 k0_0 r) := by
 induction n with
 | zero => intros; rename_i hp; exact nomatch hp
 | succ n ih => exact w_impl_seqSearch_search_B (rec_impl_seqSearch_search := PF.impl_seqSearch_search_F n) ih
theorem w_impl_seqSearch_search {H0 Ha : GH} {w0 wa : World} {L : List MO} {a0 : seqSearch} {b0 : Nat} {v0_0 : Value} {n0_0 : Nat} {k0_0 : List Value} {v0_1 : Value} (S0 : St H0 w0 Ha wa (.box b0 136 [v0_0, v0_1] :: .row 74 6 v0_0 n0_0 k0_0 :: L)) (p0_0 : Els (up w0.heap.size Ha) eSeqStep 6 k0_0 a0.steps) (d0_0 : (bl k0_0).Nodup) (p0_1 : PAt Ha eSequent v0_1 a0.open_) (a1 : Sequent) (v1_0 : Value) (p1_0 : RSl Ha eS 1 v1_0 a1.left) (v1_1 : Value) (p1_1 : RSl Ha eS 1 v1_1 a1.right) {r : (Bool × seqSearch)} (hp : PF.impl_seqSearch_search a0 a1 = some r) :
  Calls Tryz.prog 104 #[Value.pointer (some (⟨b0, 0, none⟩ : Addr)), Value.agg #[v1_0, v1_1]] wa (p_impl_seqSearch_search H0 w0 Ha L b0 k0_0 r) := w_impl_seqSearch_search_F deep S0 p0_0 d0_0 p0_1 a1 v1_0 p1_0 v1_1 p1_1 hp

@[reducible] def p_impl_SearchSequent (Ha : GH) (wa : World) (r : ((List SeqStep) × Bool)) : Ending → World → Prop :=
 fun e w' => ∃ H' : GH, ∃ v0 : Value, ∃ n0 : Nat, ∃ c0 : List Value, e = .returned (Value.tuple #[v0, Value.bool r.2]) ∧ St Ha wa H' w' [.row 74 6 v0 n0 c0] ∧ Els (up wa.heap.size H') eSeqStep 6 c0 r.1 ∧ (bl c0).Nodup
theorem w_impl_SearchSequent {Ha : GH} {wa : World} (hs : Sl Ha wa) (a0 : Sequent) (v0_0 : Value) (p0_0 : RSl Ha eS 1 v0_0 a0.left) (v0_1 : Value) (p0_1 : RSl Ha eS 1 v0_1 a0.right) {r : ((List SeqStep) × Bool)} (hp : (PF.impl_SearchSequent a0) = some r) :
  Calls Tryz.prog 53 #[Value.agg #[v0_0, v0_1]] wa (p_impl_SearchSequent Ha wa r) := by
 unfold PF.impl_SearchSequent at hp
 have S0 := St.init hs
 refine calls_go (N := 15) (args := [Value.agg #[v0_0, v0_1]]) Tryz.func53 rfl rfl rfl ?_
 refine FW.seq (FW.region ?_)
 obtain ⟨b21, w22, run23, S24⟩ := S0.box (P := Tryz.prog) 68 [v0_0, v0_1] (v := Value.agg #[v0_0, v0_1]) rfl (ones_cons p0_0.one (ones_cons p0_1.one ones_nil))
 refine FL.v (E.box rfl run23) ?_
 obtain ⟨H25, S26, i27, at28⟩ := S24.sealBox (i := 0) (l' := []) rfl rfl
 refine FL.v (E.assign (v := Value.slice none 0 0) rfl) ?_
 refine FL.v (E.assign (v := Value.bool false) rfl) ?_
 refine FL.nil (FW.seq (FW.region ?_))
 refine FL.v (E.build (B0) (run_build _ 136 #[] #[Value.slice none 0 0, Value.pointer none] (by rfl))) ?_
 obtain ⟨b29, w30, run31, S32⟩ := S26.box (P := Tryz.prog) 136 [Value.slice none 0 0, Value.pointer none] (v := Value.agg #[Value.slice none 0 0, Value.pointer none]) rfl (ones_cons rfl (ones_cons rfl ones_nil))
 refine FL.v (E.box rfl run31) ?_
 refine FL.v (E.assign (v := Value.pointer (some (⟨b29, 0, none⟩ : Addr))) rfl) ?_
 refine FL.nil (FW.seq (FW.seq (FW.region ?_)))
 refine FL.v (E.move (v := Value.pointer (some (⟨b29, 0, none⟩ : Addr))) rfl) ?_
 refine FL.v (E.load rfl (run_loadA Tryz.isAgg68 Tryz.sizeOf68 (at28.now S32.sl) rfl)) ?_
 have S33 := S32.nil 74 6
 have els34 : Els (up wa.heap.size H25) eSeqStep 6 [] [] := Els.nil
 obtain ⟨r35, hr36, hp⟩ := bnd hp
 have S37 : St Ha wa H25 w30 [.box b29 136 [(Value.slice none 0 0), Value.pointer none], .row 74 6 (Value.slice none 0 0) 0 []] := S33.front 1 rfl rfl
 refine FL.call rfl rfl rfl (E.call Tryz.call104 (A2 rfl rfl)) (w_impl_seqSearch_search (L := []) S37 (a0 := (seqSearch.mk [] none)) els34 (show (bl []).Nodup from List.nodup_nil) PAt.nil a0 v0_0 (p0_0.mono i27) v0_1 (p0_1.mono i27) hr36) ?_
 rintro e w39 ⟨H38, v42, n43, cs44, v48, rfl, ⟨S40, i41⟩, els45, nd46, gr47, h49⟩
 refine ⟨_, rfl, ?_⟩
 have S40 : St Ha wa H38 w39 [.box b29 136 [v42, v48], .row 74 6 v42 n43 cs44] := S40
 refine FL.v (E.not rfl) ?_
 refine FL.nil ?_
 rcases ifB hp with ⟨c50, hp⟩ | ⟨c50, hp⟩
 ·
  refine FW.condT rfl c50 ?_
  refine FW.seq (FW.region ?_)
  refine FL.v (E.assign (v := Value.slice none 0 0) rfl) ?_
  refine FL.v (E.assign (v := Value.bool false) rfl) ?_
  refine FL.nil ?_
  refine FW.ret ?_
  obtain rfl := Option.some.inj hp
  exact ⟨.inr rfl, res2 rfl rfl rfl ⟨_, _, _, _, rfl, ((S40.nil 74 6).sel [0] (by decide) rfl), Els.nil, List.nodup_nil⟩⟩
 ·
  refine FW.condF rfl c50 ?_
  refine FW.skip (FW.seq (FW.region ?_))
  refine FL.v (E.move (v := Value.pointer (some (⟨b29, 0, none⟩ : Addr))) rfl) ?_
  refine FL.v (E.nilCheck rfl) ?_
  refine FL.v (E.fieldAddr tf136_0 rfl) ?_
  refine FL.v (E.load rfl (run_load1 Tryz.isAgg24 (S40.box_now (i := 0) rfl) rfl)) ?_
  refine FL.v (E.assign (v := v42) rfl) ?_
  refine FL.v (E.assign (v := Value.bool true) rfl) ?_
  refine FL.nil ?_
  refine FW.ret ?_
  obtain rfl := Option.some.inj hp
  exact ⟨.inr rfl, res2 rfl rfl rfl ⟨_, _, _, _, rfl, (S40.sel [1] (by decide) rfl), els45, nd46⟩⟩

@[reducible] def p_impl_DropCuts (Ha : GH) (wa : World) (r : ((List SeqStep) × Bool)) : Ending → World → Prop :=
 fun e w' => ∃ H' : GH, ∃ v0 : Value, ∃ n0 : Nat, ∃ c0 : List Value, e = .returned (Value.tuple #[v0, Value.bool r.2]) ∧ St Ha wa H' w' [.row 74 6 v0 n0 c0] ∧ Els (up wa.heap.size H') eSeqStep 6 c0 r.1 ∧ (bl c0).Nodup
theorem w_impl_DropCuts {Ha : GH} {wa : World} (hs : Sl Ha wa) (v0 : Value) (a0 : List SeqStep) (p0 : RSl Ha eSeqStep 6 v0 a0) {r : ((List SeqStep) × Bool)} (hp : (PF.impl_DropCuts a0) = some r) :
  Calls Tryz.prog 25 #[v0] wa (p_impl_DropCuts Ha wa r) := by
 unfold PF.impl_DropCuts at hp
 have S0 := St.init hs
 refine calls_go (N := 13) (args := [v0]) Tryz.func25 rfl rfl rfl ?_
 refine FW.seq (FW.region ?_)
 refine FL.v (E.assign (v := Value.slice none 0 0) rfl) ?_
 refine FL.v (E.assign (v := Value.bool false) rfl) ?_
 refine FL.nil (FW.seq (FW.seq (FW.region ?_)))
 refine FL.v (E.move (v := v0) rfl) ?_
 obtain ⟨r21, hr22, hp⟩ := bnd hp
 refine FL.call rfl rfl rfl (E.call Tryz.call62 (A1 rfl)) (w_impl_isSeqProof S0.sl v0 a0 p0 hr22) ?_
 rintro e w23 ⟨rfl, r24⟩
 refine ⟨_, rfl, ?_⟩
 have S25 := S0.call r24
 refine FL.v (E.not rfl) ?_
 refine FL.nil ?_
 rcases ifB hp with ⟨c26, hp⟩ | ⟨c26, hp⟩
 ·
  refine FW.condT rfl c26 ?_
  refine FW.seq (FW.region ?_)
  refine FL.v (E.assign (v := Value.slice none 0 0) rfl) ?_
  refine FL.v (E.assign (v := Value.bool false) rfl) ?_
  refine FL.nil ?_
  refine FW.ret ?_
  obtain rfl := Option.some.inj hp
  exact ⟨.inr rfl, res2 rfl rfl rfl ⟨_, _, _, _, rfl, (S25.nil 74 6), Els.nil, List.nodup_nil⟩⟩
 ·
  refine FW.condF rfl c26 ?_
  refine FW.skip (FW.seq (FW.region ?_))
  refine FL.v (E.move (v := v0) rfl) ?_
  obtain ⟨r27, hr28, hp⟩ := bnd hp
  refine FL.call rfl rfl rfl (E.call Tryz.call66 (A1 rfl)) (w_impl_last_impl_SeqStep S25.sl v0 a0 p0 hr28) ?_
  rintro e w30 ⟨H29, v33, v35, rfl, r32, h34, h36⟩
  refine ⟨_, rfl, ?_⟩
  have S31 := S25.call r32
  refine FL.v (E.fieldA (fa74_0 rfl) rfl) ?_
  obtain ⟨r37, hr38, hp⟩ := bnd hp
  refine FL.call rfl rfl rfl (E.call Tryz.call53 (A1 rfl)) (w_impl_SearchSequent S31.sl r27.seq v33 h34 v35 h36 hr38) ?_
  rintro e w40 ⟨H39, v43, n44, cs45, rfl, r42, els46, nd47⟩
  refine ⟨_, rfl, ?_⟩
  have nv48 : New H29 cs45 := New.of_up S31.sl els46.dom
  have els46 := els46.mono (up_le S31.size)
  have S41 := S31.join (l' := [.row 74 6 v43 n44 cs45]) r42 rfl
  refine FL.v (E.extract (i := 0) rfl rfl) ?_
  refine FL.v (E.extract (i := 1) rfl rfl) ?_
  refine FL.v (E.assign (v := v43) rfl) ?_
  refine FL.v (E.assign (v := Value.bool r37.2) rfl) ?_
  refine FL.nil ?_
  refine FW.ret ?_
  obtain rfl := Option.some.inj hp
  exact ⟨.inr rfl, res2 rfl rfl rfl ⟨_, _, _, _, rfl, S41, els46, nd47⟩⟩

set_option maxHeartbeats 4000000 in
theorem w_laws_eqStringS {Ha : GH} {wa : World} (hs : Sl Ha wa) (v0 : Value) (a0 : List ByteArray) (p0 : RSl Ha eS 1 v0 a0) (v1 : Value) (a1 : List ByteArray) (p1 : RSl Ha eS 1 v1 a1) {r : Bool} (hp : (PF.laws_eqStringS a0 a1) = some r) :
  Calls Tryz.prog 14 #[v0, v1] wa (Sc Ha wa (Value.bool r)) := by
 unfold PF.laws_eqStringS at hp
 have S0 := St.init hs
 refine calls_go (N := 26) (args := [v0, v1]) Tryz.func14 rfl rfl rfl ?_
 refine FW.seq (FW.region ?_)
 refine FL.v (E.assign (v := Value.bool false) rfl) ?_
 refine FL.nil (FW.seq (FW.seq (FW.region ?_)))
 refine FL.v (E.move (v := v0) rfl) ?_
 refine FL.v (E.lenP te22 rfl p0) ?_
 refine FL.v (E.move (v := v1) rfl) ?_
 refine FL.v (E.lenP te22 rfl p1) ?_
 refine FL.v (E.neq rfl rfl) ?_
 refine FL.nil ?_
 rcases ifB hp with ⟨c21, hp⟩ | ⟨c21, hp⟩
 ·
  refine FW.condT rfl c21 ?_
  refine FW.seq (FW.region ?_)
  refine FL.v (E.assign (v := Value.bool false) rfl) ?_
  refine FL.nil ?_
  refine FW.ret ?_
  obtain rfl := Option.some.inj hp
  exact ⟨.inr rfl, res1 rfl rfl ⟨rfl, S0.back⟩⟩
 ·
  refine FW.condF rfl c21 ?_
  refine FW.skip (FW.seq (FW.seq (FW.region ?_)))
  refine FL.v (E.assign (v := Value.int .i64 0) rfl) ?_
  refine FL.nil ?_
  obtain ⟨q23, hq, hp⟩ := bndR hp
  refine FW.block ?_
  refine FW.mono (FW.forL (S := Unit) (X := Bool) (fun (i23 : Nat) (s23 : Unit) f w => ∃ H : GH, St Ha wa H w [] ∧ Inc Ha H ∧ f 5 = Value.int .i64 ((i23 : Nat) : Int) ∧ f 0 = v0 ∧ f 1 = v1) (fun q e f w => match q with | .go s23 => e = Exit.exit 0 ∧ (∃ H : GH, St Ha wa H w [] ∧ Inc Ha H) | .rt x => ((e = Exit.ret) ∧ (fun e f w => (e = Exit.normal ∨ e = Exit.ret) ∧ ∀ a, Fr (δ := []) 26 a f → ∃ v, (results Tryz.f14 a.tmps).run Tryz.prog w = .ok v w ∧ (Sc Ha wa (Value.bool x)) (.returned v) w) e f w)) hq ⟨_, S0, (Inc.rfl _), rfl, rfl, rfl⟩ ?_ ?_) ?_
  ·
   clear hp hq
   rintro i23 y22 s23 f55 w54 ⟨H51, S52, i53, k56, k57, k58⟩ hx23 o78 hp
   refine FW.seq (FW.seq (FW.region ?_))
   refine FL.v (E.move k56) ?_
   refine FL.v (E.move k57) ?_
   refine FL.v (E.lenP te22 rfl p0) ?_
   refine FL.v (E.lssT rfl rfl (lss_len hx23)) ?_
   refine FL.nil ?_
   refine FW.condT rfl rfl ?_
   refine FW.skip (FW.seq (FW.block (FW.seq ?_)))
   refine FW.draw (fun w' => Run w54.heap.size H51 w54 H51 w') (by kernel_rfl) (by kernel_rfl) (run_drew S52.sl) ?_
   refine FD.val rfl rfl rfl (fun w' hw' => (E.move k57)) ?_
   refine FD.val rfl rfl rfl (fun w' hw' => (E.move k56)) ?_
   obtain ⟨p60, cs61, pt62, l63, at64, rel65⟩ := p0.at (ix_nat hx23)
   obtain rfl := eS_open rel65
   refine FD.val rfl rfl rfl (fun w' hw' => (E.indexAddr te22 rfl rfl pt62)) ?_
   refine FD.val rfl rfl rfl (fun w' hw' => (E.load rfl (run_load0 Tryz.isAgg9 ((at64.mono i53).now (S52.call hw').sl) rfl))) ?_
   refine FD.val rfl rfl rfl (fun w' hw' => (E.move k58)) ?_
   refine FD.val rfl rfl rfl (fun w' hw' => (E.move k56)) ?_
   obtain ⟨x72, hx73, hp⟩ := bnd hp
   obtain ⟨p66, cs67, pt68, l69, at70, rel71⟩ := p1.at hx73
   obtain rfl := eS_open rel71
   refine FD.val rfl rfl rfl (fun w' hw' => (E.indexAddr te22 rfl rfl pt68)) ?_
   refine FD.val rfl rfl rfl (fun w' hw' => (E.load rfl (run_load0 Tryz.isAgg9 ((at70.mono i53).now (S52.call hw').sl) rfl))) ?_
   refine FD.val rfl rfl rfl (fun w' hw' => (E.neqS rfl rfl)) ?_
   refine FD.nil ?_
   intro w74 r76
   have S75 := S52.call r76
   rcases ifB hp with ⟨c77, hp⟩ | ⟨c77, hp⟩
   ·
    refine FW.condT rfl c77 ?_
    refine FW.seq (FW.region ?_)
    refine FL.v (E.assign (v := Value.bool false) rfl) ?_
    refine FL.nil ?_
    refine FW.ret ?_
    obtain rfl := Option.some.inj hp
    exact ⟨nofun, rfl, ⟨.inr rfl, res1 rfl rfl ⟨rfl, S75.back⟩⟩⟩
   ·
    refine FW.condF rfl c77 ?_
    refine FW.skip (FW.region ?_)
    refine FL.v (E.move k56) ?_
    refine FL.v (E.add rfl rfl) ?_
    refine FL.v (E.assign (v := Value.int .i64 (wr (((i23 : Nat) : Int) + 1))) rfl) ?_
    refine FL.nil ?_
    obtain rfl := Option.some.inj hp
    exact ⟨rfl, ⟨_, S75, i53, (nat_succ rfl (lt_of_get hx23) (p0.mono i53).le), k57, k58⟩⟩
  ·
   clear hp hq
   rintro s23 f88 w87 ⟨H84, S85, i86, k89, k90, k91⟩
   refine FW.seq (FW.seq (FW.region ?_))
   refine FL.v (E.move k89) ?_
   refine FL.v (E.move k90) ?_
   refine FL.v (E.lenP te22 rfl p0) ?_
   refine FL.v (E.lss rfl rfl) ?_
   refine FL.nil ?_
   refine FW.condF rfl dlt_len ?_
   refine FW.exit ?_
   exact ⟨nofun, rfl, ⟨_, S85, i86⟩⟩
  ·
   clear hq
   intro e f83 w82 hD
   rcases q23 with s23 | x23
   ·
    obtain ⟨rfl, hD⟩ := hD
    obtain ⟨H79, S80, i81⟩ := hD
    replace hp := el_go hp
    refine FW.seq (FW.region ?_)
    refine FL.v (E.assign (v := Value.bool true) rfl) ?_
    refine FL.nil ?_
    refine FW.ret ?_
    obtain rfl := Option.some.inj hp
    exact ⟨.inr rfl, res1 rfl rfl ⟨rfl, S80.back⟩⟩
   ·
    obtain ⟨he, hL⟩ := hD
    replace hp := el_rt hp
    obtain rfl := Option.some.inj hp
    subst he
    exact hL

theorem w_laws_eqSequent {Ha : GH} {wa : World} (hs : Sl Ha wa) (a0 : Sequent) (v0_0 : Value) (p0_0 : RSl Ha eS 1 v0_0 a0.left) (v0_1 : Value) (p0_1 : RSl Ha eS 1 v0_1 a0.right) (a1 : Sequent) (v1_0 : Value) (p1_0 : RSl Ha eS 1 v1_0 a1.left) (v1_1 : Value) (p1_1 : RSl Ha eS 1 v1_1 a1.right) {r : Bool} (hp : (PF.laws_eqSequent a0 a1) = some r) :
  Calls Tryz.prog 105 #[Value.agg #[v0_0, v0_1], Value.agg #[v1_0, v1_1]] wa (Sc Ha wa (Value.bool r)) := by
 unfold PF.laws_eqSequent at hp
 have S0 := St.init hs
 refine calls_go (N := 17) (args := [Value.agg #[v0_0, v0_1], Value.agg #[v1_0, v1_1]]) Tryz.func105 rfl rfl rfl ?_
 refine FW.seq (FW.region ?_)
 obtain ⟨b21, w22, run23, S24⟩ := S0.box (P := Tryz.prog) 68 [v0_0, v0_1] (v := Value.agg #[v0_0, v0_1]) rfl (ones_cons p0_0.one (ones_cons p0_1.one ones_nil))
 refine FL.v (E.box rfl run23) ?_
 obtain ⟨H25, S26, i27, at28⟩ := S24.sealBox (i := 0) (l' := []) rfl rfl
 obtain ⟨b29, w30, run31, S32⟩ := S26.box (P := Tryz.prog) 68 [v1_0, v1_1] (v := Value.agg #[v1_0, v1_1]) rfl (ones_cons p1_0.one (ones_cons p1_1.one ones_nil))
 refine FL.v (E.box rfl run31) ?_
 obtain ⟨H33, S34, i35, at36⟩ := S32.sealBox (i := 0) (l' := []) rfl rfl
 refine FL.v (E.assign (v := Value.bool false) rfl) ?_
 refine FL.nil (FW.seq (FW.seq (FW.region ?_)))
 refine FL.v (E.fieldAddr tf68_0 rfl) ?_
 refine FL.v (E.load rfl (run_load1 Tryz.isAgg22 ((at28.mono i35).now S34.sl) rfl)) ?_
 refine FL.v (E.fieldAddr tf68_0 rfl) ?_
 refine FL.v (E.load rfl (run_load1 Tryz.isAgg22 (at36.now S34.sl) rfl)) ?_
 obtain ⟨r37, hr38, hp⟩ := bnd hp
 refine FL.call rfl rfl rfl (E.call Tryz.call14 (A2 rfl rfl)) (w_laws_eqStringS S34.sl v0_0 a0.left (p0_0.mono (i27.tr i35)) v1_0 a1.left (p1_0.mono (i27.tr i35)) hr38) ?_
 rintro e w39 ⟨rfl, r40⟩
 refine ⟨_, rfl, ?_⟩
 have S41 := S34.call r40
 refine FL.v (E.not rfl) ?_
 refine FL.nil ?_
 rcases ifB hp with ⟨c42, hp⟩ | ⟨c42, hp⟩
 ·
  refine FW.condT rfl c42 ?_
  refine FW.seq (FW.region ?_)
  refine FL.v (E.assign (v := Value.bool false) rfl) ?_
  refine FL.nil ?_
  refine FW.ret ?_
  obtain rfl := Option.some.inj hp
  exact ⟨.inr rfl, res1 rfl rfl ⟨rfl, S41.back⟩⟩
 ·
  refine FW.condF rfl c42 ?_
  refine FW.skip (FW.seq (FW.seq (FW.region ?_)))
  refine FL.v (E.fieldAddr tf68_1 rfl) ?_
  refine FL.v (E.load rfl (run_load1 Tryz.isAgg22 ((at28.mono i35).now S41.sl) rfl)) ?_
  refine FL.v (E.fieldAddr tf68_1 rfl) ?_
  refine FL.v (E.load rfl (run_load1 Tryz.isAgg22 (at36.now S41.sl) rfl)) ?_
  obtain ⟨r43, hr44, hp⟩ := bnd hp
  refine FL.call rfl rfl rfl (E.call Tryz.call14 (A2 rfl rfl)) (w_laws_eqStringS S41.sl v0_1 a0.right (p0_1.mono (i27.tr i35)) v1_1 a1.right (p1_1.mono (i27.tr i35)) hr44) ?_
  rintro e w45 ⟨rfl, r46⟩
  refine ⟨_, rfl, ?_⟩
  have S47 := S41.call r46
  refine FL.v (E.not rfl) ?_
  refine FL.nil ?_
  rcases ifB hp with ⟨c48, hp⟩ | ⟨c48, hp⟩
  ·
   refine FW.condT rfl c48 ?_
   refine FW.seq (FW.region ?_)
   refine FL.v (E.assign (v := Value.bool false) rfl) ?_
   refine FL.nil ?_
   refine FW.ret ?_
   obtain rfl := Option.some.inj hp
   exact ⟨.inr rfl, res1 rfl rfl ⟨rfl, S47.back⟩⟩
  ·
   refine FW.condF rfl c48 ?_
   refine FW.skip (FW.seq (FW.region ?_))
   refine FL.v (E.assign (v := Value.bool true) rfl) ?_
   refine FL.nil ?_
   refine FW.ret ?_
   obtain rfl := Option.some.inj hp
   exact ⟨.inr rfl, res1 rfl rfl ⟨rfl, S47.back⟩⟩

set_option maxHeartbeats 4000000 in
theorem w_laws_eqSeqStep {Ha : GH} {wa : World} (hs : Sl Ha wa) (a0 : SeqStep) (v0_0 : Value) (p0_0 : RSl Ha eS 1 v0_0 a0.seq.left) (v0_1 : Value) (p0_1 : RSl Ha eS 1 v0_1 a0.seq.right) (a1 : SeqStep) (v1_0 : Value) (p1_0 : RSl Ha eS 1 v1_0 a1.seq.left) (v1_1 : Value) (p1_1 : RSl Ha eS 1 v1_1 a1.seq.right) {r : Bool} (hp : (PF.laws_eqSeqStep a0 a1) = some r) :
  Calls Tryz.prog 54 #[Value.agg #[v0_0, v0_1, Value.int .i64 a0.rule, Value.string a0.main, Value.int .i64 a0.a, Value.int .i64 a0.b], Value.agg #[v1_0, v1_1, Value.int .i64 a1.rule, Value.string a1.main, Value.int .i64 a1.a, Value.int .i64 a1.b]] wa (Sc Ha wa (Value.bool r)) := by
 unfold PF.laws_eqSeqStep at hp
 have S0 := St.init hs
 refine calls_go (N := 31) (args := [Value.agg #[v0_0, v0_1, Value.int .i64 a0.rule, Value.string a0.main, Value.int .i64 a0.a, Value.int .i64 a0.b], Value.agg #[v1_0, v1_1, Value.int .i64 a1.rule, Value.string a1.main, Value.int .i64 a1.a, Value.int .i64 a1.b]]) Tryz.func54 rfl rfl rfl ?_
 refine FW.seq (FW.region ?_)
 obtain ⟨b21, w22, run23, S24⟩ := S0.box (P := Tryz.prog) 74 [v0_0, v0_1, Value.int .i64 a0.rule, Value.string a0.main, Value.int .i64 a0.a, Value.int .i64 a0.b] (v := Value.agg #[v0_0, v0_1, Value.int .i64 a0.rule, Value.string a0.main, Value.int .i64 a0.a, Value.int .i64 a0.b]) rfl (ones_cons p0_0.one (ones_cons p0_1.one (ones_cons rfl (ones_cons rfl (ones_cons rfl (ones_cons rfl ones_nil))))))
 refine FL.v (E.box rfl run23) ?_
 obtain ⟨H25, S26, i27, at28⟩ := S24.sealBox (i := 0) (l' := []) rfl rfl
 obtain ⟨b29, w30, run31, S32⟩ := S26.box (P := Tryz.prog) 74 [v1_0, v1_1, Value.int .i64 a1.rule, Value.string a1.main, Value.int .i64 a1.a, Value.int .i64 a1.b] (v := Value.agg #[v1_0, v1_1, Value.int .i64 a1.rule, Value.string a1.main, Value.int .i64 a1.a, Value.int .i64 a1.b]) rfl (ones_cons p1_0.one (ones_cons p1_1.one (ones_cons rfl (ones_cons rfl (ones_cons rfl (ones_cons rfl ones_nil))))))
 refine FL.v (E.box rfl run31) ?_
 obtain ⟨H33, S34, i35, at36⟩ := S32.sealBox (i := 0) (l' := []) rfl rfl
 refine FL.v (E.assign (v := Value.bool false) rfl) ?_
 refine FL.nil (FW.seq (FW.seq (FW.region ?_)))
 refine FL.v (E.fieldAddr tf74_0 rfl) ?_
 refine FL.v (E.load rfl (run_loadA Tryz.isAgg68 Tryz.sizeOf68 (((at28.mono i35).now S34.sl).sub (j := 0) (n := 2) (c := [v0_0, v0_1]) rfl) rfl)) ?_
 refine FL.v (E.fieldAddr tf74_0 rfl) ?_
 refine FL.v (E.load rfl (run_loadA Tryz.isAgg68 Tryz.sizeOf68 ((at36.now S34.sl).sub (j := 0) (n := 2) (c := [v1_0, v1_1]) rfl) rfl)) ?_
 obtain ⟨r37, hr38, hp⟩ := bnd hp
 refine FL.call rfl rfl rfl (E.call Tryz.call105 (A2 rfl rfl)) (w_laws_eqSequent S34.sl a0.seq v0_0 (p0_0.mono (i27.tr i35)) v0_1 (p0_1.mono (i27.tr i35)) a1.seq v1_0 (p1_0.mono (i27.tr i35)) v1_1 (p1_1.mono (i27.tr i35)) hr38) ?_
 rintro e w39 ⟨rfl, r40⟩
 refine ⟨_, rfl, ?_⟩
 have S41 := S34.call r40
 refine FL.v (E.not rfl) ?_
 refine FL.nil ?_
 rcases ifB hp with ⟨c42, hp⟩ | ⟨c42, hp⟩
 ·
  refine FW.condT rfl c42 ?_
  refine FW.seq (FW.region ?_)
  refine FL.v (E.assign (v := Value.bool false) rfl) ?_
  refine FL.nil ?_
  refine FW.ret ?_
  obtain rfl := Option.some.inj hp
  exact ⟨.inr rfl, res1 rfl rfl ⟨rfl, S41.back⟩⟩
 ·
  refine FW.condF rfl c42 ?_
  refine FW.skip (FW.seq (FW.seq (FW.region ?_)))
  refine FL.v (E.fieldAddr tf74_1 rfl) ?_
  refine FL.v (E.load rfl (run_load1 Tryz.isAgg3 ((at28.mono i35).now S41.sl) rfl)) ?_
  refine FL.v (E.fieldAddr tf74_1 rfl) ?_
  refine FL.v (E.load rfl (run_load1 Tryz.isAgg3 (at36.now S41.sl) rfl)) ?_
  refine FL.v (E.neq rfl rfl) ?_
  refine FL.nil ?_
  rcases ifB hp with ⟨c43, hp⟩ | ⟨c43, hp⟩
  ·
   refine FW.condT rfl c43 ?_
   refine FW.seq (FW.region ?_)
   refine FL.v (E.assign (v := Value.bool false) rfl) ?_
   refine FL.nil ?_
   refine FW.ret ?_
   obtain rfl := Option.some.inj hp
   exact ⟨.inr rfl, res1 rfl rfl ⟨rfl, S41.back⟩⟩
  ·
   refine FW.condF rfl c43 ?_
   refine FW.skip (FW.seq (FW.seq (FW.region ?_)))
   refine FL.v (E.fieldAddr tf74_2 rfl) ?_
   refine FL.v (E.load rfl (run_load1 Tryz.isAgg9 ((at28.mono i35).now S41.sl) rfl)) ?_
   refine FL.v (E.fieldAddr tf74_2 rfl) ?_
   refine FL.v (E.load rfl (run_load1 Tryz.isAgg9 (at36.now S41.sl) rfl)) ?_
   refine FL.v (E.neqS rfl rfl) ?_
   refine FL.nil ?_
   rcases ifB hp with ⟨c44, hp⟩ | ⟨c44, hp⟩
   ·
    refine FW.condT rfl c44 ?_
    refine FW.seq (FW.region ?_)
    refine FL.v (E.assign (v := Value.bool false) rfl) ?_
    refine FL.nil ?_
    refine FW.ret ?_
    obtain rfl := Option.some.inj hp
    exact ⟨.inr rfl, res1 rfl rfl ⟨rfl, S41.back⟩⟩
   ·
    refine FW.condF rfl c44 ?_
    refine FW.skip (FW.seq (FW.seq (FW.region ?_)))
    refine FL.v (E.fieldAddr tf74_3 rfl) ?_
    refine FL.v (E.load rfl (run_load1 Tryz.isAgg3 ((at28.mono i35).now S41.sl) rfl)) ?_
    refine FL.v (E.fieldAddr tf74_3 rfl) ?_
    refine FL.v (E.load rfl (run_load1 Tryz.isAgg3 (at36.now S41.sl) rfl)) ?_
    refine FL.v (E.neq rfl rfl) ?_
    refine FL.nil ?_
    rcases ifB hp with ⟨c45, hp⟩ | ⟨c45, hp⟩
    ·
     refine FW.condT rfl c45 ?_
     refine FW.seq (FW.region ?_)
     refine FL.v (E.assign (v := Value.bool false) rfl) ?_
     refine FL.nil ?_
     refine FW.ret ?_
     obtain rfl := Option.some.inj hp
     exact ⟨.inr rfl, res1 rfl rfl ⟨rfl, S41.back⟩⟩
    ·
     refine FW.condF rfl c45 ?_
     refine FW.skip (FW.seq (FW.seq (FW.region ?_)))
     refine FL.v (E.fieldAddr tf74_4 rfl) ?_
     refine FL.v (E.load rfl (run_load1 Tryz.isAgg3 ((at28.mono i35).now S41.sl) rfl)) ?_
     refine FL.v (E.fieldAddr tf74_4 rfl) ?_
     refine FL.v (E.load rfl (run_load1 Tryz.isAgg3 (at36.now S41.sl) rfl)) ?_
     refine FL.v (E.neq rfl rfl) ?_
     refine FL.nil ?_
     rcases ifB hp with ⟨c46, hp⟩ | ⟨c46, hp⟩
     ·
      refine FW.condT rfl c46 ?_
      refine FW.seq (FW.region ?_)
      refine FL.v (E.assign (v := Value.bool false) rfl) ?_
      refine FL.nil ?_
      refine FW.ret ?_
      obtain rfl := Option.some.inj hp
      exact ⟨.inr rfl, res1 rfl rfl ⟨rfl, S41.back⟩⟩
     ·
      refine FW.condF rfl c46 ?_
      refine FW.skip (FW.seq (FW.region ?_))
      refine FL.v (E.assign (v := Value.bool true) rfl) ?_
      refine FL.nil ?_
      refine FW.ret ?_
      obtain rfl := Option.some.inj hp
      exact ⟨.inr rfl, res1 rfl rfl ⟨rfl, S41.back⟩⟩

set_option maxHeartbeats 4000000 in
theorem w_laws_eqSeqStepS {Ha : GH} {wa : World} (hs : Sl Ha wa) (v0 : Value) (a0 : List SeqStep) (p0 : RSl Ha eSeqStep 6 v0 a0) (v1 : Value) (a1 : List SeqStep) (p1 : RSl Ha eSeqStep 6 v1 a1) {r : Bool} (hp : (PF.laws_eqSeqStepS a0 a1) = some r) :
  Calls Tryz.prog 13 #[v0, v1] wa (Sc Ha wa (Value.bool r)) := by
 unfold PF.laws_eqSeqStepS at hp
 have S0 := St.init hs
 refine calls_go (N := 27) (args := [v0, v1]) Tryz.func13 rfl rfl rfl ?_
 refine FW.seq (FW.region ?_)
 refine FL.v (E.assign (v := Value.bool false) rfl) ?_
 refine FL.nil (FW.seq (FW.seq (FW.region ?_)))
 refine FL.v (E.move (v := v0) rfl) ?_
 refine FL.v (E.lenP te24 rfl p0) ?_
 refine FL.v (E.move (v := v1) rfl) ?_
 refine FL.v (E.lenP te24 rfl p1) ?_
 refine FL.v (E.neq rfl rfl) ?_
 refine FL.nil ?_
 rcases ifB hp with ⟨c21, hp⟩ | ⟨c21, hp⟩
 ·
  refine FW.condT rfl c21 ?_
  refine FW.seq (FW.region ?_)
  refine FL.v (E.assign (v := Value.bool false) rfl) ?_
  refine FL.nil ?_
  refine FW.ret ?_
  obtain rfl := Option.some.inj hp
  exact ⟨.inr rfl, res1 rfl rfl ⟨rfl, S0.back⟩⟩
 ·
  refine FW.condF rfl c21 ?_
  refine FW.skip (FW.seq (FW.seq (FW.region ?_)))
  refine FL.v (E.assign (v := Value.int .i64 0) rfl) ?_
  refine FL.nil ?_
  obtain ⟨q23, hq, hp⟩ := bndR hp
  refine FW.block ?_
  refine FW.mono (FW.forL (S := Unit) (X := Bool) (fun (i23 : Nat) (s23 : Unit) f w => ∃ H : GH, St Ha wa H w [] ∧ Inc Ha H ∧ f 5 = Value.int .i64 ((i23 : Nat) : Int) ∧ f 0 = v0 ∧ f 1 = v1) (fun q e f w => match q with | .go s23 => e = Exit.exit 0 ∧ (∃ H : GH, St Ha wa H w [] ∧ Inc Ha H) | .rt x => ((e = Exit.ret) ∧ (fun e f w => (e = Exit.normal ∨ e = Exit.ret) ∧ ∀ a, Fr (δ := []) 27 a f → ∃ v, (results Tryz.f13 a.tmps).run Tryz.prog w = .ok v w ∧ (Sc Ha wa (Value.bool x)) (.returned v) w) e f w)) hq ⟨_, S0, (Inc.rfl _), rfl, rfl, rfl⟩ ?_ ?_) ?_
  ·
   clear hp hq
   rintro i23 y22 s23 f65 w64 ⟨H61, S62, i63, k66, k67, k68⟩ hx23 o98 hp
   refine FW.seq (FW.seq (FW.region ?_))
   refine FL.v (E.move k66) ?_
   refine FL.v (E.move k67) ?_
   refine FL.v (E.lenP te24 rfl p0) ?_
   refine FL.v (E.lssT rfl rfl (lss_len hx23)) ?_
   refine FL.nil ?_
   refine FW.condT rfl rfl ?_
   refine FW.skip (FW.seq (FW.block (FW.seq ?_)))
   refine FW.draw (fun w' => Run w64.heap.size H61 w64 H61 w') (by kernel_rfl) (by kernel_rfl) (run_drew S62.sl) ?_
   refine FD.val rfl rfl rfl (fun w' hw' => (E.move k67)) ?_
   refine FD.val rfl rfl rfl (fun w' hw' => (E.move k66)) ?_
   obtain ⟨p70, cs71, pt72, l73, at74, rel75⟩ := p0.at (ix_nat hx23)
   obtain ⟨v76, v78, rfl, h77, h79⟩ := eSeqStep_open rel75
   refine FD.val rfl rfl rfl (fun w' hw' => (E.indexAddr te24 rfl rfl pt72)) ?_
   refine FD.val rfl rfl rfl (fun w' hw' => (E.load rfl (run_loadA Tryz.isAgg74 Tryz.sizeOf74 ((at74.mono i63).now (S62.call hw').sl) rfl))) ?_
   refine FD.val rfl rfl rfl (fun w' hw' => (E.move k68)) ?_
   refine FD.val rfl rfl rfl (fun w' hw' => (E.move k66)) ?_
   obtain ⟨x86, hx87, hp⟩ := bnd hp
   obtain ⟨p80, cs81, pt82, l83, at84, rel85⟩ := p1.at hx87
   obtain ⟨v88, v90, rfl, h89, h91⟩ := eSeqStep_open rel85
   refine FD.val rfl rfl rfl (fun w' hw' => (E.indexAddr te24 rfl rfl pt82)) ?_
   refine FD.val rfl rfl rfl (fun w' hw' => (E.load rfl (run_loadA Tryz.isAgg74 Tryz.sizeOf74 ((at84.mono i63).now (S62.call hw').sl) rfl))) ?_
   obtain ⟨r92, hr93, hp⟩ := bnd hp
   refine FD.call rfl rfl rfl (fun w' hw' => (E.call Tryz.call54 (A2 rfl rfl))) (fun w' hw' => Calls.cls hw' (w_laws_eqSeqStep (S62.call hw').sl y22 v76 (h77.mono i63) v78 (h79.mono i63) x86 v88 (h89.mono i63) v90 (h91.mono i63) hr93)) ?_
   refine FD.val rfl rfl rfl (fun w' hw' => (E.not rfl)) ?_
   refine FD.nil ?_
   intro w94 r96
   have S95 := S62.call r96
   rcases ifB hp with ⟨c97, hp⟩ | ⟨c97, hp⟩
   ·
    refine FW.condT rfl c97 ?_
    refine FW.seq (FW.region ?_)
    refine FL.v (E.assign (v := Value.bool false) rfl) ?_
    refine FL.nil ?_
    refine FW.ret ?_
    obtain rfl := Option.some.inj hp
    exact ⟨nofun, rfl, ⟨.inr rfl, res1 rfl rfl ⟨rfl, S95.back⟩⟩⟩
   ·
    refine FW.condF rfl c97 ?_
    refine FW.skip (FW.region ?_)
    refine FL.v (E.move k66) ?_
    refine FL.v (E.add rfl rfl) ?_
    refine FL.v (E.assign (v := Value.int .i64 (wr (((i23 : Nat) : Int) + 1))) rfl) ?_
    refine FL.nil ?_
    obtain rfl := Option.some.inj hp
    exact ⟨rfl, ⟨_, S95, i63, (nat_succ rfl (lt_of_get hx23) (p0.mono i63).le), k67, k68⟩⟩
  ·
   clear hp hq
   rintro s23 f108 w107 ⟨H104, S105, i106, k109, k110, k111⟩
   refine FW.seq (FW.seq (FW.region ?_))
   refine FL.v (E.move k109) ?_
   refine FL.v (E.move k110) ?_
   refine FL.v (E.lenP te24 rfl p0) ?_
   refine FL.v (E.lss rfl rfl) ?_
   refine FL.nil ?_
   refine FW.condF rfl dlt_len ?_
   refine FW.exit ?_
   exact ⟨nofun, rfl, ⟨_, S105, i106⟩⟩
  ·
   clear hq
   intro e f103 w102 hD
   rcases q23 with s23 | x23
   ·
    obtain ⟨rfl, hD⟩ := hD
    obtain ⟨H99, S100, i101⟩ := hD
    replace hp := el_go hp
    refine FW.seq (FW.region ?_)
    refine FL.v (E.assign (v := Value.bool true) rfl) ?_
    refine FL.nil ?_
    refine FW.ret ?_
    obtain rfl := Option.some.inj hp
    exact ⟨.inr rfl, res1 rfl rfl ⟨rfl, S100.back⟩⟩
   ·
    obtain ⟨he, hL⟩ := hD
    replace hp := el_rt hp
    obtain rfl := Option.some.inj hp
    subst he
    exact hL

end Go.Proofs
