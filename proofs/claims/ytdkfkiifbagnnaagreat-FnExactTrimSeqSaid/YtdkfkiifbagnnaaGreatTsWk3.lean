/- Part of the walks and plain laws behind the claim: it proves helpers, under no condition beyond their own. -/
import Derived.Test.YtdkfkiifbagnnaaGreatTsWk2
set_option linter.unusedVariables false
set_option maxRecDepth 100000
namespace Go.Proofs
open Go.Mr Go.Pu Go.PF Go.RowKit

@[reducible] def p_impl_premisesOf (Ha : GH) (wa : World) (r : (List Sequent)) : Ending → World → Prop :=
 fun e w' => ∃ H' : GH, ∃ v0 : Value, ∃ n0 : Nat, ∃ c0 : List Value, e = .returned (v0) ∧ St Ha wa H' w' [.row 68 2 v0 n0 c0] ∧ Els H' eSequent 2 c0 r
set_option maxHeartbeats 4000000 in
theorem w_impl_premisesOf {Ha : GH} {wa : World} (hs : Sl Ha wa) (a0 : Sequent) (v0_0 : Value) (p0_0 : RSl Ha eS 1 v0_0 a0.left) (v0_1 : Value) (p0_1 : RSl Ha eS 1 v0_1 a0.right) (a1 : Int) (v2 : Value) (a2 : Fo) (p2 : FAt Ha v2 a2) {r : (List Sequent)} (hp : (PF.impl_premisesOf a0 a1 a2) = some r) :
  Calls Tryz.prog 156 #[Value.agg #[v0_0, v0_1], Value.int .i64 a1, v2] wa (p_impl_premisesOf Ha wa r) := by
 unfold PF.impl_premisesOf at hp
 have S0 := St.init hs
 refine calls_go (N := 180) (args := [Value.agg #[v0_0, v0_1], Value.int .i64 a1, v2]) Tryz.func156 rfl rfl rfl ?_
 refine FW.seq (FW.region ?_)
 obtain ⟨b21, w22, run23, S24⟩ := S0.box (P := Tryz.prog) 68 [v0_0, v0_1] (v := Value.agg #[v0_0, v0_1]) rfl (ones_cons p0_0.one (ones_cons p0_1.one ones_nil))
 refine FL.v (E.box rfl run23) ?_
 obtain ⟨H25, S26, i27, at28⟩ := S24.sealBox (i := 0) (l' := []) rfl rfl
 refine FL.v (E.assign (v := Value.slice none 0 0) rfl) ?_
 refine FL.nil (FW.seq ?_)
 obtain ⟨y32, hy33, hp⟩ := bnd hp
 obtain ⟨r40, hr41, hp⟩ := bnd hp
 obtain ⟨r50, hr51, hp⟩ := bnd hp
 refine FW.drawB (Sl H25) (fun f w => ∃ H : GH, ∃ v60 : Value, ∃ v62 : Value, ∃ n63 : Nat, ∃ cs64 : List Value, ∃ v66 : Value, ∃ n67 : Nat, ∃ cs69 : List Value, St Ha wa H w [.row 9 1 v62 n63 cs64, .row 9 1 v66 n67 cs69] ∧ Inc H25 H ∧ FAt H v60 a2 ∧ Els (up wa.heap.size H) eS 1 cs64 r40 ∧ Els (up wa.heap.size H) eS 1 cs69 r50 ∧ f 1 = Value.int .i64 a1 ∧ f 2 = v60 ∧ f 3 = Value.pointer (some ⟨b21, 0, none⟩) ∧ f 7 = v62 ∧ f 8 = v66) (by kernel_rfl) S26.sl ?_ ?_
 ·
  intro w29 r30
  have S31 := S26.call r30
  refine FB.t (i := 0) (bs 16 1) rfl (SP.nil S31.sl) rfl (fun w' hw' => (E.fieldAddr tf68_0 rfl)) ?_
  refine FB.t (i := 1) (bs 16 3) rfl (SP.nil S31.sl) rfl (fun w' hw' => (E.load rfl (run_load1 Tryz.isAgg22 (at28.now hw') rfl))) ?_
  refine FB.t (i := 2) (bs 16 7) rfl (SP.nil S31.sl) rfl (fun w' hw' => (E.move (v := v2) rfl)) ?_
  obtain ⟨q34, v36, v37, rfl, at35, h38, h39⟩ := FAt.open p2 hy33
  refine FB.t (i := 3) (bs 16 15) rfl (SP.nil S31.sl) rfl (fun w' hw' => (E.nilCheck rfl)) ?_
  refine FB.t (i := 4) (bs 16 31) rfl (SP.nil S31.sl) rfl (fun w' hw' => (E.fieldAddr tf109_3 rfl)) ?_
  refine FB.t (i := 5) (bs 16 63) rfl (SP.nil S31.sl) rfl (fun w' hw' => (E.load rfl (run_load1 Tryz.isAgg9 ((at35.mono i27).now hw') rfl))) ?_
  refine FB.t (i := 7) (bs 16 191) rfl (SP.nil S31.sl) rfl (fun w' hw' => (E.fieldAddr tf68_1 rfl)) ?_
  refine FB.t (i := 8) (bs 16 447) rfl (SP.nil S31.sl) rfl (fun w' hw' => (E.load rfl (run_load1 Tryz.isAgg22 (at28.now hw') rfl))) ?_
  refine FB.t (i := 9) (bs 16 959) rfl (SP.nil S31.sl) rfl (fun w' hw' => (E.move (v := Value.pointer (some q34)) rfl)) ?_
  refine FB.t (i := 10) (bs 16 1983) rfl (SP.nil S31.sl) rfl (fun w' hw' => (E.nilCheck rfl)) ?_
  refine FB.t (i := 11) (bs 16 4031) rfl (SP.nil S31.sl) rfl (fun w' hw' => (E.fieldAddr tf109_3 rfl)) ?_
  refine FB.t (i := 12) (bs 16 8127) rfl (SP.nil S31.sl) rfl (fun w' hw' => (E.load rfl (run_load1 Tryz.isAgg9 ((at35.mono i27).now hw') rfl))) ?_
  refine FB.all1 (i := 6) (by kernel_rfl) ?_
  ·
   refine FC.call (l' := (bs 16 8191)) rfl (by kernel_rfl) rfl rfl rfl (E.call Tryz.call125 (A2 rfl rfl)) (w_impl_lacking S31.sl v0_0 a0.left (p0_0.mono i27) y32.text hr41) ?_
   rintro e w43 ⟨H42, v46, n47, cs48, rfl, r45, els49⟩
   refine ⟨_, rfl, ?_⟩
   have els49 := els49.mono (up_le S31.size)
   have S44 := S31.join (l' := [.row 9 1 v46 n47 cs48]) r45 rfl
   refine ⟨(SP.nil (Sl.of_inc r45.run.inc S44.sl)), ?_⟩
   refine FB.all1 (i := 13) (by kernel_rfl) ?_
   ·
    refine FC.call (l' := (bs 16 16383)) rfl (by kernel_rfl) rfl rfl rfl (E.call Tryz.call125 (A2 rfl rfl)) (w_impl_lacking S44.sl v0_1 a0.right (p0_1.mono (i27.tr r45.run.inc)) y32.text hr51) ?_
    rintro e w53 ⟨H52, v56, n57, cs58, rfl, r55, els59⟩
    refine ⟨_, rfl, ?_⟩
    have els59 := els59.mono (up_le S44.size)
    have S54 := S44.join (l' := [.row 9 1 v56 n57 cs58, .row 9 1 v46 n47 cs48]) r55 rfl
    refine ⟨(SP.nil (Sl.of_inc (r45.run.inc.tr r55.run.inc) S54.sl)), ?_⟩
    refine FB.t (i := 14) (bs 16 32767) rfl (SP.nil (Sl.of_inc (r45.run.inc.tr r55.run.inc) S54.sl)) rfl (fun w' hw' => (E.assign (v := v46) rfl)) ?_
    refine FB.t (i := 15) (bs 16 65535) rfl (SP.nil (Sl.of_inc (r45.run.inc.tr r55.run.inc) S54.sl)) rfl (fun w' hw' => (E.assign (v := v56) rfl)) ?_
    exact FB.done (by kernel_rfl) ⟨_, _, _, _, _, _, _, _, (S54.sel [1, 0] (by decide) rfl), (r45.run.inc.tr r55.run.inc), (p2.mono ((i27.tr r45.run.inc).tr r55.run.inc)), (els49.mono (up_mono r55.run.inc)), els59, rfl, rfl, rfl, rfl, rfl⟩
 ·
  rintro f75 w74 ⟨H71, v60, v62, n63, cs64, v66, n67, cs69, S72, i73, h61, els65, els70, k76, k77, k78, k79, k80⟩
  refine FW.seq ?_
  refine FW.draw (fun w' => Run w74.heap.size H71 w74 H71 w') (by kernel_rfl) (by kernel_rfl) (run_drew S72.sl) ?_
  refine FD.val rfl rfl rfl (fun w' hw' => (E.move k77)) ?_
  obtain ⟨y81, hy82, hp⟩ := bnd hp
  obtain ⟨q83, v85, v86, rfl, at84, h87, h88⟩ := FAt.open h61 hy82
  refine FD.val rfl rfl rfl (fun w' hw' => (E.nilCheck rfl)) ?_
  refine FD.val rfl rfl rfl (fun w' hw' => (E.fieldAddr tf109_1 rfl)) ?_
  refine FD.val rfl rfl rfl (fun w' hw' => (E.load rfl (run_load1 Tryz.isAgg101 (at84.now (S72.call hw').sl) rfl))) ?_
  refine FD.val rfl rfl rfl (fun w' hw' => (E.move k77)) ?_
  refine FD.val rfl rfl rfl (fun w' hw' => (E.nilCheck rfl)) ?_
  refine FD.val rfl rfl rfl (fun w' hw' => (E.fieldAddr tf109_2 rfl)) ?_
  refine FD.val rfl rfl rfl (fun w' hw' => (E.load rfl (run_load1 Tryz.isAgg101 (at84.now (S72.call hw').sl) rfl))) ?_
  refine FD.val rfl rfl rfl (fun w' hw' => (E.assign (v := v85) rfl)) ?_
  refine FD.val rfl rfl rfl (fun w' hw' => (E.assign (v := v86) rfl)) ?_
  refine FD.nil ?_
  intro w89 r91
  have S90 := S72.call r91
  refine FW.seq (FW.seq (FW.region ?_))
  refine FL.v (E.move k76) ?_
  refine FL.nil (FW.block (FW.seq (FW.region ?_)))
  refine FL.v (E.eql rfl rfl) ?_
  refine FL.v (E.assign (v := Value.bool (a1 == 2)) rfl) ?_
  refine FL.nil ?_
  rcases ifB hp with ⟨c92, hp⟩ | ⟨c92, hp⟩
  ·
   refine FW.condT rfl c92 ?_
   refine FW.seq ?_
   obtain ⟨y96, hy97, hp⟩ := bnd hp
   obtain ⟨r115, hr116, hp⟩ := bnd hp
   refine FW.drawB (Sl H71) (fun f w => ∃ H : GH, ∃ v144 : Value, ∃ n145 : Nat, ∃ cs146 : List Value, St Ha wa H w [.row 68 2 v144 n145 cs146] ∧ Inc H71 H ∧ Els (up wa.heap.size H) eSequent 2 cs146 [(Sequent.mk r40 r115)] ∧ (bl cs146).Nodup ∧ f 6 = v144) (by kernel_rfl) S90.sl ?_ ?_
   ·
    intro w93 r94
    have S95 := S90.call r94
    refine FB.t (i := 0) (bs 12 1) rfl (SP.nil S95.sl) rfl (fun w' hw' => (E.move k79)) ?_
    refine FB.t (i := 1) (bs 12 3) rfl (SP.nil S95.sl) rfl (fun w' hw' => (E.fieldAddr tf68_1 k78)) ?_
    refine FB.t (i := 2) (bs 12 7) rfl (SP.nil S95.sl) rfl (fun w' hw' => (E.load rfl (run_load1 Tryz.isAgg22 ((at28.mono i73).now hw') rfl))) ?_
    refine FB.t (i := 3) (bs 12 15) rfl (SP.nil S95.sl) rfl (fun w' hw' => (E.move (v := v85) rfl)) ?_
    obtain ⟨q98, v100, v101, rfl, at99, h102, h103⟩ := FAt.open h87 hy97
    refine FB.t (i := 4) (bs 12 31) rfl (SP.nil S95.sl) rfl (fun w' hw' => (E.nilCheck rfl)) ?_
    refine FB.t (i := 5) (bs 12 63) rfl (SP.nil S95.sl) rfl (fun w' hw' => (E.fieldAddr tf109_3 rfl)) ?_
    refine FB.t (i := 6) (bs 12 127) rfl (SP.nil S95.sl) rfl (fun w' hw' => (E.load rfl (run_load1 Tryz.isAgg9 (at99.now hw') rfl))) ?_
    refine FB.all1 (i := 7) (by kernel_rfl) ?_
    ·
     obtain ⟨v104, w105, run106, S107⟩ := S95.buildSlice (P := Tryz.prog) te22 [Value.string y96.text] (parts := #[(0, Value.string y96.text)]) (cells := [Value.string y96.text]) rfl (szs_cons rfl szs_nil) (fc_cons rfl fc_nil) (ones_cons rfl ones_nil) (Nat.le_of_ble_eq_true rfl)
     have els108 : Els (up wa.heap.size H71) eS 1 [Value.string y96.text] [y96.text] := (Els.snoc (H := (up wa.heap.size H71)) (E := eS) (k := 1) (c := [Value.string y96.text]) (x := y96.text) Els.nil rfl rfl)
     refine FC.val (l' := (bs 12 255)) rfl (by kernel_rfl) rfl rfl rfl (E.buildSlice (B1 rfl) run106) ?_
     refine ⟨(SP.nil S107.sl), ?_⟩
     refine FB.all1 (i := 8) (by kernel_rfl) ?_
     ·
      obtain ⟨H110, S111, i112, h113, nv114⟩ := S107.sealRowU (i := 0) (l' := [.row 9 1 v62 n63 cs64, .row 9 1 v66 n67 cs69]) rfl els108 (by decide) rfl
      refine FC.call (l' := (bs 12 511)) rfl (by kernel_rfl) rfl rfl rfl (E.call Tryz.call68 (A2 rfl rfl)) (w_impl_with S111.sl v0_1 a0.right (p0_1.mono ((i27.tr i73).tr i112)) v104 [y96.text] (h113.mono upI) hr116) ?_
      rintro e w118 ⟨H117, v123, n124, cs125, rfl, r120, els126⟩
      refine ⟨_, rfl, ?_⟩
      obtain ⟨H121, r120, hU122⟩ := St.lendX i112 S107.sl r120
      have els126 := els126.mono (hU122.tr (up_le S107.size))
      have S119 := S107.join (l' := [.row 9 1 v123 n124 cs125, .row 9 1 v104 1 [Value.string y96.text], .row 9 1 v62 n63 cs64, .row 9 1 v66 n67 cs69]) r120 rfl
      refine ⟨(SP.nil (Sl.of_inc r120.run.inc S119.sl)), ?_⟩
      obtain ⟨H127, S128, i129, h130, nv131⟩ := S119.sealRowU (i := 2) (l' := [.row 9 1 v123 n124 cs125, .row 9 1 v104 1 [Value.string y96.text], .row 9 1 v66 n67 cs69]) rfl (els65.mono (up_mono r120.run.inc)) (by decide) rfl
      obtain ⟨H132, S133, i134, h135, nv136⟩ := S128.sealRowU (i := 0) (l' := [.row 9 1 v104 1 [Value.string y96.text], .row 9 1 v66 n67 cs69]) rfl (els126.mono (up_mono i129)) (by decide) rfl
      refine FB.t (i := 9) (bs 12 1023) rfl (SP.nil (Sl.of_inc r120.run.inc S119.sl)) rfl (fun w' hw' => (E.build (B2 rfl rfl) (run_build _ 68 #[(0, v62), (1, v123)] #[v62, v123] (by obtain ⟨_, _, rfl⟩ := RSl.ln (h130.mono (upI.tr i134)); obtain ⟨_, _, rfl⟩ := RSl.ln (h135.mono upI); rfl)))) ?_
      refine FB.all1 (i := 10) (by kernel_rfl) ?_
      ·
       obtain ⟨v137, w138, run139, S140⟩ := S133.buildSlice (P := Tryz.prog) te172 [Value.agg #[v62, v123]] (parts := #[(0, Value.agg #[v62, v123])]) (cells := [v62, v123]) rfl (szs_cons rfl szs_nil) (fc_cons rfl fc_nil) (ones_cons h130.one (ones_cons h135.one ones_nil)) (Nat.le_of_ble_eq_true rfl)
       have els141 : Els (up wa.heap.size H132) eSequent 2 [v62, v123] [(Sequent.mk r40 r115)] := (Els.snoc (H := (up wa.heap.size H132)) (E := eSequent) (k := 2) (c := [v62, v123]) (x := (Sequent.mk r40 r115)) Els.nil rfl ⟨_, _, rfl, (h130.mono (up_mono i134)), h135⟩)
       have nd142 : (bl [v62, v123]).Nodup := by exact nd_two (New.apart (h130.mono (up_mono (Inc.rfl _))) nv136)
       have nv143 : New H121 [v62, v123] := by exact (New.two nv131 (nv136.anti i129))
       refine FC.val (l' := (bs 12 2047)) rfl (by kernel_rfl) rfl rfl rfl (E.buildSlice (B1 rfl) run139) ?_
       refine ⟨(SP.nil (Sl.of_inc ((r120.run.inc.tr i129).tr i134) S140.sl)), ?_⟩
       refine FB.t (i := 11) (bs 12 4095) rfl (SP.nil (Sl.of_inc ((r120.run.inc.tr i129).tr i134) S140.sl)) rfl (fun w' hw' => (E.assign (v := v137) rfl)) ?_
       exact FB.done (by kernel_rfl) ⟨_, _, _, _, (S140.sel [0] (by decide) rfl), ((r120.run.inc.tr i129).tr i134), els141, nd142, rfl⟩
   ·
    rintro f153 w152 ⟨H149, v144, n145, cs146, S150, i151, els147, nd148, k154⟩
    refine FW.ret ?_
    obtain rfl := Option.some.inj hp
    exact ⟨.inr rfl, res1 rfl k154 ⟨_, _, _, _, rfl, S150, (els147.mono upI)⟩⟩
  ·
   refine FW.condF rfl c92 ?_
   refine FW.seq (FW.region ?_)
   refine FL.v (E.eql rfl rfl) ?_
   refine FL.v (E.assign (v := Value.bool (a1 == 3)) rfl) ?_
   refine FL.nil ?_
   rcases ifB hp with ⟨c155, hp⟩ | ⟨c155, hp⟩
   ·
    refine FW.condT rfl c155 ?_
    refine FW.seq ?_
    obtain ⟨y159, hy160, hp⟩ := bnd hp
    obtain ⟨r178, hr179, hp⟩ := bnd hp
    refine FW.drawB (Sl H71) (fun f w => ∃ H : GH, ∃ v207 : Value, ∃ n208 : Nat, ∃ cs209 : List Value, St Ha wa H w [.row 68 2 v207 n208 cs209] ∧ Inc H71 H ∧ Els (up wa.heap.size H) eSequent 2 cs209 [(Sequent.mk r178 r50)] ∧ (bl cs209).Nodup ∧ f 6 = v207) (by kernel_rfl) S90.sl ?_ ?_
    ·
     intro w156 r157
     have S158 := S90.call r157
     refine FB.t (i := 0) (bs 12 1) rfl (SP.nil S158.sl) rfl (fun w' hw' => (E.fieldAddr tf68_0 k78)) ?_
     refine FB.t (i := 1) (bs 12 3) rfl (SP.nil S158.sl) rfl (fun w' hw' => (E.load rfl (run_load1 Tryz.isAgg22 ((at28.mono i73).now hw') rfl))) ?_
     refine FB.t (i := 2) (bs 12 7) rfl (SP.nil S158.sl) rfl (fun w' hw' => (E.move (v := v85) rfl)) ?_
     obtain ⟨q161, v163, v164, rfl, at162, h165, h166⟩ := FAt.open h87 hy160
     refine FB.t (i := 3) (bs 12 15) rfl (SP.nil S158.sl) rfl (fun w' hw' => (E.nilCheck rfl)) ?_
     refine FB.t (i := 4) (bs 12 31) rfl (SP.nil S158.sl) rfl (fun w' hw' => (E.fieldAddr tf109_3 rfl)) ?_
     refine FB.t (i := 5) (bs 12 63) rfl (SP.nil S158.sl) rfl (fun w' hw' => (E.load rfl (run_load1 Tryz.isAgg9 (at162.now hw') rfl))) ?_
     refine FB.t (i := 8) (bs 12 319) rfl (SP.nil S158.sl) rfl (fun w' hw' => (E.move k80)) ?_
     refine FB.all1 (i := 6) (by kernel_rfl) ?_
     ·
      obtain ⟨v167, w168, run169, S170⟩ := S158.buildSlice (P := Tryz.prog) te22 [Value.string y159.text] (parts := #[(0, Value.string y159.text)]) (cells := [Value.string y159.text]) rfl (szs_cons rfl szs_nil) (fc_cons rfl fc_nil) (ones_cons rfl ones_nil) (Nat.le_of_ble_eq_true rfl)
      have els171 : Els (up wa.heap.size H71) eS 1 [Value.string y159.text] [y159.text] := (Els.snoc (H := (up wa.heap.size H71)) (E := eS) (k := 1) (c := [Value.string y159.text]) (x := y159.text) Els.nil rfl rfl)
      refine FC.val (l' := (bs 12 383)) rfl (by kernel_rfl) rfl rfl rfl (E.buildSlice (B1 rfl) run169) ?_
      refine ⟨(SP.nil S170.sl), ?_⟩
      refine FB.all1 (i := 7) (by kernel_rfl) ?_
      ·
       obtain ⟨H173, S174, i175, h176, nv177⟩ := S170.sealRowU (i := 0) (l' := [.row 9 1 v62 n63 cs64, .row 9 1 v66 n67 cs69]) rfl els171 (by decide) rfl
       refine FC.call (l' := (bs 12 511)) rfl (by kernel_rfl) rfl rfl rfl (E.call Tryz.call68 (A2 rfl rfl)) (w_impl_with S174.sl v0_0 a0.left (p0_0.mono ((i27.tr i73).tr i175)) v167 [y159.text] (h176.mono upI) hr179) ?_
       rintro e w181 ⟨H180, v186, n187, cs188, rfl, r183, els189⟩
       refine ⟨_, rfl, ?_⟩
       obtain ⟨H184, r183, hU185⟩ := St.lendX i175 S170.sl r183
       have els189 := els189.mono (hU185.tr (up_le S170.size))
       have S182 := S170.join (l' := [.row 9 1 v186 n187 cs188, .row 9 1 v167 1 [Value.string y159.text], .row 9 1 v62 n63 cs64, .row 9 1 v66 n67 cs69]) r183 rfl
       refine ⟨(SP.nil (Sl.of_inc r183.run.inc S182.sl)), ?_⟩
       obtain ⟨H190, S191, i192, h193, nv194⟩ := S182.sealRowU (i := 0) (l' := [.row 9 1 v167 1 [Value.string y159.text], .row 9 1 v62 n63 cs64, .row 9 1 v66 n67 cs69]) rfl els189 (by decide) rfl
       obtain ⟨H195, S196, i197, h198, nv199⟩ := S191.sealRowU (i := 2) (l' := [.row 9 1 v167 1 [Value.string y159.text], .row 9 1 v62 n63 cs64]) rfl (els70.mono (up_mono (r183.run.inc.tr i192))) (by decide) rfl
       refine FB.t (i := 9) (bs 12 1023) rfl (SP.nil (Sl.of_inc r183.run.inc S182.sl)) rfl (fun w' hw' => (E.build (B2 rfl rfl) (run_build _ 68 #[(0, v186), (1, v66)] #[v186, v66] (by obtain ⟨_, _, rfl⟩ := RSl.ln (h193.mono (upI.tr i197)); obtain ⟨_, _, rfl⟩ := RSl.ln (h198.mono upI); rfl)))) ?_
       refine FB.all1 (i := 10) (by kernel_rfl) ?_
       ·
        obtain ⟨v200, w201, run202, S203⟩ := S196.buildSlice (P := Tryz.prog) te172 [Value.agg #[v186, v66]] (parts := #[(0, Value.agg #[v186, v66])]) (cells := [v186, v66]) rfl (szs_cons rfl szs_nil) (fc_cons rfl fc_nil) (ones_cons h193.one (ones_cons h198.one ones_nil)) (Nat.le_of_ble_eq_true rfl)
        have els204 : Els (up wa.heap.size H195) eSequent 2 [v186, v66] [(Sequent.mk r178 r50)] := (Els.snoc (H := (up wa.heap.size H195)) (E := eSequent) (k := 2) (c := [v186, v66]) (x := (Sequent.mk r178 r50)) Els.nil rfl ⟨_, _, rfl, (h193.mono (up_mono i197)), h198⟩)
        have nd205 : (bl [v186, v66]).Nodup := by exact nd_two (New.apart (h193.mono (up_mono (Inc.rfl _))) nv199)
        have nv206 : New H184 [v186, v66] := by exact (New.two nv194 (nv199.anti i192))
        refine FC.val (l' := (bs 12 2047)) rfl (by kernel_rfl) rfl rfl rfl (E.buildSlice (B1 rfl) run202) ?_
        refine ⟨(SP.nil (Sl.of_inc ((r183.run.inc.tr i192).tr i197) S203.sl)), ?_⟩
        refine FB.t (i := 11) (bs 12 4095) rfl (SP.nil (Sl.of_inc ((r183.run.inc.tr i192).tr i197) S203.sl)) rfl (fun w' hw' => (E.assign (v := v200) rfl)) ?_
        exact FB.done (by kernel_rfl) ⟨_, _, _, _, (S203.sel [0] (by decide) rfl), ((r183.run.inc.tr i192).tr i197), els204, nd205, rfl⟩
    ·
     rintro f216 w215 ⟨H212, v207, n208, cs209, S213, i214, els210, nd211, k217⟩
     refine FW.ret ?_
     obtain rfl := Option.some.inj hp
     exact ⟨.inr rfl, res1 rfl k217 ⟨_, _, _, _, rfl, S213, (els210.mono upI)⟩⟩
   ·
    refine FW.condF rfl c155 ?_
    refine FW.seq (FW.region ?_)
    refine FL.v (E.eql rfl rfl) ?_
    refine FL.v (E.assign (v := Value.bool (a1 == 4)) rfl) ?_
    refine FL.nil ?_
    rcases ifB hp with ⟨c218, hp⟩ | ⟨c218, hp⟩
    ·
     refine FW.condT rfl c218 ?_
     refine FW.seq ?_
     obtain ⟨y222, hy223, hp⟩ := bnd hp
     obtain ⟨y230, hy231, hp⟩ := bnd hp
     obtain ⟨r253, hr254, hp⟩ := bnd hp
     refine FW.drawB (Sl H71) (fun f w => ∃ H : GH, ∃ v275 : Value, ∃ n276 : Nat, ∃ cs277 : List Value, St Ha wa H w [.row 68 2 v275 n276 cs277] ∧ Inc H71 H ∧ Els H eSequent 2 cs277 [(Sequent.mk r253 a0.right)] ∧ f 6 = v275) (by kernel_rfl) S90.sl ?_ ?_
     ·
      intro w219 r220
      have S221 := S90.call r220
      refine FB.t (i := 0) (bs 16 1) rfl (SP.nil S221.sl) rfl (fun w' hw' => (E.move k79)) ?_
      refine FB.t (i := 1) (bs 16 3) rfl (SP.nil S221.sl) rfl (fun w' hw' => (E.move (v := v85) rfl)) ?_
      obtain ⟨q224, v226, v227, rfl, at225, h228, h229⟩ := FAt.open h87 hy223
      refine FB.t (i := 2) (bs 16 7) rfl (SP.nil S221.sl) rfl (fun w' hw' => (E.nilCheck rfl)) ?_
      refine FB.t (i := 3) (bs 16 15) rfl (SP.nil S221.sl) rfl (fun w' hw' => (E.fieldAddr tf109_3 rfl)) ?_
      refine FB.t (i := 4) (bs 16 31) rfl (SP.nil S221.sl) rfl (fun w' hw' => (E.load rfl (run_load1 Tryz.isAgg9 (at225.now hw') rfl))) ?_
      refine FB.t (i := 5) (bs 16 63) rfl (SP.nil S221.sl) rfl (fun w' hw' => (E.move (v := v86) rfl)) ?_
      obtain ⟨q232, v234, v235, rfl, at233, h236, h237⟩ := FAt.open h88 hy231
      refine FB.t (i := 6) (bs 16 127) rfl (SP.nil S221.sl) rfl (fun w' hw' => (E.nilCheck rfl)) ?_
      refine FB.t (i := 7) (bs 16 255) rfl (SP.nil S221.sl) rfl (fun w' hw' => (E.fieldAddr tf109_3 rfl)) ?_
      refine FB.t (i := 8) (bs 16 511) rfl (SP.nil S221.sl) rfl (fun w' hw' => (E.load rfl (run_load1 Tryz.isAgg9 (at233.now hw') rfl))) ?_
      refine FB.t (i := 11) (bs 16 2559) rfl (SP.nil S221.sl) rfl (fun w' hw' => (E.fieldAddr tf68_1 k78)) ?_
      refine FB.t (i := 12) (bs 16 6655) rfl (SP.nil S221.sl) rfl (fun w' hw' => (E.load rfl (run_load1 Tryz.isAgg22 ((at28.mono i73).now hw') rfl))) ?_
      refine FB.all1 (i := 9) (by kernel_rfl) ?_
      ·
       obtain ⟨v238, w239, run240, S241⟩ := S221.buildSlice (P := Tryz.prog) te22 [Value.string y222.text, Value.string y230.text] (parts := #[(0, Value.string y222.text), (1, Value.string y230.text)]) (cells := [Value.string y222.text, Value.string y230.text]) rfl (szs_cons rfl (szs_cons rfl szs_nil)) (fc_cons rfl (fc_cons rfl fc_nil)) (ones_cons rfl (ones_cons rfl ones_nil)) (Nat.le_of_ble_eq_true rfl)
       have els242 : Els (up wa.heap.size H71) eS 1 [Value.string y222.text, Value.string y230.text] [y222.text, y230.text] := (Els.snoc (H := (up wa.heap.size H71)) (E := eS) (k := 1) (c := [Value.string y230.text]) (x := y230.text) (Els.snoc (H := (up wa.heap.size H71)) (E := eS) (k := 1) (c := [Value.string y222.text]) (x := y222.text) Els.nil rfl rfl) rfl rfl)
       refine FC.val (l' := (bs 16 7167)) rfl (by kernel_rfl) rfl rfl rfl (E.buildSlice (B2 rfl rfl) run240) ?_
       refine ⟨(SP.nil S241.sl), ?_⟩
       refine FB.all1 (i := 10) (by kernel_rfl) ?_
       ·
        obtain ⟨H243, S244, i245, h246, nv247⟩ := S241.sealRowU (i := 1) (l' := [.row 9 1 v238 2 [Value.string y222.text, Value.string y230.text], .row 9 1 v66 n67 cs69]) rfl els65 (by decide) rfl
        obtain ⟨H248, S249, i250, h251, nv252⟩ := S244.sealRowU (i := 0) (l' := [.row 9 1 v66 n67 cs69]) rfl (els242.mono (up_mono i245)) (by decide) rfl
        refine FC.call (l' := (bs 16 8191)) rfl (by kernel_rfl) rfl rfl rfl (E.call Tryz.call68 (A2 rfl rfl)) (w_impl_with S249.sl v62 r40 (h246.mono (upI.tr i250)) v238 [y222.text, y230.text] (h251.mono upI) hr254) ?_
        rintro e w256 ⟨H255, v261, n262, cs263, rfl, r258, els264⟩
        refine ⟨_, rfl, ?_⟩
        obtain ⟨H259, r258, hU260⟩ := St.lendX (i245.tr i250) S241.sl r258
        have els264 := els264.mono (hU260.tr (up_le S241.size))
        have S257 := S241.join (l' := [.row 9 1 v261 n262 cs263, .row 9 1 v238 2 [Value.string y222.text, Value.string y230.text], .row 9 1 v62 n63 cs64, .row 9 1 v66 n67 cs69]) r258 rfl
        refine ⟨(SP.nil (Sl.of_inc r258.run.inc S257.sl)), ?_⟩
        obtain ⟨H265, S266, i267, h268, nv269⟩ := S257.sealRowU (i := 0) (l' := [.row 9 1 v238 2 [Value.string y222.text, Value.string y230.text], .row 9 1 v62 n63 cs64, .row 9 1 v66 n67 cs69]) rfl els264 (by decide) rfl
        refine FB.t (i := 13) (bs 16 16383) rfl (SP.nil (Sl.of_inc r258.run.inc S257.sl)) rfl (fun w' hw' => (E.build (B2 rfl rfl) (run_build _ 68 #[(0, v261), (1, v0_1)] #[v261, v0_1] (by obtain ⟨_, _, rfl⟩ := RSl.ln (h268.mono upI); obtain ⟨_, _, rfl⟩ := RSl.ln (p0_1.mono (((i27.tr i73).tr r258.run.inc).tr i267)); rfl)))) ?_
        refine FB.all1 (i := 14) (by kernel_rfl) ?_
        ·
         obtain ⟨v270, w271, run272, S273⟩ := S266.buildSlice (P := Tryz.prog) te172 [Value.agg #[v261, v0_1]] (parts := #[(0, Value.agg #[v261, v0_1])]) (cells := [v261, v0_1]) rfl (szs_cons rfl szs_nil) (fc_cons rfl fc_nil) (ones_cons h268.one (ones_cons p0_1.one ones_nil)) (Nat.le_of_ble_eq_true rfl)
         have els274 : Els H265 eSequent 2 [v261, v0_1] [(Sequent.mk r253 a0.right)] := (Els.snoc (H := H265) (E := eSequent) (k := 2) (c := [v261, v0_1]) (x := (Sequent.mk r253 a0.right)) Els.nil rfl ⟨_, _, rfl, (h268.mono upI), (p0_1.mono (((i27.tr i73).tr r258.run.inc).tr i267))⟩)
         refine FC.val (l' := (bs 16 32767)) rfl (by kernel_rfl) rfl rfl rfl (E.buildSlice (B1 rfl) run272) ?_
         refine ⟨(SP.nil (Sl.of_inc (r258.run.inc.tr i267) S273.sl)), ?_⟩
         refine FB.t (i := 15) (bs 16 65535) rfl (SP.nil (Sl.of_inc (r258.run.inc.tr i267) S273.sl)) rfl (fun w' hw' => (E.assign (v := v270) rfl)) ?_
         exact FB.done (by kernel_rfl) ⟨_, _, _, _, (S273.sel [0] (by decide) rfl), (r258.run.inc.tr i267), els274, rfl⟩
     ·
      rintro f283 w282 ⟨H279, v275, n276, cs277, S280, i281, els278, k284⟩
      refine FW.ret ?_
      obtain rfl := Option.some.inj hp
      exact ⟨.inr rfl, res1 rfl k284 ⟨_, _, _, _, rfl, S280, els278⟩⟩
    ·
     refine FW.condF rfl c218 ?_
     refine FW.seq (FW.region ?_)
     refine FL.v (E.eql rfl rfl) ?_
     refine FL.v (E.assign (v := Value.bool (a1 == 5)) rfl) ?_
     refine FL.nil ?_
     rcases ifB hp with ⟨c285, hp⟩ | ⟨c285, hp⟩
     ·
      refine FW.condT rfl c285 ?_
      refine FW.seq ?_
      obtain ⟨y289, hy290, hp⟩ := bnd hp
      obtain ⟨r312, hr313, hp⟩ := bnd hp
      obtain ⟨y329, hy330, hp⟩ := bnd hp
      obtain ⟨r352, hr353, hp⟩ := bnd hp
      refine FW.drawB (Sl H71) (fun f w => ∃ H : GH, ∃ v374 : Value, ∃ n375 : Nat, ∃ cs376 : List Value, St Ha wa H w [.row 68 2 v374 n375 cs376] ∧ Inc H71 H ∧ Els H eSequent 2 cs376 [(Sequent.mk a0.left r312), (Sequent.mk a0.left r352)] ∧ f 6 = v374) (by kernel_rfl) S90.sl ?_ ?_
      ·
       intro w286 r287
       have S288 := S90.call r287
       refine FB.t (i := 0) (bs 22 1) rfl (SP.nil S288.sl) rfl (fun w' hw' => (E.fieldAddr tf68_0 k78)) ?_
       refine FB.t (i := 1) (bs 22 3) rfl (SP.nil S288.sl) rfl (fun w' hw' => (E.load rfl (run_load1 Tryz.isAgg22 ((at28.mono i73).now hw') rfl))) ?_
       refine FB.t (i := 2) (bs 22 7) rfl (SP.nil S288.sl) rfl (fun w' hw' => (E.move k80)) ?_
       refine FB.t (i := 3) (bs 22 15) rfl (SP.nil S288.sl) rfl (fun w' hw' => (E.move (v := v85) rfl)) ?_
       obtain ⟨q291, v293, v294, rfl, at292, h295, h296⟩ := FAt.open h87 hy290
       refine FB.t (i := 4) (bs 22 31) rfl (SP.nil S288.sl) rfl (fun w' hw' => (E.nilCheck rfl)) ?_
       refine FB.t (i := 5) (bs 22 63) rfl (SP.nil S288.sl) rfl (fun w' hw' => (E.fieldAddr tf109_3 rfl)) ?_
       refine FB.t (i := 6) (bs 22 127) rfl (SP.nil S288.sl) rfl (fun w' hw' => (E.load rfl (run_load1 Tryz.isAgg9 (at292.now hw') rfl))) ?_
       refine FB.t (i := 10) (bs 22 1151) rfl (SP.nil S288.sl) rfl (fun w' hw' => (E.fieldAddr tf68_0 k78)) ?_
       refine FB.t (i := 11) (bs 22 3199) rfl (SP.nil S288.sl) rfl (fun w' hw' => (E.load rfl (run_load1 Tryz.isAgg22 ((at28.mono i73).now hw') rfl))) ?_
       refine FB.t (i := 12) (bs 22 7295) rfl (SP.nil S288.sl) rfl (fun w' hw' => (E.move k80)) ?_
       refine FB.t (i := 13) (bs 22 15487) rfl (SP.nil S288.sl) rfl (fun w' hw' => (E.move (v := v86) rfl)) ?_
       obtain ⟨q331, v333, v334, rfl, at332, h335, h336⟩ := FAt.open h88 hy330
       refine FB.t (i := 14) (bs 22 31871) rfl (SP.nil S288.sl) rfl (fun w' hw' => (E.nilCheck rfl)) ?_
       refine FB.t (i := 15) (bs 22 64639) rfl (SP.nil S288.sl) rfl (fun w' hw' => (E.fieldAddr tf109_3 rfl)) ?_
       refine FB.t (i := 16) (bs 22 130175) rfl (SP.nil S288.sl) rfl (fun w' hw' => (E.load rfl (run_load1 Tryz.isAgg9 (at332.now hw') rfl))) ?_
       refine FB.all2 (i := 7) (j := 17) (by kernel_rfl) ?_ ?_
       ·
        obtain ⟨v297, w298, run299, S300⟩ := S288.buildSlice (P := Tryz.prog) te22 [Value.string y289.text] (parts := #[(0, Value.string y289.text)]) (cells := [Value.string y289.text]) rfl (szs_cons rfl szs_nil) (fc_cons rfl fc_nil) (ones_cons rfl ones_nil) (Nat.le_of_ble_eq_true rfl)
        have els301 : Els (up wa.heap.size H71) eS 1 [Value.string y289.text] [y289.text] := (Els.snoc (H := (up wa.heap.size H71)) (E := eS) (k := 1) (c := [Value.string y289.text]) (x := y289.text) Els.nil rfl rfl)
        refine FC.val (l' := (bs 22 130303)) rfl (by kernel_rfl) rfl rfl rfl (E.buildSlice (B1 rfl) run299) ?_
        refine ⟨(SP.nil S300.sl), ?_⟩
        refine FB.all2 (i := 8) (j := 17) (by kernel_rfl) ?_ ?_
        ·
         obtain ⟨H302, S303, i304, h305, nv306⟩ := S300.sealRowU (i := 2) (l' := [.row 9 1 v297 1 [Value.string y289.text], .row 9 1 v62 n63 cs64]) rfl els70 (by decide) rfl
         obtain ⟨H307, S308, i309, h310, nv311⟩ := S303.sealRowU (i := 0) (l' := [.row 9 1 v62 n63 cs64]) rfl (els301.mono (up_mono i304)) (by decide) rfl
         refine FC.call (l' := (bs 22 130559)) rfl (by kernel_rfl) rfl rfl rfl (E.call Tryz.call68 (A2 rfl rfl)) (w_impl_with S308.sl v66 r50 (h305.mono (upI.tr i309)) v297 [y289.text] (h310.mono upI) hr313) ?_
         rintro e w315 ⟨H314, v320, n321, cs322, rfl, r317, els323⟩
         refine ⟨_, rfl, ?_⟩
         obtain ⟨H318, r317, hU319⟩ := St.lendX (i304.tr i309) S300.sl r317
         have els323 := els323.mono (hU319.tr (up_le S300.size))
         have S316 := S300.join (l' := [.row 9 1 v320 n321 cs322, .row 9 1 v297 1 [Value.string y289.text], .row 9 1 v62 n63 cs64, .row 9 1 v66 n67 cs69]) r317 rfl
         refine ⟨(SP.nil (Sl.of_inc r317.run.inc S316.sl)), ?_⟩
         obtain ⟨H324, S325, i326, h327, nv328⟩ := S316.sealRowU (i := 0) (l' := [.row 9 1 v297 1 [Value.string y289.text], .row 9 1 v62 n63 cs64, .row 9 1 v66 n67 cs69]) rfl els323 (by decide) rfl
         refine FB.t (i := 9) (bs 22 131071) rfl (SP.nil (Sl.of_inc r317.run.inc S316.sl)) rfl (fun w' hw' => (E.build (B2 rfl rfl) (run_build _ 68 #[(0, v0_0), (1, v320)] #[v0_0, v320] (by obtain ⟨_, _, rfl⟩ := RSl.ln (p0_0.mono (((i27.tr i73).tr r317.run.inc).tr i326)); obtain ⟨_, _, rfl⟩ := RSl.ln (h327.mono upI); rfl)))) ?_
         refine FB.all1 (i := 17) (by kernel_rfl) ?_
         ·
          obtain ⟨v337, w338, run339, S340⟩ := S325.buildSlice (P := Tryz.prog) te22 [Value.string y329.text] (parts := #[(0, Value.string y329.text)]) (cells := [Value.string y329.text]) rfl (szs_cons rfl szs_nil) (fc_cons rfl fc_nil) (ones_cons rfl ones_nil) (Nat.le_of_ble_eq_true rfl)
          have els341 : Els (up wa.heap.size H324) eS 1 [Value.string y329.text] [y329.text] := (Els.snoc (H := (up wa.heap.size H324)) (E := eS) (k := 1) (c := [Value.string y329.text]) (x := y329.text) Els.nil rfl rfl)
          refine FC.val (l' := (bs 22 262143)) rfl (by kernel_rfl) rfl rfl rfl (E.buildSlice (B1 rfl) run339) ?_
          refine ⟨(SP.nil (Sl.of_inc (r317.run.inc.tr i326) S340.sl)), ?_⟩
          refine FB.all1 (i := 18) (by kernel_rfl) ?_
          ·
           obtain ⟨H342, S343, i344, h345, nv346⟩ := S340.sealRowU (i := 3) (l' := [.row 9 1 v337 1 [Value.string y329.text], .row 9 1 v297 1 [Value.string y289.text], .row 9 1 v62 n63 cs64]) rfl (els70.mono (up_mono (r317.run.inc.tr i326))) (by decide) rfl
           obtain ⟨H347, S348, i349, h350, nv351⟩ := S343.sealRowU (i := 0) (l' := [.row 9 1 v297 1 [Value.string y289.text], .row 9 1 v62 n63 cs64]) rfl (els341.mono (up_mono i344)) (by decide) rfl
           refine FC.call (l' := (bs 22 524287)) rfl (by kernel_rfl) rfl rfl rfl (E.call Tryz.call68 (A2 rfl rfl)) (w_impl_with S348.sl v66 r50 (h345.mono (upI.tr i349)) v337 [y329.text] (h350.mono upI) hr353) ?_
           rintro e w355 ⟨H354, v360, n361, cs362, rfl, r357, els363⟩
           refine ⟨_, rfl, ?_⟩
           obtain ⟨H358, r357, hU359⟩ := St.lendX (i344.tr i349) S340.sl r357
           have els363 := els363.mono (hU359.tr (up_le S340.size))
           have S356 := S340.join (l' := [.row 9 1 v360 n361 cs362, .row 9 1 v337 1 [Value.string y329.text], .row 9 1 v297 1 [Value.string y289.text], .row 9 1 v62 n63 cs64, .row 9 1 v66 n67 cs69]) r357 rfl
           refine ⟨(SP.nil (Sl.of_inc ((r317.run.inc.tr i326).tr r357.run.inc) S356.sl)), ?_⟩
           obtain ⟨H364, S365, i366, h367, nv368⟩ := S356.sealRowU (i := 0) (l' := [.row 9 1 v337 1 [Value.string y329.text], .row 9 1 v297 1 [Value.string y289.text], .row 9 1 v62 n63 cs64, .row 9 1 v66 n67 cs69]) rfl els363 (by decide) rfl
           refine FB.t (i := 19) (bs 22 1048575) rfl (SP.nil (Sl.of_inc ((r317.run.inc.tr i326).tr r357.run.inc) S356.sl)) rfl (fun w' hw' => (E.build (B2 rfl rfl) (run_build _ 68 #[(0, v0_0), (1, v360)] #[v0_0, v360] (by obtain ⟨_, _, rfl⟩ := RSl.ln (p0_0.mono (((((i27.tr i73).tr r317.run.inc).tr i326).tr r357.run.inc).tr i366)); obtain ⟨_, _, rfl⟩ := RSl.ln (h367.mono upI); rfl)))) ?_
           refine FB.all1 (i := 20) (by kernel_rfl) ?_
           ·
            obtain ⟨v369, w370, run371, S372⟩ := S365.buildSlice (P := Tryz.prog) te172 [Value.agg #[v0_0, v320], Value.agg #[v0_0, v360]] (parts := #[(0, Value.agg #[v0_0, v320]), (1, Value.agg #[v0_0, v360])]) (cells := [v0_0, v320, v0_0, v360]) rfl (szs_cons rfl (szs_cons rfl szs_nil)) (fc_cons rfl (fc_cons rfl fc_nil)) (ones_cons p0_0.one (ones_cons h327.one (ones_cons p0_0.one (ones_cons h367.one ones_nil)))) (Nat.le_of_ble_eq_true rfl)
            have els373 : Els H364 eSequent 2 [v0_0, v320, v0_0, v360] [(Sequent.mk a0.left r312), (Sequent.mk a0.left r352)] := (Els.snoc (H := H364) (E := eSequent) (k := 2) (c := [v0_0, v360]) (x := (Sequent.mk a0.left r352)) (Els.snoc (H := H364) (E := eSequent) (k := 2) (c := [v0_0, v320]) (x := (Sequent.mk a0.left r312)) Els.nil rfl ⟨_, _, rfl, (p0_0.mono (((((i27.tr i73).tr r317.run.inc).tr i326).tr r357.run.inc).tr i366)), (h327.mono (upI.tr (r357.run.inc.tr i366)))⟩) rfl ⟨_, _, rfl, (p0_0.mono (((((i27.tr i73).tr r317.run.inc).tr i326).tr r357.run.inc).tr i366)), (h367.mono upI)⟩)
            refine FC.val (l' := (bs 22 2097151)) rfl (by kernel_rfl) rfl rfl rfl (E.buildSlice (B2 rfl rfl) run371) ?_
            refine ⟨(SP.nil (Sl.of_inc (((r317.run.inc.tr i326).tr r357.run.inc).tr i366) S372.sl)), ?_⟩
            refine FB.t (i := 21) (bs 22 4194303) rfl (SP.nil (Sl.of_inc (((r317.run.inc.tr i326).tr r357.run.inc).tr i366) S372.sl)) rfl (fun w' hw' => (E.assign (v := v369) rfl)) ?_
            exact FB.done (by kernel_rfl) ⟨_, _, _, _, (S372.sel [0] (by decide) rfl), (((r317.run.inc.tr i326).tr r357.run.inc).tr i366), els373, rfl⟩
        ·
         obtain ⟨v337, w338, run339, S340⟩ := S300.buildSlice (P := Tryz.prog) te22 [Value.string y329.text] (parts := #[(0, Value.string y329.text)]) (cells := [Value.string y329.text]) rfl (szs_cons rfl szs_nil) (fc_cons rfl fc_nil) (ones_cons rfl ones_nil) (Nat.le_of_ble_eq_true rfl)
         have els341 : Els (up wa.heap.size H71) eS 1 [Value.string y329.text] [y329.text] := (Els.snoc (H := (up wa.heap.size H71)) (E := eS) (k := 1) (c := [Value.string y329.text]) (x := y329.text) Els.nil rfl rfl)
         refine FC.val (l' := (bs 22 261375)) rfl (by kernel_rfl) rfl rfl rfl (E.buildSlice (B1 rfl) run339) ?_
         refine ⟨(SP.nil S340.sl), ?_⟩
         refine FB.all1 (i := 8) (by kernel_rfl) ?_
         ·
          obtain ⟨H302, S303, i304, h305, nv306⟩ := S340.sealRowU (i := 3) (l' := [.row 9 1 v337 1 [Value.string y329.text], .row 9 1 v297 1 [Value.string y289.text], .row 9 1 v62 n63 cs64]) rfl els70 (by decide) rfl
          obtain ⟨H307, S308, i309, h310, nv311⟩ := S303.sealRowU (i := 1) (l' := [.row 9 1 v337 1 [Value.string y329.text], .row 9 1 v62 n63 cs64]) rfl (els301.mono (up_mono i304)) (by decide) rfl
          refine FC.call (l' := (bs 22 261631)) rfl (by kernel_rfl) rfl rfl rfl (E.call Tryz.call68 (A2 rfl rfl)) (w_impl_with S308.sl v66 r50 (h305.mono (upI.tr i309)) v297 [y289.text] (h310.mono upI) hr313) ?_
          rintro e w315 ⟨H314, v320, n321, cs322, rfl, r317, els323⟩
          refine ⟨_, rfl, ?_⟩
          obtain ⟨H318, r317, hU319⟩ := St.lendX (i304.tr i309) S340.sl r317
          have els323 := els323.mono (hU319.tr (up_le S340.size))
          have S316 := S340.join (l' := [.row 9 1 v320 n321 cs322, .row 9 1 v337 1 [Value.string y329.text], .row 9 1 v297 1 [Value.string y289.text], .row 9 1 v62 n63 cs64, .row 9 1 v66 n67 cs69]) r317 rfl
          refine ⟨(SP.nil (Sl.of_inc r317.run.inc S316.sl)), ?_⟩
          obtain ⟨H324, S325, i326, h327, nv328⟩ := S316.sealRowU (i := 0) (l' := [.row 9 1 v337 1 [Value.string y329.text], .row 9 1 v297 1 [Value.string y289.text], .row 9 1 v62 n63 cs64, .row 9 1 v66 n67 cs69]) rfl els323 (by decide) rfl
          refine FB.t (i := 9) (bs 22 262143) rfl (SP.nil (Sl.of_inc r317.run.inc S316.sl)) rfl (fun w' hw' => (E.build (B2 rfl rfl) (run_build _ 68 #[(0, v0_0), (1, v320)] #[v0_0, v320] (by obtain ⟨_, _, rfl⟩ := RSl.ln (p0_0.mono (((i27.tr i73).tr r317.run.inc).tr i326)); obtain ⟨_, _, rfl⟩ := RSl.ln (h327.mono upI); rfl)))) ?_
          refine FB.all1 (i := 18) (by kernel_rfl) ?_
          ·
           obtain ⟨H342, S343, i344, h345, nv346⟩ := S325.sealRowU (i := 3) (l' := [.row 9 1 v337 1 [Value.string y329.text], .row 9 1 v297 1 [Value.string y289.text], .row 9 1 v62 n63 cs64]) rfl (els70.mono (up_mono (r317.run.inc.tr i326))) (by decide) rfl
           obtain ⟨H347, S348, i349, h350, nv351⟩ := S343.sealRowU (i := 0) (l' := [.row 9 1 v297 1 [Value.string y289.text], .row 9 1 v62 n63 cs64]) rfl (els341.mono (up_mono ((r317.run.inc.tr i326).tr i344))) (by decide) rfl
           refine FC.call (l' := (bs 22 524287)) rfl (by kernel_rfl) rfl rfl rfl (E.call Tryz.call68 (A2 rfl rfl)) (w_impl_with S348.sl v66 r50 (h345.mono (upI.tr i349)) v337 [y329.text] (h350.mono upI) hr353) ?_
           rintro e w355 ⟨H354, v360, n361, cs362, rfl, r357, els363⟩
           refine ⟨_, rfl, ?_⟩
           obtain ⟨H358, r357, hU359⟩ := St.lendX (i344.tr i349) S325.sl r357
           have els363 := els363.mono (hU359.tr (up_le S325.size))
           have S356 := S325.join (l' := [.row 9 1 v360 n361 cs362, .row 9 1 v337 1 [Value.string y329.text], .row 9 1 v297 1 [Value.string y289.text], .row 9 1 v62 n63 cs64, .row 9 1 v66 n67 cs69]) r357 rfl
           refine ⟨(SP.nil (Sl.of_inc ((r317.run.inc.tr i326).tr r357.run.inc) S356.sl)), ?_⟩
           obtain ⟨H364, S365, i366, h367, nv368⟩ := S356.sealRowU (i := 0) (l' := [.row 9 1 v337 1 [Value.string y329.text], .row 9 1 v297 1 [Value.string y289.text], .row 9 1 v62 n63 cs64, .row 9 1 v66 n67 cs69]) rfl els363 (by decide) rfl
           refine FB.t (i := 19) (bs 22 1048575) rfl (SP.nil (Sl.of_inc ((r317.run.inc.tr i326).tr r357.run.inc) S356.sl)) rfl (fun w' hw' => (E.build (B2 rfl rfl) (run_build _ 68 #[(0, v0_0), (1, v360)] #[v0_0, v360] (by obtain ⟨_, _, rfl⟩ := RSl.ln (p0_0.mono (((((i27.tr i73).tr r317.run.inc).tr i326).tr r357.run.inc).tr i366)); obtain ⟨_, _, rfl⟩ := RSl.ln (h367.mono upI); rfl)))) ?_
           refine FB.all1 (i := 20) (by kernel_rfl) ?_
           ·
            obtain ⟨v369, w370, run371, S372⟩ := S365.buildSlice (P := Tryz.prog) te172 [Value.agg #[v0_0, v320], Value.agg #[v0_0, v360]] (parts := #[(0, Value.agg #[v0_0, v320]), (1, Value.agg #[v0_0, v360])]) (cells := [v0_0, v320, v0_0, v360]) rfl (szs_cons rfl (szs_cons rfl szs_nil)) (fc_cons rfl (fc_cons rfl fc_nil)) (ones_cons p0_0.one (ones_cons h327.one (ones_cons p0_0.one (ones_cons h367.one ones_nil)))) (Nat.le_of_ble_eq_true rfl)
            have els373 : Els H364 eSequent 2 [v0_0, v320, v0_0, v360] [(Sequent.mk a0.left r312), (Sequent.mk a0.left r352)] := (Els.snoc (H := H364) (E := eSequent) (k := 2) (c := [v0_0, v360]) (x := (Sequent.mk a0.left r352)) (Els.snoc (H := H364) (E := eSequent) (k := 2) (c := [v0_0, v320]) (x := (Sequent.mk a0.left r312)) Els.nil rfl ⟨_, _, rfl, (p0_0.mono (((((i27.tr i73).tr r317.run.inc).tr i326).tr r357.run.inc).tr i366)), (h327.mono (upI.tr (r357.run.inc.tr i366)))⟩) rfl ⟨_, _, rfl, (p0_0.mono (((((i27.tr i73).tr r317.run.inc).tr i326).tr r357.run.inc).tr i366)), (h367.mono upI)⟩)
            refine FC.val (l' := (bs 22 2097151)) rfl (by kernel_rfl) rfl rfl rfl (E.buildSlice (B2 rfl rfl) run371) ?_
            refine ⟨(SP.nil (Sl.of_inc (((r317.run.inc.tr i326).tr r357.run.inc).tr i366) S372.sl)), ?_⟩
            refine FB.t (i := 21) (bs 22 4194303) rfl (SP.nil (Sl.of_inc (((r317.run.inc.tr i326).tr r357.run.inc).tr i366) S372.sl)) rfl (fun w' hw' => (E.assign (v := v369) rfl)) ?_
            exact FB.done (by kernel_rfl) ⟨_, _, _, _, (S372.sel [0] (by decide) rfl), (((r317.run.inc.tr i326).tr r357.run.inc).tr i366), els373, rfl⟩
       ·
        obtain ⟨v337, w338, run339, S340⟩ := S288.buildSlice (P := Tryz.prog) te22 [Value.string y329.text] (parts := #[(0, Value.string y329.text)]) (cells := [Value.string y329.text]) rfl (szs_cons rfl szs_nil) (fc_cons rfl fc_nil) (ones_cons rfl ones_nil) (Nat.le_of_ble_eq_true rfl)
        have els341 : Els (up wa.heap.size H71) eS 1 [Value.string y329.text] [y329.text] := (Els.snoc (H := (up wa.heap.size H71)) (E := eS) (k := 1) (c := [Value.string y329.text]) (x := y329.text) Els.nil rfl rfl)
        refine FC.val (l' := (bs 22 261247)) rfl (by kernel_rfl) rfl rfl rfl (E.buildSlice (B1 rfl) run339) ?_
        refine ⟨(SP.nil S340.sl), ?_⟩
        refine FB.all1 (i := 7) (by kernel_rfl) ?_
        ·
         obtain ⟨v297, w298, run299, S300⟩ := S340.buildSlice (P := Tryz.prog) te22 [Value.string y289.text] (parts := #[(0, Value.string y289.text)]) (cells := [Value.string y289.text]) rfl (szs_cons rfl szs_nil) (fc_cons rfl fc_nil) (ones_cons rfl ones_nil) (Nat.le_of_ble_eq_true rfl)
         have els301 : Els (up wa.heap.size H71) eS 1 [Value.string y289.text] [y289.text] := (Els.snoc (H := (up wa.heap.size H71)) (E := eS) (k := 1) (c := [Value.string y289.text]) (x := y289.text) Els.nil rfl rfl)
         refine FC.val (l' := (bs 22 261375)) rfl (by kernel_rfl) rfl rfl rfl (E.buildSlice (B1 rfl) run299) ?_
         refine ⟨(SP.nil S300.sl), ?_⟩
         refine FB.all1 (i := 8) (by kernel_rfl) ?_
         ·
          obtain ⟨H302, S303, i304, h305, nv306⟩ := S300.sealRowU (i := 3) (l' := [.row 9 1 v297 1 [Value.string y289.text], .row 9 1 v337 1 [Value.string y329.text], .row 9 1 v62 n63 cs64]) rfl els70 (by decide) rfl
          obtain ⟨H307, S308, i309, h310, nv311⟩ := S303.sealRowU (i := 0) (l' := [.row 9 1 v337 1 [Value.string y329.text], .row 9 1 v62 n63 cs64]) rfl (els301.mono (up_mono i304)) (by decide) rfl
          refine FC.call (l' := (bs 22 261631)) rfl (by kernel_rfl) rfl rfl rfl (E.call Tryz.call68 (A2 rfl rfl)) (w_impl_with S308.sl v66 r50 (h305.mono (upI.tr i309)) v297 [y289.text] (h310.mono upI) hr313) ?_
          rintro e w315 ⟨H314, v320, n321, cs322, rfl, r317, els323⟩
          refine ⟨_, rfl, ?_⟩
          obtain ⟨H318, r317, hU319⟩ := St.lendX (i304.tr i309) S300.sl r317
          have els323 := els323.mono (hU319.tr (up_le S300.size))
          have S316 := S300.join (l' := [.row 9 1 v320 n321 cs322, .row 9 1 v297 1 [Value.string y289.text], .row 9 1 v337 1 [Value.string y329.text], .row 9 1 v62 n63 cs64, .row 9 1 v66 n67 cs69]) r317 rfl
          refine ⟨(SP.nil (Sl.of_inc r317.run.inc S316.sl)), ?_⟩
          obtain ⟨H324, S325, i326, h327, nv328⟩ := S316.sealRowU (i := 0) (l' := [.row 9 1 v297 1 [Value.string y289.text], .row 9 1 v337 1 [Value.string y329.text], .row 9 1 v62 n63 cs64, .row 9 1 v66 n67 cs69]) rfl els323 (by decide) rfl
          refine FB.t (i := 9) (bs 22 262143) rfl (SP.nil (Sl.of_inc r317.run.inc S316.sl)) rfl (fun w' hw' => (E.build (B2 rfl rfl) (run_build _ 68 #[(0, v0_0), (1, v320)] #[v0_0, v320] (by obtain ⟨_, _, rfl⟩ := RSl.ln (p0_0.mono (((i27.tr i73).tr r317.run.inc).tr i326)); obtain ⟨_, _, rfl⟩ := RSl.ln (h327.mono upI); rfl)))) ?_
          refine FB.all1 (i := 18) (by kernel_rfl) ?_
          ·
           obtain ⟨H342, S343, i344, h345, nv346⟩ := S325.sealRowU (i := 3) (l' := [.row 9 1 v297 1 [Value.string y289.text], .row 9 1 v337 1 [Value.string y329.text], .row 9 1 v62 n63 cs64]) rfl (els70.mono (up_mono (r317.run.inc.tr i326))) (by decide) rfl
           obtain ⟨H347, S348, i349, h350, nv351⟩ := S343.sealRowU (i := 1) (l' := [.row 9 1 v297 1 [Value.string y289.text], .row 9 1 v62 n63 cs64]) rfl (els341.mono (up_mono ((r317.run.inc.tr i326).tr i344))) (by decide) rfl
           refine FC.call (l' := (bs 22 524287)) rfl (by kernel_rfl) rfl rfl rfl (E.call Tryz.call68 (A2 rfl rfl)) (w_impl_with S348.sl v66 r50 (h345.mono (upI.tr i349)) v337 [y329.text] (h350.mono upI) hr353) ?_
           rintro e w355 ⟨H354, v360, n361, cs362, rfl, r357, els363⟩
           refine ⟨_, rfl, ?_⟩
           obtain ⟨H358, r357, hU359⟩ := St.lendX (i344.tr i349) S325.sl r357
           have els363 := els363.mono (hU359.tr (up_le S325.size))
           have S356 := S325.join (l' := [.row 9 1 v360 n361 cs362, .row 9 1 v297 1 [Value.string y289.text], .row 9 1 v337 1 [Value.string y329.text], .row 9 1 v62 n63 cs64, .row 9 1 v66 n67 cs69]) r357 rfl
           refine ⟨(SP.nil (Sl.of_inc ((r317.run.inc.tr i326).tr r357.run.inc) S356.sl)), ?_⟩
           obtain ⟨H364, S365, i366, h367, nv368⟩ := S356.sealRowU (i := 0) (l' := [.row 9 1 v297 1 [Value.string y289.text], .row 9 1 v337 1 [Value.string y329.text], .row 9 1 v62 n63 cs64, .row 9 1 v66 n67 cs69]) rfl els363 (by decide) rfl
           refine FB.t (i := 19) (bs 22 1048575) rfl (SP.nil (Sl.of_inc ((r317.run.inc.tr i326).tr r357.run.inc) S356.sl)) rfl (fun w' hw' => (E.build (B2 rfl rfl) (run_build _ 68 #[(0, v0_0), (1, v360)] #[v0_0, v360] (by obtain ⟨_, _, rfl⟩ := RSl.ln (p0_0.mono (((((i27.tr i73).tr r317.run.inc).tr i326).tr r357.run.inc).tr i366)); obtain ⟨_, _, rfl⟩ := RSl.ln (h367.mono upI); rfl)))) ?_
           refine FB.all1 (i := 20) (by kernel_rfl) ?_
           ·
            obtain ⟨v369, w370, run371, S372⟩ := S365.buildSlice (P := Tryz.prog) te172 [Value.agg #[v0_0, v320], Value.agg #[v0_0, v360]] (parts := #[(0, Value.agg #[v0_0, v320]), (1, Value.agg #[v0_0, v360])]) (cells := [v0_0, v320, v0_0, v360]) rfl (szs_cons rfl (szs_cons rfl szs_nil)) (fc_cons rfl (fc_cons rfl fc_nil)) (ones_cons p0_0.one (ones_cons h327.one (ones_cons p0_0.one (ones_cons h367.one ones_nil)))) (Nat.le_of_ble_eq_true rfl)
            have els373 : Els H364 eSequent 2 [v0_0, v320, v0_0, v360] [(Sequent.mk a0.left r312), (Sequent.mk a0.left r352)] := (Els.snoc (H := H364) (E := eSequent) (k := 2) (c := [v0_0, v360]) (x := (Sequent.mk a0.left r352)) (Els.snoc (H := H364) (E := eSequent) (k := 2) (c := [v0_0, v320]) (x := (Sequent.mk a0.left r312)) Els.nil rfl ⟨_, _, rfl, (p0_0.mono (((((i27.tr i73).tr r317.run.inc).tr i326).tr r357.run.inc).tr i366)), (h327.mono (upI.tr (r357.run.inc.tr i366)))⟩) rfl ⟨_, _, rfl, (p0_0.mono (((((i27.tr i73).tr r317.run.inc).tr i326).tr r357.run.inc).tr i366)), (h367.mono upI)⟩)
            refine FC.val (l' := (bs 22 2097151)) rfl (by kernel_rfl) rfl rfl rfl (E.buildSlice (B2 rfl rfl) run371) ?_
            refine ⟨(SP.nil (Sl.of_inc (((r317.run.inc.tr i326).tr r357.run.inc).tr i366) S372.sl)), ?_⟩
            refine FB.t (i := 21) (bs 22 4194303) rfl (SP.nil (Sl.of_inc (((r317.run.inc.tr i326).tr r357.run.inc).tr i366) S372.sl)) rfl (fun w' hw' => (E.assign (v := v369) rfl)) ?_
            exact FB.done (by kernel_rfl) ⟨_, _, _, _, (S372.sel [0] (by decide) rfl), (((r317.run.inc.tr i326).tr r357.run.inc).tr i366), els373, rfl⟩
      ·
       rintro f382 w381 ⟨H378, v374, n375, cs376, S379, i380, els377, k383⟩
       refine FW.ret ?_
       obtain rfl := Option.some.inj hp
       exact ⟨.inr rfl, res1 rfl k383 ⟨_, _, _, _, rfl, S379, els377⟩⟩
     ·
      refine FW.condF rfl c285 ?_
      refine FW.seq (FW.region ?_)
      refine FL.v (E.eql rfl rfl) ?_
      refine FL.v (E.assign (v := Value.bool (a1 == 6)) rfl) ?_
      refine FL.nil ?_
      rcases ifB hp with ⟨c384, hp⟩ | ⟨c384, hp⟩
      ·
       refine FW.condT rfl c384 ?_
       refine FW.seq ?_
       obtain ⟨y388, hy389, hp⟩ := bnd hp
       obtain ⟨r411, hr412, hp⟩ := bnd hp
       obtain ⟨y428, hy429, hp⟩ := bnd hp
       obtain ⟨r451, hr452, hp⟩ := bnd hp
       refine FW.drawB (Sl H71) (fun f w => ∃ H : GH, ∃ v473 : Value, ∃ n474 : Nat, ∃ cs475 : List Value, St Ha wa H w [.row 68 2 v473 n474 cs475] ∧ Inc H71 H ∧ Els H eSequent 2 cs475 [(Sequent.mk r411 a0.right), (Sequent.mk r451 a0.right)] ∧ f 6 = v473) (by kernel_rfl) S90.sl ?_ ?_
       ·
        intro w385 r386
        have S387 := S90.call r386
        refine FB.t (i := 0) (bs 22 1) rfl (SP.nil S387.sl) rfl (fun w' hw' => (E.move k79)) ?_
        refine FB.t (i := 1) (bs 22 3) rfl (SP.nil S387.sl) rfl (fun w' hw' => (E.move (v := v85) rfl)) ?_
        obtain ⟨q390, v392, v393, rfl, at391, h394, h395⟩ := FAt.open h87 hy389
        refine FB.t (i := 2) (bs 22 7) rfl (SP.nil S387.sl) rfl (fun w' hw' => (E.nilCheck rfl)) ?_
        refine FB.t (i := 3) (bs 22 15) rfl (SP.nil S387.sl) rfl (fun w' hw' => (E.fieldAddr tf109_3 rfl)) ?_
        refine FB.t (i := 4) (bs 22 31) rfl (SP.nil S387.sl) rfl (fun w' hw' => (E.load rfl (run_load1 Tryz.isAgg9 (at391.now hw') rfl))) ?_
        refine FB.t (i := 7) (bs 22 159) rfl (SP.nil S387.sl) rfl (fun w' hw' => (E.fieldAddr tf68_1 k78)) ?_
        refine FB.t (i := 8) (bs 22 415) rfl (SP.nil S387.sl) rfl (fun w' hw' => (E.load rfl (run_load1 Tryz.isAgg22 ((at28.mono i73).now hw') rfl))) ?_
        refine FB.t (i := 10) (bs 22 1439) rfl (SP.nil S387.sl) rfl (fun w' hw' => (E.move k79)) ?_
        refine FB.t (i := 11) (bs 22 3487) rfl (SP.nil S387.sl) rfl (fun w' hw' => (E.move (v := v86) rfl)) ?_
        obtain ⟨q430, v432, v433, rfl, at431, h434, h435⟩ := FAt.open h88 hy429
        refine FB.t (i := 12) (bs 22 7583) rfl (SP.nil S387.sl) rfl (fun w' hw' => (E.nilCheck rfl)) ?_
        refine FB.t (i := 13) (bs 22 15775) rfl (SP.nil S387.sl) rfl (fun w' hw' => (E.fieldAddr tf109_3 rfl)) ?_
        refine FB.t (i := 14) (bs 22 32159) rfl (SP.nil S387.sl) rfl (fun w' hw' => (E.load rfl (run_load1 Tryz.isAgg9 (at431.now hw') rfl))) ?_
        refine FB.t (i := 17) (bs 22 163231) rfl (SP.nil S387.sl) rfl (fun w' hw' => (E.fieldAddr tf68_1 k78)) ?_
        refine FB.t (i := 18) (bs 22 425375) rfl (SP.nil S387.sl) rfl (fun w' hw' => (E.load rfl (run_load1 Tryz.isAgg22 ((at28.mono i73).now hw') rfl))) ?_
        refine FB.all2 (i := 5) (j := 15) (by kernel_rfl) ?_ ?_
        ·
         obtain ⟨v396, w397, run398, S399⟩ := S387.buildSlice (P := Tryz.prog) te22 [Value.string y388.text] (parts := #[(0, Value.string y388.text)]) (cells := [Value.string y388.text]) rfl (szs_cons rfl szs_nil) (fc_cons rfl fc_nil) (ones_cons rfl ones_nil) (Nat.le_of_ble_eq_true rfl)
         have els400 : Els (up wa.heap.size H71) eS 1 [Value.string y388.text] [y388.text] := (Els.snoc (H := (up wa.heap.size H71)) (E := eS) (k := 1) (c := [Value.string y388.text]) (x := y388.text) Els.nil rfl rfl)
         refine FC.val (l' := (bs 22 425407)) rfl (by kernel_rfl) rfl rfl rfl (E.buildSlice (B1 rfl) run398) ?_
         refine ⟨(SP.nil S399.sl), ?_⟩
         refine FB.all2 (i := 6) (j := 15) (by kernel_rfl) ?_ ?_
         ·
          obtain ⟨H401, S402, i403, h404, nv405⟩ := S399.sealRowU (i := 1) (l' := [.row 9 1 v396 1 [Value.string y388.text], .row 9 1 v66 n67 cs69]) rfl els65 (by decide) rfl
          obtain ⟨H406, S407, i408, h409, nv410⟩ := S402.sealRowU (i := 0) (l' := [.row 9 1 v66 n67 cs69]) rfl (els400.mono (up_mono i403)) (by decide) rfl
          refine FC.call (l' := (bs 22 425471)) rfl (by kernel_rfl) rfl rfl rfl (E.call Tryz.call68 (A2 rfl rfl)) (w_impl_with S407.sl v62 r40 (h404.mono (upI.tr i408)) v396 [y388.text] (h409.mono upI) hr412) ?_
          rintro e w414 ⟨H413, v419, n420, cs421, rfl, r416, els422⟩
          refine ⟨_, rfl, ?_⟩
          obtain ⟨H417, r416, hU418⟩ := St.lendX (i403.tr i408) S399.sl r416
          have els422 := els422.mono (hU418.tr (up_le S399.size))
          have S415 := S399.join (l' := [.row 9 1 v419 n420 cs421, .row 9 1 v396 1 [Value.string y388.text], .row 9 1 v62 n63 cs64, .row 9 1 v66 n67 cs69]) r416 rfl
          refine ⟨(SP.nil (Sl.of_inc r416.run.inc S415.sl)), ?_⟩
          obtain ⟨H423, S424, i425, h426, nv427⟩ := S415.sealRowU (i := 0) (l' := [.row 9 1 v396 1 [Value.string y388.text], .row 9 1 v62 n63 cs64, .row 9 1 v66 n67 cs69]) rfl els422 (by decide) rfl
          refine FB.t (i := 9) (bs 22 425983) rfl (SP.nil (Sl.of_inc r416.run.inc S415.sl)) rfl (fun w' hw' => (E.build (B2 rfl rfl) (run_build _ 68 #[(0, v419), (1, v0_1)] #[v419, v0_1] (by obtain ⟨_, _, rfl⟩ := RSl.ln (h426.mono upI); obtain ⟨_, _, rfl⟩ := RSl.ln (p0_1.mono (((i27.tr i73).tr r416.run.inc).tr i425)); rfl)))) ?_
          refine FB.all1 (i := 15) (by kernel_rfl) ?_
          ·
           obtain ⟨v436, w437, run438, S439⟩ := S424.buildSlice (P := Tryz.prog) te22 [Value.string y428.text] (parts := #[(0, Value.string y428.text)]) (cells := [Value.string y428.text]) rfl (szs_cons rfl szs_nil) (fc_cons rfl fc_nil) (ones_cons rfl ones_nil) (Nat.le_of_ble_eq_true rfl)
           have els440 : Els (up wa.heap.size H423) eS 1 [Value.string y428.text] [y428.text] := (Els.snoc (H := (up wa.heap.size H423)) (E := eS) (k := 1) (c := [Value.string y428.text]) (x := y428.text) Els.nil rfl rfl)
           refine FC.val (l' := (bs 22 458751)) rfl (by kernel_rfl) rfl rfl rfl (E.buildSlice (B1 rfl) run438) ?_
           refine ⟨(SP.nil (Sl.of_inc (r416.run.inc.tr i425) S439.sl)), ?_⟩
           refine FB.all1 (i := 16) (by kernel_rfl) ?_
           ·
            obtain ⟨H441, S442, i443, h444, nv445⟩ := S439.sealRowU (i := 2) (l' := [.row 9 1 v436 1 [Value.string y428.text], .row 9 1 v396 1 [Value.string y388.text], .row 9 1 v66 n67 cs69]) rfl (els65.mono (up_mono (r416.run.inc.tr i425))) (by decide) rfl
            obtain ⟨H446, S447, i448, h449, nv450⟩ := S442.sealRowU (i := 0) (l' := [.row 9 1 v396 1 [Value.string y388.text], .row 9 1 v66 n67 cs69]) rfl (els440.mono (up_mono i443)) (by decide) rfl
            refine FC.call (l' := (bs 22 524287)) rfl (by kernel_rfl) rfl rfl rfl (E.call Tryz.call68 (A2 rfl rfl)) (w_impl_with S447.sl v62 r40 (h444.mono (upI.tr i448)) v436 [y428.text] (h449.mono upI) hr452) ?_
            rintro e w454 ⟨H453, v459, n460, cs461, rfl, r456, els462⟩
            refine ⟨_, rfl, ?_⟩
            obtain ⟨H457, r456, hU458⟩ := St.lendX (i443.tr i448) S439.sl r456
            have els462 := els462.mono (hU458.tr (up_le S439.size))
            have S455 := S439.join (l' := [.row 9 1 v459 n460 cs461, .row 9 1 v436 1 [Value.string y428.text], .row 9 1 v396 1 [Value.string y388.text], .row 9 1 v62 n63 cs64, .row 9 1 v66 n67 cs69]) r456 rfl
            refine ⟨(SP.nil (Sl.of_inc ((r416.run.inc.tr i425).tr r456.run.inc) S455.sl)), ?_⟩
            obtain ⟨H463, S464, i465, h466, nv467⟩ := S455.sealRowU (i := 0) (l' := [.row 9 1 v436 1 [Value.string y428.text], .row 9 1 v396 1 [Value.string y388.text], .row 9 1 v62 n63 cs64, .row 9 1 v66 n67 cs69]) rfl els462 (by decide) rfl
            refine FB.t (i := 19) (bs 22 1048575) rfl (SP.nil (Sl.of_inc ((r416.run.inc.tr i425).tr r456.run.inc) S455.sl)) rfl (fun w' hw' => (E.build (B2 rfl rfl) (run_build _ 68 #[(0, v459), (1, v0_1)] #[v459, v0_1] (by obtain ⟨_, _, rfl⟩ := RSl.ln (h466.mono upI); obtain ⟨_, _, rfl⟩ := RSl.ln (p0_1.mono (((((i27.tr i73).tr r416.run.inc).tr i425).tr r456.run.inc).tr i465)); rfl)))) ?_
            refine FB.all1 (i := 20) (by kernel_rfl) ?_
            ·
             obtain ⟨v468, w469, run470, S471⟩ := S464.buildSlice (P := Tryz.prog) te172 [Value.agg #[v419, v0_1], Value.agg #[v459, v0_1]] (parts := #[(0, Value.agg #[v419, v0_1]), (1, Value.agg #[v459, v0_1])]) (cells := [v419, v0_1, v459, v0_1]) rfl (szs_cons rfl (szs_cons rfl szs_nil)) (fc_cons rfl (fc_cons rfl fc_nil)) (ones_cons h426.one (ones_cons p0_1.one (ones_cons h466.one (ones_cons p0_1.one ones_nil)))) (Nat.le_of_ble_eq_true rfl)
             have els472 : Els H463 eSequent 2 [v419, v0_1, v459, v0_1] [(Sequent.mk r411 a0.right), (Sequent.mk r451 a0.right)] := (Els.snoc (H := H463) (E := eSequent) (k := 2) (c := [v459, v0_1]) (x := (Sequent.mk r451 a0.right)) (Els.snoc (H := H463) (E := eSequent) (k := 2) (c := [v419, v0_1]) (x := (Sequent.mk r411 a0.right)) Els.nil rfl ⟨_, _, rfl, (h426.mono (upI.tr (r456.run.inc.tr i465))), (p0_1.mono (((((i27.tr i73).tr r416.run.inc).tr i425).tr r456.run.inc).tr i465))⟩) rfl ⟨_, _, rfl, (h466.mono upI), (p0_1.mono (((((i27.tr i73).tr r416.run.inc).tr i425).tr r456.run.inc).tr i465))⟩)
             refine FC.val (l' := (bs 22 2097151)) rfl (by kernel_rfl) rfl rfl rfl (E.buildSlice (B2 rfl rfl) run470) ?_
             refine ⟨(SP.nil (Sl.of_inc (((r416.run.inc.tr i425).tr r456.run.inc).tr i465) S471.sl)), ?_⟩
             refine FB.t (i := 21) (bs 22 4194303) rfl (SP.nil (Sl.of_inc (((r416.run.inc.tr i425).tr r456.run.inc).tr i465) S471.sl)) rfl (fun w' hw' => (E.assign (v := v468) rfl)) ?_
             exact FB.done (by kernel_rfl) ⟨_, _, _, _, (S471.sel [0] (by decide) rfl), (((r416.run.inc.tr i425).tr r456.run.inc).tr i465), els472, rfl⟩
         ·
          obtain ⟨v436, w437, run438, S439⟩ := S399.buildSlice (P := Tryz.prog) te22 [Value.string y428.text] (parts := #[(0, Value.string y428.text)]) (cells := [Value.string y428.text]) rfl (szs_cons rfl szs_nil) (fc_cons rfl fc_nil) (ones_cons rfl ones_nil) (Nat.le_of_ble_eq_true rfl)
          have els440 : Els (up wa.heap.size H71) eS 1 [Value.string y428.text] [y428.text] := (Els.snoc (H := (up wa.heap.size H71)) (E := eS) (k := 1) (c := [Value.string y428.text]) (x := y428.text) Els.nil rfl rfl)
          refine FC.val (l' := (bs 22 458175)) rfl (by kernel_rfl) rfl rfl rfl (E.buildSlice (B1 rfl) run438) ?_
          refine ⟨(SP.nil S439.sl), ?_⟩
          refine FB.all1 (i := 6) (by kernel_rfl) ?_
          ·
           obtain ⟨H401, S402, i403, h404, nv405⟩ := S439.sealRowU (i := 2) (l' := [.row 9 1 v436 1 [Value.string y428.text], .row 9 1 v396 1 [Value.string y388.text], .row 9 1 v66 n67 cs69]) rfl els65 (by decide) rfl
           obtain ⟨H406, S407, i408, h409, nv410⟩ := S402.sealRowU (i := 1) (l' := [.row 9 1 v436 1 [Value.string y428.text], .row 9 1 v66 n67 cs69]) rfl (els400.mono (up_mono i403)) (by decide) rfl
           refine FC.call (l' := (bs 22 458239)) rfl (by kernel_rfl) rfl rfl rfl (E.call Tryz.call68 (A2 rfl rfl)) (w_impl_with S407.sl v62 r40 (h404.mono (upI.tr i408)) v396 [y388.text] (h409.mono upI) hr412) ?_
           rintro e w414 ⟨H413, v419, n420, cs421, rfl, r416, els422⟩
           refine ⟨_, rfl, ?_⟩
           obtain ⟨H417, r416, hU418⟩ := St.lendX (i403.tr i408) S439.sl r416
           have els422 := els422.mono (hU418.tr (up_le S439.size))
           have S415 := S439.join (l' := [.row 9 1 v419 n420 cs421, .row 9 1 v436 1 [Value.string y428.text], .row 9 1 v396 1 [Value.string y388.text], .row 9 1 v62 n63 cs64, .row 9 1 v66 n67 cs69]) r416 rfl
           refine ⟨(SP.nil (Sl.of_inc r416.run.inc S415.sl)), ?_⟩
           obtain ⟨H423, S424, i425, h426, nv427⟩ := S415.sealRowU (i := 0) (l' := [.row 9 1 v436 1 [Value.string y428.text], .row 9 1 v396 1 [Value.string y388.text], .row 9 1 v62 n63 cs64, .row 9 1 v66 n67 cs69]) rfl els422 (by decide) rfl
           refine FB.t (i := 9) (bs 22 458751) rfl (SP.nil (Sl.of_inc r416.run.inc S415.sl)) rfl (fun w' hw' => (E.build (B2 rfl rfl) (run_build _ 68 #[(0, v419), (1, v0_1)] #[v419, v0_1] (by obtain ⟨_, _, rfl⟩ := RSl.ln (h426.mono upI); obtain ⟨_, _, rfl⟩ := RSl.ln (p0_1.mono (((i27.tr i73).tr r416.run.inc).tr i425)); rfl)))) ?_
           refine FB.all1 (i := 16) (by kernel_rfl) ?_
           ·
            obtain ⟨H441, S442, i443, h444, nv445⟩ := S424.sealRowU (i := 2) (l' := [.row 9 1 v436 1 [Value.string y428.text], .row 9 1 v396 1 [Value.string y388.text], .row 9 1 v66 n67 cs69]) rfl (els65.mono (up_mono (r416.run.inc.tr i425))) (by decide) rfl
            obtain ⟨H446, S447, i448, h449, nv450⟩ := S442.sealRowU (i := 0) (l' := [.row 9 1 v396 1 [Value.string y388.text], .row 9 1 v66 n67 cs69]) rfl (els440.mono (up_mono ((r416.run.inc.tr i425).tr i443))) (by decide) rfl
            refine FC.call (l' := (bs 22 524287)) rfl (by kernel_rfl) rfl rfl rfl (E.call Tryz.call68 (A2 rfl rfl)) (w_impl_with S447.sl v62 r40 (h444.mono (upI.tr i448)) v436 [y428.text] (h449.mono upI) hr452) ?_
            rintro e w454 ⟨H453, v459, n460, cs461, rfl, r456, els462⟩
            refine ⟨_, rfl, ?_⟩
            obtain ⟨H457, r456, hU458⟩ := St.lendX (i443.tr i448) S424.sl r456
            have els462 := els462.mono (hU458.tr (up_le S424.size))
            have S455 := S424.join (l' := [.row 9 1 v459 n460 cs461, .row 9 1 v436 1 [Value.string y428.text], .row 9 1 v396 1 [Value.string y388.text], .row 9 1 v62 n63 cs64, .row 9 1 v66 n67 cs69]) r456 rfl
            refine ⟨(SP.nil (Sl.of_inc ((r416.run.inc.tr i425).tr r456.run.inc) S455.sl)), ?_⟩
            obtain ⟨H463, S464, i465, h466, nv467⟩ := S455.sealRowU (i := 0) (l' := [.row 9 1 v436 1 [Value.string y428.text], .row 9 1 v396 1 [Value.string y388.text], .row 9 1 v62 n63 cs64, .row 9 1 v66 n67 cs69]) rfl els462 (by decide) rfl
            refine FB.t (i := 19) (bs 22 1048575) rfl (SP.nil (Sl.of_inc ((r416.run.inc.tr i425).tr r456.run.inc) S455.sl)) rfl (fun w' hw' => (E.build (B2 rfl rfl) (run_build _ 68 #[(0, v459), (1, v0_1)] #[v459, v0_1] (by obtain ⟨_, _, rfl⟩ := RSl.ln (h466.mono upI); obtain ⟨_, _, rfl⟩ := RSl.ln (p0_1.mono (((((i27.tr i73).tr r416.run.inc).tr i425).tr r456.run.inc).tr i465)); rfl)))) ?_
            refine FB.all1 (i := 20) (by kernel_rfl) ?_
            ·
             obtain ⟨v468, w469, run470, S471⟩ := S464.buildSlice (P := Tryz.prog) te172 [Value.agg #[v419, v0_1], Value.agg #[v459, v0_1]] (parts := #[(0, Value.agg #[v419, v0_1]), (1, Value.agg #[v459, v0_1])]) (cells := [v419, v0_1, v459, v0_1]) rfl (szs_cons rfl (szs_cons rfl szs_nil)) (fc_cons rfl (fc_cons rfl fc_nil)) (ones_cons h426.one (ones_cons p0_1.one (ones_cons h466.one (ones_cons p0_1.one ones_nil)))) (Nat.le_of_ble_eq_true rfl)
             have els472 : Els H463 eSequent 2 [v419, v0_1, v459, v0_1] [(Sequent.mk r411 a0.right), (Sequent.mk r451 a0.right)] := (Els.snoc (H := H463) (E := eSequent) (k := 2) (c := [v459, v0_1]) (x := (Sequent.mk r451 a0.right)) (Els.snoc (H := H463) (E := eSequent) (k := 2) (c := [v419, v0_1]) (x := (Sequent.mk r411 a0.right)) Els.nil rfl ⟨_, _, rfl, (h426.mono (upI.tr (r456.run.inc.tr i465))), (p0_1.mono (((((i27.tr i73).tr r416.run.inc).tr i425).tr r456.run.inc).tr i465))⟩) rfl ⟨_, _, rfl, (h466.mono upI), (p0_1.mono (((((i27.tr i73).tr r416.run.inc).tr i425).tr r456.run.inc).tr i465))⟩)
             refine FC.val (l' := (bs 22 2097151)) rfl (by kernel_rfl) rfl rfl rfl (E.buildSlice (B2 rfl rfl) run470) ?_
             refine ⟨(SP.nil (Sl.of_inc (((r416.run.inc.tr i425).tr r456.run.inc).tr i465) S471.sl)), ?_⟩
             refine FB.t (i := 21) (bs 22 4194303) rfl (SP.nil (Sl.of_inc (((r416.run.inc.tr i425).tr r456.run.inc).tr i465) S471.sl)) rfl (fun w' hw' => (E.assign (v := v468) rfl)) ?_
             exact FB.done (by kernel_rfl) ⟨_, _, _, _, (S471.sel [0] (by decide) rfl), (((r416.run.inc.tr i425).tr r456.run.inc).tr i465), els472, rfl⟩
        ·
         obtain ⟨v436, w437, run438, S439⟩ := S387.buildSlice (P := Tryz.prog) te22 [Value.string y428.text] (parts := #[(0, Value.string y428.text)]) (cells := [Value.string y428.text]) rfl (szs_cons rfl szs_nil) (fc_cons rfl fc_nil) (ones_cons rfl ones_nil) (Nat.le_of_ble_eq_true rfl)
         have els440 : Els (up wa.heap.size H71) eS 1 [Value.string y428.text] [y428.text] := (Els.snoc (H := (up wa.heap.size H71)) (E := eS) (k := 1) (c := [Value.string y428.text]) (x := y428.text) Els.nil rfl rfl)
         refine FC.val (l' := (bs 22 458143)) rfl (by kernel_rfl) rfl rfl rfl (E.buildSlice (B1 rfl) run438) ?_
         refine ⟨(SP.nil S439.sl), ?_⟩
         refine FB.all1 (i := 5) (by kernel_rfl) ?_
         ·
          obtain ⟨v396, w397, run398, S399⟩ := S439.buildSlice (P := Tryz.prog) te22 [Value.string y388.text] (parts := #[(0, Value.string y388.text)]) (cells := [Value.string y388.text]) rfl (szs_cons rfl szs_nil) (fc_cons rfl fc_nil) (ones_cons rfl ones_nil) (Nat.le_of_ble_eq_true rfl)
          have els400 : Els (up wa.heap.size H71) eS 1 [Value.string y388.text] [y388.text] := (Els.snoc (H := (up wa.heap.size H71)) (E := eS) (k := 1) (c := [Value.string y388.text]) (x := y388.text) Els.nil rfl rfl)
          refine FC.val (l' := (bs 22 458175)) rfl (by kernel_rfl) rfl rfl rfl (E.buildSlice (B1 rfl) run398) ?_
          refine ⟨(SP.nil S399.sl), ?_⟩
          refine FB.all1 (i := 6) (by kernel_rfl) ?_
          ·
           obtain ⟨H401, S402, i403, h404, nv405⟩ := S399.sealRowU (i := 2) (l' := [.row 9 1 v396 1 [Value.string y388.text], .row 9 1 v436 1 [Value.string y428.text], .row 9 1 v66 n67 cs69]) rfl els65 (by decide) rfl
           obtain ⟨H406, S407, i408, h409, nv410⟩ := S402.sealRowU (i := 0) (l' := [.row 9 1 v436 1 [Value.string y428.text], .row 9 1 v66 n67 cs69]) rfl (els400.mono (up_mono i403)) (by decide) rfl
           refine FC.call (l' := (bs 22 458239)) rfl (by kernel_rfl) rfl rfl rfl (E.call Tryz.call68 (A2 rfl rfl)) (w_impl_with S407.sl v62 r40 (h404.mono (upI.tr i408)) v396 [y388.text] (h409.mono upI) hr412) ?_
           rintro e w414 ⟨H413, v419, n420, cs421, rfl, r416, els422⟩
           refine ⟨_, rfl, ?_⟩
           obtain ⟨H417, r416, hU418⟩ := St.lendX (i403.tr i408) S399.sl r416
           have els422 := els422.mono (hU418.tr (up_le S399.size))
           have S415 := S399.join (l' := [.row 9 1 v419 n420 cs421, .row 9 1 v396 1 [Value.string y388.text], .row 9 1 v436 1 [Value.string y428.text], .row 9 1 v62 n63 cs64, .row 9 1 v66 n67 cs69]) r416 rfl
           refine ⟨(SP.nil (Sl.of_inc r416.run.inc S415.sl)), ?_⟩
           obtain ⟨H423, S424, i425, h426, nv427⟩ := S415.sealRowU (i := 0) (l' := [.row 9 1 v396 1 [Value.string y388.text], .row 9 1 v436 1 [Value.string y428.text], .row 9 1 v62 n63 cs64, .row 9 1 v66 n67 cs69]) rfl els422 (by decide) rfl
           refine FB.t (i := 9) (bs 22 458751) rfl (SP.nil (Sl.of_inc r416.run.inc S415.sl)) rfl (fun w' hw' => (E.build (B2 rfl rfl) (run_build _ 68 #[(0, v419), (1, v0_1)] #[v419, v0_1] (by obtain ⟨_, _, rfl⟩ := RSl.ln (h426.mono upI); obtain ⟨_, _, rfl⟩ := RSl.ln (p0_1.mono (((i27.tr i73).tr r416.run.inc).tr i425)); rfl)))) ?_
           refine FB.all1 (i := 16) (by kernel_rfl) ?_
           ·
            obtain ⟨H441, S442, i443, h444, nv445⟩ := S424.sealRowU (i := 2) (l' := [.row 9 1 v396 1 [Value.string y388.text], .row 9 1 v436 1 [Value.string y428.text], .row 9 1 v66 n67 cs69]) rfl (els65.mono (up_mono (r416.run.inc.tr i425))) (by decide) rfl
            obtain ⟨H446, S447, i448, h449, nv450⟩ := S442.sealRowU (i := 1) (l' := [.row 9 1 v396 1 [Value.string y388.text], .row 9 1 v66 n67 cs69]) rfl (els440.mono (up_mono ((r416.run.inc.tr i425).tr i443))) (by decide) rfl
            refine FC.call (l' := (bs 22 524287)) rfl (by kernel_rfl) rfl rfl rfl (E.call Tryz.call68 (A2 rfl rfl)) (w_impl_with S447.sl v62 r40 (h444.mono (upI.tr i448)) v436 [y428.text] (h449.mono upI) hr452) ?_
            rintro e w454 ⟨H453, v459, n460, cs461, rfl, r456, els462⟩
            refine ⟨_, rfl, ?_⟩
            obtain ⟨H457, r456, hU458⟩ := St.lendX (i443.tr i448) S424.sl r456
            have els462 := els462.mono (hU458.tr (up_le S424.size))
            have S455 := S424.join (l' := [.row 9 1 v459 n460 cs461, .row 9 1 v396 1 [Value.string y388.text], .row 9 1 v436 1 [Value.string y428.text], .row 9 1 v62 n63 cs64, .row 9 1 v66 n67 cs69]) r456 rfl
            refine ⟨(SP.nil (Sl.of_inc ((r416.run.inc.tr i425).tr r456.run.inc) S455.sl)), ?_⟩
            obtain ⟨H463, S464, i465, h466, nv467⟩ := S455.sealRowU (i := 0) (l' := [.row 9 1 v396 1 [Value.string y388.text], .row 9 1 v436 1 [Value.string y428.text], .row 9 1 v62 n63 cs64, .row 9 1 v66 n67 cs69]) rfl els462 (by decide) rfl
            refine FB.t (i := 19) (bs 22 1048575) rfl (SP.nil (Sl.of_inc ((r416.run.inc.tr i425).tr r456.run.inc) S455.sl)) rfl (fun w' hw' => (E.build (B2 rfl rfl) (run_build _ 68 #[(0, v459), (1, v0_1)] #[v459, v0_1] (by obtain ⟨_, _, rfl⟩ := RSl.ln (h466.mono upI); obtain ⟨_, _, rfl⟩ := RSl.ln (p0_1.mono (((((i27.tr i73).tr r416.run.inc).tr i425).tr r456.run.inc).tr i465)); rfl)))) ?_
            refine FB.all1 (i := 20) (by kernel_rfl) ?_
            ·
             obtain ⟨v468, w469, run470, S471⟩ := S464.buildSlice (P := Tryz.prog) te172 [Value.agg #[v419, v0_1], Value.agg #[v459, v0_1]] (parts := #[(0, Value.agg #[v419, v0_1]), (1, Value.agg #[v459, v0_1])]) (cells := [v419, v0_1, v459, v0_1]) rfl (szs_cons rfl (szs_cons rfl szs_nil)) (fc_cons rfl (fc_cons rfl fc_nil)) (ones_cons h426.one (ones_cons p0_1.one (ones_cons h466.one (ones_cons p0_1.one ones_nil)))) (Nat.le_of_ble_eq_true rfl)
             have els472 : Els H463 eSequent 2 [v419, v0_1, v459, v0_1] [(Sequent.mk r411 a0.right), (Sequent.mk r451 a0.right)] := (Els.snoc (H := H463) (E := eSequent) (k := 2) (c := [v459, v0_1]) (x := (Sequent.mk r451 a0.right)) (Els.snoc (H := H463) (E := eSequent) (k := 2) (c := [v419, v0_1]) (x := (Sequent.mk r411 a0.right)) Els.nil rfl ⟨_, _, rfl, (h426.mono (upI.tr (r456.run.inc.tr i465))), (p0_1.mono (((((i27.tr i73).tr r416.run.inc).tr i425).tr r456.run.inc).tr i465))⟩) rfl ⟨_, _, rfl, (h466.mono upI), (p0_1.mono (((((i27.tr i73).tr r416.run.inc).tr i425).tr r456.run.inc).tr i465))⟩)
             refine FC.val (l' := (bs 22 2097151)) rfl (by kernel_rfl) rfl rfl rfl (E.buildSlice (B2 rfl rfl) run470) ?_
             refine ⟨(SP.nil (Sl.of_inc (((r416.run.inc.tr i425).tr r456.run.inc).tr i465) S471.sl)), ?_⟩
             refine FB.t (i := 21) (bs 22 4194303) rfl (SP.nil (Sl.of_inc (((r416.run.inc.tr i425).tr r456.run.inc).tr i465) S471.sl)) rfl (fun w' hw' => (E.assign (v := v468) rfl)) ?_
             exact FB.done (by kernel_rfl) ⟨_, _, _, _, (S471.sel [0] (by decide) rfl), (((r416.run.inc.tr i425).tr r456.run.inc).tr i465), els472, rfl⟩
       ·
        rintro f481 w480 ⟨H477, v473, n474, cs475, S478, i479, els476, k482⟩
        refine FW.ret ?_
        obtain rfl := Option.some.inj hp
        exact ⟨.inr rfl, res1 rfl k482 ⟨_, _, _, _, rfl, S478, els476⟩⟩
      ·
       refine FW.condF rfl c384 ?_
       refine FW.seq (FW.region ?_)
       refine FL.v (E.eql rfl rfl) ?_
       refine FL.v (E.assign (v := Value.bool (a1 == 7)) rfl) ?_
       refine FL.nil ?_
       rcases ifB hp with ⟨c483, hp⟩ | ⟨c483, hp⟩
       ·
        refine FW.condT rfl c483 ?_
        refine FW.seq ?_
        obtain ⟨y487, hy488, hp⟩ := bnd hp
        obtain ⟨y495, hy496, hp⟩ := bnd hp
        obtain ⟨r518, hr519, hp⟩ := bnd hp
        refine FW.drawB (Sl H71) (fun f w => ∃ H : GH, ∃ v540 : Value, ∃ n541 : Nat, ∃ cs542 : List Value, St Ha wa H w [.row 68 2 v540 n541 cs542] ∧ Inc H71 H ∧ Els H eSequent 2 cs542 [(Sequent.mk a0.left r518)] ∧ f 6 = v540) (by kernel_rfl) S90.sl ?_ ?_
        ·
         intro w484 r485
         have S486 := S90.call r485
         refine FB.t (i := 0) (bs 16 1) rfl (SP.nil S486.sl) rfl (fun w' hw' => (E.fieldAddr tf68_0 k78)) ?_
         refine FB.t (i := 1) (bs 16 3) rfl (SP.nil S486.sl) rfl (fun w' hw' => (E.load rfl (run_load1 Tryz.isAgg22 ((at28.mono i73).now hw') rfl))) ?_
         refine FB.t (i := 2) (bs 16 7) rfl (SP.nil S486.sl) rfl (fun w' hw' => (E.move k80)) ?_
         refine FB.t (i := 3) (bs 16 15) rfl (SP.nil S486.sl) rfl (fun w' hw' => (E.move (v := v85) rfl)) ?_
         obtain ⟨q489, v491, v492, rfl, at490, h493, h494⟩ := FAt.open h87 hy488
         refine FB.t (i := 4) (bs 16 31) rfl (SP.nil S486.sl) rfl (fun w' hw' => (E.nilCheck rfl)) ?_
         refine FB.t (i := 5) (bs 16 63) rfl (SP.nil S486.sl) rfl (fun w' hw' => (E.fieldAddr tf109_3 rfl)) ?_
         refine FB.t (i := 6) (bs 16 127) rfl (SP.nil S486.sl) rfl (fun w' hw' => (E.load rfl (run_load1 Tryz.isAgg9 (at490.now hw') rfl))) ?_
         refine FB.t (i := 7) (bs 16 255) rfl (SP.nil S486.sl) rfl (fun w' hw' => (E.move (v := v86) rfl)) ?_
         obtain ⟨q497, v499, v500, rfl, at498, h501, h502⟩ := FAt.open h88 hy496
         refine FB.t (i := 8) (bs 16 511) rfl (SP.nil S486.sl) rfl (fun w' hw' => (E.nilCheck rfl)) ?_
         refine FB.t (i := 9) (bs 16 1023) rfl (SP.nil S486.sl) rfl (fun w' hw' => (E.fieldAddr tf109_3 rfl)) ?_
         refine FB.t (i := 10) (bs 16 2047) rfl (SP.nil S486.sl) rfl (fun w' hw' => (E.load rfl (run_load1 Tryz.isAgg9 (at498.now hw') rfl))) ?_
         refine FB.all1 (i := 11) (by kernel_rfl) ?_
         ·
          obtain ⟨v503, w504, run505, S506⟩ := S486.buildSlice (P := Tryz.prog) te22 [Value.string y487.text, Value.string y495.text] (parts := #[(0, Value.string y487.text), (1, Value.string y495.text)]) (cells := [Value.string y487.text, Value.string y495.text]) rfl (szs_cons rfl (szs_cons rfl szs_nil)) (fc_cons rfl (fc_cons rfl fc_nil)) (ones_cons rfl (ones_cons rfl ones_nil)) (Nat.le_of_ble_eq_true rfl)
          have els507 : Els (up wa.heap.size H71) eS 1 [Value.string y487.text, Value.string y495.text] [y487.text, y495.text] := (Els.snoc (H := (up wa.heap.size H71)) (E := eS) (k := 1) (c := [Value.string y495.text]) (x := y495.text) (Els.snoc (H := (up wa.heap.size H71)) (E := eS) (k := 1) (c := [Value.string y487.text]) (x := y487.text) Els.nil rfl rfl) rfl rfl)
          refine FC.val (l' := (bs 16 4095)) rfl (by kernel_rfl) rfl rfl rfl (E.buildSlice (B2 rfl rfl) run505) ?_
          refine ⟨(SP.nil S506.sl), ?_⟩
          refine FB.all1 (i := 12) (by kernel_rfl) ?_
          ·
           obtain ⟨H508, S509, i510, h511, nv512⟩ := S506.sealRowU (i := 2) (l' := [.row 9 1 v503 2 [Value.string y487.text, Value.string y495.text], .row 9 1 v62 n63 cs64]) rfl els70 (by decide) rfl
           obtain ⟨H513, S514, i515, h516, nv517⟩ := S509.sealRowU (i := 0) (l' := [.row 9 1 v62 n63 cs64]) rfl (els507.mono (up_mono i510)) (by decide) rfl
           refine FC.call (l' := (bs 16 8191)) rfl (by kernel_rfl) rfl rfl rfl (E.call Tryz.call68 (A2 rfl rfl)) (w_impl_with S514.sl v66 r50 (h511.mono (upI.tr i515)) v503 [y487.text, y495.text] (h516.mono upI) hr519) ?_
           rintro e w521 ⟨H520, v526, n527, cs528, rfl, r523, els529⟩
           refine ⟨_, rfl, ?_⟩
           obtain ⟨H524, r523, hU525⟩ := St.lendX (i510.tr i515) S506.sl r523
           have els529 := els529.mono (hU525.tr (up_le S506.size))
           have S522 := S506.join (l' := [.row 9 1 v526 n527 cs528, .row 9 1 v503 2 [Value.string y487.text, Value.string y495.text], .row 9 1 v62 n63 cs64, .row 9 1 v66 n67 cs69]) r523 rfl
           refine ⟨(SP.nil (Sl.of_inc r523.run.inc S522.sl)), ?_⟩
           obtain ⟨H530, S531, i532, h533, nv534⟩ := S522.sealRowU (i := 0) (l' := [.row 9 1 v503 2 [Value.string y487.text, Value.string y495.text], .row 9 1 v62 n63 cs64, .row 9 1 v66 n67 cs69]) rfl els529 (by decide) rfl
           refine FB.t (i := 13) (bs 16 16383) rfl (SP.nil (Sl.of_inc r523.run.inc S522.sl)) rfl (fun w' hw' => (E.build (B2 rfl rfl) (run_build _ 68 #[(0, v0_0), (1, v526)] #[v0_0, v526] (by obtain ⟨_, _, rfl⟩ := RSl.ln (p0_0.mono (((i27.tr i73).tr r523.run.inc).tr i532)); obtain ⟨_, _, rfl⟩ := RSl.ln (h533.mono upI); rfl)))) ?_
           refine FB.all1 (i := 14) (by kernel_rfl) ?_
           ·
            obtain ⟨v535, w536, run537, S538⟩ := S531.buildSlice (P := Tryz.prog) te172 [Value.agg #[v0_0, v526]] (parts := #[(0, Value.agg #[v0_0, v526])]) (cells := [v0_0, v526]) rfl (szs_cons rfl szs_nil) (fc_cons rfl fc_nil) (ones_cons p0_0.one (ones_cons h533.one ones_nil)) (Nat.le_of_ble_eq_true rfl)
            have els539 : Els H530 eSequent 2 [v0_0, v526] [(Sequent.mk a0.left r518)] := (Els.snoc (H := H530) (E := eSequent) (k := 2) (c := [v0_0, v526]) (x := (Sequent.mk a0.left r518)) Els.nil rfl ⟨_, _, rfl, (p0_0.mono (((i27.tr i73).tr r523.run.inc).tr i532)), (h533.mono upI)⟩)
            refine FC.val (l' := (bs 16 32767)) rfl (by kernel_rfl) rfl rfl rfl (E.buildSlice (B1 rfl) run537) ?_
            refine ⟨(SP.nil (Sl.of_inc (r523.run.inc.tr i532) S538.sl)), ?_⟩
            refine FB.t (i := 15) (bs 16 65535) rfl (SP.nil (Sl.of_inc (r523.run.inc.tr i532) S538.sl)) rfl (fun w' hw' => (E.assign (v := v535) rfl)) ?_
            exact FB.done (by kernel_rfl) ⟨_, _, _, _, (S538.sel [0] (by decide) rfl), (r523.run.inc.tr i532), els539, rfl⟩
        ·
         rintro f548 w547 ⟨H544, v540, n541, cs542, S545, i546, els543, k549⟩
         refine FW.ret ?_
         obtain rfl := Option.some.inj hp
         exact ⟨.inr rfl, res1 rfl k549 ⟨_, _, _, _, rfl, S545, els543⟩⟩
       ·
        refine FW.condF rfl c483 ?_
        refine FW.seq (FW.region ?_)
        refine FL.v (E.eql rfl rfl) ?_
        refine FL.v (E.assign (v := Value.bool (a1 == 8)) rfl) ?_
        refine FL.nil ?_
        rcases ifB hp with ⟨c550, hp⟩ | ⟨c550, hp⟩
        ·
         refine FW.condT rfl c550 ?_
         refine FW.seq ?_
         obtain ⟨y554, hy555, hp⟩ := bnd hp
         obtain ⟨r572, hr573, hp⟩ := bnd hp
         obtain ⟨y594, hy595, hp⟩ := bnd hp
         obtain ⟨r612, hr613, hp⟩ := bnd hp
         refine FW.drawB (Sl H71) (fun f w => ∃ H : GH, ∃ v634 : Value, ∃ n635 : Nat, ∃ cs636 : List Value, St Ha wa H w [.row 68 2 v634 n635 cs636] ∧ Inc H71 H ∧ Els H eSequent 2 cs636 [(Sequent.mk r40 r572), (Sequent.mk r612 a0.right)] ∧ f 6 = v634) (by kernel_rfl) S90.sl ?_ ?_
         ·
          intro w551 r552
          have S553 := S90.call r552
          refine FB.t (i := 0) (bs 22 1) rfl (SP.nil S553.sl) rfl (fun w' hw' => (E.move k79)) ?_
          refine FB.t (i := 1) (bs 22 3) rfl (SP.nil S553.sl) rfl (fun w' hw' => (E.fieldAddr tf68_1 k78)) ?_
          refine FB.t (i := 2) (bs 22 7) rfl (SP.nil S553.sl) rfl (fun w' hw' => (E.load rfl (run_load1 Tryz.isAgg22 ((at28.mono i73).now hw') rfl))) ?_
          refine FB.t (i := 3) (bs 22 15) rfl (SP.nil S553.sl) rfl (fun w' hw' => (E.move (v := v85) rfl)) ?_
          obtain ⟨q556, v558, v559, rfl, at557, h560, h561⟩ := FAt.open h87 hy555
          refine FB.t (i := 4) (bs 22 31) rfl (SP.nil S553.sl) rfl (fun w' hw' => (E.nilCheck rfl)) ?_
          refine FB.t (i := 5) (bs 22 63) rfl (SP.nil S553.sl) rfl (fun w' hw' => (E.fieldAddr tf109_3 rfl)) ?_
          refine FB.t (i := 6) (bs 22 127) rfl (SP.nil S553.sl) rfl (fun w' hw' => (E.load rfl (run_load1 Tryz.isAgg9 (at557.now hw') rfl))) ?_
          refine FB.t (i := 10) (bs 22 1151) rfl (SP.nil S553.sl) rfl (fun w' hw' => (E.move k79)) ?_
          refine FB.t (i := 11) (bs 22 3199) rfl (SP.nil S553.sl) rfl (fun w' hw' => (E.move (v := v86) rfl)) ?_
          obtain ⟨q596, v598, v599, rfl, at597, h600, h601⟩ := FAt.open h88 hy595
          refine FB.t (i := 12) (bs 22 7295) rfl (SP.nil S553.sl) rfl (fun w' hw' => (E.nilCheck rfl)) ?_
          refine FB.t (i := 13) (bs 22 15487) rfl (SP.nil S553.sl) rfl (fun w' hw' => (E.fieldAddr tf109_3 rfl)) ?_
          refine FB.t (i := 14) (bs 22 31871) rfl (SP.nil S553.sl) rfl (fun w' hw' => (E.load rfl (run_load1 Tryz.isAgg9 (at597.now hw') rfl))) ?_
          refine FB.t (i := 17) (bs 22 162943) rfl (SP.nil S553.sl) rfl (fun w' hw' => (E.fieldAddr tf68_1 k78)) ?_
          refine FB.t (i := 18) (bs 22 425087) rfl (SP.nil S553.sl) rfl (fun w' hw' => (E.load rfl (run_load1 Tryz.isAgg22 ((at28.mono i73).now hw') rfl))) ?_
          refine FB.all2 (i := 7) (j := 15) (by kernel_rfl) ?_ ?_
          ·
           obtain ⟨v562, w563, run564, S565⟩ := S553.buildSlice (P := Tryz.prog) te22 [Value.string y554.text] (parts := #[(0, Value.string y554.text)]) (cells := [Value.string y554.text]) rfl (szs_cons rfl szs_nil) (fc_cons rfl fc_nil) (ones_cons rfl ones_nil) (Nat.le_of_ble_eq_true rfl)
           have els566 : Els (up wa.heap.size H71) eS 1 [Value.string y554.text] [y554.text] := (Els.snoc (H := (up wa.heap.size H71)) (E := eS) (k := 1) (c := [Value.string y554.text]) (x := y554.text) Els.nil rfl rfl)
           refine FC.val (l' := (bs 22 425215)) rfl (by kernel_rfl) rfl rfl rfl (E.buildSlice (B1 rfl) run564) ?_
           refine ⟨(SP.nil S565.sl), ?_⟩
           refine FB.all2 (i := 8) (j := 15) (by kernel_rfl) ?_ ?_
           ·
            obtain ⟨H567, S568, i569, h570, nv571⟩ := S565.sealRowU (i := 0) (l' := [.row 9 1 v62 n63 cs64, .row 9 1 v66 n67 cs69]) rfl els566 (by decide) rfl
            refine FC.call (l' := (bs 22 425471)) rfl (by kernel_rfl) rfl rfl rfl (E.call Tryz.call68 (A2 rfl rfl)) (w_impl_with S568.sl v0_1 a0.right (p0_1.mono ((i27.tr i73).tr i569)) v562 [y554.text] (h570.mono upI) hr573) ?_
            rintro e w575 ⟨H574, v580, n581, cs582, rfl, r577, els583⟩
            refine ⟨_, rfl, ?_⟩
            obtain ⟨H578, r577, hU579⟩ := St.lendX i569 S565.sl r577
            have els583 := els583.mono (hU579.tr (up_le S565.size))
            have S576 := S565.join (l' := [.row 9 1 v580 n581 cs582, .row 9 1 v562 1 [Value.string y554.text], .row 9 1 v62 n63 cs64, .row 9 1 v66 n67 cs69]) r577 rfl
            refine ⟨(SP.nil (Sl.of_inc r577.run.inc S576.sl)), ?_⟩
            obtain ⟨H584, S585, i586, h587, nv588⟩ := S576.sealRowU (i := 2) (l' := [.row 9 1 v580 n581 cs582, .row 9 1 v562 1 [Value.string y554.text], .row 9 1 v66 n67 cs69]) rfl (els65.mono (up_mono r577.run.inc)) (by decide) rfl
            obtain ⟨H589, S590, i591, h592, nv593⟩ := S585.sealRowU (i := 0) (l' := [.row 9 1 v562 1 [Value.string y554.text], .row 9 1 v66 n67 cs69]) rfl (els583.mono (up_mono i586)) (by decide) rfl
            refine FB.t (i := 9) (bs 22 425983) rfl (SP.nil (Sl.of_inc r577.run.inc S576.sl)) rfl (fun w' hw' => (E.build (B2 rfl rfl) (run_build _ 68 #[(0, v62), (1, v580)] #[v62, v580] (by obtain ⟨_, _, rfl⟩ := RSl.ln (h587.mono (upI.tr i591)); obtain ⟨_, _, rfl⟩ := RSl.ln (h592.mono upI); rfl)))) ?_
            refine FB.all1 (i := 15) (by kernel_rfl) ?_
            ·
             obtain ⟨v602, w603, run604, S605⟩ := S590.buildSlice (P := Tryz.prog) te22 [Value.string y594.text] (parts := #[(0, Value.string y594.text)]) (cells := [Value.string y594.text]) rfl (szs_cons rfl szs_nil) (fc_cons rfl fc_nil) (ones_cons rfl ones_nil) (Nat.le_of_ble_eq_true rfl)
             have els606 : Els (up wa.heap.size H589) eS 1 [Value.string y594.text] [y594.text] := (Els.snoc (H := (up wa.heap.size H589)) (E := eS) (k := 1) (c := [Value.string y594.text]) (x := y594.text) Els.nil rfl rfl)
             refine FC.val (l' := (bs 22 458751)) rfl (by kernel_rfl) rfl rfl rfl (E.buildSlice (B1 rfl) run604) ?_
             refine ⟨(SP.nil (Sl.of_inc ((r577.run.inc.tr i586).tr i591) S605.sl)), ?_⟩
             refine FB.all1 (i := 16) (by kernel_rfl) ?_
             ·
              obtain ⟨H607, S608, i609, h610, nv611⟩ := S605.sealRowU (i := 0) (l' := [.row 9 1 v562 1 [Value.string y554.text], .row 9 1 v66 n67 cs69]) rfl els606 (by decide) rfl
              refine FC.call (l' := (bs 22 524287)) rfl (by kernel_rfl) rfl rfl rfl (E.call Tryz.call68 (A2 rfl rfl)) (w_impl_with S608.sl v62 r40 (h587.mono (upI.tr (i591.tr i609))) v602 [y594.text] (h610.mono upI) hr613) ?_
              rintro e w615 ⟨H614, v620, n621, cs622, rfl, r617, els623⟩
              refine ⟨_, rfl, ?_⟩
              obtain ⟨H618, r617, hU619⟩ := St.lendX i609 S605.sl r617
              have els623 := els623.mono (hU619.tr (up_le S605.size))
              have S616 := S605.join (l' := [.row 9 1 v620 n621 cs622, .row 9 1 v602 1 [Value.string y594.text], .row 9 1 v562 1 [Value.string y554.text], .row 9 1 v66 n67 cs69]) r617 rfl
              refine ⟨(SP.nil (Sl.of_inc (((r577.run.inc.tr i586).tr i591).tr r617.run.inc) S616.sl)), ?_⟩
              obtain ⟨H624, S625, i626, h627, nv628⟩ := S616.sealRowU (i := 0) (l' := [.row 9 1 v602 1 [Value.string y594.text], .row 9 1 v562 1 [Value.string y554.text], .row 9 1 v66 n67 cs69]) rfl els623 (by decide) rfl
              refine FB.t (i := 19) (bs 22 1048575) rfl (SP.nil (Sl.of_inc (((r577.run.inc.tr i586).tr i591).tr r617.run.inc) S616.sl)) rfl (fun w' hw' => (E.build (B2 rfl rfl) (run_build _ 68 #[(0, v620), (1, v0_1)] #[v620, v0_1] (by obtain ⟨_, _, rfl⟩ := RSl.ln (h627.mono upI); obtain ⟨_, _, rfl⟩ := RSl.ln (p0_1.mono ((((((i27.tr i73).tr r577.run.inc).tr i586).tr i591).tr r617.run.inc).tr i626)); rfl)))) ?_
              refine FB.all1 (i := 20) (by kernel_rfl) ?_
              ·
               obtain ⟨v629, w630, run631, S632⟩ := S625.buildSlice (P := Tryz.prog) te172 [Value.agg #[v62, v580], Value.agg #[v620, v0_1]] (parts := #[(0, Value.agg #[v62, v580]), (1, Value.agg #[v620, v0_1])]) (cells := [v62, v580, v620, v0_1]) rfl (szs_cons rfl (szs_cons rfl szs_nil)) (fc_cons rfl (fc_cons rfl fc_nil)) (ones_cons h587.one (ones_cons h592.one (ones_cons h627.one (ones_cons p0_1.one ones_nil)))) (Nat.le_of_ble_eq_true rfl)
               have els633 : Els H624 eSequent 2 [v62, v580, v620, v0_1] [(Sequent.mk r40 r572), (Sequent.mk r612 a0.right)] := (Els.snoc (H := H624) (E := eSequent) (k := 2) (c := [v620, v0_1]) (x := (Sequent.mk r612 a0.right)) (Els.snoc (H := H624) (E := eSequent) (k := 2) (c := [v62, v580]) (x := (Sequent.mk r40 r572)) Els.nil rfl ⟨_, _, rfl, (h587.mono (upI.tr ((i591.tr r617.run.inc).tr i626))), (h592.mono (upI.tr (r617.run.inc.tr i626)))⟩) rfl ⟨_, _, rfl, (h627.mono upI), (p0_1.mono ((((((i27.tr i73).tr r577.run.inc).tr i586).tr i591).tr r617.run.inc).tr i626))⟩)
               refine FC.val (l' := (bs 22 2097151)) rfl (by kernel_rfl) rfl rfl rfl (E.buildSlice (B2 rfl rfl) run631) ?_
               refine ⟨(SP.nil (Sl.of_inc ((((r577.run.inc.tr i586).tr i591).tr r617.run.inc).tr i626) S632.sl)), ?_⟩
               refine FB.t (i := 21) (bs 22 4194303) rfl (SP.nil (Sl.of_inc ((((r577.run.inc.tr i586).tr i591).tr r617.run.inc).tr i626) S632.sl)) rfl (fun w' hw' => (E.assign (v := v629) rfl)) ?_
               exact FB.done (by kernel_rfl) ⟨_, _, _, _, (S632.sel [0] (by decide) rfl), ((((r577.run.inc.tr i586).tr i591).tr r617.run.inc).tr i626), els633, rfl⟩
           ·
            obtain ⟨v602, w603, run604, S605⟩ := S565.buildSlice (P := Tryz.prog) te22 [Value.string y594.text] (parts := #[(0, Value.string y594.text)]) (cells := [Value.string y594.text]) rfl (szs_cons rfl szs_nil) (fc_cons rfl fc_nil) (ones_cons rfl ones_nil) (Nat.le_of_ble_eq_true rfl)
            have els606 : Els (up wa.heap.size H71) eS 1 [Value.string y594.text] [y594.text] := (Els.snoc (H := (up wa.heap.size H71)) (E := eS) (k := 1) (c := [Value.string y594.text]) (x := y594.text) Els.nil rfl rfl)
            refine FC.val (l' := (bs 22 457983)) rfl (by kernel_rfl) rfl rfl rfl (E.buildSlice (B1 rfl) run604) ?_
            refine ⟨(SP.nil S605.sl), ?_⟩
            refine FB.all1 (i := 8) (by kernel_rfl) ?_
            ·
             obtain ⟨H567, S568, i569, h570, nv571⟩ := S605.sealRowU (i := 1) (l' := [.row 9 1 v602 1 [Value.string y594.text], .row 9 1 v62 n63 cs64, .row 9 1 v66 n67 cs69]) rfl els566 (by decide) rfl
             refine FC.call (l' := (bs 22 458239)) rfl (by kernel_rfl) rfl rfl rfl (E.call Tryz.call68 (A2 rfl rfl)) (w_impl_with S568.sl v0_1 a0.right (p0_1.mono ((i27.tr i73).tr i569)) v562 [y554.text] (h570.mono upI) hr573) ?_
             rintro e w575 ⟨H574, v580, n581, cs582, rfl, r577, els583⟩
             refine ⟨_, rfl, ?_⟩
             obtain ⟨H578, r577, hU579⟩ := St.lendX i569 S605.sl r577
             have els583 := els583.mono (hU579.tr (up_le S605.size))
             have S576 := S605.join (l' := [.row 9 1 v580 n581 cs582, .row 9 1 v602 1 [Value.string y594.text], .row 9 1 v562 1 [Value.string y554.text], .row 9 1 v62 n63 cs64, .row 9 1 v66 n67 cs69]) r577 rfl
             refine ⟨(SP.nil (Sl.of_inc r577.run.inc S576.sl)), ?_⟩
             obtain ⟨H584, S585, i586, h587, nv588⟩ := S576.sealRowU (i := 3) (l' := [.row 9 1 v580 n581 cs582, .row 9 1 v602 1 [Value.string y594.text], .row 9 1 v562 1 [Value.string y554.text], .row 9 1 v66 n67 cs69]) rfl (els65.mono (up_mono r577.run.inc)) (by decide) rfl
             obtain ⟨H589, S590, i591, h592, nv593⟩ := S585.sealRowU (i := 0) (l' := [.row 9 1 v602 1 [Value.string y594.text], .row 9 1 v562 1 [Value.string y554.text], .row 9 1 v66 n67 cs69]) rfl (els583.mono (up_mono i586)) (by decide) rfl
             refine FB.t (i := 9) (bs 22 458751) rfl (SP.nil (Sl.of_inc r577.run.inc S576.sl)) rfl (fun w' hw' => (E.build (B2 rfl rfl) (run_build _ 68 #[(0, v62), (1, v580)] #[v62, v580] (by obtain ⟨_, _, rfl⟩ := RSl.ln (h587.mono (upI.tr i591)); obtain ⟨_, _, rfl⟩ := RSl.ln (h592.mono upI); rfl)))) ?_
             refine FB.all1 (i := 16) (by kernel_rfl) ?_
             ·
              obtain ⟨H607, S608, i609, h610, nv611⟩ := S590.sealRowU (i := 0) (l' := [.row 9 1 v562 1 [Value.string y554.text], .row 9 1 v66 n67 cs69]) rfl (els606.mono (up_mono ((r577.run.inc.tr i586).tr i591))) (by decide) rfl
              refine FC.call (l' := (bs 22 524287)) rfl (by kernel_rfl) rfl rfl rfl (E.call Tryz.call68 (A2 rfl rfl)) (w_impl_with S608.sl v62 r40 (h587.mono (upI.tr (i591.tr i609))) v602 [y594.text] (h610.mono upI) hr613) ?_
              rintro e w615 ⟨H614, v620, n621, cs622, rfl, r617, els623⟩
              refine ⟨_, rfl, ?_⟩
              obtain ⟨H618, r617, hU619⟩ := St.lendX i609 S590.sl r617
              have els623 := els623.mono (hU619.tr (up_le S590.size))
              have S616 := S590.join (l' := [.row 9 1 v620 n621 cs622, .row 9 1 v602 1 [Value.string y594.text], .row 9 1 v562 1 [Value.string y554.text], .row 9 1 v66 n67 cs69]) r617 rfl
              refine ⟨(SP.nil (Sl.of_inc (((r577.run.inc.tr i586).tr i591).tr r617.run.inc) S616.sl)), ?_⟩
              obtain ⟨H624, S625, i626, h627, nv628⟩ := S616.sealRowU (i := 0) (l' := [.row 9 1 v602 1 [Value.string y594.text], .row 9 1 v562 1 [Value.string y554.text], .row 9 1 v66 n67 cs69]) rfl els623 (by decide) rfl
              refine FB.t (i := 19) (bs 22 1048575) rfl (SP.nil (Sl.of_inc (((r577.run.inc.tr i586).tr i591).tr r617.run.inc) S616.sl)) rfl (fun w' hw' => (E.build (B2 rfl rfl) (run_build _ 68 #[(0, v620), (1, v0_1)] #[v620, v0_1] (by obtain ⟨_, _, rfl⟩ := RSl.ln (h627.mono upI); obtain ⟨_, _, rfl⟩ := RSl.ln (p0_1.mono ((((((i27.tr i73).tr r577.run.inc).tr i586).tr i591).tr r617.run.inc).tr i626)); rfl)))) ?_
              refine FB.all1 (i := 20) (by kernel_rfl) ?_
              ·
               obtain ⟨v629, w630, run631, S632⟩ := S625.buildSlice (P := Tryz.prog) te172 [Value.agg #[v62, v580], Value.agg #[v620, v0_1]] (parts := #[(0, Value.agg #[v62, v580]), (1, Value.agg #[v620, v0_1])]) (cells := [v62, v580, v620, v0_1]) rfl (szs_cons rfl (szs_cons rfl szs_nil)) (fc_cons rfl (fc_cons rfl fc_nil)) (ones_cons h587.one (ones_cons h592.one (ones_cons h627.one (ones_cons p0_1.one ones_nil)))) (Nat.le_of_ble_eq_true rfl)
               have els633 : Els H624 eSequent 2 [v62, v580, v620, v0_1] [(Sequent.mk r40 r572), (Sequent.mk r612 a0.right)] := (Els.snoc (H := H624) (E := eSequent) (k := 2) (c := [v620, v0_1]) (x := (Sequent.mk r612 a0.right)) (Els.snoc (H := H624) (E := eSequent) (k := 2) (c := [v62, v580]) (x := (Sequent.mk r40 r572)) Els.nil rfl ⟨_, _, rfl, (h587.mono (upI.tr ((i591.tr r617.run.inc).tr i626))), (h592.mono (upI.tr (r617.run.inc.tr i626)))⟩) rfl ⟨_, _, rfl, (h627.mono upI), (p0_1.mono ((((((i27.tr i73).tr r577.run.inc).tr i586).tr i591).tr r617.run.inc).tr i626))⟩)
               refine FC.val (l' := (bs 22 2097151)) rfl (by kernel_rfl) rfl rfl rfl (E.buildSlice (B2 rfl rfl) run631) ?_
               refine ⟨(SP.nil (Sl.of_inc ((((r577.run.inc.tr i586).tr i591).tr r617.run.inc).tr i626) S632.sl)), ?_⟩
               refine FB.t (i := 21) (bs 22 4194303) rfl (SP.nil (Sl.of_inc ((((r577.run.inc.tr i586).tr i591).tr r617.run.inc).tr i626) S632.sl)) rfl (fun w' hw' => (E.assign (v := v629) rfl)) ?_
               exact FB.done (by kernel_rfl) ⟨_, _, _, _, (S632.sel [0] (by decide) rfl), ((((r577.run.inc.tr i586).tr i591).tr r617.run.inc).tr i626), els633, rfl⟩
          ·
           obtain ⟨v602, w603, run604, S605⟩ := S553.buildSlice (P := Tryz.prog) te22 [Value.string y594.text] (parts := #[(0, Value.string y594.text)]) (cells := [Value.string y594.text]) rfl (szs_cons rfl szs_nil) (fc_cons rfl fc_nil) (ones_cons rfl ones_nil) (Nat.le_of_ble_eq_true rfl)
           have els606 : Els (up wa.heap.size H71) eS 1 [Value.string y594.text] [y594.text] := (Els.snoc (H := (up wa.heap.size H71)) (E := eS) (k := 1) (c := [Value.string y594.text]) (x := y594.text) Els.nil rfl rfl)
           refine FC.val (l' := (bs 22 457855)) rfl (by kernel_rfl) rfl rfl rfl (E.buildSlice (B1 rfl) run604) ?_
           refine ⟨(SP.nil S605.sl), ?_⟩
           refine FB.all1 (i := 7) (by kernel_rfl) ?_
           ·
            obtain ⟨v562, w563, run564, S565⟩ := S605.buildSlice (P := Tryz.prog) te22 [Value.string y554.text] (parts := #[(0, Value.string y554.text)]) (cells := [Value.string y554.text]) rfl (szs_cons rfl szs_nil) (fc_cons rfl fc_nil) (ones_cons rfl ones_nil) (Nat.le_of_ble_eq_true rfl)
            have els566 : Els (up wa.heap.size H71) eS 1 [Value.string y554.text] [y554.text] := (Els.snoc (H := (up wa.heap.size H71)) (E := eS) (k := 1) (c := [Value.string y554.text]) (x := y554.text) Els.nil rfl rfl)
            refine FC.val (l' := (bs 22 457983)) rfl (by kernel_rfl) rfl rfl rfl (E.buildSlice (B1 rfl) run564) ?_
            refine ⟨(SP.nil S565.sl), ?_⟩
            refine FB.all1 (i := 8) (by kernel_rfl) ?_
            ·
             obtain ⟨H567, S568, i569, h570, nv571⟩ := S565.sealRowU (i := 0) (l' := [.row 9 1 v602 1 [Value.string y594.text], .row 9 1 v62 n63 cs64, .row 9 1 v66 n67 cs69]) rfl els566 (by decide) rfl
             refine FC.call (l' := (bs 22 458239)) rfl (by kernel_rfl) rfl rfl rfl (E.call Tryz.call68 (A2 rfl rfl)) (w_impl_with S568.sl v0_1 a0.right (p0_1.mono ((i27.tr i73).tr i569)) v562 [y554.text] (h570.mono upI) hr573) ?_
             rintro e w575 ⟨H574, v580, n581, cs582, rfl, r577, els583⟩
             refine ⟨_, rfl, ?_⟩
             obtain ⟨H578, r577, hU579⟩ := St.lendX i569 S565.sl r577
             have els583 := els583.mono (hU579.tr (up_le S565.size))
             have S576 := S565.join (l' := [.row 9 1 v580 n581 cs582, .row 9 1 v562 1 [Value.string y554.text], .row 9 1 v602 1 [Value.string y594.text], .row 9 1 v62 n63 cs64, .row 9 1 v66 n67 cs69]) r577 rfl
             refine ⟨(SP.nil (Sl.of_inc r577.run.inc S576.sl)), ?_⟩
             obtain ⟨H584, S585, i586, h587, nv588⟩ := S576.sealRowU (i := 3) (l' := [.row 9 1 v580 n581 cs582, .row 9 1 v562 1 [Value.string y554.text], .row 9 1 v602 1 [Value.string y594.text], .row 9 1 v66 n67 cs69]) rfl (els65.mono (up_mono r577.run.inc)) (by decide) rfl
             obtain ⟨H589, S590, i591, h592, nv593⟩ := S585.sealRowU (i := 0) (l' := [.row 9 1 v562 1 [Value.string y554.text], .row 9 1 v602 1 [Value.string y594.text], .row 9 1 v66 n67 cs69]) rfl (els583.mono (up_mono i586)) (by decide) rfl
             refine FB.t (i := 9) (bs 22 458751) rfl (SP.nil (Sl.of_inc r577.run.inc S576.sl)) rfl (fun w' hw' => (E.build (B2 rfl rfl) (run_build _ 68 #[(0, v62), (1, v580)] #[v62, v580] (by obtain ⟨_, _, rfl⟩ := RSl.ln (h587.mono (upI.tr i591)); obtain ⟨_, _, rfl⟩ := RSl.ln (h592.mono upI); rfl)))) ?_
             refine FB.all1 (i := 16) (by kernel_rfl) ?_
             ·
              obtain ⟨H607, S608, i609, h610, nv611⟩ := S590.sealRowU (i := 1) (l' := [.row 9 1 v562 1 [Value.string y554.text], .row 9 1 v66 n67 cs69]) rfl (els606.mono (up_mono ((r577.run.inc.tr i586).tr i591))) (by decide) rfl
              refine FC.call (l' := (bs 22 524287)) rfl (by kernel_rfl) rfl rfl rfl (E.call Tryz.call68 (A2 rfl rfl)) (w_impl_with S608.sl v62 r40 (h587.mono (upI.tr (i591.tr i609))) v602 [y594.text] (h610.mono upI) hr613) ?_
              rintro e w615 ⟨H614, v620, n621, cs622, rfl, r617, els623⟩
              refine ⟨_, rfl, ?_⟩
              obtain ⟨H618, r617, hU619⟩ := St.lendX i609 S590.sl r617
              have els623 := els623.mono (hU619.tr (up_le S590.size))
              have S616 := S590.join (l' := [.row 9 1 v620 n621 cs622, .row 9 1 v562 1 [Value.string y554.text], .row 9 1 v602 1 [Value.string y594.text], .row 9 1 v66 n67 cs69]) r617 rfl
              refine ⟨(SP.nil (Sl.of_inc (((r577.run.inc.tr i586).tr i591).tr r617.run.inc) S616.sl)), ?_⟩
              obtain ⟨H624, S625, i626, h627, nv628⟩ := S616.sealRowU (i := 0) (l' := [.row 9 1 v562 1 [Value.string y554.text], .row 9 1 v602 1 [Value.string y594.text], .row 9 1 v66 n67 cs69]) rfl els623 (by decide) rfl
              refine FB.t (i := 19) (bs 22 1048575) rfl (SP.nil (Sl.of_inc (((r577.run.inc.tr i586).tr i591).tr r617.run.inc) S616.sl)) rfl (fun w' hw' => (E.build (B2 rfl rfl) (run_build _ 68 #[(0, v620), (1, v0_1)] #[v620, v0_1] (by obtain ⟨_, _, rfl⟩ := RSl.ln (h627.mono upI); obtain ⟨_, _, rfl⟩ := RSl.ln (p0_1.mono ((((((i27.tr i73).tr r577.run.inc).tr i586).tr i591).tr r617.run.inc).tr i626)); rfl)))) ?_
              refine FB.all1 (i := 20) (by kernel_rfl) ?_
              ·
               obtain ⟨v629, w630, run631, S632⟩ := S625.buildSlice (P := Tryz.prog) te172 [Value.agg #[v62, v580], Value.agg #[v620, v0_1]] (parts := #[(0, Value.agg #[v62, v580]), (1, Value.agg #[v620, v0_1])]) (cells := [v62, v580, v620, v0_1]) rfl (szs_cons rfl (szs_cons rfl szs_nil)) (fc_cons rfl (fc_cons rfl fc_nil)) (ones_cons h587.one (ones_cons h592.one (ones_cons h627.one (ones_cons p0_1.one ones_nil)))) (Nat.le_of_ble_eq_true rfl)
               have els633 : Els H624 eSequent 2 [v62, v580, v620, v0_1] [(Sequent.mk r40 r572), (Sequent.mk r612 a0.right)] := (Els.snoc (H := H624) (E := eSequent) (k := 2) (c := [v620, v0_1]) (x := (Sequent.mk r612 a0.right)) (Els.snoc (H := H624) (E := eSequent) (k := 2) (c := [v62, v580]) (x := (Sequent.mk r40 r572)) Els.nil rfl ⟨_, _, rfl, (h587.mono (upI.tr ((i591.tr r617.run.inc).tr i626))), (h592.mono (upI.tr (r617.run.inc.tr i626)))⟩) rfl ⟨_, _, rfl, (h627.mono upI), (p0_1.mono ((((((i27.tr i73).tr r577.run.inc).tr i586).tr i591).tr r617.run.inc).tr i626))⟩)
               refine FC.val (l' := (bs 22 2097151)) rfl (by kernel_rfl) rfl rfl rfl (E.buildSlice (B2 rfl rfl) run631) ?_
               refine ⟨(SP.nil (Sl.of_inc ((((r577.run.inc.tr i586).tr i591).tr r617.run.inc).tr i626) S632.sl)), ?_⟩
               refine FB.t (i := 21) (bs 22 4194303) rfl (SP.nil (Sl.of_inc ((((r577.run.inc.tr i586).tr i591).tr r617.run.inc).tr i626) S632.sl)) rfl (fun w' hw' => (E.assign (v := v629) rfl)) ?_
               exact FB.done (by kernel_rfl) ⟨_, _, _, _, (S632.sel [0] (by decide) rfl), ((((r577.run.inc.tr i586).tr i591).tr r617.run.inc).tr i626), els633, rfl⟩
         ·
          rintro f642 w641 ⟨H638, v634, n635, cs636, S639, i640, els637, k643⟩
          refine FW.ret ?_
          obtain rfl := Option.some.inj hp
          exact ⟨.inr rfl, res1 rfl k643 ⟨_, _, _, _, rfl, S639, els637⟩⟩
        ·
         refine FW.condF rfl c550 ?_
         refine FW.skip (FW.seq ?_)
         obtain ⟨y647, hy648, hp⟩ := bnd hp
         obtain ⟨r665, hr666, hp⟩ := bnd hp
         obtain ⟨y677, hy678, hp⟩ := bnd hp
         obtain ⟨r700, hr701, hp⟩ := bnd hp
         refine FW.drawB (Sl H71) (fun f w => ∃ H : GH, ∃ v729 : Value, ∃ n730 : Nat, ∃ cs731 : List Value, St Ha wa H w [.row 68 2 v729 n730 cs731] ∧ Inc H71 H ∧ Els (up wa.heap.size H) eSequent 2 cs731 [(Sequent.mk r665 r700)] ∧ (bl cs731).Nodup ∧ f 6 = v729) (by kernel_rfl) S90.sl ?_ ?_
         ·
          intro w644 r645
          have S646 := S90.call r645
          refine FB.t (i := 0) (bs 18 1) rfl (SP.nil S646.sl) rfl (fun w' hw' => (E.fieldAddr tf68_0 k78)) ?_
          refine FB.t (i := 1) (bs 18 3) rfl (SP.nil S646.sl) rfl (fun w' hw' => (E.load rfl (run_load1 Tryz.isAgg22 ((at28.mono i73).now hw') rfl))) ?_
          refine FB.t (i := 2) (bs 18 7) rfl (SP.nil S646.sl) rfl (fun w' hw' => (E.move (v := v85) rfl)) ?_
          obtain ⟨q649, v651, v652, rfl, at650, h653, h654⟩ := FAt.open h87 hy648
          refine FB.t (i := 3) (bs 18 15) rfl (SP.nil S646.sl) rfl (fun w' hw' => (E.nilCheck rfl)) ?_
          refine FB.t (i := 4) (bs 18 31) rfl (SP.nil S646.sl) rfl (fun w' hw' => (E.fieldAddr tf109_3 rfl)) ?_
          refine FB.t (i := 5) (bs 18 63) rfl (SP.nil S646.sl) rfl (fun w' hw' => (E.load rfl (run_load1 Tryz.isAgg9 (at650.now hw') rfl))) ?_
          refine FB.t (i := 8) (bs 18 319) rfl (SP.nil S646.sl) rfl (fun w' hw' => (E.move k80)) ?_
          refine FB.t (i := 9) (bs 18 831) rfl (SP.nil S646.sl) rfl (fun w' hw' => (E.move (v := v86) rfl)) ?_
          obtain ⟨q679, v681, v682, rfl, at680, h683, h684⟩ := FAt.open h88 hy678
          refine FB.t (i := 10) (bs 18 1855) rfl (SP.nil S646.sl) rfl (fun w' hw' => (E.nilCheck rfl)) ?_
          refine FB.t (i := 11) (bs 18 3903) rfl (SP.nil S646.sl) rfl (fun w' hw' => (E.fieldAddr tf109_3 rfl)) ?_
          refine FB.t (i := 12) (bs 18 7999) rfl (SP.nil S646.sl) rfl (fun w' hw' => (E.load rfl (run_load1 Tryz.isAgg9 (at680.now hw') rfl))) ?_
          refine FB.all2 (i := 6) (j := 13) (by kernel_rfl) ?_ ?_
          ·
           obtain ⟨v655, w656, run657, S658⟩ := S646.buildSlice (P := Tryz.prog) te22 [Value.string y647.text] (parts := #[(0, Value.string y647.text)]) (cells := [Value.string y647.text]) rfl (szs_cons rfl szs_nil) (fc_cons rfl fc_nil) (ones_cons rfl ones_nil) (Nat.le_of_ble_eq_true rfl)
           have els659 : Els (up wa.heap.size H71) eS 1 [Value.string y647.text] [y647.text] := (Els.snoc (H := (up wa.heap.size H71)) (E := eS) (k := 1) (c := [Value.string y647.text]) (x := y647.text) Els.nil rfl rfl)
           refine FC.val (l' := (bs 18 8063)) rfl (by kernel_rfl) rfl rfl rfl (E.buildSlice (B1 rfl) run657) ?_
           refine ⟨(SP.nil S658.sl), ?_⟩
           refine FB.all2 (i := 7) (j := 13) (by kernel_rfl) ?_ ?_
           ·
            obtain ⟨H660, S661, i662, h663, nv664⟩ := S658.sealRowU (i := 0) (l' := [.row 9 1 v62 n63 cs64, .row 9 1 v66 n67 cs69]) rfl els659 (by decide) rfl
            refine FC.call (l' := (bs 18 8191)) rfl (by kernel_rfl) rfl rfl rfl (E.call Tryz.call68 (A2 rfl rfl)) (w_impl_with S661.sl v0_0 a0.left (p0_0.mono ((i27.tr i73).tr i662)) v655 [y647.text] (h663.mono upI) hr666) ?_
            rintro e w668 ⟨H667, v673, n674, cs675, rfl, r670, els676⟩
            refine ⟨_, rfl, ?_⟩
            obtain ⟨H671, r670, hU672⟩ := St.lendX i662 S658.sl r670
            have els676 := els676.mono (hU672.tr (up_le S658.size))
            have S669 := S658.join (l' := [.row 9 1 v673 n674 cs675, .row 9 1 v655 1 [Value.string y647.text], .row 9 1 v62 n63 cs64, .row 9 1 v66 n67 cs69]) r670 rfl
            refine ⟨(SP.nil (Sl.of_inc r670.run.inc S669.sl)), ?_⟩
            refine FB.all1 (i := 13) (by kernel_rfl) ?_
            ·
             obtain ⟨v685, w686, run687, S688⟩ := S669.buildSlice (P := Tryz.prog) te22 [Value.string y677.text] (parts := #[(0, Value.string y677.text)]) (cells := [Value.string y677.text]) rfl (szs_cons rfl szs_nil) (fc_cons rfl fc_nil) (ones_cons rfl ones_nil) (Nat.le_of_ble_eq_true rfl)
             have els689 : Els (up wa.heap.size H671) eS 1 [Value.string y677.text] [y677.text] := (Els.snoc (H := (up wa.heap.size H671)) (E := eS) (k := 1) (c := [Value.string y677.text]) (x := y677.text) Els.nil rfl rfl)
             refine FC.val (l' := (bs 18 16383)) rfl (by kernel_rfl) rfl rfl rfl (E.buildSlice (B1 rfl) run687) ?_
             refine ⟨(SP.nil (Sl.of_inc r670.run.inc S688.sl)), ?_⟩
             refine FB.all1 (i := 14) (by kernel_rfl) ?_
             ·
              obtain ⟨H690, S691, i692, h693, nv694⟩ := S688.sealRowU (i := 4) (l' := [.row 9 1 v685 1 [Value.string y677.text], .row 9 1 v673 n674 cs675, .row 9 1 v655 1 [Value.string y647.text], .row 9 1 v62 n63 cs64]) rfl (els70.mono (up_mono r670.run.inc)) (by decide) rfl
              obtain ⟨H695, S696, i697, h698, nv699⟩ := S691.sealRowU (i := 0) (l' := [.row 9 1 v673 n674 cs675, .row 9 1 v655 1 [Value.string y647.text], .row 9 1 v62 n63 cs64]) rfl (els689.mono (up_mono i692)) (by decide) rfl
              refine FC.call (l' := (bs 18 32767)) rfl (by kernel_rfl) rfl rfl rfl (E.call Tryz.call68 (A2 rfl rfl)) (w_impl_with S696.sl v66 r50 (h693.mono (upI.tr i697)) v685 [y677.text] (h698.mono upI) hr701) ?_
              rintro e w703 ⟨H702, v708, n709, cs710, rfl, r705, els711⟩
              refine ⟨_, rfl, ?_⟩
              obtain ⟨H706, r705, hU707⟩ := St.lendX (i692.tr i697) S688.sl r705
              have els711 := els711.mono (hU707.tr (up_le S688.size))
              have S704 := S688.join (l' := [.row 9 1 v708 n709 cs710, .row 9 1 v685 1 [Value.string y677.text], .row 9 1 v673 n674 cs675, .row 9 1 v655 1 [Value.string y647.text], .row 9 1 v62 n63 cs64, .row 9 1 v66 n67 cs69]) r705 rfl
              refine ⟨(SP.nil (Sl.of_inc (r670.run.inc.tr r705.run.inc) S704.sl)), ?_⟩
              obtain ⟨H712, S713, i714, h715, nv716⟩ := S704.sealRowU (i := 2) (l' := [.row 9 1 v708 n709 cs710, .row 9 1 v685 1 [Value.string y677.text], .row 9 1 v655 1 [Value.string y647.text], .row 9 1 v62 n63 cs64, .row 9 1 v66 n67 cs69]) rfl (els676.mono (up_mono r705.run.inc)) (by decide) rfl
              obtain ⟨H717, S718, i719, h720, nv721⟩ := S713.sealRowU (i := 0) (l' := [.row 9 1 v685 1 [Value.string y677.text], .row 9 1 v655 1 [Value.string y647.text], .row 9 1 v62 n63 cs64, .row 9 1 v66 n67 cs69]) rfl (els711.mono (up_mono i714)) (by decide) rfl
              refine FB.t (i := 15) (bs 18 65535) rfl (SP.nil (Sl.of_inc (r670.run.inc.tr r705.run.inc) S704.sl)) rfl (fun w' hw' => (E.build (B2 rfl rfl) (run_build _ 68 #[(0, v673), (1, v708)] #[v673, v708] (by obtain ⟨_, _, rfl⟩ := RSl.ln (h715.mono (upI.tr i719)); obtain ⟨_, _, rfl⟩ := RSl.ln (h720.mono upI); rfl)))) ?_
              refine FB.all1 (i := 16) (by kernel_rfl) ?_
              ·
               obtain ⟨v722, w723, run724, S725⟩ := S718.buildSlice (P := Tryz.prog) te172 [Value.agg #[v673, v708]] (parts := #[(0, Value.agg #[v673, v708])]) (cells := [v673, v708]) rfl (szs_cons rfl szs_nil) (fc_cons rfl fc_nil) (ones_cons h715.one (ones_cons h720.one ones_nil)) (Nat.le_of_ble_eq_true rfl)
               have els726 : Els (up wa.heap.size H717) eSequent 2 [v673, v708] [(Sequent.mk r665 r700)] := (Els.snoc (H := (up wa.heap.size H717)) (E := eSequent) (k := 2) (c := [v673, v708]) (x := (Sequent.mk r665 r700)) Els.nil rfl ⟨_, _, rfl, (h715.mono (up_mono i719)), h720⟩)
               have nd727 : (bl [v673, v708]).Nodup := by exact nd_two (New.apart (h715.mono (up_mono (Inc.rfl _))) nv721)
               have nv728 : New H706 [v673, v708] := by exact (New.two nv716 (nv721.anti i714))
               refine FC.val (l' := (bs 18 131071)) rfl (by kernel_rfl) rfl rfl rfl (E.buildSlice (B1 rfl) run724) ?_
               refine ⟨(SP.nil (Sl.of_inc (((r670.run.inc.tr r705.run.inc).tr i714).tr i719) S725.sl)), ?_⟩
               refine FB.t (i := 17) (bs 18 262143) rfl (SP.nil (Sl.of_inc (((r670.run.inc.tr r705.run.inc).tr i714).tr i719) S725.sl)) rfl (fun w' hw' => (E.assign (v := v722) rfl)) ?_
               exact FB.done (by kernel_rfl) ⟨_, _, _, _, (S725.sel [0] (by decide) rfl), (((r670.run.inc.tr r705.run.inc).tr i714).tr i719), els726, nd727, rfl⟩
           ·
            obtain ⟨v685, w686, run687, S688⟩ := S658.buildSlice (P := Tryz.prog) te22 [Value.string y677.text] (parts := #[(0, Value.string y677.text)]) (cells := [Value.string y677.text]) rfl (szs_cons rfl szs_nil) (fc_cons rfl fc_nil) (ones_cons rfl ones_nil) (Nat.le_of_ble_eq_true rfl)
            have els689 : Els (up wa.heap.size H71) eS 1 [Value.string y677.text] [y677.text] := (Els.snoc (H := (up wa.heap.size H71)) (E := eS) (k := 1) (c := [Value.string y677.text]) (x := y677.text) Els.nil rfl rfl)
            refine FC.val (l' := (bs 18 16255)) rfl (by kernel_rfl) rfl rfl rfl (E.buildSlice (B1 rfl) run687) ?_
            refine ⟨(SP.nil S688.sl), ?_⟩
            refine FB.all1 (i := 7) (by kernel_rfl) ?_
            ·
             obtain ⟨H660, S661, i662, h663, nv664⟩ := S688.sealRowU (i := 1) (l' := [.row 9 1 v685 1 [Value.string y677.text], .row 9 1 v62 n63 cs64, .row 9 1 v66 n67 cs69]) rfl els659 (by decide) rfl
             refine FC.call (l' := (bs 18 16383)) rfl (by kernel_rfl) rfl rfl rfl (E.call Tryz.call68 (A2 rfl rfl)) (w_impl_with S661.sl v0_0 a0.left (p0_0.mono ((i27.tr i73).tr i662)) v655 [y647.text] (h663.mono upI) hr666) ?_
             rintro e w668 ⟨H667, v673, n674, cs675, rfl, r670, els676⟩
             refine ⟨_, rfl, ?_⟩
             obtain ⟨H671, r670, hU672⟩ := St.lendX i662 S688.sl r670
             have els676 := els676.mono (hU672.tr (up_le S688.size))
             have S669 := S688.join (l' := [.row 9 1 v673 n674 cs675, .row 9 1 v685 1 [Value.string y677.text], .row 9 1 v655 1 [Value.string y647.text], .row 9 1 v62 n63 cs64, .row 9 1 v66 n67 cs69]) r670 rfl
             refine ⟨(SP.nil (Sl.of_inc r670.run.inc S669.sl)), ?_⟩
             refine FB.all1 (i := 14) (by kernel_rfl) ?_
             ·
              obtain ⟨H690, S691, i692, h693, nv694⟩ := S669.sealRowU (i := 4) (l' := [.row 9 1 v673 n674 cs675, .row 9 1 v685 1 [Value.string y677.text], .row 9 1 v655 1 [Value.string y647.text], .row 9 1 v62 n63 cs64]) rfl (els70.mono (up_mono r670.run.inc)) (by decide) rfl
              obtain ⟨H695, S696, i697, h698, nv699⟩ := S691.sealRowU (i := 1) (l' := [.row 9 1 v673 n674 cs675, .row 9 1 v655 1 [Value.string y647.text], .row 9 1 v62 n63 cs64]) rfl (els689.mono (up_mono (r670.run.inc.tr i692))) (by decide) rfl
              refine FC.call (l' := (bs 18 32767)) rfl (by kernel_rfl) rfl rfl rfl (E.call Tryz.call68 (A2 rfl rfl)) (w_impl_with S696.sl v66 r50 (h693.mono (upI.tr i697)) v685 [y677.text] (h698.mono upI) hr701) ?_
              rintro e w703 ⟨H702, v708, n709, cs710, rfl, r705, els711⟩
              refine ⟨_, rfl, ?_⟩
              obtain ⟨H706, r705, hU707⟩ := St.lendX (i692.tr i697) S669.sl r705
              have els711 := els711.mono (hU707.tr (up_le S669.size))
              have S704 := S669.join (l' := [.row 9 1 v708 n709 cs710, .row 9 1 v673 n674 cs675, .row 9 1 v685 1 [Value.string y677.text], .row 9 1 v655 1 [Value.string y647.text], .row 9 1 v62 n63 cs64, .row 9 1 v66 n67 cs69]) r705 rfl
              refine ⟨(SP.nil (Sl.of_inc (r670.run.inc.tr r705.run.inc) S704.sl)), ?_⟩
              obtain ⟨H712, S713, i714, h715, nv716⟩ := S704.sealRowU (i := 1) (l' := [.row 9 1 v708 n709 cs710, .row 9 1 v685 1 [Value.string y677.text], .row 9 1 v655 1 [Value.string y647.text], .row 9 1 v62 n63 cs64, .row 9 1 v66 n67 cs69]) rfl (els676.mono (up_mono r705.run.inc)) (by decide) rfl
              obtain ⟨H717, S718, i719, h720, nv721⟩ := S713.sealRowU (i := 0) (l' := [.row 9 1 v685 1 [Value.string y677.text], .row 9 1 v655 1 [Value.string y647.text], .row 9 1 v62 n63 cs64, .row 9 1 v66 n67 cs69]) rfl (els711.mono (up_mono i714)) (by decide) rfl
              refine FB.t (i := 15) (bs 18 65535) rfl (SP.nil (Sl.of_inc (r670.run.inc.tr r705.run.inc) S704.sl)) rfl (fun w' hw' => (E.build (B2 rfl rfl) (run_build _ 68 #[(0, v673), (1, v708)] #[v673, v708] (by obtain ⟨_, _, rfl⟩ := RSl.ln (h715.mono (upI.tr i719)); obtain ⟨_, _, rfl⟩ := RSl.ln (h720.mono upI); rfl)))) ?_
              refine FB.all1 (i := 16) (by kernel_rfl) ?_
              ·
               obtain ⟨v722, w723, run724, S725⟩ := S718.buildSlice (P := Tryz.prog) te172 [Value.agg #[v673, v708]] (parts := #[(0, Value.agg #[v673, v708])]) (cells := [v673, v708]) rfl (szs_cons rfl szs_nil) (fc_cons rfl fc_nil) (ones_cons h715.one (ones_cons h720.one ones_nil)) (Nat.le_of_ble_eq_true rfl)
               have els726 : Els (up wa.heap.size H717) eSequent 2 [v673, v708] [(Sequent.mk r665 r700)] := (Els.snoc (H := (up wa.heap.size H717)) (E := eSequent) (k := 2) (c := [v673, v708]) (x := (Sequent.mk r665 r700)) Els.nil rfl ⟨_, _, rfl, (h715.mono (up_mono i719)), h720⟩)
               have nd727 : (bl [v673, v708]).Nodup := by exact nd_two (New.apart (h715.mono (up_mono (Inc.rfl _))) nv721)
               have nv728 : New H706 [v673, v708] := by exact (New.two nv716 (nv721.anti i714))
               refine FC.val (l' := (bs 18 131071)) rfl (by kernel_rfl) rfl rfl rfl (E.buildSlice (B1 rfl) run724) ?_
               refine ⟨(SP.nil (Sl.of_inc (((r670.run.inc.tr r705.run.inc).tr i714).tr i719) S725.sl)), ?_⟩
               refine FB.t (i := 17) (bs 18 262143) rfl (SP.nil (Sl.of_inc (((r670.run.inc.tr r705.run.inc).tr i714).tr i719) S725.sl)) rfl (fun w' hw' => (E.assign (v := v722) rfl)) ?_
               exact FB.done (by kernel_rfl) ⟨_, _, _, _, (S725.sel [0] (by decide) rfl), (((r670.run.inc.tr r705.run.inc).tr i714).tr i719), els726, nd727, rfl⟩
          ·
           obtain ⟨v685, w686, run687, S688⟩ := S646.buildSlice (P := Tryz.prog) te22 [Value.string y677.text] (parts := #[(0, Value.string y677.text)]) (cells := [Value.string y677.text]) rfl (szs_cons rfl szs_nil) (fc_cons rfl fc_nil) (ones_cons rfl ones_nil) (Nat.le_of_ble_eq_true rfl)
           have els689 : Els (up wa.heap.size H71) eS 1 [Value.string y677.text] [y677.text] := (Els.snoc (H := (up wa.heap.size H71)) (E := eS) (k := 1) (c := [Value.string y677.text]) (x := y677.text) Els.nil rfl rfl)
           refine FC.val (l' := (bs 18 16191)) rfl (by kernel_rfl) rfl rfl rfl (E.buildSlice (B1 rfl) run687) ?_
           refine ⟨(SP.nil S688.sl), ?_⟩
           refine FB.all1 (i := 6) (by kernel_rfl) ?_
           ·
            obtain ⟨v655, w656, run657, S658⟩ := S688.buildSlice (P := Tryz.prog) te22 [Value.string y647.text] (parts := #[(0, Value.string y647.text)]) (cells := [Value.string y647.text]) rfl (szs_cons rfl szs_nil) (fc_cons rfl fc_nil) (ones_cons rfl ones_nil) (Nat.le_of_ble_eq_true rfl)
            have els659 : Els (up wa.heap.size H71) eS 1 [Value.string y647.text] [y647.text] := (Els.snoc (H := (up wa.heap.size H71)) (E := eS) (k := 1) (c := [Value.string y647.text]) (x := y647.text) Els.nil rfl rfl)
            refine FC.val (l' := (bs 18 16255)) rfl (by kernel_rfl) rfl rfl rfl (E.buildSlice (B1 rfl) run657) ?_
            refine ⟨(SP.nil S658.sl), ?_⟩
            refine FB.all1 (i := 7) (by kernel_rfl) ?_
            ·
             obtain ⟨H660, S661, i662, h663, nv664⟩ := S658.sealRowU (i := 0) (l' := [.row 9 1 v685 1 [Value.string y677.text], .row 9 1 v62 n63 cs64, .row 9 1 v66 n67 cs69]) rfl els659 (by decide) rfl
             refine FC.call (l' := (bs 18 16383)) rfl (by kernel_rfl) rfl rfl rfl (E.call Tryz.call68 (A2 rfl rfl)) (w_impl_with S661.sl v0_0 a0.left (p0_0.mono ((i27.tr i73).tr i662)) v655 [y647.text] (h663.mono upI) hr666) ?_
             rintro e w668 ⟨H667, v673, n674, cs675, rfl, r670, els676⟩
             refine ⟨_, rfl, ?_⟩
             obtain ⟨H671, r670, hU672⟩ := St.lendX i662 S658.sl r670
             have els676 := els676.mono (hU672.tr (up_le S658.size))
             have S669 := S658.join (l' := [.row 9 1 v673 n674 cs675, .row 9 1 v655 1 [Value.string y647.text], .row 9 1 v685 1 [Value.string y677.text], .row 9 1 v62 n63 cs64, .row 9 1 v66 n67 cs69]) r670 rfl
             refine ⟨(SP.nil (Sl.of_inc r670.run.inc S669.sl)), ?_⟩
             refine FB.all1 (i := 14) (by kernel_rfl) ?_
             ·
              obtain ⟨H690, S691, i692, h693, nv694⟩ := S669.sealRowU (i := 4) (l' := [.row 9 1 v673 n674 cs675, .row 9 1 v655 1 [Value.string y647.text], .row 9 1 v685 1 [Value.string y677.text], .row 9 1 v62 n63 cs64]) rfl (els70.mono (up_mono r670.run.inc)) (by decide) rfl
              obtain ⟨H695, S696, i697, h698, nv699⟩ := S691.sealRowU (i := 2) (l' := [.row 9 1 v673 n674 cs675, .row 9 1 v655 1 [Value.string y647.text], .row 9 1 v62 n63 cs64]) rfl (els689.mono (up_mono (r670.run.inc.tr i692))) (by decide) rfl
              refine FC.call (l' := (bs 18 32767)) rfl (by kernel_rfl) rfl rfl rfl (E.call Tryz.call68 (A2 rfl rfl)) (w_impl_with S696.sl v66 r50 (h693.mono (upI.tr i697)) v685 [y677.text] (h698.mono upI) hr701) ?_
              rintro e w703 ⟨H702, v708, n709, cs710, rfl, r705, els711⟩
              refine ⟨_, rfl, ?_⟩
              obtain ⟨H706, r705, hU707⟩ := St.lendX (i692.tr i697) S669.sl r705
              have els711 := els711.mono (hU707.tr (up_le S669.size))
              have S704 := S669.join (l' := [.row 9 1 v708 n709 cs710, .row 9 1 v673 n674 cs675, .row 9 1 v655 1 [Value.string y647.text], .row 9 1 v685 1 [Value.string y677.text], .row 9 1 v62 n63 cs64, .row 9 1 v66 n67 cs69]) r705 rfl
              refine ⟨(SP.nil (Sl.of_inc (r670.run.inc.tr r705.run.inc) S704.sl)), ?_⟩
              obtain ⟨H712, S713, i714, h715, nv716⟩ := S704.sealRowU (i := 1) (l' := [.row 9 1 v708 n709 cs710, .row 9 1 v655 1 [Value.string y647.text], .row 9 1 v685 1 [Value.string y677.text], .row 9 1 v62 n63 cs64, .row 9 1 v66 n67 cs69]) rfl (els676.mono (up_mono r705.run.inc)) (by decide) rfl
              obtain ⟨H717, S718, i719, h720, nv721⟩ := S713.sealRowU (i := 0) (l' := [.row 9 1 v655 1 [Value.string y647.text], .row 9 1 v685 1 [Value.string y677.text], .row 9 1 v62 n63 cs64, .row 9 1 v66 n67 cs69]) rfl (els711.mono (up_mono i714)) (by decide) rfl
              refine FB.t (i := 15) (bs 18 65535) rfl (SP.nil (Sl.of_inc (r670.run.inc.tr r705.run.inc) S704.sl)) rfl (fun w' hw' => (E.build (B2 rfl rfl) (run_build _ 68 #[(0, v673), (1, v708)] #[v673, v708] (by obtain ⟨_, _, rfl⟩ := RSl.ln (h715.mono (upI.tr i719)); obtain ⟨_, _, rfl⟩ := RSl.ln (h720.mono upI); rfl)))) ?_
              refine FB.all1 (i := 16) (by kernel_rfl) ?_
              ·
               obtain ⟨v722, w723, run724, S725⟩ := S718.buildSlice (P := Tryz.prog) te172 [Value.agg #[v673, v708]] (parts := #[(0, Value.agg #[v673, v708])]) (cells := [v673, v708]) rfl (szs_cons rfl szs_nil) (fc_cons rfl fc_nil) (ones_cons h715.one (ones_cons h720.one ones_nil)) (Nat.le_of_ble_eq_true rfl)
               have els726 : Els (up wa.heap.size H717) eSequent 2 [v673, v708] [(Sequent.mk r665 r700)] := (Els.snoc (H := (up wa.heap.size H717)) (E := eSequent) (k := 2) (c := [v673, v708]) (x := (Sequent.mk r665 r700)) Els.nil rfl ⟨_, _, rfl, (h715.mono (up_mono i719)), h720⟩)
               have nd727 : (bl [v673, v708]).Nodup := by exact nd_two (New.apart (h715.mono (up_mono (Inc.rfl _))) nv721)
               have nv728 : New H706 [v673, v708] := by exact (New.two nv716 (nv721.anti i714))
               refine FC.val (l' := (bs 18 131071)) rfl (by kernel_rfl) rfl rfl rfl (E.buildSlice (B1 rfl) run724) ?_
               refine ⟨(SP.nil (Sl.of_inc (((r670.run.inc.tr r705.run.inc).tr i714).tr i719) S725.sl)), ?_⟩
               refine FB.t (i := 17) (bs 18 262143) rfl (SP.nil (Sl.of_inc (((r670.run.inc.tr r705.run.inc).tr i714).tr i719) S725.sl)) rfl (fun w' hw' => (E.assign (v := v722) rfl)) ?_
               exact FB.done (by kernel_rfl) ⟨_, _, _, _, (S725.sel [0] (by decide) rfl), (((r670.run.inc.tr r705.run.inc).tr i714).tr i719), els726, nd727, rfl⟩
         ·
          rintro f738 w737 ⟨H734, v729, n730, cs731, S735, i736, els732, nd733, k739⟩
          refine FW.ret ?_
          obtain rfl := Option.some.inj hp
          exact ⟨.inr rfl, res1 rfl k739 ⟨_, _, _, _, rfl, S735, (els732.mono upI)⟩⟩

set_option maxHeartbeats 4000000 in
theorem w_impl_seqCorrect {Ha : GH} {wa : World} (hs : Sl Ha wa) (v0 : Value) (a0 : List SeqStep) (p0 : RSl Ha eSeqStep 6 v0 a0) (a1 : Int) {r : Bool} (hp : (PF.impl_seqCorrect a0 a1) = some r) :
  Calls Tryz.prog 158 #[v0, Value.int .i64 a1] wa (Sc Ha wa (Value.bool r)) := by
 unfold PF.impl_seqCorrect at hp
 have S0 := St.init hs
 refine calls_go (N := 184) (args := [v0, Value.int .i64 a1]) Tryz.func158 rfl rfl rfl ?_
 refine FW.seq (FW.region ?_)
 obtain ⟨b21, w22, run23, S24⟩ := S0.box (P := Tryz.prog) 24 [v0] (v := v0) p0.cells (ones_cons p0.one ones_nil)
 refine FL.v (E.box rfl run23) ?_
 obtain ⟨H25, S26, i27, at28⟩ := S24.sealBox (i := 0) (l' := []) rfl rfl
 obtain ⟨b29, w30, run31, S32⟩ := S26.box (P := Tryz.prog) 3 [Value.int .i64 a1] (v := Value.int .i64 a1) rfl (ones_cons rfl ones_nil)
 refine FL.v (E.box rfl run31) ?_
 obtain ⟨H33, S34, i35, at36⟩ := S32.sealBox (i := 0) (l' := []) rfl rfl
 refine FL.v (E.assign (v := Value.bool false) rfl) ?_
 refine FL.nil (FW.seq (FW.region ?_))
 refine FL.v (E.load rfl (run_load0 Tryz.isAgg24 ((at28.mono i35).now S34.sl) rfl)) ?_
 refine FL.v (E.load rfl (run_load0 Tryz.isAgg3 (at36.now S34.sl) rfl)) ?_
 obtain ⟨x43, hx44, hp⟩ := bnd hp
 obtain ⟨p37, cs38, pt39, l40, at41, rel42⟩ := p0.at hx44
 obtain ⟨v45, v47, rfl, h46, h48⟩ := eSeqStep_open rel42
 refine FL.v (E.indexAddr te24 rfl rfl pt39) ?_
 refine FL.v (E.load rfl (run_loadA Tryz.isAgg74 Tryz.sizeOf74 ((at41.mono (i27.tr i35)).now S34.sl) rfl)) ?_
 obtain ⟨b49, w50, run51, S52⟩ := S34.alloc (P := Tryz.prog) 74 [Value.slice none 0 0, Value.slice none 0 0, Value.int .i64 0, Value.string ByteArray.empty, Value.int .i64 0, Value.int .i64 0] Tryz.zeroValue74 rfl (ones_cons rfl (ones_cons rfl (ones_cons rfl (ones_cons rfl (ones_cons rfl (ones_cons rfl ones_nil))))))
 refine FL.v (E.alloc run51) ?_
 obtain ⟨w53, run54, S55⟩ := S52.store0 (P := Tryz.prog) (t := 74) (i := 0) (cs' := [v45, v47, Value.int .i64 x43.rule, Value.string x43.main, Value.int .i64 x43.a, Value.int .i64 x43.b]) (l' := [.box b49 74 [v45, v47, Value.int .i64 x43.rule, Value.string x43.main, Value.int .i64 x43.a, Value.int .i64 x43.b]]) (v := Value.agg #[v45, v47, Value.int .i64 x43.rule, Value.string x43.main, Value.int .i64 x43.a, Value.int .i64 x43.b]) (c := [v45, v47, Value.int .i64 x43.rule, Value.string x43.main, Value.int .i64 x43.a, Value.int .i64 x43.b]) rfl Tryz.sizeOf74 rfl rfl (ones_cons h46.one (ones_cons h48.one (ones_cons rfl (ones_cons rfl (ones_cons rfl (ones_cons rfl ones_nil)))))) (Nat.le_of_ble_eq_true rfl) rfl rfl
 refine FL.act rfl rfl (E.store rfl rfl run54) ?_
 obtain ⟨H56, S57, i58, at59⟩ := S55.sealBox (i := 0) (l' := []) rfl rfl
 refine FL.nil (FW.seq (FW.seq (FW.region ?_)))
 refine FL.v (E.fieldAddr tf74_0 rfl) ?_
 refine FL.v (E.load rfl (run_loadA Tryz.isAgg68 Tryz.sizeOf68 ((at59.now S57.sl).sub (j := 0) (n := 2) (c := [v45, v47]) rfl) rfl)) ?_
 obtain ⟨r60, hr61, hp⟩ := bnd hp
 refine FL.call rfl rfl rfl (E.call Tryz.call120 (A1 rfl)) (w_impl_IsSequent S57.sl x43.seq v45 (h46.mono ((i27.tr i35).tr i58)) v47 (h48.mono ((i27.tr i35).tr i58)) hr61) ?_
 rintro e w62 ⟨rfl, r63⟩
 refine ⟨_, rfl, ?_⟩
 have S64 := S57.call r63
 refine FL.v (E.not rfl) ?_
 refine FL.nil ?_
 rcases ifB hp with ⟨c65, hp⟩ | ⟨c65, hp⟩
 ·
  refine FW.condT rfl c65 ?_
  refine FW.seq (FW.region ?_)
  refine FL.v (E.assign (v := Value.bool false) rfl) ?_
  refine FL.nil ?_
  refine FW.ret ?_
  obtain rfl := Option.some.inj hp
  exact ⟨.inr rfl, res1 rfl rfl ⟨rfl, S64.back⟩⟩
 ·
  refine FW.condF rfl c65 ?_
  refine FW.skip (FW.seq (FW.region ?_))
  refine FL.v (E.makeFunc A0 (A2 rfl rfl)) ?_
  refine FL.v (E.assign (v := Value.func (.func 194) #[] #[Value.pointer (some ⟨b29, 0, none⟩), Value.pointer (some ⟨b21, 0, none⟩)]) rfl) ?_
  refine FL.nil (FW.seq (FW.region ?_))
  refine FL.v (E.assign (v := Value.func (.func 195) #[] #[]) rfl) ?_
  refine FL.nil (FW.seq (FW.seq (FW.region ?_)))
  refine FL.v (E.fieldAddr tf74_1 rfl) ?_
  refine FL.v (E.load rfl (run_load1 Tryz.isAgg3 (at59.now S64.sl) rfl)) ?_
  refine FL.v (E.eql rfl rfl) ?_
  refine FL.nil ?_
  rcases ifB hp with ⟨c66, hp⟩ | ⟨c66, hp⟩
  ·
   refine FW.condT rfl c66 ?_
   refine FW.seq (FW.region ?_)
   refine FL.v (E.fieldAddr tf74_2 rfl) ?_
   refine FL.v (E.load rfl (run_load1 Tryz.isAgg9 (at59.now S64.sl) rfl)) ?_
   refine FL.v (E.eqlS rfl rfl) ?_
   refine FL.v (E.move (v := Value.bool (x43.main.toList == (ByteArray.mk #[]).toList)) rfl) ?_
   refine FL.cut 4 (fun f w => ∃ H : GH, St Ha wa H w [] ∧ Inc H56 H ∧ f 5 = Value.pointer (some ⟨b49, 0, none⟩) ∧ f 32 = Value.bool (bif (x43.main.toList == (ByteArray.mk #[]).toList) then (x43.a == 0) else false)) ?_ ?_
   ·
    rcases bcase (x43.main.toList == (ByteArray.mk #[]).toList) with c73 | c73
    ·
     refine FL.val (wF_yes rfl rfl rfl c73) rfl rfl (E.fieldAddr tf74_3 rfl) ?_
     refine FL.val (wF_yes rfl rfl rfl c73) rfl rfl (E.load rfl (run_load1 Tryz.isAgg3 (at59.now S64.sl) rfl)) ?_
     refine FL.val (wF_yes rfl rfl rfl c73) rfl rfl (E.eql rfl rfl) ?_
     refine FL.v (E.pickT rfl c73 rfl) ?_
     exact FL.nil ⟨rfl, _, S64, (Inc.rfl _), rfl, (congrArg Value.bool (bifT c73).symm)⟩
    ·
     refine FL.skip (wF_no rfl rfl rfl c73) rfl ?_
     refine FL.skip (wF_no rfl rfl rfl c73) rfl ?_
     refine FL.skip (wF_no rfl rfl rfl c73) rfl ?_
     refine FL.v (E.pickF rfl c73 rfl) ?_
     exact FL.nil ⟨rfl, _, S64, (Inc.rfl _), rfl, (congrArg Value.bool (bifF c73).symm)⟩
   rintro f72 w71 ⟨H68, S69, i70, k74, k75⟩
   refine FL.v (E.move k75) ?_
   refine FL.cut 4 (fun f w => ∃ H : GH, St Ha wa H w [] ∧ Inc H68 H ∧ f 5 = Value.pointer (some ⟨b49, 0, none⟩) ∧ f 37 = Value.bool (bif (bif (x43.main.toList == (ByteArray.mk #[]).toList) then (x43.a == 0) else false) then (x43.b == 0) else false)) ?_ ?_
   ·
    rcases bcase (bif (x43.main.toList == (ByteArray.mk #[]).toList) then (x43.a == 0) else false) with c82 | c82
    ·
     refine FL.val (wF_yes rfl rfl rfl c82) rfl rfl (E.fieldAddr tf74_4 k74) ?_
     refine FL.val (wF_yes rfl rfl rfl c82) rfl rfl (E.load rfl (run_load1 Tryz.isAgg3 ((at59.mono i70).now S69.sl) rfl)) ?_
     refine FL.val (wF_yes rfl rfl rfl c82) rfl rfl (E.eql rfl rfl) ?_
     refine FL.v (E.pickT rfl c82 rfl) ?_
     exact FL.nil ⟨rfl, _, S69, (Inc.rfl _), k74, (congrArg Value.bool (bifT c82).symm)⟩
    ·
     refine FL.skip (wF_no rfl rfl rfl c82) rfl ?_
     refine FL.skip (wF_no rfl rfl rfl c82) rfl ?_
     refine FL.skip (wF_no rfl rfl rfl c82) rfl ?_
     refine FL.v (E.pickF rfl c82 rfl) ?_
     exact FL.nil ⟨rfl, _, S69, (Inc.rfl _), k74, (congrArg Value.bool (bifF c82).symm)⟩
   rintro f81 w80 ⟨H77, S78, i79, k83, k84⟩
   refine FL.v (E.move k84) ?_
   obtain ⟨t90, hqt90, hp⟩ := bnd hp
   refine FL.cut 4 (fun f w => ∃ H : GH, St Ha wa H w [] ∧ Inc H77 H ∧ f 42 = Value.bool t90) ?_ ?_
   ·
    clear hp; have hp := hqt90; clear hqt90
    rcases ifB hp with ⟨c96, hp⟩ | ⟨c96, hp⟩
    ·
     refine FL.val (wF_yes rfl rfl rfl c96) rfl rfl (E.fieldAddr tf74_0 k83) ?_
     refine FL.val (wF_yes rfl rfl rfl c96) rfl rfl (E.load rfl (run_loadA Tryz.isAgg68 Tryz.sizeOf68 (((at59.mono (i70.tr i79)).now S78.sl).sub (j := 0) (n := 2) (c := [v45, v47]) rfl) rfl)) ?_
     obtain ⟨r97, hr98, hp⟩ := bnd hp
     refine FL.call (wF_yes rfl rfl rfl c96) rfl rfl (E.call Tryz.call154 (A1 rfl)) (w_impl_isSeqAxiom S78.sl x43.seq v45 (h46.mono ((((i27.tr i35).tr i58).tr i70).tr i79)) v47 (h48.mono ((((i27.tr i35).tr i58).tr i70).tr i79)) hr98) ?_
     rintro e w99 ⟨rfl, r100⟩
     refine ⟨_, rfl, ?_⟩
     have S101 := S78.call r100
     obtain rfl := Option.some.inj hp
     refine FL.v (E.pickT rfl c96 rfl) ?_
     exact FL.nil ⟨rfl, _, S101, (Inc.rfl _), rfl⟩
    ·
     refine FL.skip (wF_no rfl rfl rfl c96) rfl ?_
     refine FL.skip (wF_no rfl rfl rfl c96) rfl ?_
     refine FL.skip (wF_no rfl rfl rfl c96) rfl ?_
     obtain rfl := Option.some.inj hp
     refine FL.v (E.pickF rfl c96 rfl) ?_
     exact FL.nil ⟨rfl, _, S78, (Inc.rfl _), rfl⟩
   rintro f95 w94 ⟨H91, S92, i93, k102⟩
   refine FL.v (E.assign k102) ?_
   refine FL.nil ?_
   refine FW.ret ?_
   obtain rfl := Option.some.inj hp
   exact ⟨.inr rfl, res1 rfl rfl ⟨rfl, S92.back⟩⟩
  ·
   refine FW.condF rfl c66 ?_
   refine FW.skip (FW.seq (FW.seq (FW.region ?_)))
   refine FL.v (E.fieldAddr tf74_1 rfl) ?_
   refine FL.v (E.load rfl (run_load1 Tryz.isAgg3 (at59.now S64.sl) rfl)) ?_
   refine FL.v (E.eql rfl rfl) ?_
   refine FL.nil ?_
   rcases ifB hp with ⟨c103, hp⟩ | ⟨c103, hp⟩
   ·
    refine FW.condT rfl c103 ?_
    refine FW.seq (FW.region ?_)
    refine FL.v (E.fieldAddr tf74_2 rfl) ?_
    refine FL.v (E.load rfl (run_load1 Tryz.isAgg9 (at59.now S64.sl) rfl)) ?_
    refine FL.v (E.eqlS rfl rfl) ?_
    refine FL.v (E.move (v := Value.bool (x43.main.toList == (ByteArray.mk #[]).toList)) rfl) ?_
    refine FL.cut 4 (fun f w => ∃ H : GH, St Ha wa H w [] ∧ Inc H56 H ∧ f 5 = Value.pointer (some ⟨b49, 0, none⟩) ∧ f 6 = Value.func (.func 194) #[] #[Value.pointer (some ⟨b29, 0, none⟩), Value.pointer (some ⟨b21, 0, none⟩)] ∧ f 53 = Value.bool (bif (x43.main.toList == (ByteArray.mk #[]).toList) then (x43.b == 0) else false)) ?_ ?_
    ·
     rcases bcase (x43.main.toList == (ByteArray.mk #[]).toList) with c110 | c110
     ·
      refine FL.val (wF_yes rfl rfl rfl c110) rfl rfl (E.fieldAddr tf74_4 rfl) ?_
      refine FL.val (wF_yes rfl rfl rfl c110) rfl rfl (E.load rfl (run_load1 Tryz.isAgg3 (at59.now S64.sl) rfl)) ?_
      refine FL.val (wF_yes rfl rfl rfl c110) rfl rfl (E.eql rfl rfl) ?_
      refine FL.v (E.pickT rfl c110 rfl) ?_
      exact FL.nil ⟨rfl, _, S64, (Inc.rfl _), rfl, rfl, (congrArg Value.bool (bifT c110).symm)⟩
     ·
      refine FL.skip (wF_no rfl rfl rfl c110) rfl ?_
      refine FL.skip (wF_no rfl rfl rfl c110) rfl ?_
      refine FL.skip (wF_no rfl rfl rfl c110) rfl ?_
      refine FL.v (E.pickF rfl c110 rfl) ?_
      exact FL.nil ⟨rfl, _, S64, (Inc.rfl _), rfl, rfl, (congrArg Value.bool (bifF c110).symm)⟩
    rintro f109 w108 ⟨H105, S106, i107, k111, k112, k113⟩
    refine FL.v (E.move k113) ?_
    obtain ⟨t119, hqt119, hp⟩ := bnd hp
    refine FL.cut 6 (fun f w => ∃ H : GH, St Ha wa H w [] ∧ Inc H105 H ∧ f 60 = Value.bool t119) ?_ ?_
    ·
     clear hp; have hp := hqt119; clear hqt119
     rcases ifB hp with ⟨c125, hp⟩ | ⟨c125, hp⟩
     ·
      refine FL.val (wF_yes rfl rfl rfl c125) rfl rfl (E.move k112) ?_
      refine FL.val (wF_yes rfl rfl rfl c125) rfl rfl (E.fieldAddr tf74_3 k111) ?_
      refine FL.val (wF_yes rfl rfl rfl c125) rfl rfl (E.load rfl (run_load1 Tryz.isAgg3 ((at59.mono i107).now S106.sl) rfl)) ?_
      refine FL.val (wF_yes rfl rfl rfl c125) rfl rfl (E.makeFunc A0 (A1 k111)) ?_
      obtain ⟨r126, hr127, hp⟩ := bnd hp
      refine FL.call (wF_yes rfl rfl rfl c125) rfl rfl (E.callV Tryz.call194 rfl (appA (A2 rfl rfl) #[Value.pointer (some ⟨b29, 0, none⟩), Value.pointer (some ⟨b21, 0, none⟩)])) (w_impl_seqCorrect_1 S106.sl x43.a (Value.func (.func 198) #[] #[Value.pointer (some ⟨b49, 0, none⟩)]) (fun x0 => PF.impl_seqCorrect_3 x0 x43) (fun H2 w2 hi2 hs2 x0 y0_0 z0_0 y0_1 z0_1 r hr => ⟨198, #[Value.pointer (some ⟨b49, 0, none⟩)], rfl, Tryz.call198, w_impl_seqCorrect_3 hs2 x0 y0_0 z0_0 y0_1 z0_1 ⟨b49, 0, none⟩ x43 v45 ((h46.mono (((i27.tr i35).tr i58).tr i107)).mono hi2) v47 ((h48.mono (((i27.tr i35).tr i58).tr i107)).mono hi2) ((at59.mono i107).mono hi2) hr⟩) ⟨b29, 0, none⟩ a1 (at36.mono (i58.tr i107)) ⟨b21, 0, none⟩ a0 v0 (p0.mono (((i27.tr i35).tr i58).tr i107)) (at28.mono ((i35.tr i58).tr i107)) hr127) ?_
      rintro e w128 ⟨rfl, r129⟩
      refine ⟨_, rfl, ?_⟩
      have S130 := S106.call r129
      obtain rfl := Option.some.inj hp
      refine FL.v (E.pickT rfl c125 rfl) ?_
      exact FL.nil ⟨rfl, _, S130, (Inc.rfl _), rfl⟩
     ·
      refine FL.skip (wF_no rfl rfl rfl c125) rfl ?_
      refine FL.skip (wF_no rfl rfl rfl c125) rfl ?_
      refine FL.skip (wF_no rfl rfl rfl c125) rfl ?_
      refine FL.skip (wF_no rfl rfl rfl c125) rfl ?_
      refine FL.skip (wF_no rfl rfl rfl c125) rfl ?_
      obtain rfl := Option.some.inj hp
      refine FL.v (E.pickF rfl c125 rfl) ?_
      exact FL.nil ⟨rfl, _, S106, (Inc.rfl _), rfl⟩
    rintro f124 w123 ⟨H120, S121, i122, k131⟩
    refine FL.v (E.assign k131) ?_
    refine FL.nil ?_
    refine FW.ret ?_
    obtain rfl := Option.some.inj hp
    exact ⟨.inr rfl, res1 rfl rfl ⟨rfl, S121.back⟩⟩
   ·
    refine FW.condF rfl c103 ?_
    refine FW.skip (FW.seq (FW.region ?_))
    refine FL.v (E.fieldAddr tf74_2 rfl) ?_
    refine FL.v (E.load rfl (run_load1 Tryz.isAgg9 (at59.now S64.sl) rfl)) ?_
    obtain ⟨r132, hr133, hp⟩ := bnd hp
    refine FL.call rfl rfl rfl (E.call Tryz.call78 (A1 rfl)) (w_impl_parse S64.sl x43.main hr133) ?_
    rintro e w135 ⟨H134, v138, rfl, r137, h139⟩
    refine ⟨_, rfl, ?_⟩
    have S136 := S64.call r137
    refine FL.v (E.move (v := Value.tuple #[v138, Value.bool r132.2]) rfl) ?_
    refine FL.v (E.extract (i := 0) rfl rfl) ?_
    refine FL.v (E.extract (i := 1) rfl rfl) ?_
    refine FL.v (E.assign (v := v138) rfl) ?_
    refine FL.v (E.assign (v := Value.bool r132.2) rfl) ?_
    refine FL.nil (FW.seq (FW.block (FW.seq (FW.region ?_))))
    refine FL.v (E.move (v := Value.bool r132.2) rfl) ?_
    refine FL.v (E.not rfl) ?_
    refine FL.v (E.assign (v := Value.bool (!r132.2)) rfl) ?_
    refine FL.nil ?_
    rcases ifB hp with ⟨c140, hp⟩ | ⟨c140, hp⟩
    ·
     refine FW.condT rfl c140 ?_
     refine FW.seq (FW.region ?_)
     refine FL.v (E.assign (v := Value.bool false) rfl) ?_
     refine FL.nil ?_
     refine FW.ret ?_
     obtain rfl := Option.some.inj hp
     exact ⟨.inr rfl, res1 rfl rfl ⟨rfl, S136.back⟩⟩
    ·
     refine FW.condF rfl c140 ?_
     refine FW.seq (FW.region ?_)
     refine FL.v (E.fieldAddr tf74_1 rfl) ?_
     refine FL.v (E.load rfl (run_load1 Tryz.isAgg3 ((at59.mono r137.inc).now S136.sl) rfl)) ?_
     refine FL.v (E.eql rfl rfl) ?_
     refine FL.v (E.assign (v := Value.bool (x43.rule == 11)) rfl) ?_
     refine FL.nil ?_
     rcases ifB hp with ⟨c141, hp⟩ | ⟨c141, hp⟩
     ·
      refine FW.condT rfl c141 ?_
      refine FW.seq ?_
      obtain ⟨r116, hr117, hp⟩ := bnd hp
      obtain ⟨r165, hr166, hp⟩ := bnd hp
      obtain ⟨t141_35, hqt141_35, hp⟩ := bnd hp
      refine FW.drawB (Sl H134) (fun f w => ∃ H : GH, St Ha wa H w [] ∧ Inc H134 H ∧ f 4 = Value.bool t141_35) (by kernel_rfl) S136.sl ?_ ?_
      ·
       intro w142 r143
       have S144 := S136.call r143
       refine FB.t (i := 0) (bs 37 1) rfl (SP.nil S144.sl) rfl (fun w' hw' => (E.move (v := Value.func (.func 194) #[] #[Value.pointer (some ⟨b29, 0, none⟩), Value.pointer (some ⟨b21, 0, none⟩)]) rfl)) ?_
       refine FB.t (i := 1) (bs 37 3) rfl (SP.nil S144.sl) rfl (fun w' hw' => (E.fieldAddr tf74_3 rfl)) ?_
       refine FB.t (i := 2) (bs 37 7) rfl (SP.nil S144.sl) rfl (fun w' hw' => (E.load rfl (run_load1 Tryz.isAgg3 ((at59.mono r137.inc).now hw') rfl))) ?_
       refine FB.t (i := 3) (bs 37 15) rfl (SP.nil S144.sl) rfl (fun w' hw' => (E.move (v := Value.func (.func 195) #[] #[]) rfl)) ?_
       refine FB.t (i := 4) (bs 37 31) rfl (SP.nil S144.sl) rfl (fun w' hw' => (E.fieldAddr tf74_0 rfl)) ?_
       refine FB.t (i := 5) (bs 37 63) rfl (SP.nil S144.sl) rfl (fun w' hw' => (E.fieldAddrN tf68_0 rfl rfl)) ?_
       refine FB.t (i := 6) (bs 37 127) rfl (SP.nil S144.sl) rfl (fun w' hw' => (E.load rfl (run_load1 Tryz.isAgg22 ((at59.mono r137.inc).now hw') rfl))) ?_
       refine FB.t (i := 7) (bs 37 255) rfl (SP.nil S144.sl) rfl (fun w' hw' => (E.fieldAddr tf74_0 rfl)) ?_
       refine FB.t (i := 8) (bs 37 511) rfl (SP.nil S144.sl) rfl (fun w' hw' => (E.fieldAddrN tf68_1 rfl rfl)) ?_
       refine FB.t (i := 9) (bs 37 1023) rfl (SP.nil S144.sl) rfl (fun w' hw' => (E.load rfl (run_load1 Tryz.isAgg22 ((at59.mono r137.inc).now hw') rfl))) ?_
       refine FB.t (i := 10) (bs 37 2047) rfl (SP.nil S144.sl) rfl (fun w' hw' => (E.fieldAddr tf74_2 rfl)) ?_
       refine FB.t (i := 11) (bs 37 4095) rfl (SP.nil S144.sl) rfl (fun w' hw' => (E.load rfl (run_load1 Tryz.isAgg9 ((at59.mono r137.inc).now hw') rfl))) ?_
       refine FB.all1 (i := 12) (by kernel_rfl) ?_
       ·
        obtain ⟨v67, w76, run85, S86⟩ := S144.buildSlice (P := Tryz.prog) te22 [Value.string x43.main] (parts := #[(0, Value.string x43.main)]) (cells := [Value.string x43.main]) rfl (szs_cons rfl szs_nil) (fc_cons rfl fc_nil) (ones_cons rfl ones_nil) (Nat.le_of_ble_eq_true rfl)
        have els87 : Els (up wa.heap.size H134) eS 1 [Value.string x43.main] [x43.main] := (Els.snoc (H := (up wa.heap.size H134)) (E := eS) (k := 1) (c := [Value.string x43.main]) (x := x43.main) Els.nil rfl rfl)
        refine FC.val (l' := (bs 37 8191)) rfl (by kernel_rfl) rfl rfl rfl (E.buildSlice (B1 rfl) run85) ?_
        refine ⟨(SP.nil S86.sl), ?_⟩
        refine FB.all1 (i := 13) (by kernel_rfl) ?_
        ·
         obtain ⟨H88, S89, i104, h114, nv115⟩ := S86.sealRowU (i := 0) (l' := []) rfl els87 (by decide) rfl
         refine FC.call (l' := (bs 37 16383)) rfl (by kernel_rfl) rfl rfl rfl (E.call Tryz.call68 (A2 rfl rfl)) (w_impl_with S89.sl v47 x43.seq.right (h48.mono ((((i27.tr i35).tr i58).tr r137.inc).tr i104)) v67 [x43.main] (h114.mono upI) hr117) ?_
         rintro e w145 ⟨H118, v150, n151, cs152, rfl, r147, els153⟩
         refine ⟨_, rfl, ?_⟩
         obtain ⟨H148, r147, hU149⟩ := St.lendX i104 S86.sl r147
         have els153 := els153.mono (hU149.tr (up_le S86.size))
         have S146 := S86.join (l' := [.row 9 1 v150 n151 cs152, .row 9 1 v67 1 [Value.string x43.main]]) r147 rfl
         refine ⟨(SP.nil (Sl.of_inc r147.run.inc S146.sl)), ?_⟩
         obtain ⟨H154, S155, i156, h157, nv158⟩ := S146.sealRowU (i := 0) (l' := [.row 9 1 v67 1 [Value.string x43.main]]) rfl els153 (by decide) rfl
         refine FB.t (i := 14) (bs 37 32767) rfl (SP.nil (Sl.of_inc r147.run.inc S146.sl)) rfl (fun w' hw' => (E.build (B2 rfl rfl) (run_build _ 68 #[(0, v45), (1, v150)] #[v45, v150] (by obtain ⟨_, _, rfl⟩ := RSl.ln (h46.mono (((((i27.tr i35).tr i58).tr r137.inc).tr r147.run.inc).tr i156)); obtain ⟨_, _, rfl⟩ := RSl.ln (h157.mono upI); rfl)))) ?_
         refine FB.all1 (i := 15) (by kernel_rfl) ?_
         ·
          refine FC.call (l' := (bs 37 65535)) rfl (by kernel_rfl) rfl rfl rfl (E.callV Tryz.call195 rfl (appA (A1 rfl) #[])) (w_impl_seqCorrect_2 S155.sl (Sequent.mk x43.seq.left r116) v45 (h46.mono (((((i27.tr i35).tr i58).tr r137.inc).tr r147.run.inc).tr i156)) v150 (h157.mono upI)) ?_
          rintro e w160 ⟨H159, q163, rfl, r162, h164⟩
          refine ⟨_, rfl, ?_⟩
          have S161 := S155.call r162
          refine ⟨(SP.nil (Sl.of_inc ((r147.run.inc.tr i156).tr r162.inc) S161.sl)), ?_⟩
          refine FB.all1 (i := 16) (by kernel_rfl) ?_
          ·
           refine FC.call (l' := (bs 37 131071)) rfl (by kernel_rfl) rfl rfl rfl (E.callV Tryz.call194 rfl (appA (A2 rfl rfl) #[Value.pointer (some ⟨b29, 0, none⟩), Value.pointer (some ⟨b21, 0, none⟩)])) (w_impl_seqCorrect_1 S161.sl x43.a (Value.func (.func 196) #[] #[Value.pointer (some q163)]) (fun x0 => PF.impl_seqCorrect_2_1 x0 (Sequent.mk x43.seq.left r116)) (fun H2 w2 hi2 hs2 x0 y0_0 z0_0 y0_1 z0_1 r hr => ⟨196, #[Value.pointer (some q163)], rfl, Tryz.call196, w_impl_seqCorrect_2_1 hs2 x0 y0_0 z0_0 y0_1 z0_1 q163 (Sequent.mk x43.seq.left r116) v45 ((h46.mono ((((((i27.tr i35).tr i58).tr r137.inc).tr r147.run.inc).tr i156).tr r162.inc)).mono hi2) v150 ((h157.mono (upI.tr r162.inc)).mono hi2) (h164.mono hi2) hr⟩) ⟨b29, 0, none⟩ a1 (at36.mono ((((i58.tr r137.inc).tr r147.run.inc).tr i156).tr r162.inc)) ⟨b21, 0, none⟩ a0 v0 (p0.mono ((((((i27.tr i35).tr i58).tr r137.inc).tr r147.run.inc).tr i156).tr r162.inc)) (at28.mono (((((i35.tr i58).tr r137.inc).tr r147.run.inc).tr i156).tr r162.inc)) hr166) ?_
           rintro e w167 ⟨rfl, r168⟩
           refine ⟨_, rfl, ?_⟩
           have S169 := S161.call r168
           refine ⟨(SP.nil (Sl.of_inc ((r147.run.inc.tr i156).tr r162.inc) S169.sl)), ?_⟩
           refine FB.t (i := 17) (bs 37 262143) rfl (SP.nil (Sl.of_inc ((r147.run.inc.tr i156).tr r162.inc) S169.sl)) rfl (fun w' hw' => (E.move (v := Value.bool r165) rfl)) ?_
           rcases ifB hqt141_35 with ⟨hc141_17, hqt141_35⟩ | ⟨hc141_17, hqt141_35⟩
           ·
            obtain ⟨r181, hr182, hqt141_35⟩ := bnd hqt141_35
            obtain ⟨r204, hr205, hqt141_35⟩ := bnd hqt141_35
            refine FB.t (i := 18) (bs 37 524287) rfl (SP.nil (Sl.of_inc ((r147.run.inc.tr i156).tr r162.inc) S169.sl)) (wF_yes rfl rfl rfl hc141_17) (fun w' hw' => (E.move (v := Value.func (.func 194) #[] #[Value.pointer (some ⟨b29, 0, none⟩), Value.pointer (some ⟨b21, 0, none⟩)]) rfl)) ?_
            refine FB.t (i := 19) (bs 37 1048575) rfl (SP.nil (Sl.of_inc ((r147.run.inc.tr i156).tr r162.inc) S169.sl)) (wF_yes rfl rfl rfl hc141_17) (fun w' hw' => (E.fieldAddr tf74_4 rfl)) ?_
            refine FB.t (i := 20) (bs 37 2097151) rfl (SP.nil (Sl.of_inc ((r147.run.inc.tr i156).tr r162.inc) S169.sl)) (wF_yes rfl rfl rfl hc141_17) (fun w' hw' => (E.load rfl (run_load1 Tryz.isAgg3 ((at59.mono r137.inc).now hw') rfl))) ?_
            refine FB.t (i := 21) (bs 37 4194303) rfl (SP.nil (Sl.of_inc ((r147.run.inc.tr i156).tr r162.inc) S169.sl)) (wF_yes rfl rfl rfl hc141_17) (fun w' hw' => (E.move (v := Value.func (.func 195) #[] #[]) rfl)) ?_
            refine FB.t (i := 22) (bs 37 8388607) rfl (SP.nil (Sl.of_inc ((r147.run.inc.tr i156).tr r162.inc) S169.sl)) (wF_yes rfl rfl rfl hc141_17) (fun w' hw' => (E.fieldAddr tf74_0 rfl)) ?_
            refine FB.t (i := 23) (bs 37 16777215) rfl (SP.nil (Sl.of_inc ((r147.run.inc.tr i156).tr r162.inc) S169.sl)) (wF_yes rfl rfl rfl hc141_17) (fun w' hw' => (E.fieldAddrN tf68_0 rfl rfl)) ?_
            refine FB.t (i := 24) (bs 37 33554431) rfl (SP.nil (Sl.of_inc ((r147.run.inc.tr i156).tr r162.inc) S169.sl)) (wF_yes rfl rfl rfl hc141_17) (fun w' hw' => (E.load rfl (run_load1 Tryz.isAgg22 ((at59.mono r137.inc).now hw') rfl))) ?_
            refine FB.t (i := 25) (bs 37 67108863) rfl (SP.nil (Sl.of_inc ((r147.run.inc.tr i156).tr r162.inc) S169.sl)) (wF_yes rfl rfl rfl hc141_17) (fun w' hw' => (E.fieldAddr tf74_2 rfl)) ?_
            refine FB.t (i := 26) (bs 37 134217727) rfl (SP.nil (Sl.of_inc ((r147.run.inc.tr i156).tr r162.inc) S169.sl)) (wF_yes rfl rfl rfl hc141_17) (fun w' hw' => (E.load rfl (run_load1 Tryz.isAgg9 ((at59.mono r137.inc).now hw') rfl))) ?_
            refine FB.t (i := 29) (bs 37 671088639) rfl (SP.nil (Sl.of_inc ((r147.run.inc.tr i156).tr r162.inc) S169.sl)) (wF_yes rfl rfl rfl hc141_17) (fun w' hw' => (E.fieldAddr tf74_0 rfl)) ?_
            refine FB.t (i := 30) (bs 37 1744830463) rfl (SP.nil (Sl.of_inc ((r147.run.inc.tr i156).tr r162.inc) S169.sl)) (wF_yes rfl rfl rfl hc141_17) (fun w' hw' => (E.fieldAddrN tf68_1 rfl rfl)) ?_
            refine FB.t (i := 31) (bs 37 3892314111) rfl (SP.nil (Sl.of_inc ((r147.run.inc.tr i156).tr r162.inc) S169.sl)) (wF_yes rfl rfl rfl hc141_17) (fun w' hw' => (E.load rfl (run_load1 Tryz.isAgg22 ((at59.mono r137.inc).now hw') rfl))) ?_
            refine FB.all1 (i := 27) (by kernel_rfl) ?_
            ·
             obtain ⟨v170, w171, run173, S174⟩ := S169.buildSlice (P := Tryz.prog) te22 [Value.string x43.main] (parts := #[(0, Value.string x43.main)]) (cells := [Value.string x43.main]) rfl (szs_cons rfl szs_nil) (fc_cons rfl fc_nil) (ones_cons rfl ones_nil) (Nat.le_of_ble_eq_true rfl)
             have els175 : Els (up wa.heap.size H159) eS 1 [Value.string x43.main] [x43.main] := (Els.snoc (H := (up wa.heap.size H159)) (E := eS) (k := 1) (c := [Value.string x43.main]) (x := x43.main) Els.nil rfl rfl)
             refine FC.val (l' := (bs 37 4026531839)) rfl (by kernel_rfl) (wF_yes rfl rfl rfl hc141_17) rfl rfl (E.buildSlice (B1 rfl) run173) ?_
             refine ⟨(SP.nil (Sl.of_inc ((r147.run.inc.tr i156).tr r162.inc) S174.sl)), ?_⟩
             refine FB.all1 (i := 28) (by kernel_rfl) ?_
             ·
              obtain ⟨H176, S177, i178, h179, nv180⟩ := S174.sealRowU (i := 0) (l' := [.row 9 1 v67 1 [Value.string x43.main]]) rfl els175 (by decide) rfl
              refine FC.call (l' := (bs 37 4294967295)) rfl (by kernel_rfl) (wF_yes rfl rfl rfl hc141_17) rfl rfl (E.call Tryz.call68 (A2 rfl rfl)) (w_impl_with S177.sl v45 x43.seq.left (h46.mono (((((((i27.tr i35).tr i58).tr r137.inc).tr r147.run.inc).tr i156).tr r162.inc).tr i178)) v170 [x43.main] (h179.mono upI) hr182) ?_
              rintro e w184 ⟨H183, v189, n190, cs191, rfl, r186, els192⟩
              refine ⟨_, rfl, ?_⟩
              obtain ⟨H187, r186, hU188⟩ := St.lendX i178 S174.sl r186
              have els192 := els192.mono (hU188.tr (up_le S174.size))
              have S185 := S174.join (l' := [.row 9 1 v189 n190 cs191, .row 9 1 v170 1 [Value.string x43.main], .row 9 1 v67 1 [Value.string x43.main]]) r186 rfl
              refine ⟨(SP.nil (Sl.of_inc (((r147.run.inc.tr i156).tr r162.inc).tr r186.run.inc) S185.sl)), ?_⟩
              obtain ⟨H193, S194, i195, h196, nv197⟩ := S185.sealRowU (i := 0) (l' := [.row 9 1 v170 1 [Value.string x43.main], .row 9 1 v67 1 [Value.string x43.main]]) rfl els192 (by decide) rfl
              refine FB.t (i := 32) (bs 37 8589934591) rfl (SP.nil (Sl.of_inc (((r147.run.inc.tr i156).tr r162.inc).tr r186.run.inc) S185.sl)) (wF_yes rfl rfl rfl hc141_17) (fun w' hw' => (E.build (B2 rfl rfl) (run_build _ 68 #[(0, v189), (1, v47)] #[v189, v47] (by obtain ⟨_, _, rfl⟩ := RSl.ln (h196.mono upI); obtain ⟨_, _, rfl⟩ := RSl.ln (h48.mono ((((((((i27.tr i35).tr i58).tr r137.inc).tr r147.run.inc).tr i156).tr r162.inc).tr r186.run.inc).tr i195)); rfl)))) ?_
              refine FB.all1 (i := 33) (by kernel_rfl) ?_
              ·
               refine FC.call (l' := (bs 37 17179869183)) rfl (by kernel_rfl) (wF_yes rfl rfl rfl hc141_17) rfl rfl (E.callV Tryz.call195 rfl (appA (A1 rfl) #[])) (w_impl_seqCorrect_2 S194.sl (Sequent.mk r181 x43.seq.right) v189 (h196.mono upI) v47 (h48.mono ((((((((i27.tr i35).tr i58).tr r137.inc).tr r147.run.inc).tr i156).tr r162.inc).tr r186.run.inc).tr i195))) ?_
               rintro e w199 ⟨H198, q202, rfl, r201, h203⟩
               refine ⟨_, rfl, ?_⟩
               have S200 := S194.call r201
               refine ⟨(SP.nil (Sl.of_inc (((((r147.run.inc.tr i156).tr r162.inc).tr r186.run.inc).tr i195).tr r201.inc) S200.sl)), ?_⟩
               refine FB.all1 (i := 34) (by kernel_rfl) ?_
               ·
                refine FC.call (l' := (bs 37 34359738367)) rfl (by kernel_rfl) (wF_yes rfl rfl rfl hc141_17) rfl rfl (E.callV Tryz.call194 rfl (appA (A2 rfl rfl) #[Value.pointer (some ⟨b29, 0, none⟩), Value.pointer (some ⟨b21, 0, none⟩)])) (w_impl_seqCorrect_1 S200.sl x43.b (Value.func (.func 196) #[] #[Value.pointer (some q202)]) (fun x0 => PF.impl_seqCorrect_2_1 x0 (Sequent.mk r181 x43.seq.right)) (fun H2 w2 hi2 hs2 x0 y0_0 z0_0 y0_1 z0_1 r hr => ⟨196, #[Value.pointer (some q202)], rfl, Tryz.call196, w_impl_seqCorrect_2_1 hs2 x0 y0_0 z0_0 y0_1 z0_1 q202 (Sequent.mk r181 x43.seq.right) v189 ((h196.mono (upI.tr r201.inc)).mono hi2) v47 ((h48.mono (((((((((i27.tr i35).tr i58).tr r137.inc).tr r147.run.inc).tr i156).tr r162.inc).tr r186.run.inc).tr i195).tr r201.inc)).mono hi2) (h203.mono hi2) hr⟩) ⟨b29, 0, none⟩ a1 (at36.mono (((((((i58.tr r137.inc).tr r147.run.inc).tr i156).tr r162.inc).tr r186.run.inc).tr i195).tr r201.inc)) ⟨b21, 0, none⟩ a0 v0 (p0.mono (((((((((i27.tr i35).tr i58).tr r137.inc).tr r147.run.inc).tr i156).tr r162.inc).tr r186.run.inc).tr i195).tr r201.inc)) (at28.mono ((((((((i35.tr i58).tr r137.inc).tr r147.run.inc).tr i156).tr r162.inc).tr r186.run.inc).tr i195).tr r201.inc)) hr205) ?_
                rintro e w206 ⟨rfl, r207⟩
                refine ⟨_, rfl, ?_⟩
                have S208 := S200.call r207
                refine ⟨(SP.nil (Sl.of_inc (((((r147.run.inc.tr i156).tr r162.inc).tr r186.run.inc).tr i195).tr r201.inc) S208.sl)), ?_⟩
                refine FB.t (i := 35) (bs 37 68719476735) rfl (SP.nil (Sl.of_inc (((((r147.run.inc.tr i156).tr r162.inc).tr r186.run.inc).tr i195).tr r201.inc) S208.sl)) rfl (fun w' hw' => (E.asB (E.pickT rfl hc141_17 rfl) (Option.some.inj hqt141_35))) ?_
                refine FB.t (i := 36) (bs 37 137438953471) rfl (SP.nil (Sl.of_inc (((((r147.run.inc.tr i156).tr r162.inc).tr r186.run.inc).tr i195).tr r201.inc) S208.sl)) rfl (fun w' hw' => (E.assign (v := Value.bool t141_35) rfl)) ?_
                exact FB.done (by kernel_rfl) ⟨_, (S208.sel [] (by decide) rfl), (((((r147.run.inc.tr i156).tr r162.inc).tr r186.run.inc).tr i195).tr r201.inc), rfl⟩
           ·
            refine FB.skip (i := 18) (l' := (bs 37 524287)) rfl (by kernel_rfl) (by kernel_rfl) (by kernel_rfl) (by kernel_rfl) (by kernel_rfl) (SP.nil (Sl.of_inc ((r147.run.inc.tr i156).tr r162.inc) S169.sl)) (wF_no rfl rfl rfl hc141_17) rfl rfl ?_
            refine FB.skip (i := 19) (l' := (bs 37 1048575)) rfl (by kernel_rfl) (by kernel_rfl) (by kernel_rfl) (by kernel_rfl) (by kernel_rfl) (SP.nil (Sl.of_inc ((r147.run.inc.tr i156).tr r162.inc) S169.sl)) (wF_no rfl rfl rfl hc141_17) rfl rfl ?_
            refine FB.skip (i := 20) (l' := (bs 37 2097151)) rfl (by kernel_rfl) (by kernel_rfl) (by kernel_rfl) (by kernel_rfl) (by kernel_rfl) (SP.nil (Sl.of_inc ((r147.run.inc.tr i156).tr r162.inc) S169.sl)) (wF_no rfl rfl rfl hc141_17) rfl rfl ?_
            refine FB.skip (i := 21) (l' := (bs 37 4194303)) rfl (by kernel_rfl) (by kernel_rfl) (by kernel_rfl) (by kernel_rfl) (by kernel_rfl) (SP.nil (Sl.of_inc ((r147.run.inc.tr i156).tr r162.inc) S169.sl)) (wF_no rfl rfl rfl hc141_17) rfl rfl ?_
            refine FB.skip (i := 22) (l' := (bs 37 8388607)) rfl (by kernel_rfl) (by kernel_rfl) (by kernel_rfl) (by kernel_rfl) (by kernel_rfl) (SP.nil (Sl.of_inc ((r147.run.inc.tr i156).tr r162.inc) S169.sl)) (wF_no rfl rfl rfl hc141_17) rfl rfl ?_
            refine FB.skip (i := 23) (l' := (bs 37 16777215)) rfl (by kernel_rfl) (by kernel_rfl) (by kernel_rfl) (by kernel_rfl) (by kernel_rfl) (SP.nil (Sl.of_inc ((r147.run.inc.tr i156).tr r162.inc) S169.sl)) (wF_no rfl rfl rfl hc141_17) rfl rfl ?_
            refine FB.skip (i := 24) (l' := (bs 37 33554431)) rfl (by kernel_rfl) (by kernel_rfl) (by kernel_rfl) (by kernel_rfl) (by kernel_rfl) (SP.nil (Sl.of_inc ((r147.run.inc.tr i156).tr r162.inc) S169.sl)) (wF_no rfl rfl rfl hc141_17) rfl rfl ?_
            refine FB.skip (i := 25) (l' := (bs 37 67108863)) rfl (by kernel_rfl) (by kernel_rfl) (by kernel_rfl) (by kernel_rfl) (by kernel_rfl) (SP.nil (Sl.of_inc ((r147.run.inc.tr i156).tr r162.inc) S169.sl)) (wF_no rfl rfl rfl hc141_17) rfl rfl ?_
            refine FB.skip (i := 26) (l' := (bs 37 134217727)) rfl (by kernel_rfl) (by kernel_rfl) (by kernel_rfl) (by kernel_rfl) (by kernel_rfl) (SP.nil (Sl.of_inc ((r147.run.inc.tr i156).tr r162.inc) S169.sl)) (wF_no rfl rfl rfl hc141_17) rfl rfl ?_
            refine FB.skip (i := 27) (l' := (bs 37 268435455)) rfl (by kernel_rfl) (by kernel_rfl) (by kernel_rfl) (by kernel_rfl) (by kernel_rfl) (SP.nil (Sl.of_inc ((r147.run.inc.tr i156).tr r162.inc) S169.sl)) (wF_no rfl rfl rfl hc141_17) rfl rfl ?_
            refine FB.skip (i := 28) (l' := (bs 37 536870911)) rfl (by kernel_rfl) (by kernel_rfl) (by kernel_rfl) (by kernel_rfl) (by kernel_rfl) (SP.nil (Sl.of_inc ((r147.run.inc.tr i156).tr r162.inc) S169.sl)) (wF_no rfl rfl rfl hc141_17) rfl rfl ?_
            refine FB.skip (i := 29) (l' := (bs 37 1073741823)) rfl (by kernel_rfl) (by kernel_rfl) (by kernel_rfl) (by kernel_rfl) (by kernel_rfl) (SP.nil (Sl.of_inc ((r147.run.inc.tr i156).tr r162.inc) S169.sl)) (wF_no rfl rfl rfl hc141_17) rfl rfl ?_
            refine FB.skip (i := 30) (l' := (bs 37 2147483647)) rfl (by kernel_rfl) (by kernel_rfl) (by kernel_rfl) (by kernel_rfl) (by kernel_rfl) (SP.nil (Sl.of_inc ((r147.run.inc.tr i156).tr r162.inc) S169.sl)) (wF_no rfl rfl rfl hc141_17) rfl rfl ?_
            refine FB.skip (i := 31) (l' := (bs 37 4294967295)) rfl (by kernel_rfl) (by kernel_rfl) (by kernel_rfl) (by kernel_rfl) (by kernel_rfl) (SP.nil (Sl.of_inc ((r147.run.inc.tr i156).tr r162.inc) S169.sl)) (wF_no rfl rfl rfl hc141_17) rfl rfl ?_
            refine FB.skip (i := 32) (l' := (bs 37 8589934591)) rfl (by kernel_rfl) (by kernel_rfl) (by kernel_rfl) (by kernel_rfl) (by kernel_rfl) (SP.nil (Sl.of_inc ((r147.run.inc.tr i156).tr r162.inc) S169.sl)) (wF_no rfl rfl rfl hc141_17) rfl rfl ?_
            refine FB.skip (i := 33) (l' := (bs 37 17179869183)) rfl (by kernel_rfl) (by kernel_rfl) (by kernel_rfl) (by kernel_rfl) (by kernel_rfl) (SP.nil (Sl.of_inc ((r147.run.inc.tr i156).tr r162.inc) S169.sl)) (wF_no rfl rfl rfl hc141_17) rfl rfl ?_
            refine FB.skip (i := 34) (l' := (bs 37 34359738367)) rfl (by kernel_rfl) (by kernel_rfl) (by kernel_rfl) (by kernel_rfl) (by kernel_rfl) (SP.nil (Sl.of_inc ((r147.run.inc.tr i156).tr r162.inc) S169.sl)) (wF_no rfl rfl rfl hc141_17) rfl rfl ?_
            refine FB.t (i := 35) (bs 37 68719476735) rfl (SP.nil (Sl.of_inc ((r147.run.inc.tr i156).tr r162.inc) S169.sl)) rfl (fun w' hw' => (E.asB (E.pickF rfl hc141_17 rfl) (Option.some.inj hqt141_35))) ?_
            refine FB.t (i := 36) (bs 37 137438953471) rfl (SP.nil (Sl.of_inc ((r147.run.inc.tr i156).tr r162.inc) S169.sl)) rfl (fun w' hw' => (E.assign (v := Value.bool t141_35) rfl)) ?_
            exact FB.done (by kernel_rfl) ⟨_, (S169.sel [] (by decide) rfl), ((r147.run.inc.tr i156).tr r162.inc), rfl⟩
      ·
       rintro f213 w212 ⟨H209, S210, i211, k214⟩
       refine FW.ret ?_
       obtain rfl := Option.some.inj hp
       exact ⟨.inr rfl, res1 rfl k214 ⟨rfl, S210.back⟩⟩
     ·
      refine FW.condF rfl c141 ?_
      refine FW.skip (FW.seq ?_)
      refine FW.draw (fun w' => Run w135.heap.size H134 w135 H134 w') (by kernel_rfl) (by kernel_rfl) (run_drew S136.sl) ?_
      refine FD.val rfl rfl rfl (fun w' hw' => (E.move (v := v138) rfl)) ?_
      obtain ⟨y215, hy216, hp⟩ := bnd hp
      obtain ⟨q217, v219, v220, rfl, at218, h221, h222⟩ := FAt.open h139 hy216
      refine FD.val rfl rfl rfl (fun w' hw' => (E.nilCheck rfl)) ?_
      refine FD.val rfl rfl rfl (fun w' hw' => (E.fieldAddr tf109_0 rfl)) ?_
      refine FD.val rfl rfl rfl (fun w' hw' => (E.load rfl (run_load1 Tryz.isAgg5 (at218.now (S136.call hw').sl) rfl))) ?_
      refine FD.call rfl rfl rfl (fun w' hw' => (E.call Tryz.call191 (A2 rfl rfl))) (fun w' hw' => Calls.cls hw' (w_impl_ruleFor (S136.call hw').sl y215.op true)) ?_
      refine FD.val rfl rfl rfl (fun w' hw' => (E.fieldAddr tf74_1 rfl)) ?_
      refine FD.val rfl rfl rfl (fun w' hw' => (E.load rfl (run_load1 Tryz.isAgg3 ((at59.mono r137.inc).now (S136.call hw').sl) rfl))) ?_
      refine FD.val rfl rfl rfl (fun w' hw' => (E.eql rfl rfl)) ?_
      refine FD.val rfl rfl rfl (fun w' hw' => (E.move (v := Value.bool ((PF.impl_ruleFor y215.op true) == x43.rule)) rfl)) ?_
      obtain ⟨t223, hqt223, hp⟩ := bnd hp
      refine FD.cut 7 (fun f => f 5 = Value.pointer (some ⟨b49, 0, none⟩) ∧ f 6 = Value.func (.func 194) #[] #[Value.pointer (some ⟨b29, 0, none⟩), Value.pointer (some ⟨b21, 0, none⟩)] ∧ f 7 = Value.func (.func 195) #[] #[] ∧ f 8 = Value.pointer (some q217) ∧ f 125 = Value.bool t223) ?_ ?_
      ·
       clear hp; have hp := hqt223; clear hqt223
       rcases ifB hp with ⟨c225, hp⟩ | ⟨c225, hp⟩
       ·
        refine FD.val (wF_yes rfl rfl rfl c225) rfl rfl (fun w' hw' => (E.fieldAddr tf74_0 rfl)) ?_
        refine FD.val (wF_yes rfl rfl rfl c225) rfl rfl (fun w' hw' => (E.fieldAddrN tf68_0 rfl rfl)) ?_
        refine FD.val (wF_yes rfl rfl rfl c225) rfl rfl (fun w' hw' => (E.load rfl (run_load1 Tryz.isAgg22 ((at59.mono r137.inc).now (S136.call hw').sl) rfl))) ?_
        refine FD.val (wF_yes rfl rfl rfl c225) rfl rfl (fun w' hw' => (E.fieldAddr tf74_2 rfl)) ?_
        refine FD.val (wF_yes rfl rfl rfl c225) rfl rfl (fun w' hw' => (E.load rfl (run_load1 Tryz.isAgg9 ((at59.mono r137.inc).now (S136.call hw').sl) rfl))) ?_
        obtain ⟨r226, hr227, hp⟩ := bnd hp
        refine FD.call (wF_yes rfl rfl rfl c225) rfl rfl (fun w' hw' => (E.call Tryz.call189 (A2 rfl rfl))) (fun w' hw' => Calls.cls hw' (w_slices_Contains_string_string (S136.call hw').sl v45 x43.seq.left (h46.mono (((i27.tr i35).tr i58).tr r137.inc)) x43.main hr227)) ?_
        obtain rfl := Option.some.inj hp
        refine FD.val rfl rfl rfl (fun w' hw' => (E.pickT rfl c225 rfl)) ?_
        exact FD.nil ⟨rfl, rfl, rfl, rfl, rfl⟩
       ·
        refine FD.skip (wF_no rfl rfl rfl c225) rfl ?_
        refine FD.skip (wF_no rfl rfl rfl c225) rfl ?_
        refine FD.skip (wF_no rfl rfl rfl c225) rfl ?_
        refine FD.skip (wF_no rfl rfl rfl c225) rfl ?_
        refine FD.skip (wF_no rfl rfl rfl c225) rfl ?_
        refine FD.skip (wF_no rfl rfl rfl c225) rfl ?_
        obtain rfl := Option.some.inj hp
        refine FD.val rfl rfl rfl (fun w' hw' => (E.pickF rfl c225 rfl)) ?_
        exact FD.nil ⟨rfl, rfl, rfl, rfl, rfl⟩
      rintro f224 ⟨k228, k229, k230, k231, k232⟩
      refine FD.val rfl rfl rfl (fun w' hw' => (E.assign k232)) ?_
      refine FD.nil ?_
      intro w233 r235
      have S234 := S136.call r235
      refine FW.seq ?_
      refine FW.draw (fun w' => Run w233.heap.size H134 w233 H134 w') (by kernel_rfl) (by kernel_rfl) (run_drew S234.sl) ?_
      refine FD.val rfl rfl rfl (fun w' hw' => (E.move k231)) ?_
      refine FD.val rfl rfl rfl (fun w' hw' => (E.nilCheck rfl)) ?_
      refine FD.val rfl rfl rfl (fun w' hw' => (E.fieldAddr tf109_0 rfl)) ?_
      refine FD.val rfl rfl rfl (fun w' hw' => (E.load rfl (run_load1 Tryz.isAgg5 (at218.now (S234.call hw').sl) rfl))) ?_
      refine FD.call rfl rfl rfl (fun w' hw' => (E.call Tryz.call191 (A2 rfl rfl))) (fun w' hw' => Calls.cls hw' (w_impl_ruleFor (S234.call hw').sl y215.op false)) ?_
      refine FD.val rfl rfl rfl (fun w' hw' => (E.fieldAddr tf74_1 k228)) ?_
      refine FD.val rfl rfl rfl (fun w' hw' => (E.load rfl (run_load1 Tryz.isAgg3 ((at59.mono r137.inc).now (S234.call hw').sl) rfl))) ?_
      refine FD.val rfl rfl rfl (fun w' hw' => (E.eql rfl rfl)) ?_
      refine FD.val rfl rfl rfl (fun w' hw' => (E.move (v := Value.bool ((PF.impl_ruleFor y215.op false) == x43.rule)) rfl)) ?_
      obtain ⟨t236, hqt236, hp⟩ := bnd hp
      refine FD.cut 7 (fun f => f 5 = Value.pointer (some ⟨b49, 0, none⟩) ∧ f 6 = Value.func (.func 194) #[] #[Value.pointer (some ⟨b29, 0, none⟩), Value.pointer (some ⟨b21, 0, none⟩)] ∧ f 7 = Value.func (.func 195) #[] #[] ∧ f 8 = Value.pointer (some q217) ∧ f 10 = Value.bool t223 ∧ f 141 = Value.bool t236) ?_ ?_
      ·
       clear hp; have hp := hqt236; clear hqt236
       rcases ifB hp with ⟨c238, hp⟩ | ⟨c238, hp⟩
       ·
        refine FD.val (wF_yes rfl rfl rfl c238) rfl rfl (fun w' hw' => (E.fieldAddr tf74_0 k228)) ?_
        refine FD.val (wF_yes rfl rfl rfl c238) rfl rfl (fun w' hw' => (E.fieldAddrN tf68_1 rfl rfl)) ?_
        refine FD.val (wF_yes rfl rfl rfl c238) rfl rfl (fun w' hw' => (E.load rfl (run_load1 Tryz.isAgg22 ((at59.mono r137.inc).now (S234.call hw').sl) rfl))) ?_
        refine FD.val (wF_yes rfl rfl rfl c238) rfl rfl (fun w' hw' => (E.fieldAddr tf74_2 k228)) ?_
        refine FD.val (wF_yes rfl rfl rfl c238) rfl rfl (fun w' hw' => (E.load rfl (run_load1 Tryz.isAgg9 ((at59.mono r137.inc).now (S234.call hw').sl) rfl))) ?_
        obtain ⟨r239, hr240, hp⟩ := bnd hp
        refine FD.call (wF_yes rfl rfl rfl c238) rfl rfl (fun w' hw' => (E.call Tryz.call189 (A2 rfl rfl))) (fun w' hw' => Calls.cls hw' (w_slices_Contains_string_string (S234.call hw').sl v47 x43.seq.right (h48.mono (((i27.tr i35).tr i58).tr r137.inc)) x43.main hr240)) ?_
        obtain rfl := Option.some.inj hp
        refine FD.val rfl rfl rfl (fun w' hw' => (E.pickT rfl c238 rfl)) ?_
        exact FD.nil ⟨k228, k229, k230, k231, rfl, rfl⟩
       ·
        refine FD.skip (wF_no rfl rfl rfl c238) rfl ?_
        refine FD.skip (wF_no rfl rfl rfl c238) rfl ?_
        refine FD.skip (wF_no rfl rfl rfl c238) rfl ?_
        refine FD.skip (wF_no rfl rfl rfl c238) rfl ?_
        refine FD.skip (wF_no rfl rfl rfl c238) rfl ?_
        refine FD.skip (wF_no rfl rfl rfl c238) rfl ?_
        obtain rfl := Option.some.inj hp
        refine FD.val rfl rfl rfl (fun w' hw' => (E.pickF rfl c238 rfl)) ?_
        exact FD.nil ⟨k228, k229, k230, k231, rfl, rfl⟩
      rintro f237 ⟨k241, k242, k243, k244, k245, k246⟩
      refine FD.val rfl rfl rfl (fun w' hw' => (E.assign k246)) ?_
      refine FD.nil ?_
      intro w247 r249
      have S248 := S234.call r249
      refine FW.seq (FW.seq (FW.region ?_))
      refine FL.v (E.fieldAddr tf74_1 k241) ?_
      refine FL.v (E.load rfl (run_load1 Tryz.isAgg3 ((at59.mono r137.inc).now S248.sl) rfl)) ?_
      refine FL.v (E.eql rfl rfl) ?_
      refine FL.v (E.move (v := Value.bool (x43.rule == 0)) rfl) ?_
      refine FL.cut 7 (fun f w => ∃ H : GH, St Ha wa H w [] ∧ Inc H134 H ∧ f 5 = Value.pointer (some ⟨b49, 0, none⟩) ∧ f 6 = Value.func (.func 194) #[] #[Value.pointer (some ⟨b29, 0, none⟩), Value.pointer (some ⟨b21, 0, none⟩)] ∧ f 7 = Value.func (.func 195) #[] #[] ∧ f 8 = Value.pointer (some q217) ∧ f 152 = Value.bool (bif (x43.rule == 0) then true else (bif (!t223) then (!t236) else false))) ?_ ?_
      ·
       rcases bcase (x43.rule == 0) with c255 | c255
       ·
        refine FL.skip (wF_no rfl rfl rfl c255) rfl ?_
        refine FL.skip (wF_no rfl rfl rfl c255) rfl ?_
        refine FL.skip (wF_no rfl rfl rfl c255) rfl ?_
        refine FL.skip (wF_undef rfl rfl rfl) rfl ?_
        refine FL.skip (wF_undef rfl rfl rfl) rfl ?_
        refine FL.skip (wF_no rfl rfl rfl c255) rfl ?_
        refine FL.v (E.pickT rfl c255 rfl) ?_
        exact FL.nil ⟨rfl, _, S248, (Inc.rfl _), k241, k242, k243, k244, (congrArg Value.bool (bifT c255).symm)⟩
       ·
        refine FL.val (wF_yes rfl rfl rfl c255) rfl rfl (E.move k245) ?_
        refine FL.val (wF_yes rfl rfl rfl c255) rfl rfl (E.not rfl) ?_
        refine FL.val (wF_yes rfl rfl rfl c255) rfl rfl (E.move (v := Value.bool (!t223)) rfl) ?_
        refine FL.cut 3 (fun f w => ∃ H : GH, St Ha wa H w [] ∧ Inc H134 H ∧ f 5 = Value.pointer (some ⟨b49, 0, none⟩) ∧ f 6 = Value.func (.func 194) #[] #[Value.pointer (some ⟨b29, 0, none⟩), Value.pointer (some ⟨b21, 0, none⟩)] ∧ f 7 = Value.func (.func 195) #[] #[] ∧ f 8 = Value.pointer (some q217) ∧ f 145 = Value.bool (x43.rule == 0) ∧ f 151 = Value.bool (bif (!t223) then (!t236) else false)) ?_ ?_
        ·
         rcases bcase (!t223) with c261 | c261
         ·
          refine FL.val (wF_yes rfl rfl rfl c261) rfl rfl (E.move (v := Value.bool t236) rfl) ?_
          refine FL.val (wF_yes rfl rfl rfl c261) rfl rfl (E.not rfl) ?_
          refine FL.val (wF_yes rfl rfl rfl c255) rfl rfl (E.pickT rfl c261 rfl) ?_
          exact FL.nil ⟨rfl, _, S248, (Inc.rfl _), k241, k242, k243, k244, rfl, (congrArg Value.bool (bifT c261).symm)⟩
         ·
          refine FL.skip (wF_no rfl rfl rfl c261) rfl ?_
          refine FL.skip (wF_no rfl rfl rfl c261) rfl ?_
          refine FL.val (wF_yes rfl rfl rfl c255) rfl rfl (E.pickF rfl c261 rfl) ?_
          exact FL.nil ⟨rfl, _, S248, (Inc.rfl _), k241, k242, k243, k244, rfl, (congrArg Value.bool (bifF c261).symm)⟩
        rintro f260 w259 ⟨H256, S257, i258, k262, k263, k264, k265, k266, k267⟩
        refine FL.v (E.pickF k266 c255 k267) ?_
        exact FL.nil ⟨rfl, _, S257, i258, k262, k263, k264, k265, (congrArg Value.bool (bifF c255).symm)⟩
      rintro f254 w253 ⟨H250, S251, i252, k268, k269, k270, k271, k272⟩
      refine FL.nil ?_
      rcases ifB hp with ⟨c273, hp⟩ | ⟨c273, hp⟩
      ·
       refine FW.condT k272 c273 ?_
       refine FW.seq (FW.region ?_)
       refine FL.v (E.assign (v := Value.bool false) rfl) ?_
       refine FL.nil ?_
       refine FW.ret ?_
       obtain rfl := Option.some.inj hp
       exact ⟨.inr rfl, res1 rfl rfl ⟨rfl, S251.back⟩⟩
      ·
       refine FW.condF k272 c273 ?_
       refine FW.skip (FW.seq (FW.region ?_))
       refine FL.v (E.fieldAddr tf74_0 k268) ?_
       refine FL.v (E.load rfl (run_loadA Tryz.isAgg68 Tryz.sizeOf68 (((at59.mono (r137.inc.tr i252)).now S251.sl).sub (j := 0) (n := 2) (c := [v45, v47]) rfl) rfl)) ?_
       refine FL.v (E.fieldAddr tf74_1 k268) ?_
       refine FL.v (E.load rfl (run_load1 Tryz.isAgg3 ((at59.mono (r137.inc.tr i252)).now S251.sl) rfl)) ?_
       refine FL.v (E.move k271) ?_
       obtain ⟨r274, hr275, hp⟩ := bnd hp
       refine FL.call rfl rfl rfl (E.call Tryz.call156 (A3 rfl rfl rfl)) (w_impl_premisesOf S251.sl x43.seq v45 (h46.mono ((((i27.tr i35).tr i58).tr r137.inc).tr i252)) v47 (h48.mono ((((i27.tr i35).tr i58).tr r137.inc).tr i252)) x43.rule (Value.pointer (some q217)) r132.1 (h139.mono i252) hr275) ?_
       rintro e w277 ⟨H276, v280, n281, cs282, rfl, r279, els283⟩
       refine ⟨_, rfl, ?_⟩
       have S278 := S251.join (l' := [.row 68 2 v280 n281 cs282]) r279 rfl
       refine FL.v (E.assign (v := v280) rfl) ?_
       refine FL.nil (FW.seq (FW.seq ?_))
       obtain ⟨x293, hx294, hp⟩ := bnd hp
       obtain ⟨r306, hr307, hp⟩ := bnd hp
       refine FW.drawB (SX Ha wa H276 [.row 68 2 v280 n281 cs282]) (fun f w => ∃ H : GH, St Ha wa H w [.row 68 2 v280 n281 cs282] ∧ Inc H276 H ∧ f 5 = Value.pointer (some ⟨b49, 0, none⟩) ∧ f 6 = Value.func (.func 194) #[] #[Value.pointer (some ⟨b29, 0, none⟩), Value.pointer (some ⟨b21, 0, none⟩)] ∧ f 7 = Value.func (.func 195) #[] #[] ∧ f 12 = v280 ∧ f 168 = Value.bool (!r306)) (by kernel_rfl) S278.sl ?_ ?_
       ·
        intro w284 r285
        have S286 := S278.call r285
        refine FB.t (i := 0) (bs 10 1) rfl (SP.nil ⟨_, S286, (Inc.rfl _)⟩) rfl (fun w' hw' => (E.move k269)) ?_
        refine FB.t (i := 1) (bs 10 3) rfl (SP.nil ⟨_, S286, (Inc.rfl _)⟩) rfl (fun w' hw' => (E.fieldAddr tf74_3 k268)) ?_
        refine FB.t (i := 2) (bs 10 7) rfl (SP.nil ⟨_, S286, (Inc.rfl _)⟩) rfl (fun w' hw' => (E.load rfl (run_load1 Tryz.isAgg3 ((at59.mono ((r137.inc.tr i252).tr r279.run.inc)).now hw'.sl) rfl))) ?_
        refine FB.t (i := 3) (bs 10 15) rfl (SP.nil ⟨_, S286, (Inc.rfl _)⟩) rfl (fun w' hw' => (E.move k270)) ?_
        refine FB.t (i := 4) (bs 10 31) rfl (SP.nil ⟨_, S286, (Inc.rfl _)⟩) rfl (fun w' hw' => (E.move (v := v280) rfl)) ?_
        obtain ⟨p287, cs288, pt289, l290, at291, rel292, hall295⟩ := S286.row_atA (i := 0) rfl els283 (by decide) hx294
        obtain ⟨v296, v298, rfl, h297, h299⟩ := eSequent_open rel292
        refine FB.t (i := 5) (bs 10 63) rfl (SP.nil ⟨_, S286, (Inc.rfl _)⟩) rfl (fun w' hw' => (E.indexAddr te172 rfl rfl pt289)) ?_
        refine FB.t (i := 6) (bs 10 127) rfl (SP.nil ⟨_, S286, (Inc.rfl _)⟩) rfl (fun w' hw' => (E.load rfl (run_loadA Tryz.isAgg68 Tryz.sizeOf68 (hw'.use fun _ st => hall295 _ _ _ 0 st rfl) rfl))) ?_
        refine FB.all1 (i := 7) (by kernel_rfl) ?_
        ·
         refine FC.call (l' := (bs 10 255)) rfl (by kernel_rfl) rfl rfl rfl (E.callV Tryz.call195 rfl (appA (A1 rfl) #[])) (w_impl_seqCorrect_2 S286.sl x293 v296 h297 v298 h299) ?_
         rintro e w301 ⟨H300, q304, rfl, r303, h305⟩
         refine ⟨_, rfl, ?_⟩
         have S302 := S286.call r303
         refine ⟨(SP.nil ⟨_, S302, r303.inc⟩), ?_⟩
         refine FB.all1 (i := 8) (by kernel_rfl) ?_
         ·
          refine FC.call (l' := (bs 10 511)) rfl (by kernel_rfl) rfl rfl rfl (E.callV Tryz.call194 rfl (appA (A2 rfl rfl) #[Value.pointer (some ⟨b29, 0, none⟩), Value.pointer (some ⟨b21, 0, none⟩)])) (w_impl_seqCorrect_1 S302.sl x43.a (Value.func (.func 196) #[] #[Value.pointer (some q304)]) (fun x0 => PF.impl_seqCorrect_2_1 x0 x293) (fun H2 w2 hi2 hs2 x0 y0_0 z0_0 y0_1 z0_1 r hr => ⟨196, #[Value.pointer (some q304)], rfl, Tryz.call196, w_impl_seqCorrect_2_1 hs2 x0 y0_0 z0_0 y0_1 z0_1 q304 x293 v296 ((h297.mono r303.inc).mono hi2) v298 ((h299.mono r303.inc).mono hi2) (h305.mono hi2) hr⟩) ⟨b29, 0, none⟩ a1 (at36.mono ((((i58.tr r137.inc).tr i252).tr r279.run.inc).tr r303.inc)) ⟨b21, 0, none⟩ a0 v0 (p0.mono ((((((i27.tr i35).tr i58).tr r137.inc).tr i252).tr r279.run.inc).tr r303.inc)) (at28.mono (((((i35.tr i58).tr r137.inc).tr i252).tr r279.run.inc).tr r303.inc)) hr307) ?_
          rintro e w308 ⟨rfl, r309⟩
          refine ⟨_, rfl, ?_⟩
          have S310 := S302.call r309
          refine ⟨(SP.nil ⟨_, S310, r303.inc⟩), ?_⟩
          refine FB.t (i := 9) (bs 10 1023) rfl (SP.nil ⟨_, S310, r303.inc⟩) rfl (fun w' hw' => (E.not rfl)) ?_
          exact FB.done (by kernel_rfl) ⟨_, S310, r303.inc, k268, k269, k270, rfl, rfl⟩
       ·
        rintro f315 w314 ⟨H311, S312, i313, k316, k317, k318, k319, k320⟩
        rcases ifB hp with ⟨c321, hp⟩ | ⟨c321, hp⟩
        ·
         refine FW.condT k320 c321 ?_
         refine FW.seq (FW.region ?_)
         refine FL.v (E.assign (v := Value.bool false) rfl) ?_
         refine FL.nil ?_
         refine FW.ret ?_
         obtain rfl := Option.some.inj hp
         exact ⟨.inr rfl, res1 rfl rfl ⟨rfl, S312.back⟩⟩
        ·
         refine FW.condF k320 c321 ?_
         refine FW.skip (FW.seq (FW.seq (FW.region ?_)))
         refine FL.v (E.move k319) ?_
         refine FL.v (E.lenO te172 rfl S312 (i := 0) rfl els283 (by decide)) ?_
         refine FL.v (E.eql rfl rfl) ?_
         refine FL.nil ?_
         rcases ifB hp with ⟨c322, hp⟩ | ⟨c322, hp⟩
         ·
          refine FW.condT rfl c322 ?_
          refine FW.seq (FW.region ?_)
          refine FL.v (E.fieldAddr tf74_4 k316) ?_
          refine FL.v (E.load rfl (run_load1 Tryz.isAgg3 ((at59.mono (((r137.inc.tr i252).tr r279.run.inc).tr i313)).now S312.sl) rfl)) ?_
          refine FL.v (E.eql rfl rfl) ?_
          refine FL.v (E.assign (v := Value.bool (x43.b == 0)) rfl) ?_
          refine FL.nil ?_
          refine FW.ret ?_
          obtain rfl := Option.some.inj hp
          exact ⟨.inr rfl, res1 rfl rfl ⟨rfl, S312.back⟩⟩
         ·
          refine FW.condF rfl c322 ?_
          refine FW.skip (FW.seq ?_)
          obtain ⟨x332, hx333, hp⟩ := bnd hp
          obtain ⟨r345, hr346, hp⟩ := bnd hp
          refine FW.drawB (SX Ha wa H311 [.row 68 2 v280 n281 cs282]) (fun f w => ∃ H : GH, St Ha wa H w [] ∧ Inc H311 H ∧ f 4 = Value.bool r345) (by kernel_rfl) S312.sl ?_ ?_
          ·
           intro w323 r324
           have S325 := S312.call r324
           refine FB.t (i := 0) (bs 10 1) rfl (SP.nil ⟨_, S325, (Inc.rfl _)⟩) rfl (fun w' hw' => (E.move k317)) ?_
           refine FB.t (i := 1) (bs 10 3) rfl (SP.nil ⟨_, S325, (Inc.rfl _)⟩) rfl (fun w' hw' => (E.fieldAddr tf74_4 k316)) ?_
           refine FB.t (i := 2) (bs 10 7) rfl (SP.nil ⟨_, S325, (Inc.rfl _)⟩) rfl (fun w' hw' => (E.load rfl (run_load1 Tryz.isAgg3 ((at59.mono (((r137.inc.tr i252).tr r279.run.inc).tr i313)).now hw'.sl) rfl))) ?_
           refine FB.t (i := 3) (bs 10 15) rfl (SP.nil ⟨_, S325, (Inc.rfl _)⟩) rfl (fun w' hw' => (E.move k318)) ?_
           refine FB.t (i := 4) (bs 10 31) rfl (SP.nil ⟨_, S325, (Inc.rfl _)⟩) rfl (fun w' hw' => (E.move k319)) ?_
           obtain ⟨p326, cs327, pt328, l329, at330, rel331, hall334⟩ := S325.row_atA (i := 0) rfl els283 (by decide) hx333
           obtain ⟨v335, v337, rfl, h336, h338⟩ := eSequent_open rel331
           refine FB.t (i := 5) (bs 10 63) rfl (SP.nil ⟨_, S325, (Inc.rfl _)⟩) rfl (fun w' hw' => (E.indexAddr te172 rfl rfl pt328)) ?_
           refine FB.t (i := 6) (bs 10 127) rfl (SP.nil ⟨_, S325, (Inc.rfl _)⟩) rfl (fun w' hw' => (E.load rfl (run_loadA Tryz.isAgg68 Tryz.sizeOf68 (hw'.use fun _ st => hall334 _ _ _ 0 st rfl) rfl))) ?_
           refine FB.all1 (i := 7) (by kernel_rfl) ?_
           ·
            refine FC.call (l' := (bs 10 255)) rfl (by kernel_rfl) rfl rfl rfl (E.callV Tryz.call195 rfl (appA (A1 rfl) #[])) (w_impl_seqCorrect_2 S325.sl x332 v335 (h336.mono i313) v337 (h338.mono i313)) ?_
            rintro e w340 ⟨H339, q343, rfl, r342, h344⟩
            refine ⟨_, rfl, ?_⟩
            have S341 := S325.call r342
            refine ⟨(SP.nil ⟨_, S341, r342.inc⟩), ?_⟩
            refine FB.all1 (i := 8) (by kernel_rfl) ?_
            ·
             refine FC.call (l' := (bs 10 511)) rfl (by kernel_rfl) rfl rfl rfl (E.callV Tryz.call194 rfl (appA (A2 rfl rfl) #[Value.pointer (some ⟨b29, 0, none⟩), Value.pointer (some ⟨b21, 0, none⟩)])) (w_impl_seqCorrect_1 S341.sl x43.b (Value.func (.func 196) #[] #[Value.pointer (some q343)]) (fun x0 => PF.impl_seqCorrect_2_1 x0 x332) (fun H2 w2 hi2 hs2 x0 y0_0 z0_0 y0_1 z0_1 r hr => ⟨196, #[Value.pointer (some q343)], rfl, Tryz.call196, w_impl_seqCorrect_2_1 hs2 x0 y0_0 z0_0 y0_1 z0_1 q343 x332 v335 ((h336.mono (i313.tr r342.inc)).mono hi2) v337 ((h338.mono (i313.tr r342.inc)).mono hi2) (h344.mono hi2) hr⟩) ⟨b29, 0, none⟩ a1 (at36.mono (((((i58.tr r137.inc).tr i252).tr r279.run.inc).tr i313).tr r342.inc)) ⟨b21, 0, none⟩ a0 v0 (p0.mono (((((((i27.tr i35).tr i58).tr r137.inc).tr i252).tr r279.run.inc).tr i313).tr r342.inc)) (at28.mono ((((((i35.tr i58).tr r137.inc).tr i252).tr r279.run.inc).tr i313).tr r342.inc)) hr346) ?_
             rintro e w347 ⟨rfl, r348⟩
             refine ⟨_, rfl, ?_⟩
             have S349 := S341.call r348
             refine ⟨(SP.nil ⟨_, S349, r342.inc⟩), ?_⟩
             refine FB.t (i := 9) (bs 10 1023) rfl (SP.nil ⟨_, S349, r342.inc⟩) rfl (fun w' hw' => (E.assign (v := Value.bool r345) rfl)) ?_
             exact FB.done (by kernel_rfl) ⟨_, (S349.sel [] (by decide) rfl), r342.inc, rfl⟩
          ·
           rintro f354 w353 ⟨H350, S351, i352, k355⟩
           refine FW.ret ?_
           obtain rfl := Option.some.inj hp
           exact ⟨.inr rfl, res1 rfl k355 ⟨rfl, S351.back⟩⟩

theorem w_impl_firstBadSeq {Ha : GH} {wa : World} (hs : Sl Ha wa) (v0 : Value) (a0 : List SeqStep) (p0 : RSl Ha eSeqStep 6 v0 a0) {r : Int} (hp : (PF.impl_firstBadSeq a0) = some r) :
  Calls Tryz.prog 110 #[v0] wa (Sc Ha wa (Value.int .i64 r)) := by
 unfold PF.impl_firstBadSeq at hp
 have S0 := St.init hs
 refine calls_go (N := 15) (args := [v0]) Tryz.func110 rfl rfl rfl ?_
 refine FW.seq (FW.region ?_)
 refine FL.v (E.assign (v := Value.int .i64 0) rfl) ?_
 refine FL.nil (FW.seq (FW.seq (FW.region ?_)))
 refine FL.v (E.move (v := v0) rfl) ?_
 refine FL.v (E.lenP te24 rfl p0) ?_
 refine FL.v (E.move (v := Value.int .i64 0) rfl) ?_
 refine FL.nil ?_
 obtain ⟨q22, hq, hp⟩ := bndR hp
 refine FW.block ?_
 refine FW.mono (FW.forL (S := Unit) (X := Int) (fun (i22 : Nat) (s22 : Unit) f w => ∃ H : GH, St Ha wa H w [] ∧ Inc Ha H ∧ f 6 = Value.int .i64 ((i22 : Nat) : Int) ∧ f 0 = v0 ∧ f 5 = Value.int .i64 (len a0)) (fun q e f w => match q with | .go s22 => e = Exit.exit 0 ∧ (∃ H : GH, St Ha wa H w [] ∧ Inc Ha H) | .rt x => ((e = Exit.ret) ∧ (fun e f w => (e = Exit.normal ∨ e = Exit.ret) ∧ ∀ a, Fr (δ := []) 15 a f → ∃ v, (results Tryz.f110 a.tmps).run Tryz.prog w = .ok v w ∧ (Sc Ha wa (Value.int .i64 x)) (.returned v) w) e f w)) hq ⟨_, S0, (Inc.rfl _), rfl, rfl, rfl⟩ ?_ ?_) ?_
 ·
  clear hp hq
  rintro i22 y21 s22 f41 w40 ⟨H37, S38, i39, k42, k43, k44⟩ hx22 o51 hp
  refine FW.seq (FW.region ?_)
  refine FL.v (E.lssT k42 k44 (lss_len hx22)) ?_
  refine FL.nil (FW.seq ?_)
  refine FW.condT rfl rfl ?_
  refine FW.skip (FW.seq (FW.block (FW.seq (FW.region ?_))))
  refine FL.v (E.move k42) ?_
  refine FL.v (E.assign (v := Value.int .i64 ((i22 : Nat) : Int)) rfl) ?_
  refine FL.nil (FW.seq (FW.region ?_))
  refine FL.v (E.move k43) ?_
  refine FL.v (E.move (v := Value.int .i64 ((i22 : Nat) : Int)) rfl) ?_
  obtain ⟨r45, hr46, hp⟩ := bnd hp
  refine FL.call rfl rfl rfl (E.call Tryz.call158 (A2 rfl rfl)) (w_impl_seqCorrect S38.sl v0 a0 (p0.mono i39) ((i22 : Nat) : Int) hr46) ?_
  rintro e w47 ⟨rfl, r48⟩
  refine ⟨_, rfl, ?_⟩
  have S49 := S38.call r48
  refine FL.v (E.not rfl) ?_
  refine FL.nil ?_
  rcases ifB hp with ⟨c50, hp⟩ | ⟨c50, hp⟩
  ·
   refine FW.condT rfl c50 ?_
   refine FW.seq (FW.region ?_)
   refine FL.v (E.move (v := Value.int .i64 ((i22 : Nat) : Int)) rfl) ?_
   refine FL.v (E.assign (v := Value.int .i64 ((i22 : Nat) : Int)) rfl) ?_
   refine FL.nil ?_
   refine FW.ret ?_
   obtain rfl := Option.some.inj hp
   exact ⟨nofun, rfl, ⟨.inr rfl, res1 rfl rfl ⟨rfl, S49.back⟩⟩⟩
  ·
   refine FW.condF rfl c50 ?_
   refine FW.skip (FW.region ?_)
   refine FL.v (E.add k42 rfl) ?_
   refine FL.v (E.move (v := Value.int .i64 (wr (((i22 : Nat) : Int) + 1))) rfl) ?_
   refine FL.nil ?_
   obtain rfl := Option.some.inj hp
   exact ⟨rfl, ⟨_, S49, i39, (nat_succ rfl (lt_of_get hx22) (p0.mono i39).le), k43, k44⟩⟩
 ·
  clear hp hq
  rintro s22 f61 w60 ⟨H57, S58, i59, k62, k63, k64⟩
  refine FW.seq (FW.region ?_)
  refine FL.v (E.lss k62 k64) ?_
  refine FL.nil (FW.seq ?_)
  refine FW.condF rfl dlt_len ?_
  refine FW.exit ?_
  exact ⟨nofun, rfl, ⟨_, S58, i59⟩⟩
 ·
  clear hq
  intro e f56 w55 hD
  rcases q22 with s22 | x22
  ·
   obtain ⟨rfl, hD⟩ := hD
   obtain ⟨H52, S53, i54⟩ := hD
   replace hp := el_go hp
   refine FW.seq (FW.region ?_)
   refine FL.v (E.assign (v := Value.int .i64 (-1)) rfl) ?_
   refine FL.nil ?_
   refine FW.ret ?_
   obtain rfl := Option.some.inj hp
   exact ⟨.inr rfl, res1 rfl rfl ⟨rfl, S53.back⟩⟩
  ·
   obtain ⟨he, hL⟩ := hD
   replace hp := el_rt hp
   obtain rfl := Option.some.inj hp
   subst he
   exact hL

theorem w_impl_isSeqProof {Ha : GH} {wa : World} (hs : Sl Ha wa) (v0 : Value) (a0 : List SeqStep) (p0 : RSl Ha eSeqStep 6 v0 a0) {r : Bool} (hp : (PF.impl_isSeqProof a0) = some r) :
  Calls Tryz.prog 62 #[v0] wa (Sc Ha wa (Value.bool r)) := by
 unfold PF.impl_isSeqProof at hp
 have S0 := St.init hs
 refine calls_go (N := 11) (args := [v0]) Tryz.func62 rfl rfl rfl ?_
 refine FW.seq (FW.region ?_)
 refine FL.v (E.assign (v := Value.bool false) rfl) ?_
 refine FL.nil (FW.seq (FW.region ?_))
 refine FL.v (E.move (v := v0) rfl) ?_
 refine FL.v (E.lenP te24 rfl p0) ?_
 refine FL.call rfl rfl rfl (E.call Tryz.call91 (A3 rfl rfl rfl)) (w_impl_within S0.sl (len a0) 1 200) ?_
 rintro e w21 ⟨rfl, r22⟩
 refine ⟨_, rfl, ?_⟩
 have S23 := S0.call r22
 refine FL.v (E.move (v := Value.bool (PF.impl_within (len a0) 1 200)) rfl) ?_
 obtain ⟨t29, hqt29, hp⟩ := bnd hp
 refine FL.cut 4 (fun f w => ∃ H : GH, St Ha wa H w [] ∧ Inc Ha H ∧ f 10 = Value.bool t29) ?_ ?_
 ·
  clear hp; have hp := hqt29; clear hqt29
  rcases ifB hp with ⟨c35, hp⟩ | ⟨c35, hp⟩
  ·
   refine FL.val (wF_yes rfl rfl rfl c35) rfl rfl (E.move (v := v0) rfl) ?_
   obtain ⟨r36, hr37, hp⟩ := bnd hp
   refine FL.call (wF_yes rfl rfl rfl c35) rfl rfl (E.call Tryz.call110 (A1 rfl)) (w_impl_firstBadSeq S23.sl v0 a0 p0 hr37) ?_
   rintro e w38 ⟨rfl, r39⟩
   refine ⟨_, rfl, ?_⟩
   have S40 := S23.call r39
   refine FL.val (wF_yes rfl rfl rfl c35) rfl rfl (E.lss rfl rfl) ?_
   obtain rfl := Option.some.inj hp
   refine FL.v (E.pickT rfl c35 rfl) ?_
   exact FL.nil ⟨rfl, _, S40, (Inc.rfl _), rfl⟩
  ·
   refine FL.skip (wF_no rfl rfl rfl c35) rfl ?_
   refine FL.skip (wF_no rfl rfl rfl c35) rfl ?_
   refine FL.skip (wF_no rfl rfl rfl c35) rfl ?_
   obtain rfl := Option.some.inj hp
   refine FL.v (E.pickF rfl c35 rfl) ?_
   exact FL.nil ⟨rfl, _, S23, (Inc.rfl _), rfl⟩
 rintro f34 w33 ⟨H30, S31, i32, k41⟩
 refine FL.v (E.assign k41) ?_
 refine FL.nil ?_
 refine FW.ret ?_
 obtain rfl := Option.some.inj hp
 exact ⟨.inr rfl, res1 rfl rfl ⟨rfl, S31.back⟩⟩

@[reducible] def p_impl_SeqStep_uses (Ha : GH) (wa : World) (r : (List Int)) : Ending → World → Prop :=
 fun e w' => ∃ H' : GH, ∃ v0 : Value, ∃ n0 : Nat, ∃ c0 : List Value, e = .returned (v0) ∧ St Ha wa H' w' [.row 3 1 v0 n0 c0] ∧ Els (up wa.heap.size H') eI 1 c0 r
set_option maxHeartbeats 4000000 in
theorem w_impl_SeqStep_uses {Ha : GH} {wa : World} (hs : Sl Ha wa) (a0 : SeqStep) (v0_0 : Value) (p0_0 : RSl Ha eS 1 v0_0 a0.seq.left) (v0_1 : Value) (p0_1 : RSl Ha eS 1 v0_1 a0.seq.right) :
  Calls Tryz.prog 113 #[Value.agg #[v0_0, v0_1, Value.int .i64 a0.rule, Value.string a0.main, Value.int .i64 a0.a, Value.int .i64 a0.b]] wa (p_impl_SeqStep_uses Ha wa (PF.impl_SeqStep_uses a0)) := by
 obtain ⟨r, hp⟩ : ∃ r, (PF.impl_SeqStep_uses a0) = r := ⟨_, rfl⟩
 rw [hp]
 unfold PF.impl_SeqStep_uses at hp
 have S0 := St.init hs
 refine calls_go (N := 20) (args := [Value.agg #[v0_0, v0_1, Value.int .i64 a0.rule, Value.string a0.main, Value.int .i64 a0.a, Value.int .i64 a0.b]]) Tryz.func113 rfl rfl rfl ?_
 refine FW.seq (FW.region ?_)
 obtain ⟨b21, w22, run23, S24⟩ := S0.box (P := Tryz.prog) 74 [v0_0, v0_1, Value.int .i64 a0.rule, Value.string a0.main, Value.int .i64 a0.a, Value.int .i64 a0.b] (v := Value.agg #[v0_0, v0_1, Value.int .i64 a0.rule, Value.string a0.main, Value.int .i64 a0.a, Value.int .i64 a0.b]) rfl (ones_cons p0_0.one (ones_cons p0_1.one (ones_cons rfl (ones_cons rfl (ones_cons rfl (ones_cons rfl ones_nil))))))
 refine FL.v (E.box rfl run23) ?_
 obtain ⟨H25, S26, i27, at28⟩ := S24.sealBox (i := 0) (l' := []) rfl rfl
 refine FL.v (E.assign (v := Value.slice none 0 0) rfl) ?_
 refine FL.nil (FW.seq (FW.seq (FW.region ?_)))
 refine FL.v (E.fieldAddr tf74_1 rfl) ?_
 refine FL.v (E.load rfl (run_load1 Tryz.isAgg3 (at28.now S26.sl) rfl)) ?_
 refine FL.nil (FW.block (FW.seq (FW.region ?_)))
 refine FL.v (E.eql rfl rfl) ?_
 refine FL.v (E.assign (v := Value.bool (a0.rule == 1)) rfl) ?_
 refine FL.nil ?_
 rcases ifT hp with ⟨c29, hp⟩ | ⟨c29, hp⟩
 ·
  refine FW.condT rfl c29 ?_
  refine FW.seq (FW.region ?_)
  refine FL.v (E.assign (v := Value.slice none 0 0) rfl) ?_
  refine FL.nil ?_
  refine FW.ret ?_
  obtain rfl := hp
  exact ⟨.inr rfl, res1 rfl rfl ⟨_, _, _, _, rfl, (S26.nil 3 1), Els.nil⟩⟩
 ·
  refine FW.condF rfl c29 ?_
  refine FW.seq (FW.seq (FW.region ?_))
  refine FL.v (E.eql rfl rfl) ?_
  refine FL.v (E.assign (v := Value.bool (a0.rule == 5)) rfl) ?_
  refine FL.nil ?_
  rcases ifT hp with ⟨c30, hp⟩ | ⟨c30, hp⟩
  ·
   refine FW.condT rfl c30 ?_
   refine FW.skip ?_
   refine FW.condT rfl c30 ?_
   refine FW.seq (FW.region ?_)
   refine FL.v (E.fieldAddr tf74_3 rfl) ?_
   refine FL.v (E.load rfl (run_load1 Tryz.isAgg3 (at28.now S26.sl) rfl)) ?_
   refine FL.v (E.fieldAddr tf74_4 rfl) ?_
   refine FL.v (E.load rfl (run_load1 Tryz.isAgg3 (at28.now S26.sl) rfl)) ?_
   obtain ⟨v31, w32, run33, S34, els35⟩ := S26.ints (P := Tryz.prog) te82 (up wa.heap.size H25) 2 [a0.a, a0.b]
   refine FL.v (E.buildSlice (B2 rfl rfl) run33) ?_
   refine FL.v (E.assign (v := v31) rfl) ?_
   refine FL.nil ?_
   refine FW.ret ?_
   obtain rfl := hp
   exact ⟨.inr rfl, res1 rfl rfl ⟨_, _, _, _, rfl, S34, els35⟩⟩
  ·
   refine FW.condF rfl c30 ?_
   refine FW.seq (FW.region ?_)
   refine FL.v (E.eql rfl rfl) ?_
   refine FL.v (E.assign (v := Value.bool (a0.rule == 6)) rfl) ?_
   refine FL.nil ?_
   rcases ifT hp with ⟨c36, hp⟩ | ⟨c36, hp⟩
   ·
    refine FW.condT rfl c36 ?_
    refine FW.skip ?_
    refine FW.condT rfl c36 ?_
    refine FW.seq (FW.region ?_)
    refine FL.v (E.fieldAddr tf74_3 rfl) ?_
    refine FL.v (E.load rfl (run_load1 Tryz.isAgg3 (at28.now S26.sl) rfl)) ?_
    refine FL.v (E.fieldAddr tf74_4 rfl) ?_
    refine FL.v (E.load rfl (run_load1 Tryz.isAgg3 (at28.now S26.sl) rfl)) ?_
    obtain ⟨v37, w38, run39, S40, els41⟩ := S26.ints (P := Tryz.prog) te82 (up wa.heap.size H25) 2 [a0.a, a0.b]
    refine FL.v (E.buildSlice (B2 rfl rfl) run39) ?_
    refine FL.v (E.assign (v := v37) rfl) ?_
    refine FL.nil ?_
    refine FW.ret ?_
    obtain rfl := hp
    exact ⟨.inr rfl, res1 rfl rfl ⟨_, _, _, _, rfl, S40, els41⟩⟩
   ·
    refine FW.condF rfl c36 ?_
    refine FW.seq (FW.region ?_)
    refine FL.v (E.eql rfl rfl) ?_
    refine FL.v (E.assign (v := Value.bool (a0.rule == 8)) rfl) ?_
    refine FL.nil ?_
    rcases ifT hp with ⟨c42, hp⟩ | ⟨c42, hp⟩
    ·
     refine FW.condT rfl c42 ?_
     refine FW.skip ?_
     refine FW.condT rfl c42 ?_
     refine FW.seq (FW.region ?_)
     refine FL.v (E.fieldAddr tf74_3 rfl) ?_
     refine FL.v (E.load rfl (run_load1 Tryz.isAgg3 (at28.now S26.sl) rfl)) ?_
     refine FL.v (E.fieldAddr tf74_4 rfl) ?_
     refine FL.v (E.load rfl (run_load1 Tryz.isAgg3 (at28.now S26.sl) rfl)) ?_
     obtain ⟨v43, w44, run45, S46, els47⟩ := S26.ints (P := Tryz.prog) te82 (up wa.heap.size H25) 2 [a0.a, a0.b]
     refine FL.v (E.buildSlice (B2 rfl rfl) run45) ?_
     refine FL.v (E.assign (v := v43) rfl) ?_
     refine FL.nil ?_
     refine FW.ret ?_
     obtain rfl := hp
     exact ⟨.inr rfl, res1 rfl rfl ⟨_, _, _, _, rfl, S46, els47⟩⟩
    ·
     refine FW.condF rfl c42 ?_
     refine FW.region ?_
     refine FL.v (E.eql rfl rfl) ?_
     refine FL.v (E.assign (v := Value.bool (a0.rule == 11)) rfl) ?_
     refine FL.nil ?_
     rcases ifT hp with ⟨c48, hp⟩ | ⟨c48, hp⟩
     ·
      refine FW.condT rfl c48 ?_
      refine FW.seq (FW.region ?_)
      refine FL.v (E.fieldAddr tf74_3 rfl) ?_
      refine FL.v (E.load rfl (run_load1 Tryz.isAgg3 (at28.now S26.sl) rfl)) ?_
      refine FL.v (E.fieldAddr tf74_4 rfl) ?_
      refine FL.v (E.load rfl (run_load1 Tryz.isAgg3 (at28.now S26.sl) rfl)) ?_
      obtain ⟨v49, w50, run51, S52, els53⟩ := S26.ints (P := Tryz.prog) te82 (up wa.heap.size H25) 2 [a0.a, a0.b]
      refine FL.v (E.buildSlice (B2 rfl rfl) run51) ?_
      refine FL.v (E.assign (v := v49) rfl) ?_
      refine FL.nil ?_
      refine FW.ret ?_
      obtain rfl := hp
      exact ⟨.inr rfl, res1 rfl rfl ⟨_, _, _, _, rfl, S52, els53⟩⟩
     ·
      refine FW.condF rfl c48 ?_
      refine FW.skip (FW.seq (FW.region ?_))
      refine FL.v (E.fieldAddr tf74_3 rfl) ?_
      refine FL.v (E.load rfl (run_load1 Tryz.isAgg3 (at28.now S26.sl) rfl)) ?_
      obtain ⟨v54, w55, run56, S57, els58⟩ := S26.ints (P := Tryz.prog) te82 (up wa.heap.size H25) 1 [a0.a]
      refine FL.v (E.buildSlice (B1 rfl) run56) ?_
      refine FL.v (E.assign (v := v54) rfl) ?_
      refine FL.nil ?_
      refine FW.ret ?_
      obtain rfl := hp
      exact ⟨.inr rfl, res1 rfl rfl ⟨_, _, _, _, rfl, S57, els58⟩⟩

@[reducible] def p_impl_trimSeq_1 (Ha : GH) (wa : World) (r : (List Int)) : Ending → World → Prop :=
 fun e w' => ∃ H' : GH, ∃ v0 : Value, ∃ n0 : Nat, ∃ c0 : List Value, e = .returned (v0) ∧ St Ha wa H' w' [.row 3 1 v0 n0 c0] ∧ Els (up wa.heap.size H') eI 1 c0 r
theorem w_impl_trimSeq_1 {Ha : GH} {wa : World} (hs : Sl Ha wa) (a0 : Int) (q0 : Addr) (b0 : List SeqStep) (u0_0 : Value) (g0_0 : RSl Ha eSeqStep 6 u0_0 b0) (c0 : CAt Ha q0 [u0_0]) {r : (List Int)} (hp : (PF.impl_trimSeq_1 a0 b0) = some r) :
  Calls Tryz.prog 112 #[Value.int .i64 a0, Value.pointer (some q0)] wa (p_impl_trimSeq_1 Ha wa r) := by
 unfold PF.impl_trimSeq_1 at hp
 have S0 := St.init hs
 refine calls_go (N := 9) (args := [Value.int .i64 a0, Value.pointer (some q0)]) Tryz.func112 rfl rfl rfl ?_
 refine FW.seq (FW.region ?_)
 refine FL.v (E.assign (v := Value.slice none 0 0) rfl) ?_
 refine FL.nil (FW.seq (FW.region ?_))
 refine FL.v (E.load rfl (run_load0 Tryz.isAgg24 (c0.now S0.sl) rfl)) ?_
 refine FL.v (E.move (v := Value.int .i64 a0) rfl) ?_
 obtain ⟨x27, hx28, hp⟩ := bnd hp
 obtain ⟨p21, cs22, pt23, l24, at25, rel26⟩ := g0_0.at hx28
 obtain ⟨v29, v31, rfl, h30, h32⟩ := eSeqStep_open rel26
 refine FL.v (E.indexAddr te24 rfl rfl pt23) ?_
 refine FL.v (E.load rfl (run_loadA Tryz.isAgg74 Tryz.sizeOf74 (at25.now S0.sl) rfl)) ?_
 refine FL.call rfl rfl rfl (E.call Tryz.call113 (A1 rfl)) (w_impl_SeqStep_uses S0.sl x27 v29 h30 v31 h32) ?_
 rintro e w34 ⟨H33, v37, n38, cs39, rfl, r36, els40⟩
 refine ⟨_, rfl, ?_⟩
 have els40 := els40.mono (up_le S0.size)
 have S35 := S0.join (l' := [.row 3 1 v37 n38 cs39]) r36 rfl
 refine FL.v (E.assign (v := v37) rfl) ?_
 refine FL.nil ?_
 refine FW.ret ?_
 obtain rfl := Option.some.inj hp
 exact ⟨.inr rfl, res1 rfl rfl ⟨_, _, _, _, rfl, S35, els40⟩⟩

@[reducible] def p_slices_Reverse_int_int (H0 : GH) (w0 : World) (Ha : GH) (L : List MO) (v0 : Value) (n0 : Nat) (r : (List Int)) : Ending → World → Prop :=
 fun e w' => ∃ H' : GH, ∃ c0k : List Value, e = .returned (Value.tuple #[]) ∧ (St H0 w0 H' w' (.row 3 1 v0 n0 c0k :: L) ∧ Inc Ha H') ∧ Els (up w0.heap.size H') eI 1 c0k r
set_option maxHeartbeats 4000000 in
theorem w_slices_Reverse_int_int {H0 Ha : GH} {w0 wa : World} {L : List MO} {v0 : Value} {n0 : Nat} {k0 : List Value} (S0 : St H0 w0 Ha wa (.row 3 1 v0 n0 k0 :: L)) (a0 : List Int) (p0 : Els (up w0.heap.size Ha) eI 1 k0 a0) {r : (List Int)} (hp : (PF.slices_Reverse_int_int a0) = some r) :
  Calls Tryz.prog 159 #[v0] wa (p_slices_Reverse_int_int H0 w0 Ha L v0 n0 r) := by
 unfold PF.slices_Reverse_int_int at hp
 refine calls_go (N := 28) (args := [v0]) Tryz.func159 rfl rfl rfl ?_
 refine FW.seq (FW.region ?_)
 refine FL.v (E.move (v := v0) rfl) ?_
 refine FL.v (E.lenO te82 rfl S0 (i := 0) rfl p0 (by decide)) ?_
 refine FL.v (E.sub rfl rfl) ?_
 refine FL.v (E.assign (v := Value.int .i64 0) rfl) ?_
 refine FL.v (E.assign (v := Value.int .i64 (wr ((len a0) - 1))) rfl) ?_
 refine FL.nil ?_
 obtain ⟨q21, hq, hp⟩ := bndR hp
 refine FW.block ?_
 refine FW.mono (FW.iter (S := ((List Int) × Int × Int)) (X := Empty) (fun (s21 : ((List Int) × Int × Int)) f w => ∃ H : GH, ∃ cs22 : List Value, St H0 w0 H w (.row 3 1 v0 n0 cs22 :: L) ∧ Inc Ha H ∧ Els (up w0.heap.size H) eI 1 cs22 s21.1 ∧ f 0 = v0 ∧ f 2 = Value.int .i64 s21.2.1 ∧ f 3 = Value.int .i64 s21.2.2) (fun (q : Rs ((List Int) × Int × Int) Empty) e f w => match q with | .go s21 => e = Exit.exit 0 ∧ (∃ H : GH, ∃ cs22 : List Value, St H0 w0 H w (.row 3 1 v0 n0 cs22 :: L) ∧ Inc Ha H ∧ Els (up w0.heap.size H) eI 1 cs22 s21.1) | .rt x => x.elim) hq ⟨_, _, S0, (Inc.rfl _), p0, rfl, rfl, rfl⟩ ?_) ?_
 ·
  clear hp hq
  rintro s21 f28 w27 ⟨H24, cs22, S25, i26, els23, k29, k30, k31⟩ o99 hp
  refine FW.seq (FW.seq (FW.region ?_))
  refine FL.v (E.move k30) ?_
  refine FL.v (E.move k31) ?_
  refine FL.v (E.lss rfl rfl) ?_
  refine FL.nil ?_
  rcases ifB hp with ⟨c32, hp⟩ | ⟨c32, hp⟩
  ·
   refine FW.condT rfl c32 ?_
   refine FW.skip (FW.seq (FW.block ?_))
   obtain ⟨x42, hx43, hp⟩ := bnd hp
   obtain ⟨x51, hx52, hp⟩ := bnd hp
   obtain ⟨x60, hx61, hp⟩ := bnd hp
   obtain ⟨xs66, hput67, hp⟩ := bnd hp
   obtain ⟨x77, hx78, hp⟩ := bnd hp
   obtain ⟨xs84, hput85, hp⟩ := bnd hp
   refine FW.drawB (Sl H24) (fun f w => ∃ H : GH, ∃ cs89 : List Value, St H0 w0 H w (.row 3 1 v0 n0 cs89 :: L) ∧ Inc H24 H ∧ Els (up w0.heap.size H) eI 1 cs89 xs84 ∧ f 0 = v0 ∧ f 2 = Value.int .i64 s21.2.1 ∧ f 3 = Value.int .i64 s21.2.2) (by kernel_rfl) S25.sl ?_ ?_
   ·
    intro w33 r34
    have S35 := S25.call r34
    refine FB.t (i := 0) (bs 16 1) rfl (SP.nil S35.sl) rfl (fun w' hw' => (E.move k29)) ?_
    refine FB.t (i := 1) (bs 16 3) rfl (SP.nil S35.sl) rfl (fun w' hw' => (E.move k30)) ?_
    refine FB.t (i := 2) (bs 16 7) rfl (SP.nil S35.sl) rfl (fun w' hw' => (E.move k29)) ?_
    refine FB.t (i := 3) (bs 16 15) rfl (SP.nil S35.sl) rfl (fun w' hw' => (E.move k31)) ?_
    refine FB.t (i := 4) (bs 16 31) rfl (SP.nil S35.sl) rfl (fun w' hw' => (E.move k29)) ?_
    refine FB.t (i := 5) (bs 16 63) rfl (SP.nil S35.sl) rfl (fun w' hw' => (E.move k31)) ?_
    obtain ⟨p36, cs37, pt38, l39, at40, rel41, hall44⟩ := S35.row_atA (i := 0) rfl els23 (by decide) hx43
    obtain rfl := eI_open rel41
    refine FB.t (i := 6) (bs 16 127) rfl (SP.nil S35.sl) rfl (fun w' hw' => (E.indexAddr te82 rfl rfl pt38)) ?_
    refine FB.phase [13, 15] (fun w' => WAt w' p36 [Value.int .i64 x42]) ?_
    refine FB.p (i := 7) (bs 16 255) 0 [12, 13, 14, 15] rfl (SP.on (hall44 _ _ _ 0 S35 rfl) (SP.nil S35.sl)) rfl rfl (fun w' hw' => (E.load rfl (run_load0 Tryz.isAgg3 hw' rfl))) ?_
    refine FB.t (i := 8) (bs 16 511) rfl (SP.on (hall44 _ _ _ 0 S35 rfl) (SP.nil S35.sl)) rfl (fun w' hw' => (E.move k29)) ?_
    refine FB.t (i := 9) (bs 16 1023) rfl (SP.on (hall44 _ _ _ 0 S35 rfl) (SP.nil S35.sl)) rfl (fun w' hw' => (E.move k30)) ?_
    obtain ⟨p45, cs46, pt47, l48, at49, rel50, hall53⟩ := S35.row_atA (i := 0) rfl els23 (by decide) hx52
    obtain rfl := eI_open rel50
    refine FB.t (i := 10) (bs 16 2047) rfl (SP.on (hall44 _ _ _ 0 S35 rfl) (SP.nil S35.sl)) rfl (fun w' hw' => (E.indexAddr te82 rfl rfl pt47)) ?_
    refine FB.phase [13, 15] (fun w' => WAt w' p45 [Value.int .i64 x51]) ?_
    refine FB.p (i := 11) (bs 16 4095) 0 [12, 13, 14, 15] rfl (SP.on (hall53 _ _ _ 0 S35 rfl) (SP.on (hall44 _ _ _ 0 S35 rfl) (SP.nil S35.sl))) rfl rfl (fun w' hw' => (E.load rfl (run_load0 Tryz.isAgg3 hw' rfl))) ?_
    obtain ⟨p54, cs55, pt56, l57, at58, rel59, hall62⟩ := S35.row_atA (i := 0) rfl els23 (by decide) hx61
    obtain rfl := eI_open rel59
    refine FB.t (i := 12) (bs 16 8191) rfl (SP.on (hall53 _ _ _ 0 S35 rfl) (SP.on (hall44 _ _ _ 0 S35 rfl) (SP.nil S35.sl))) rfl (fun w' hw' => (E.indexAddr te82 rfl rfl pt56)) ?_
    refine FB.all1 (i := 13) (by kernel_rfl) ?_
    ·
     obtain ⟨w63, cs69, run64, S65, els68, ce70⟩ := S35.putEls (P := Tryz.prog) (t := 3) (i := 0) rfl els23 hput67 pt56 Tryz.sizeOf3 (u := Value.int .i64 x42) (c := [Value.int .i64 x42]) rfl rfl (ones_cons rfl ones_nil) rfl
     have S65 : St H0 w0 H24 w63 (.row 3 1 v0 n0 cs69 :: L) := S65
     refine FC.act (l' := (bs 16 16383)) rfl (by kernel_rfl) rfl rfl (E.store rfl rfl run64) ?_
     refine ⟨(SP.o (SP.o (SP.nil S65.sl))), ?_⟩
     obtain ⟨p71, cs72, pt73, l74, at75, rel76, hall79⟩ := S65.row_atA (i := 0) rfl els68 (by decide) hx78
     obtain rfl := eI_open rel76
     refine FB.t (i := 14) (bs 16 32767) rfl (SP.o (SP.o (SP.nil S65.sl))) rfl (fun w' hw' => (E.indexAddr te82 rfl rfl pt73)) ?_
     refine FB.all1 (i := 15) (by kernel_rfl) ?_
     ·
      obtain ⟨w80, cs87, run81, S83, els86, ce88⟩ := S65.putEls (P := Tryz.prog) (t := 3) (i := 0) rfl els68 hput85 pt73 Tryz.sizeOf3 (u := Value.int .i64 x51) (c := [Value.int .i64 x51]) rfl rfl (ones_cons rfl ones_nil) rfl
      have S83 : St H0 w0 H24 w80 (.row 3 1 v0 n0 cs87 :: L) := S83
      refine FC.act (l' := (bs 16 65535)) rfl (by kernel_rfl) rfl rfl (E.store rfl rfl run81) ?_
      refine ⟨(SP.o (SP.o (SP.nil S83.sl))), ?_⟩
      exact FB.done (by kernel_rfl) ⟨_, _, S83, (Inc.rfl _), els86, k29, k30, k31⟩
   ·
    rintro f95 w94 ⟨H91, cs89, S92, i93, els90, k96, k97, k98⟩
    refine FW.region ?_
    refine FL.v (E.move k97) ?_
    refine FL.v (E.add rfl rfl) ?_
    refine FL.v (E.move k98) ?_
    refine FL.v (E.sub rfl rfl) ?_
    refine FL.v (E.assign (v := Value.int .i64 (wr (s21.2.1 + 1))) rfl) ?_
    refine FL.v (E.assign (v := Value.int .i64 (wr (s21.2.2 - 1))) rfl) ?_
    refine FL.nil ?_
    obtain rfl := Option.some.inj hp
    exact ⟨rfl, ⟨_, _, S92, (i26.tr i93), els90, k96, rfl, rfl⟩⟩
  ·
   refine FW.condF rfl c32 ?_
   refine FW.exit ?_
   obtain rfl := Option.some.inj hp
   exact ⟨nofun, rfl, ⟨_, _, S25, i26, els23⟩⟩
 ·
  clear hq
  intro e f104 w103 hD
  rcases q21 with s21 | x21
  ·
   obtain ⟨rfl, hD⟩ := hD
   obtain ⟨H100, cs22, S101, i102, els23⟩ := hD
   replace hp := el_go hp
   obtain rfl := Option.some.inj hp
   exact ⟨.inl rfl, res0 rfl ⟨_, _, rfl, ⟨S101, i102⟩, els23⟩⟩
  ·
   exact x21.elim

@[reducible] def p_impl_Sequent_clone (Ha : GH) (wa : World) (r : Sequent) : Ending → World → Prop :=
 fun e w' => ∃ H' : GH, ∃ v0_0 : Value, ∃ v0_1 : Value, e = .returned (Value.agg #[v0_0, v0_1]) ∧ Run wa.heap.size Ha wa H' w' ∧ (∃ c0 c1, Nest (up wa.heap.size H') eS 1 v0_0 r.left c0 ∧ Nest (up wa.heap.size H') eS 1 v0_1 r.right c1 ∧ Ap v0_0 c0 v0_1 c1)
theorem w_impl_Sequent_clone {Ha : GH} {wa : World} (hs : Sl Ha wa) (a0 : Sequent) (v0_0 : Value) (p0_0 : RSl Ha eS 1 v0_0 a0.left) (v0_1 : Value) (p0_1 : RSl Ha eS 1 v0_1 a0.right) {r : Sequent} (hp : (PF.impl_Sequent_clone a0) = some r) :
  Calls Tryz.prog 114 #[Value.agg #[v0_0, v0_1]] wa (p_impl_Sequent_clone Ha wa r) := by
 unfold PF.impl_Sequent_clone at hp
 have S0 := St.init hs
 refine calls_go (N := 10) (args := [Value.agg #[v0_0, v0_1]]) Tryz.func114 rfl rfl rfl ?_
 refine FW.seq (FW.region ?_)
 obtain ⟨b21, w22, run23, S24⟩ := S0.box (P := Tryz.prog) 68 [v0_0, v0_1] (v := Value.agg #[v0_0, v0_1]) rfl (ones_cons p0_0.one (ones_cons p0_1.one ones_nil))
 refine FL.v (E.box rfl run23) ?_
 obtain ⟨H25, S26, i27, at28⟩ := S24.sealBox (i := 0) (l' := []) rfl rfl
 obtain ⟨b29, w30, run31, S32⟩ := S26.alloc (P := Tryz.prog) 68 [Value.slice none 0 0, Value.slice none 0 0] Tryz.zeroValue68 rfl (ones_cons rfl (ones_cons rfl ones_nil))
 refine FL.v (E.alloc run31) ?_
 refine FL.nil (FW.seq ?_)
 obtain ⟨r36, hr37, hp⟩ := bnd hp
 obtain ⟨r46, hr47, hp⟩ := bnd hp
 refine FW.drawB (Sl H25) (fun f w => ∃ H : GH, ∃ v70 : Value, ∃ v73 : Value, St Ha wa H w [.box b29 68 [v70, v73]] ∧ Inc H25 H ∧ RSl (up wa.heap.size H) eS 1 v70 r36 ∧ RSl (up wa.heap.size H) eS 1 v73 r46 ∧ New H25 [v70] ∧ New H25 [v73] ∧ (∀ b ∈ bl [v70], b ∉ bl [v73]) ∧ f 2 = Value.pointer (some (⟨b29, 0, none⟩ : Addr))) (by kernel_rfl) S32.sl ?_ ?_
 ·
  intro w33 r34
  have S35 := S32.call r34
  refine FB.t (i := 0) (bs 8 1) rfl (SP.nil S35.sl) rfl (fun w' hw' => (E.fieldAddr tf68_0 rfl)) ?_
  refine FB.t (i := 1) (bs 8 3) rfl (SP.nil S35.sl) rfl (fun w' hw' => (E.load rfl (run_load1 Tryz.isAgg22 (at28.now hw') rfl))) ?_
  refine FB.t (i := 3) (bs 8 11) rfl (SP.nil S35.sl) rfl (fun w' hw' => (E.fieldAddr tf68_1 rfl)) ?_
  refine FB.t (i := 4) (bs 8 27) rfl (SP.nil S35.sl) rfl (fun w' hw' => (E.load rfl (run_load1 Tryz.isAgg22 (at28.now hw') rfl))) ?_
  refine FB.all1 (i := 2) (by kernel_rfl) ?_
  ·
   refine FC.call (l' := (bs 8 31)) rfl (by kernel_rfl) rfl rfl rfl (E.call Tryz.call160 (A1 rfl)) (w_slices_Clone_string_string S35.sl v0_0 a0.left (p0_0.mono i27) hr37) ?_
   rintro e w39 ⟨H38, v42, n43, cs44, rfl, r41, els45⟩
   refine ⟨_, rfl, ?_⟩
   have els45 := els45.mono (up_le S35.size)
   have S40 := S35.join (l' := [.row 9 1 v42 n43 cs44, .box b29 68 [Value.slice none 0 0, Value.slice none 0 0]]) r41 rfl
   refine ⟨(SP.nil (Sl.of_inc r41.run.inc S40.sl)), ?_⟩
   refine FB.all1 (i := 5) (by kernel_rfl) ?_
   ·
    refine FC.call (l' := (bs 8 63)) rfl (by kernel_rfl) rfl rfl rfl (E.call Tryz.call160 (A1 rfl)) (w_slices_Clone_string_string S40.sl v0_1 a0.right (p0_1.mono (i27.tr r41.run.inc)) hr47) ?_
    rintro e w49 ⟨H48, v52, n53, cs54, rfl, r51, els55⟩
    refine ⟨_, rfl, ?_⟩
    have els55 := els55.mono (up_le S40.size)
    have S50 := S40.join (l' := [.row 9 1 v52 n53 cs54, .row 9 1 v42 n43 cs44, .box b29 68 [Value.slice none 0 0, Value.slice none 0 0]]) r51 rfl
    refine ⟨(SP.nil (Sl.of_inc (r41.run.inc.tr r51.run.inc) S50.sl)), ?_⟩
    obtain ⟨H56, S57, i58, h59, nv60⟩ := S50.sealRowU (i := 1) (l' := [.row 9 1 v52 n53 cs54, .box b29 68 [Value.slice none 0 0, Value.slice none 0 0]]) rfl (els45.mono (up_mono r51.run.inc)) (by decide) rfl
    obtain ⟨H61, S62, i63, h64, nv65⟩ := S57.sealRowU (i := 0) (l' := [.box b29 68 [Value.slice none 0 0, Value.slice none 0 0]]) rfl (els55.mono (up_mono i58)) (by decide) rfl
    refine FB.t (i := 6) (bs 8 127) rfl (SP.nil (Sl.of_inc (r41.run.inc.tr r51.run.inc) S50.sl)) rfl (fun w' hw' => (E.build (B2 rfl rfl) (run_build _ 68 #[(0, v42), (1, v52)] #[v42, v52] (by obtain ⟨_, _, rfl⟩ := RSl.ln (h59.mono (upI.tr i63)); obtain ⟨_, _, rfl⟩ := RSl.ln (h64.mono upI); rfl)))) ?_
    refine FB.all1 (i := 7) (by kernel_rfl) ?_
    ·
     obtain ⟨w66, run67, S69⟩ := S62.store0 (P := Tryz.prog) (t := 68) (i := 0) (cs' := [v42, v52]) (l' := [.box b29 68 [v42, v52]]) (v := Value.agg #[v42, v52]) (c := [v42, v52]) rfl Tryz.sizeOf68 rfl rfl (ones_cons h59.one (ones_cons h64.one ones_nil)) (Nat.le_of_ble_eq_true rfl) rfl rfl
     refine FC.act (l' := (bs 8 255)) rfl (by kernel_rfl) rfl rfl (E.store rfl rfl run67) ?_
     refine ⟨(SP.nil (Sl.of_inc (((r41.run.inc.tr r51.run.inc).tr i58).tr i63) S69.sl)), ?_⟩
     exact FB.done (by kernel_rfl) ⟨_, _, _, S69, (((r41.run.inc.tr r51.run.inc).tr i58).tr i63), (h59.mono (up_mono i63)), h64, (nv60.anti (r41.run.inc.tr r51.run.inc)), (nv65.anti ((r41.run.inc.tr r51.run.inc).tr i58)), (New.apart (h59.mono (up_mono (Inc.rfl _))) nv65), rfl⟩
 ·
  rintro f81 w80 ⟨H77, v70, v73, S78, i79, h71, h74, nv72, nv75, hd76, k82⟩
  refine FW.ret ?_
  obtain rfl := Option.some.inj hp
  exact ⟨.inr rfl, resC rfl k82 (loadVar_A Tryz.isAgg68 Tryz.sizeOf68 (S78.box_now (i := 0) rfl) rfl) ⟨_, _, _, rfl, S78.run, (Ap.flat2 h71 eS_flat (by decide) h74 eS_flat (by decide) hd76)⟩⟩

theorem w_slices_Index_int_int {Ha : GH} {wa : World} (hs : Sl Ha wa) (v0 : Value) (a0 : List Int) (p0 : RSl Ha eI 1 v0 a0) (a1 : Int) {r : Int} (hp : (PF.slices_Index_int_int a0 a1) = some r) :
  Calls Tryz.prog 115 #[v0, Value.int .i64 a1] wa (Sc Ha wa (Value.int .i64 r)) := by
 unfold PF.slices_Index_int_int at hp
 have S0 := St.init hs
 refine calls_go (N := 19) (args := [v0, Value.int .i64 a1]) Tryz.func115 rfl rfl rfl ?_
 refine FW.seq (FW.region ?_)
 refine FL.v (E.assign (v := Value.int .i64 0) rfl) ?_
 refine FL.nil (FW.seq (FW.seq (FW.region ?_)))
 refine FL.v (E.move (v := v0) rfl) ?_
 refine FL.v (E.lenP te82 rfl p0) ?_
 refine FL.v (E.move (v := Value.int .i64 0) rfl) ?_
 refine FL.nil ?_
 obtain ⟨q22, hq, hp⟩ := bndR hp
 refine FW.block ?_
 refine FW.mono (FW.forL (S := Unit) (X := Int) (fun (i22 : Nat) (s22 : Unit) f w => ∃ H : GH, St Ha wa H w [] ∧ Inc Ha H ∧ f 8 = Value.int .i64 ((i22 : Nat) : Int) ∧ f 0 = v0 ∧ f 1 = Value.int .i64 a1 ∧ f 7 = Value.int .i64 (len a0)) (fun q e f w => match q with | .go s22 => e = Exit.exit 0 ∧ (∃ H : GH, St Ha wa H w [] ∧ Inc Ha H) | .rt x => ((e = Exit.ret) ∧ (fun e f w => (e = Exit.normal ∨ e = Exit.ret) ∧ ∀ a, Fr (δ := []) 19 a f → ∃ v, (results Tryz.f115 a.tmps).run Tryz.prog w = .ok v w ∧ (Sc Ha wa (Value.int .i64 x)) (.returned v) w) e f w)) hq ⟨_, S0, (Inc.rfl _), rfl, rfl, rfl, rfl⟩ ?_ ?_) ?_
 ·
  clear hp hq
  rintro i22 y21 s22 f43 w42 ⟨H39, S40, i41, k44, k45, k46, k47⟩ hx22 o55 hp
  refine FW.seq (FW.region ?_)
  refine FL.v (E.lssT k44 k47 (lss_len hx22)) ?_
  refine FL.nil (FW.seq ?_)
  refine FW.condT rfl rfl ?_
  refine FW.skip (FW.seq (FW.block (FW.seq (FW.region ?_))))
  refine FL.v (E.move k44) ?_
  refine FL.v (E.assign (v := Value.int .i64 ((i22 : Nat) : Int)) rfl) ?_
  refine FL.nil (FW.seq (FW.region ?_))
  refine FL.v (E.move k46) ?_
  refine FL.v (E.move k45) ?_
  refine FL.v (E.move (v := Value.int .i64 ((i22 : Nat) : Int)) rfl) ?_
  obtain ⟨p48, cs49, pt50, l51, at52, rel53⟩ := p0.at (ix_nat hx22)
  obtain rfl := eI_open rel53
  refine FL.v (E.indexAddr te82 rfl rfl pt50) ?_
  refine FL.v (E.load rfl (run_load0 Tryz.isAgg3 ((at52.mono i41).now S40.sl) rfl)) ?_
  refine FL.v (E.eql rfl rfl) ?_
  refine FL.nil ?_
  rcases ifB hp with ⟨c54, hp⟩ | ⟨c54, hp⟩
  ·
   refine FW.condT rfl c54 ?_
   refine FW.seq (FW.region ?_)
   refine FL.v (E.move (v := Value.int .i64 ((i22 : Nat) : Int)) rfl) ?_
   refine FL.v (E.assign (v := Value.int .i64 ((i22 : Nat) : Int)) rfl) ?_
   refine FL.nil ?_
   refine FW.ret ?_
   obtain rfl := Option.some.inj hp
   exact ⟨nofun, rfl, ⟨.inr rfl, res1 rfl rfl ⟨rfl, S40.back⟩⟩⟩
  ·
   refine FW.condF rfl c54 ?_
   refine FW.skip (FW.region ?_)
   refine FL.v (E.add k44 rfl) ?_
   refine FL.v (E.move (v := Value.int .i64 (wr (((i22 : Nat) : Int) + 1))) rfl) ?_
   refine FL.nil ?_
   obtain rfl := Option.some.inj hp
   exact ⟨rfl, ⟨_, S40, i41, (nat_succ rfl (lt_of_get hx22) (p0.mono i41).le), k45, k46, k47⟩⟩
 ·
  clear hp hq
  rintro s22 f65 w64 ⟨H61, S62, i63, k66, k67, k68, k69⟩
  refine FW.seq (FW.region ?_)
  refine FL.v (E.lss k66 k69) ?_
  refine FL.nil (FW.seq ?_)
  refine FW.condF rfl dlt_len ?_
  refine FW.exit ?_
  exact ⟨nofun, rfl, ⟨_, S62, i63⟩⟩
 ·
  clear hq
  intro e f60 w59 hD
  rcases q22 with s22 | x22
  ·
   obtain ⟨rfl, hD⟩ := hD
   obtain ⟨H56, S57, i58⟩ := hD
   replace hp := el_go hp
   refine FW.seq (FW.region ?_)
   refine FL.v (E.assign (v := Value.int .i64 (-1)) rfl) ?_
   refine FL.nil ?_
   refine FW.ret ?_
   obtain rfl := Option.some.inj hp
   exact ⟨.inr rfl, res1 rfl rfl ⟨rfl, S57.back⟩⟩
  ·
   obtain ⟨he, hL⟩ := hD
   replace hp := el_rt hp
   obtain rfl := Option.some.inj hp
   subst he
   exact hL

@[reducible] def p_impl_trimSeq (Ha : GH) (wa : World) (r : (List SeqStep)) : Ending → World → Prop :=
 fun e w' => ∃ H' : GH, ∃ v0 : Value, ∃ n0 : Nat, ∃ c0 : List Value, e = .returned (v0) ∧ St Ha wa H' w' [.row 74 6 v0 n0 c0] ∧ Els (up wa.heap.size H') eSeqStep 6 c0 r ∧ (bl c0).Nodup
set_option maxHeartbeats 4000000 in
theorem w_impl_trimSeq {Ha : GH} {wa : World} (hs : Sl Ha wa) (v0 : Value) (a0 : List SeqStep) (p0 : RSl Ha eSeqStep 6 v0 a0) {r : (List SeqStep)} (hp : (PF.impl_trimSeq a0) = some r) :
  Calls Tryz.prog 63 #[v0] wa (p_impl_trimSeq Ha wa r) := by
 unfold PF.impl_trimSeq at hp
 have S0 := St.init hs
 refine calls_go (N := 50) (args := [v0]) Tryz.func63 rfl rfl rfl ?_
 refine FW.seq (FW.region ?_)
 obtain ⟨b21, w22, run23, S24⟩ := S0.box (P := Tryz.prog) 24 [v0] (v := v0) p0.cells (ones_cons p0.one ones_nil)
 refine FL.v (E.box rfl run23) ?_
 obtain ⟨H25, S26, i27, at28⟩ := S24.sealBox (i := 0) (l' := []) rfl rfl
 refine FL.v (E.assign (v := Value.slice none 0 0) rfl) ?_
 refine FL.nil (FW.seq (FW.region ?_))
 refine FL.v (E.load rfl (run_load0 Tryz.isAgg24 (at28.now S26.sl) rfl)) ?_
 refine FL.v (E.lenP te24 rfl p0) ?_
 refine FL.v (E.makeFunc A0 (A1 rfl)) ?_
 obtain ⟨s401, hq401, hp⟩ := bnd hp
 obtain ⟨R401, hR401⟩ : ∃ R401 : (List Int) → Ending → World → Prop, R401 = (fun s401 e w => ∃ H : GH, ∃ v402 : Value, ∃ n403 : Nat, ∃ cs404 : List Value, e = Ending.returned (v402) ∧ St Ha wa H w [.row 3 1 v402 n403 cs404] ∧ Inc H25 H ∧ Els (up wa.heap.size H) eI 1 cs404 s401) := ⟨_, rfl⟩
 have hc401 : Calls Tryz.prog 111 #[Value.int .i64 (len a0), Value.func (.func 112) #[] #[Value.pointer (some ⟨b21, 0, none⟩)]] w22 (R401 s401) := by
  clear hp; have hp := hq401; clear hq401
  refine calls_go (N := 48) (args := [Value.int .i64 (len a0), Value.func (.func 112) #[] #[Value.pointer (some ⟨b21, 0, none⟩)]]) Tryz.func111 rfl rfl rfl ?_
  refine FW.seq (FW.region ?_)
  refine FL.v (E.assign (v := Value.slice none 0 0) rfl) ?_
  refine FL.nil (FW.seq (FW.region ?_))
  refine FL.v (E.move (v := Value.int .i64 (len a0)) rfl) ?_
  obtain ⟨xs406, hm407, hp⟩ := bnd hp
  obtain ⟨v408, w409, n413, cs414, run410, S411, els412, hbl415⟩ := S26.makeEls (P := Tryz.prog) te81 (G := (up wa.heap.size H25)) (En := eB) (x0 := (false : Bool)) hm407 rfl (ones_cons rfl ones_nil) .i64 .i64
  refine FL.v (E.makeSlice rfl rfl run410) ?_
  refine FL.v (E.assign (v := v408) rfl) ?_
  refine FL.nil (FW.seq (FW.region ?_))
  refine FL.v (E.assign (v := Value.slice none 0 0) rfl) ?_
  refine FL.nil (FW.seq (FW.seq (FW.region ?_)))
  refine FL.v (E.move (v := Value.int .i64 (len a0)) rfl) ?_
  refine FL.v (E.sub rfl rfl) ?_
  refine FL.v (E.assign (v := Value.int .i64 (wr ((len a0) - 1))) rfl) ?_
  refine FL.nil ?_
  obtain ⟨q416, hq, hp⟩ := bndR hp
  refine FW.block ?_
  refine FW.mono (FW.iter (S := ((List Bool) × (List Int) × Int)) (X := Empty) (fun (s416 : ((List Bool) × (List Int) × Int)) f w => ∃ H : GH, ∃ v583 : Value, ∃ n584 : Nat, ∃ cs585 : List Value, ∃ v587 : Value, ∃ n588 : Nat, ∃ cs589 : List Value, St Ha wa H w [.row 4 1 v583 n584 cs585, .row 3 1 v587 n588 cs589] ∧ Inc H25 H ∧ Els (up wa.heap.size H) eB 1 cs585 s416.1 ∧ Els (up wa.heap.size H) eI 1 cs589 s416.2.1 ∧ f 0 = Value.int .i64 (len a0) ∧ f 1 = Value.func (.func 112) #[] #[Value.pointer (some ⟨b21, 0, none⟩)] ∧ f 5 = v583 ∧ f 6 = v587 ∧ f 7 = Value.int .i64 s416.2.2) (fun (q : Rs ((List Bool) × (List Int) × Int) Empty) e f w => match q with | .go s416 => e = Exit.exit 0 ∧ (∃ H : GH, ∃ v583 : Value, ∃ n584 : Nat, ∃ cs585 : List Value, ∃ v587 : Value, ∃ n588 : Nat, ∃ cs589 : List Value, St Ha wa H w [.row 4 1 v583 n584 cs585, .row 3 1 v587 n588 cs589] ∧ Inc H25 H ∧ Els (up wa.heap.size H) eB 1 cs585 s416.1 ∧ Els (up wa.heap.size H) eI 1 cs589 s416.2.1 ∧ f 6 = v587) | .rt x => x.elim) hq ⟨_, _, _, _, _, _, _, ((S411.nil 3 1).sel [1, 0] (by decide) rfl), (Inc.rfl _), els412, Els.nil, rfl, rfl, rfl, rfl, rfl⟩ ?_) ?_
  ·
   clear hp hq
   rintro s416 f757 w756 ⟨H753, v583, n584, cs585, v587, n588, cs589, S754, i755, els586, els590, k758, k759, k760, k761, k762⟩ o953 hp
   refine FW.seq (FW.seq (FW.region ?_))
   refine FL.v (E.move k762) ?_
   refine FL.v (E.geq rfl rfl) ?_
   refine FL.nil ?_
   rcases ifB hp with ⟨c763, hp⟩ | ⟨c763, hp⟩
   ·
    refine FW.condT rfl c763 ?_
    refine FW.skip (FW.seq (FW.block (FW.seq (FW.seq (FW.region ?_)))))
    refine FL.v (E.move k760) ?_
    refine FL.v (E.move k762) ?_
    obtain ⟨x770, hx771, hp⟩ := bnd hp
    obtain ⟨p764, cs765, pt766, l767, at768, rel769⟩ := S754.row_at (i := 0) rfl els586 (by decide) hx771
    obtain rfl := eB_open rel769
    refine FL.v (E.indexAddr te81 rfl rfl pt766) ?_
    refine FL.v (E.load rfl (run_load0 Tryz.isAgg4 at768 rfl)) ?_
    refine FL.v (E.not rfl) ?_
    refine FL.v (E.move (v := Value.bool (!x770)) rfl) ?_
    refine FL.cut 5 (fun f w => ∃ H : GH, St Ha wa H w [.row 4 1 v583 n584 cs585, .row 3 1 v587 n588 cs589] ∧ Inc H753 H ∧ f 0 = Value.int .i64 (len a0) ∧ f 1 = Value.func (.func 112) #[] #[Value.pointer (some ⟨b21, 0, none⟩)] ∧ f 5 = v583 ∧ f 6 = v587 ∧ f 7 = Value.int .i64 s416.2.2 ∧ f 28 = Value.bool (bif (!x770) then (decide (s416.2.2 < (wr ((len a0) - 1)))) else false)) ?_ ?_
    ·
     rcases bcase (!x770) with c778 | c778
     ·
      refine FL.val (wF_yes rfl rfl rfl c778) rfl rfl (E.move k762) ?_
      refine FL.val (wF_yes rfl rfl rfl c778) rfl rfl (E.move k758) ?_
      refine FL.val (wF_yes rfl rfl rfl c778) rfl rfl (E.sub rfl rfl) ?_
      refine FL.val (wF_yes rfl rfl rfl c778) rfl rfl (E.lss rfl rfl) ?_
      refine FL.v (E.pickT rfl c778 rfl) ?_
      exact FL.nil ⟨rfl, _, S754, (Inc.rfl _), k758, k759, k760, k761, k762, (congrArg Value.bool (bifT c778).symm)⟩
     ·
      refine FL.skip (wF_no rfl rfl rfl c778) rfl ?_
      refine FL.skip (wF_no rfl rfl rfl c778) rfl ?_
      refine FL.skip (wF_no rfl rfl rfl c778) rfl ?_
      refine FL.skip (wF_no rfl rfl rfl c778) rfl ?_
      refine FL.v (E.pickF rfl c778 rfl) ?_
      exact FL.nil ⟨rfl, _, S754, (Inc.rfl _), k758, k759, k760, k761, k762, (congrArg Value.bool (bifF c778).symm)⟩
    rintro f777 w776 ⟨H773, S774, i775, k779, k780, k781, k782, k783, k784⟩
    refine FL.nil ?_
    rcases ifB hp with ⟨c785, hp⟩ | ⟨c785, hp⟩
    ·
     refine FW.condT k784 c785 ?_
     refine FW.exit ?_
     refine FW.region ?_
     refine FL.v (E.move k783) ?_
     refine FL.v (E.sub rfl rfl) ?_
     refine FL.v (E.assign (v := Value.int .i64 (wr (s416.2.2 - 1))) rfl) ?_
     refine FL.nil ?_
     obtain rfl := Option.some.inj hp
     exact ⟨rfl, ⟨_, _, _, _, _, _, _, S774, (i755.tr i775), (els586.mono (up_mono i775)), (els590.mono (up_mono i775)), k779, k780, k781, k782, rfl⟩⟩
    ·
     refine FW.condF k784 c785 ?_
     refine FW.skip (FW.seq (FW.region ?_))
     refine FL.v (E.move k782) ?_
     refine FL.v (E.move k783) ?_
     obtain ⟨v786, w787, run788, S789, els790⟩ := S774.ints (P := Tryz.prog) te82 (up wa.heap.size H773) 1 [s416.2.2]
     refine FL.v (E.buildSlice (B1 rfl) run788) ?_
     obtain ⟨xs791, hz792, hp⟩ := bnd hp
     obtain ⟨v793, w796, n794, cs795, run797, S798, els799, ce800⟩ := S789.appendO (P := Tryz.prog) te82 (i := 2) (j := 0) rfl (els590.mono (up_mono i775)) rfl els790 hz792
     have S798 : St Ha wa H773 w796 [.row 3 1 v786 1 (iC [s416.2.2]), .row 4 1 v583 n584 cs585, .row 3 1 v793 n794 cs795] := S798
     have S801 : St Ha wa H773 w796 [.row 4 1 v583 n584 cs585, .row 3 1 v793 n794 cs795] := S798.drop 0
     refine FL.v (E.append rfl rfl run797) ?_
     refine FL.v (E.assign (v := v793) rfl) ?_
     refine FL.nil (FW.seq (FW.region ?_))
     refine FL.v (E.move k780) ?_
     refine FL.v (E.move k783) ?_
     obtain ⟨r802, hr803, hp⟩ := bnd hp
     refine FL.call rfl rfl rfl (E.callV Tryz.call112 rfl (appA (A1 rfl) #[Value.pointer (some ⟨b21, 0, none⟩)])) (w_impl_trimSeq_1 S801.sl s416.2.2 ⟨b21, 0, none⟩ a0 v0 (p0.mono ((i27.tr i755).tr i775)) (at28.mono (i755.tr i775)) hr803) ?_
     rintro e w805 ⟨H804, v808, n809, cs810, rfl, r807, els811⟩
     refine ⟨_, rfl, ?_⟩
     have els811 := els811.mono (up_le S801.size)
     have S806 := S801.join (l' := [.row 3 1 v808 n809 cs810, .row 4 1 v583 n584 cs585, .row 3 1 v793 n794 cs795]) r807 rfl
     refine FL.v (E.lenO te82 rfl S806 (i := 0) rfl els811 (by decide)) ?_
     refine FL.v (E.move (v := Value.int .i64 0) rfl) ?_
     refine FL.nil ?_
     obtain ⟨m812, hchk813, hp⟩ := bnd hp
     obtain ⟨q813, hq, hp⟩ := bndR hp
     refine FW.block ?_
     refine FW.mono (FW.forR (S := (List Bool)) (X := Empty) (fun (i813 : Nat) (s813 : (List Bool)) f w => ∃ H : GH, ∃ v851 : Value, ∃ n852 : Nat, ∃ cs853 : List Value, St Ha wa H w [.row 3 1 v808 n809 cs810, .row 4 1 v851 n852 cs853, .row 3 1 v793 n794 cs795] ∧ Inc H804 H ∧ Els (up wa.heap.size H) eB 1 cs853 s813 ∧ f 37 = Value.int .i64 ((i813 : Nat) : Int) ∧ f 0 = Value.int .i64 (len a0) ∧ f 1 = Value.func (.func 112) #[] #[Value.pointer (some ⟨b21, 0, none⟩)] ∧ f 5 = v851 ∧ f 6 = v793 ∧ f 7 = Value.int .i64 s416.2.2 ∧ f 35 = v808 ∧ f 36 = Value.int .i64 (len r802)) (fun (q : Rs (List Bool) Empty) e f w => match q with | .go s813 => e = Exit.exit 2 ∧ (∃ H : GH, ∃ v851 : Value, ∃ n852 : Nat, ∃ cs853 : List Value, St Ha wa H w [.row 3 1 v808 n809 cs810, .row 4 1 v851 n852 cs853, .row 3 1 v793 n794 cs795] ∧ Inc H804 H ∧ Els (up wa.heap.size H) eB 1 cs853 s813 ∧ f 0 = Value.int .i64 (len a0) ∧ f 1 = Value.func (.func 112) #[] #[Value.pointer (some ⟨b21, 0, none⟩)] ∧ f 5 = v851 ∧ f 6 = v793 ∧ f 7 = Value.int .i64 s416.2.2) | .rt x => x.elim) hq ⟨_, _, _, _, S806, (Inc.rfl _), (els586.mono (up_mono (i775.tr r807.run.inc))), rfl, k779, k780, k781, rfl, k783, rfl, rfl⟩ ?_ ?_) ?_
     ·
      clear hp hq
      rintro i813 s813 f896 w895 ⟨H892, v851, n852, cs853, S893, i894, els854, k897, k898, k899, k900, k901, k902, k903, k904⟩ hi813 hj813 o929 hp
      refine FW.seq (FW.region ?_)
      refine FL.v (E.lssT k897 k904 (lss_chk hj813 hchk813)) ?_
      refine FL.nil (FW.seq ?_)
      refine FW.condT rfl rfl ?_
      refine FW.skip (FW.seq (FW.block (FW.seq (FW.region ?_))))
      obtain ⟨x911, hx912, hp⟩ := bnd hp
      obtain ⟨p905, cs906, pt907, l908, at909, rel910⟩ := S893.row_at (i := 0) rfl els811 (by decide) hx912
      obtain rfl := eI_open rel910
      refine FL.v (E.indexAddr te82 k903 k897 pt907) ?_
      refine FL.v (E.load rfl (run_load0 Tryz.isAgg3 at909 rfl)) ?_
      refine FL.v (E.assign (v := Value.int .i64 x911) rfl) ?_
      refine FL.nil (FW.region ?_)
      refine FL.v (E.move k900) ?_
      refine FL.v (E.move (v := Value.int .i64 x911) rfl) ?_
      obtain ⟨x919, hx920, hp⟩ := bnd hp
      obtain ⟨p913, cs914, pt915, l916, at917, rel918⟩ := S893.row_at (i := 1) rfl els854 (by decide) hx920
      obtain rfl := eB_open rel918
      refine FL.v (E.indexAddr te81 rfl rfl pt915) ?_
      obtain ⟨xs924, hput925, hp⟩ := bnd hp
      obtain ⟨w921, cs927, run922, S923, els926, ce928⟩ := S893.putEls (P := Tryz.prog) (t := 4) (i := 1) rfl els854 hput925 pt915 Tryz.sizeOf4 (u := Value.bool true) (c := [Value.bool true]) rfl rfl (ones_cons rfl ones_nil) rfl
      have S923 : St Ha wa H892 w921 [.row 3 1 v808 n809 cs810, .row 4 1 v851 n852 cs927, .row 3 1 v793 n794 cs795] := S923
      refine FL.act rfl rfl (E.store rfl rfl run922) ?_
      refine FL.nil (FW.region ?_)
      refine FL.v (E.add k897 rfl) ?_
      refine FL.v (E.move (v := Value.int .i64 (wr (((i813 : Nat) : Int) + 1))) rfl) ?_
      refine FL.nil ?_
      obtain rfl := Option.some.inj hp
      exact ⟨rfl, ⟨_, _, _, _, S923, i894, els926, (nat_succ rfl hj813 (chk_le hchk813)), k898, k899, k900, k901, k902, k903, k904⟩⟩
     ·
      clear hp hq
      rintro s813 f944 w943 ⟨H940, v851, n852, cs853, S941, i942, els854, k945, k946, k947, k948, k949, k950, k951, k952⟩
      refine FW.seq (FW.region ?_)
      refine FL.v (E.lss k945 k952) ?_
      refine FL.nil (FW.seq ?_)
      refine FW.condF rfl (dlt_maxchk hchk813) ?_
      refine FW.exit ?_
      exact ⟨nofun, rfl, ⟨_, _, _, _, S941, i942, els854, k946, k947, k948, k949, k950⟩⟩
     ·
      clear hq
      intro e f934 w933 hD
      rcases q813 with s813 | x813
      ·
       obtain ⟨rfl, hD⟩ := hD
       obtain ⟨H930, v851, n852, cs853, S931, i932, els854, k935, k936, k937, k938, k939⟩ := hD
       replace hp := el_go hp
       refine FW.region ?_
       refine FL.v (E.move k939) ?_
       refine FL.v (E.sub rfl rfl) ?_
       refine FL.v (E.assign (v := Value.int .i64 (wr (s416.2.2 - 1))) rfl) ?_
       refine FL.nil ?_
       obtain rfl := Option.some.inj hp
       exact ⟨rfl, ⟨_, _, _, _, _, _, _, (S931.sel [1, 2] (by decide) rfl), (((i755.tr i775).tr r807.run.inc).tr i932), els854, (els799.mono (up_mono (r807.run.inc.tr i932))), k935, k936, k937, k938, rfl⟩⟩
      ·
       exact x813.elim
   ·
    refine FW.condF rfl c763 ?_
    refine FW.exit ?_
    obtain rfl := Option.some.inj hp
    exact ⟨nofun, rfl, ⟨_, _, _, _, _, _, _, S754, i755, els586, els590, k761⟩⟩
  ·
   clear hq
   intro e f958 w957 hD
   rcases q416 with s416 | x416
   ·
    obtain ⟨rfl, hD⟩ := hD
    obtain ⟨H954, v583, n584, cs585, v587, n588, cs589, S955, i956, els586, els590, k959⟩ := hD
    replace hp := el_go hp
    refine FW.seq (FW.region ?_)
    refine FL.v (E.move k959) ?_
    obtain ⟨r960, hr961, hp⟩ := bnd hp
    have S962 : St Ha wa H954 w957 [.row 3 1 v587 n588 cs589, .row 4 1 v583 n584 cs585] := S955.front 1 rfl rfl
    refine FL.call rfl rfl rfl (E.call Tryz.call159 (A1 rfl)) (w_slices_Reverse_int_int (L := [.row 4 1 v583 n584 cs585]) S962 s416.2.1 els590 hr961) ?_
    rintro e w964 ⟨H963, cs967, rfl, ⟨S965, i966⟩, els968⟩
    refine ⟨_, rfl, ?_⟩
    have S965 : St Ha wa H963 w964 [.row 3 1 v587 n588 cs967, .row 4 1 v583 n584 cs585] := S965
    refine FL.nil (FW.seq (FW.region ?_))
    refine FL.v (E.move k959) ?_
    refine FL.v (E.assign (v := v587) rfl) ?_
    refine FL.nil ?_
    refine FW.ret ?_
    obtain rfl := Option.some.inj hp
    exact ⟨.inr rfl, res1 rfl rfl (by rw [hR401]; exact ⟨_, _, _, _, rfl, (S965.sel [0] (by decide) rfl), (i956.tr i966), els968⟩)⟩
   ·
    exact x416.elim
 clear hq401
 refine FL.call rfl rfl rfl (E.call Tryz.call111 (A2 rfl rfl)) hc401 ?_
 intro e w972 hQ401
 rw [hR401] at hQ401
 obtain ⟨H969, v402, n403, cs404, rfl, S970, i971, els405⟩ := hQ401
 refine ⟨_, rfl, ?_⟩
 refine FL.v (E.assign (v := v402) rfl) ?_
 refine FL.nil (FW.seq (FW.region ?_))
 refine FL.v (E.assign (v := Value.slice none 0 0) rfl) ?_
 refine FL.nil (FW.seq (FW.seq (FW.region ?_)))
 refine FL.v (E.move (v := v402) rfl) ?_
 refine FL.v (E.lenO te82 rfl S970 (i := 0) rfl els405 (by decide)) ?_
 refine FL.v (E.move (v := Value.int .i64 0) rfl) ?_
 refine FL.nil ?_
 obtain ⟨m974, hchk975, hp⟩ := bnd hp
 obtain ⟨q975, hq, hp⟩ := bndR hp
 refine FW.block ?_
 refine FW.mono (FW.forR (S := (List SeqStep)) (X := Empty) (fun (i975 : Nat) (s975 : (List SeqStep)) f w => ∃ H : GH, ∃ v976 : Value, ∃ n977 : Nat, ∃ cs978 : List Value, St Ha wa H w [.row 3 1 v402 n403 cs404, .row 74 6 v976 n977 cs978] ∧ Inc H969 H ∧ Els (up wa.heap.size H) eSeqStep 6 cs978 s975 ∧ (bl cs978).Nodup ∧ f 15 = Value.int .i64 ((i975 : Nat) : Int) ∧ f 1 = Value.pointer (some ⟨b21, 0, none⟩) ∧ f 3 = v402 ∧ f 4 = v976 ∧ f 13 = v402 ∧ f 14 = Value.int .i64 (len s401)) (fun (q : Rs (List SeqStep) Empty) e f w => match q with | .go s975 => e = Exit.exit 0 ∧ (∃ H : GH, ∃ v976 : Value, ∃ n977 : Nat, ∃ cs978 : List Value, St Ha wa H w [.row 3 1 v402 n403 cs404, .row 74 6 v976 n977 cs978] ∧ Inc H969 H ∧ Els (up wa.heap.size H) eSeqStep 6 cs978 s975 ∧ (bl cs978).Nodup ∧ f 4 = v976) | .rt x => x.elim) hq ⟨_, _, _, _, ((S970.nil 74 6).sel [1, 0] (by decide) rfl), (Inc.rfl _), Els.nil, List.nodup_nil, rfl, rfl, rfl, rfl, rfl, rfl⟩ ?_ ?_) ?_
 ·
  clear hp hq
  rintro i975 s975 f33 w32 ⟨H29, v976, n977, cs978, S30, i31, els979, nd980, k34, k35, k36, k37, k38, k39⟩ hi975 hj975 o189 hp
  refine FW.seq (FW.region ?_)
  refine FL.v (E.lssT k34 k39 (lss_chk hj975 hchk975)) ?_
  refine FL.nil (FW.seq ?_)
  refine FW.condT rfl rfl ?_
  refine FW.skip (FW.seq (FW.block (FW.seq (FW.region ?_))))
  obtain ⟨x46, hx47, hp⟩ := bnd hp
  obtain ⟨p40, cs41, pt42, l43, at44, rel45⟩ := S30.row_at (i := 0) rfl els405 (by decide) hx47
  obtain rfl := eI_open rel45
  refine FL.v (E.indexAddr te82 k38 k34 pt42) ?_
  refine FL.v (E.load rfl (run_load0 Tryz.isAgg3 at44 rfl)) ?_
  refine FL.v (E.assign (v := Value.int .i64 x46) rfl) ?_
  refine FL.nil (FW.seq (FW.region ?_))
  refine FL.v (E.load k35 (run_load0 Tryz.isAgg24 ((at28.mono (i971.tr i31)).now S30.sl) rfl)) ?_
  refine FL.v (E.move (v := Value.int .i64 x46) rfl) ?_
  obtain ⟨x54, hx55, hp⟩ := bnd hp
  obtain ⟨p48, cs49, pt50, l51, at52, rel53⟩ := p0.at hx55
  obtain ⟨v56, v58, rfl, h57, h59⟩ := eSeqStep_open rel53
  refine FL.v (E.indexAddr te24 rfl rfl pt50) ?_
  refine FL.v (E.load rfl (run_loadA Tryz.isAgg74 Tryz.sizeOf74 ((at52.mono ((i27.tr i971).tr i31)).now S30.sl) rfl)) ?_
  obtain ⟨b60, w61, run62, S63⟩ := S30.alloc (P := Tryz.prog) 74 [Value.slice none 0 0, Value.slice none 0 0, Value.int .i64 0, Value.string ByteArray.empty, Value.int .i64 0, Value.int .i64 0] Tryz.zeroValue74 rfl (ones_cons rfl (ones_cons rfl (ones_cons rfl (ones_cons rfl (ones_cons rfl (ones_cons rfl ones_nil))))))
  refine FL.v (E.alloc run62) ?_
  obtain ⟨w64, run65, S66⟩ := S63.store0 (P := Tryz.prog) (t := 74) (i := 0) (cs' := [v56, v58, Value.int .i64 x54.rule, Value.string x54.main, Value.int .i64 x54.a, Value.int .i64 x54.b]) (l' := [.box b60 74 [v56, v58, Value.int .i64 x54.rule, Value.string x54.main, Value.int .i64 x54.a, Value.int .i64 x54.b], .row 3 1 v402 n403 cs404, .row 74 6 v976 n977 cs978]) (v := Value.agg #[v56, v58, Value.int .i64 x54.rule, Value.string x54.main, Value.int .i64 x54.a, Value.int .i64 x54.b]) (c := [v56, v58, Value.int .i64 x54.rule, Value.string x54.main, Value.int .i64 x54.a, Value.int .i64 x54.b]) rfl Tryz.sizeOf74 rfl rfl (ones_cons h57.one (ones_cons h59.one (ones_cons rfl (ones_cons rfl (ones_cons rfl (ones_cons rfl ones_nil)))))) (Nat.le_of_ble_eq_true rfl) rfl rfl
  refine FL.act rfl rfl (E.store rfl rfl run65) ?_
  refine FL.nil (FW.seq (FW.region ?_))
  refine FL.v (E.fieldAddr tf74_0 rfl) ?_
  refine FL.v (E.load rfl (run_loadA Tryz.isAgg68 Tryz.sizeOf68 ((S66.box_now (i := 0) rfl).sub (j := 0) (n := 2) (c := [v56, v58]) rfl) rfl)) ?_
  obtain ⟨r67, hr68, hp⟩ := bnd hp
  refine FL.call rfl rfl rfl (E.call Tryz.call114 (A1 rfl)) (w_impl_Sequent_clone S66.sl x54.seq v56 (h57.mono ((i27.tr i971).tr i31)) v58 (h59.mono ((i27.tr i971).tr i31)) hr68) ?_
  rintro e w70 ⟨H69, v73, v80, rfl, r72, ⟨c77, c85, ns76, ns84, ap88⟩⟩
  refine ⟨_, rfl, ?_⟩
  have h75 := ns76.rsl
  have nv78 : New H29 c77 := New.of_up S66.sl (fun b hb => ns76.dom b (.inr hb))
  have nv79 : New H29 [v73] := New.of_up S66.sl h75.dom
  have h75 := h75.mono (up_le S66.size)
  have ns76 := ns76.mono (up_le S66.size)
  have h83 := ns84.rsl
  have nv86 : New H29 c85 := New.of_up S66.sl (fun b hb => ns84.dom b (.inr hb))
  have nv87 : New H29 [v80] := New.of_up S66.sl h83.dom
  have h83 := h83.mono (up_le S66.size)
  have ns84 := ns84.mono (up_le S66.size)
  have S71 := S66.call r72
  refine FL.v (E.fieldAddr tf74_0 rfl) ?_
  obtain ⟨w89, run90, S91⟩ := S71.store (P := Tryz.prog) (t := 68) (i := 0) (j := 0) (cs' := [v73, v80, Value.int .i64 x54.rule, Value.string x54.main, Value.int .i64 x54.a, Value.int .i64 x54.b]) (l' := [.box b60 74 [v73, v80, Value.int .i64 x54.rule, Value.string x54.main, Value.int .i64 x54.a, Value.int .i64 x54.b], .row 3 1 v402 n403 cs404, .row 74 6 v976 n977 cs978]) (v := Value.agg #[v73, v80]) (c := [v73, v80]) rfl Tryz.sizeOf68 rfl rfl (ones_cons h75.one (ones_cons h83.one ones_nil)) (Nat.le_of_ble_eq_true rfl) rfl rfl
  refine FL.act rfl rfl (E.store rfl rfl run90) ?_
  refine FL.nil (FW.seq (FW.seq (FW.region ?_)))
  refine FL.v (E.load rfl (run_loadA Tryz.isAgg74 Tryz.sizeOf74 (S91.box_now (i := 0) rfl) rfl)) ?_
  refine FL.call rfl rfl rfl (E.call Tryz.call113 (A1 rfl)) (w_impl_SeqStep_uses S91.sl (SeqStep.mk r67 x54.rule x54.main x54.a x54.b) v73 (h75.mono upI) v80 (h83.mono upI)) ?_
  rintro e w93 ⟨H92, v96, n97, cs98, rfl, r95, els99⟩
  refine ⟨_, rfl, ?_⟩
  have els99 := els99.mono (up_le S91.size)
  have S94 := S91.join (l' := [.row 3 1 v96 n97 cs98, .box b60 74 [v73, v80, Value.int .i64 x54.rule, Value.string x54.main, Value.int .i64 x54.a, Value.int .i64 x54.b], .row 3 1 v402 n403 cs404, .row 74 6 v976 n977 cs978]) r95 rfl
  refine FL.v (E.lenO te82 rfl S94 (i := 0) rfl els99 (by decide)) ?_
  refine FL.v (E.assign (v := Value.int .i64 (len (PF.impl_SeqStep_uses (SeqStep.mk r67 x54.rule x54.main x54.a x54.b)))) rfl) ?_
  refine FL.nil (FW.seq (FW.region ?_))
  refine FL.v (E.move (v := Value.int .i64 (len (PF.impl_SeqStep_uses (SeqStep.mk r67 x54.rule x54.main x54.a x54.b)))) rfl) ?_
  refine FL.v (E.gtr rfl rfl) ?_
  refine FL.nil ?_
  rcases ifB hp with ⟨c100, hp⟩ | ⟨c100, hp⟩
  ·
   refine FW.condT rfl c100 ?_
   refine FW.seq (FW.region ?_)
   refine FL.v (E.move k36) ?_
   refine FL.v (E.fieldAddr tf74_3 rfl) ?_
   refine FL.v (E.load rfl (run_load1 Tryz.isAgg3 (S94.box_now (i := 1) rfl) rfl)) ?_
   obtain ⟨H101, S102, i103, h104, nv105⟩ := S94.sealRowU (i := 2) (l' := [.row 3 1 v96 n97 cs98, .box b60 74 [v73, v80, Value.int .i64 x54.rule, Value.string x54.main, Value.int .i64 x54.a, Value.int .i64 x54.b], .row 74 6 v976 n977 cs978]) rfl (els405.mono (up_mono ((i31.tr r72.inc).tr r95.run.inc))) (by decide) rfl
   obtain ⟨r106, hr107, hp⟩ := bnd hp
   refine FL.call rfl rfl rfl (E.call Tryz.call115 (A2 rfl rfl)) (w_slices_Index_int_int S102.sl v402 s401 (h104.mono upI) x54.a hr107) ?_
   rintro e w108 ⟨rfl, r109⟩
   refine ⟨_, rfl, ?_⟩
   have r109 := Run.lend i103 S94.sl r109
   have S110 := S94.call r109
   refine FL.v (E.fieldAddr tf74_3 rfl) ?_
   obtain ⟨w111, run112, S113⟩ := S110.store (P := Tryz.prog) (t := 3) (i := 1) (j := 4) (cs' := [v73, v80, Value.int .i64 x54.rule, Value.string x54.main, Value.int .i64 r106, Value.int .i64 x54.b]) (l' := [.row 3 1 v96 n97 cs98, .box b60 74 [v73, v80, Value.int .i64 x54.rule, Value.string x54.main, Value.int .i64 r106, Value.int .i64 x54.b], .row 3 1 v402 n403 cs404, .row 74 6 v976 n977 cs978]) (v := Value.int .i64 r106) (c := [Value.int .i64 r106]) rfl Tryz.sizeOf3 rfl rfl (ones_cons rfl ones_nil) (Nat.le_of_ble_eq_true rfl) rfl rfl
   refine FL.act rfl rfl (E.store rfl rfl run112) ?_
   refine FL.nil (FW.seq (FW.region ?_))
   refine FL.v (E.move (v := Value.int .i64 (len (PF.impl_SeqStep_uses (SeqStep.mk r67 x54.rule x54.main x54.a x54.b)))) rfl) ?_
   refine FL.v (E.eql rfl rfl) ?_
   refine FL.nil ?_
   rcases ifB hp with ⟨c114, hp⟩ | ⟨c114, hp⟩
   ·
    refine FW.condT rfl c114 ?_
    refine FW.region ?_
    refine FL.v (E.move k36) ?_
    refine FL.v (E.fieldAddr tf74_4 rfl) ?_
    refine FL.v (E.load rfl (run_load1 Tryz.isAgg3 (S113.box_now (i := 1) rfl) rfl)) ?_
    obtain ⟨H115, S116, i117, h118, nv119⟩ := S113.sealRowU (i := 2) (l' := [.row 3 1 v96 n97 cs98, .box b60 74 [v73, v80, Value.int .i64 x54.rule, Value.string x54.main, Value.int .i64 r106, Value.int .i64 x54.b], .row 74 6 v976 n977 cs978]) rfl (els405.mono (up_mono ((i31.tr r72.inc).tr r95.run.inc))) (by decide) rfl
    obtain ⟨r120, hr121, hp⟩ := bnd hp
    refine FL.call rfl rfl rfl (E.call Tryz.call115 (A2 rfl rfl)) (w_slices_Index_int_int S116.sl v402 s401 (h118.mono upI) x54.b hr121) ?_
    rintro e w122 ⟨rfl, r123⟩
    refine ⟨_, rfl, ?_⟩
    have r123 := Run.lend i117 S113.sl r123
    have S124 := S113.call r123
    refine FL.v (E.fieldAddr tf74_4 rfl) ?_
    obtain ⟨w125, run126, S127⟩ := S124.store (P := Tryz.prog) (t := 3) (i := 1) (j := 5) (cs' := [v73, v80, Value.int .i64 x54.rule, Value.string x54.main, Value.int .i64 r106, Value.int .i64 r120]) (l' := [.row 3 1 v96 n97 cs98, .box b60 74 [v73, v80, Value.int .i64 x54.rule, Value.string x54.main, Value.int .i64 r106, Value.int .i64 r120], .row 3 1 v402 n403 cs404, .row 74 6 v976 n977 cs978]) (v := Value.int .i64 r120) (c := [Value.int .i64 r120]) rfl Tryz.sizeOf3 rfl rfl (ones_cons rfl ones_nil) (Nat.le_of_ble_eq_true rfl) rfl rfl
    refine FL.act rfl rfl (E.store rfl rfl run126) ?_
    obtain ⟨H128, S129, i130, at131⟩ := S127.sealBox (i := 1) (l' := [.row 3 1 v96 n97 cs98, .row 3 1 v402 n403 cs404, .row 74 6 v976 n977 cs978]) rfl rfl
    refine FL.nil (FW.region ?_)
    refine FL.v (E.move k37) ?_
    refine FL.v (E.load rfl (run_loadA Tryz.isAgg74 Tryz.sizeOf74 (at131.now S129.sl) rfl)) ?_
    obtain ⟨v132, w133, run134, S135⟩ := S129.buildSlice (P := Tryz.prog) te24 [Value.agg #[v73, v80, Value.int .i64 x54.rule, Value.string x54.main, Value.int .i64 r106, Value.int .i64 r120]] (parts := #[(0, Value.agg #[v73, v80, Value.int .i64 x54.rule, Value.string x54.main, Value.int .i64 r106, Value.int .i64 r120])]) (cells := [v73, v80, Value.int .i64 x54.rule, Value.string x54.main, Value.int .i64 r106, Value.int .i64 r120]) rfl (szs_cons rfl szs_nil) (fc_cons rfl fc_nil) (ones_cons h75.one (ones_cons h83.one (ones_cons rfl (ones_cons rfl (ones_cons rfl (ones_cons rfl ones_nil)))))) (Nat.le_of_ble_eq_true rfl)
    have els136 : Els (up wa.heap.size H128) eSeqStep 6 [v73, v80, Value.int .i64 x54.rule, Value.string x54.main, Value.int .i64 r106, Value.int .i64 r120] [(SeqStep.mk r67 x54.rule x54.main r106 r120)] := (Els.snoc (H := (up wa.heap.size H128)) (E := eSeqStep) (k := 6) (c := [v73, v80, Value.int .i64 x54.rule, Value.string x54.main, Value.int .i64 r106, Value.int .i64 r120]) (x := (SeqStep.mk r67 x54.rule x54.main r106 r120)) Els.nil rfl ⟨_, _, rfl, (h75.mono (up_mono (r95.run.inc.tr i130))), (h83.mono (up_mono (r95.run.inc.tr i130)))⟩)
    have nd137 : (bl [v73, v80, Value.int .i64 x54.rule, Value.string x54.main, Value.int .i64 r106, Value.int .i64 r120]).Nodup := by exact nd_two ap88.dis
    have nv138 : New H29 [v73, v80, Value.int .i64 x54.rule, Value.string x54.main, Value.int .i64 r106, Value.int .i64 r120] := by exact (New.two nv79 nv87)
    refine FL.v (E.buildSlice (B1 rfl) run134) ?_
    obtain ⟨xs139, hz140, hp⟩ := bnd hp
    obtain ⟨v141, w144, n142, cs143, run145, S146, els147, ce148⟩ := S135.appendO (P := Tryz.prog) te24 (i := 3) (j := 0) rfl (els979.mono (up_mono ((r72.inc.tr r95.run.inc).tr i130))) rfl els136 hz140
    have S146 : St Ha wa H128 w144 [.row 74 6 v132 1 [v73, v80, Value.int .i64 x54.rule, Value.string x54.main, Value.int .i64 r106, Value.int .i64 r120], .row 3 1 v96 n97 cs98, .row 3 1 v402 n403 cs404, .row 74 6 v141 n142 cs143] := S146
    have nd149 : (bl cs143).Nodup := by rw [ce148]; exact nd_app nd980 nd137 (Els.dom (els979.mono (upI.tr (Inc.rfl _)))) (by exact nv138)
    have S150 : St Ha wa H128 w144 [.row 3 1 v96 n97 cs98, .row 3 1 v402 n403 cs404, .row 74 6 v141 n142 cs143] := S146.drop 0
    refine FL.v (E.append rfl rfl run145) ?_
    refine FL.v (E.assign (v := v141) rfl) ?_
    refine FL.nil (FW.region ?_)
    refine FL.v (E.add k34 rfl) ?_
    refine FL.v (E.move (v := Value.int .i64 (wr (((i975 : Nat) : Int) + 1))) rfl) ?_
    refine FL.nil ?_
    obtain rfl := Option.some.inj hp
    exact ⟨rfl, ⟨_, _, _, _, (S150.sel [1, 2] (by decide) rfl), (((i31.tr r72.inc).tr r95.run.inc).tr i130), els147, nd149, (nat_succ rfl hj975 (chk_le hchk975)), k35, k36, rfl, k38, k39⟩⟩
   ·
    refine FW.condF rfl c114 ?_
    refine FW.skip (FW.region ?_)
    refine FL.v (E.move k37) ?_
    refine FL.v (E.load rfl (run_loadA Tryz.isAgg74 Tryz.sizeOf74 (S113.box_now (i := 1) rfl) rfl)) ?_
    obtain ⟨v151, w152, run153, S154⟩ := S113.buildSlice (P := Tryz.prog) te24 [Value.agg #[v73, v80, Value.int .i64 x54.rule, Value.string x54.main, Value.int .i64 r106, Value.int .i64 x54.b]] (parts := #[(0, Value.agg #[v73, v80, Value.int .i64 x54.rule, Value.string x54.main, Value.int .i64 r106, Value.int .i64 x54.b])]) (cells := [v73, v80, Value.int .i64 x54.rule, Value.string x54.main, Value.int .i64 r106, Value.int .i64 x54.b]) rfl (szs_cons rfl szs_nil) (fc_cons rfl fc_nil) (ones_cons h75.one (ones_cons h83.one (ones_cons rfl (ones_cons rfl (ones_cons rfl (ones_cons rfl ones_nil)))))) (Nat.le_of_ble_eq_true rfl)
    have els155 : Els (up wa.heap.size H92) eSeqStep 6 [v73, v80, Value.int .i64 x54.rule, Value.string x54.main, Value.int .i64 r106, Value.int .i64 x54.b] [(SeqStep.mk r67 x54.rule x54.main r106 x54.b)] := (Els.snoc (H := (up wa.heap.size H92)) (E := eSeqStep) (k := 6) (c := [v73, v80, Value.int .i64 x54.rule, Value.string x54.main, Value.int .i64 r106, Value.int .i64 x54.b]) (x := (SeqStep.mk r67 x54.rule x54.main r106 x54.b)) Els.nil rfl ⟨_, _, rfl, (h75.mono (up_mono r95.run.inc)), (h83.mono (up_mono r95.run.inc))⟩)
    have nd156 : (bl [v73, v80, Value.int .i64 x54.rule, Value.string x54.main, Value.int .i64 r106, Value.int .i64 x54.b]).Nodup := by exact nd_two ap88.dis
    have nv157 : New H29 [v73, v80, Value.int .i64 x54.rule, Value.string x54.main, Value.int .i64 r106, Value.int .i64 x54.b] := by exact (New.two nv79 nv87)
    refine FL.v (E.buildSlice (B1 rfl) run153) ?_
    obtain ⟨xs158, hz159, hp⟩ := bnd hp
    obtain ⟨v160, w163, n161, cs162, run164, S165, els166, ce167⟩ := S154.appendO (P := Tryz.prog) te24 (i := 4) (j := 0) rfl (els979.mono (up_mono (r72.inc.tr r95.run.inc))) rfl els155 hz159
    have S165 : St Ha wa H92 w163 [.row 74 6 v151 1 [v73, v80, Value.int .i64 x54.rule, Value.string x54.main, Value.int .i64 r106, Value.int .i64 x54.b], .row 3 1 v96 n97 cs98, .box b60 74 [v73, v80, Value.int .i64 x54.rule, Value.string x54.main, Value.int .i64 r106, Value.int .i64 x54.b], .row 3 1 v402 n403 cs404, .row 74 6 v160 n161 cs162] := S165
    have nd168 : (bl cs162).Nodup := by rw [ce167]; exact nd_app nd980 nd156 (Els.dom (els979.mono (upI.tr (Inc.rfl _)))) (by exact nv157)
    have S169 : St Ha wa H92 w163 [.row 3 1 v96 n97 cs98, .box b60 74 [v73, v80, Value.int .i64 x54.rule, Value.string x54.main, Value.int .i64 r106, Value.int .i64 x54.b], .row 3 1 v402 n403 cs404, .row 74 6 v160 n161 cs162] := S165.drop 0
    refine FL.v (E.append rfl rfl run164) ?_
    refine FL.v (E.assign (v := v160) rfl) ?_
    refine FL.nil (FW.region ?_)
    refine FL.v (E.add k34 rfl) ?_
    refine FL.v (E.move (v := Value.int .i64 (wr (((i975 : Nat) : Int) + 1))) rfl) ?_
    refine FL.nil ?_
    obtain rfl := Option.some.inj hp
    exact ⟨rfl, ⟨_, _, _, _, (S169.sel [2, 3] (by decide) rfl), ((i31.tr r72.inc).tr r95.run.inc), els166, nd168, (nat_succ rfl hj975 (chk_le hchk975)), k35, k36, rfl, k38, k39⟩⟩
  ·
   refine FW.condF rfl c100 ?_
   refine FW.skip (FW.region ?_)
   refine FL.v (E.move k37) ?_
   refine FL.v (E.load rfl (run_loadA Tryz.isAgg74 Tryz.sizeOf74 (S94.box_now (i := 1) rfl) rfl)) ?_
   obtain ⟨v170, w171, run172, S173⟩ := S94.buildSlice (P := Tryz.prog) te24 [Value.agg #[v73, v80, Value.int .i64 x54.rule, Value.string x54.main, Value.int .i64 x54.a, Value.int .i64 x54.b]] (parts := #[(0, Value.agg #[v73, v80, Value.int .i64 x54.rule, Value.string x54.main, Value.int .i64 x54.a, Value.int .i64 x54.b])]) (cells := [v73, v80, Value.int .i64 x54.rule, Value.string x54.main, Value.int .i64 x54.a, Value.int .i64 x54.b]) rfl (szs_cons rfl szs_nil) (fc_cons rfl fc_nil) (ones_cons h75.one (ones_cons h83.one (ones_cons rfl (ones_cons rfl (ones_cons rfl (ones_cons rfl ones_nil)))))) (Nat.le_of_ble_eq_true rfl)
   have els174 : Els (up wa.heap.size H92) eSeqStep 6 [v73, v80, Value.int .i64 x54.rule, Value.string x54.main, Value.int .i64 x54.a, Value.int .i64 x54.b] [(SeqStep.mk r67 x54.rule x54.main x54.a x54.b)] := (Els.snoc (H := (up wa.heap.size H92)) (E := eSeqStep) (k := 6) (c := [v73, v80, Value.int .i64 x54.rule, Value.string x54.main, Value.int .i64 x54.a, Value.int .i64 x54.b]) (x := (SeqStep.mk r67 x54.rule x54.main x54.a x54.b)) Els.nil rfl ⟨_, _, rfl, (h75.mono (up_mono r95.run.inc)), (h83.mono (up_mono r95.run.inc))⟩)
   have nd175 : (bl [v73, v80, Value.int .i64 x54.rule, Value.string x54.main, Value.int .i64 x54.a, Value.int .i64 x54.b]).Nodup := by exact nd_two ap88.dis
   have nv176 : New H29 [v73, v80, Value.int .i64 x54.rule, Value.string x54.main, Value.int .i64 x54.a, Value.int .i64 x54.b] := by exact (New.two nv79 nv87)
   refine FL.v (E.buildSlice (B1 rfl) run172) ?_
   obtain ⟨xs177, hz178, hp⟩ := bnd hp
   obtain ⟨v179, w182, n180, cs181, run183, S184, els185, ce186⟩ := S173.appendO (P := Tryz.prog) te24 (i := 4) (j := 0) rfl (els979.mono (up_mono (r72.inc.tr r95.run.inc))) rfl els174 hz178
   have S184 : St Ha wa H92 w182 [.row 74 6 v170 1 [v73, v80, Value.int .i64 x54.rule, Value.string x54.main, Value.int .i64 x54.a, Value.int .i64 x54.b], .row 3 1 v96 n97 cs98, .box b60 74 [v73, v80, Value.int .i64 x54.rule, Value.string x54.main, Value.int .i64 x54.a, Value.int .i64 x54.b], .row 3 1 v402 n403 cs404, .row 74 6 v179 n180 cs181] := S184
   have nd187 : (bl cs181).Nodup := by rw [ce186]; exact nd_app nd980 nd175 (Els.dom (els979.mono (upI.tr (Inc.rfl _)))) (by exact nv176)
   have S188 : St Ha wa H92 w182 [.row 3 1 v96 n97 cs98, .box b60 74 [v73, v80, Value.int .i64 x54.rule, Value.string x54.main, Value.int .i64 x54.a, Value.int .i64 x54.b], .row 3 1 v402 n403 cs404, .row 74 6 v179 n180 cs181] := S184.drop 0
   refine FL.v (E.append rfl rfl run183) ?_
   refine FL.v (E.assign (v := v179) rfl) ?_
   refine FL.nil (FW.region ?_)
   refine FL.v (E.add k34 rfl) ?_
   refine FL.v (E.move (v := Value.int .i64 (wr (((i975 : Nat) : Int) + 1))) rfl) ?_
   refine FL.nil ?_
   obtain rfl := Option.some.inj hp
   exact ⟨rfl, ⟨_, _, _, _, (S188.sel [2, 3] (by decide) rfl), ((i31.tr r72.inc).tr r95.run.inc), els185, nd187, (nat_succ rfl hj975 (chk_le hchk975)), k35, k36, rfl, k38, k39⟩⟩
 ·
  clear hp hq
  rintro s975 f200 w199 ⟨H196, v976, n977, cs978, S197, i198, els979, nd980, k201, k202, k203, k204, k205, k206⟩
  refine FW.seq (FW.region ?_)
  refine FL.v (E.lss k201 k206) ?_
  refine FL.nil (FW.seq ?_)
  refine FW.condF rfl (dlt_maxchk hchk975) ?_
  refine FW.exit ?_
  exact ⟨nofun, rfl, ⟨_, _, _, _, S197, i198, els979, nd980, k204⟩⟩
 ·
  clear hq
  intro e f194 w193 hD
  rcases q975 with s975 | x975
  ·
   obtain ⟨rfl, hD⟩ := hD
   obtain ⟨H190, v976, n977, cs978, S191, i192, els979, nd980, k195⟩ := hD
   replace hp := el_go hp
   refine FW.seq (FW.region ?_)
   refine FL.v (E.move k195) ?_
   refine FL.v (E.assign (v := v976) rfl) ?_
   refine FL.nil ?_
   refine FW.ret ?_
   obtain rfl := Option.some.inj hp
   exact ⟨.inr rfl, res1 rfl rfl ⟨_, _, _, _, rfl, (S191.sel [1] (by decide) rfl), els979, nd980⟩⟩
  ·
   exact x975.elim

@[reducible] def p_impl_TrimSeq (Ha : GH) (wa : World) (r : ((List SeqStep) × Bool)) : Ending → World → Prop :=
 fun e w' => ∃ H' : GH, ∃ v0 : Value, ∃ n0 : Nat, ∃ c0 : List Value, e = .returned (Value.tuple #[v0, Value.bool r.2]) ∧ St Ha wa H' w' [.row 74 6 v0 n0 c0] ∧ Els (up wa.heap.size H') eSeqStep 6 c0 r.1 ∧ (bl c0).Nodup
theorem w_impl_TrimSeq {Ha : GH} {wa : World} (hs : Sl Ha wa) (v0 : Value) (a0 : List SeqStep) (p0 : RSl Ha eSeqStep 6 v0 a0) {r : ((List SeqStep) × Bool)} (hp : (PF.impl_TrimSeq a0) = some r) :
  Calls Tryz.prog 21 #[v0] wa (p_impl_TrimSeq Ha wa r) := by
 unfold PF.impl_TrimSeq at hp
 have S0 := St.init hs
 refine calls_go (N := 9) (args := [v0]) Tryz.func21 rfl rfl rfl ?_
 refine FW.seq (FW.region ?_)
 refine FL.v (E.assign (v := Value.slice none 0 0) rfl) ?_
 refine FL.v (E.assign (v := Value.bool false) rfl) ?_
 refine FL.nil (FW.seq (FW.seq (FW.region ?_)))
 refine FL.v (E.move (v := v0) rfl) ?_
 obtain ⟨r21, hr22, hp⟩ := bnd hp
 refine FL.call rfl rfl rfl (E.call Tryz.call62 (A1 rfl)) (w_impl_isSeqProof S0.sl v0 a0 p0 hr22) ?_
 rintro e w23 ⟨rfl, r24⟩
 refine ⟨_, rfl, ?_⟩
 have S25 := S0.call r24
 refine FL.v (E.not rfl) ?_
 refine FL.nil ?_
 rcases ifB hp with ⟨c26, hp⟩ | ⟨c26, hp⟩
 ·
  refine FW.condT rfl c26 ?_
  refine FW.seq (FW.region ?_)
  refine FL.v (E.assign (v := Value.slice none 0 0) rfl) ?_
  refine FL.v (E.assign (v := Value.bool false) rfl) ?_
  refine FL.nil ?_
  refine FW.ret ?_
  obtain rfl := Option.some.inj hp
  exact ⟨.inr rfl, res2 rfl rfl rfl ⟨_, _, _, _, rfl, (S25.nil 74 6), Els.nil, List.nodup_nil⟩⟩
 ·
  refine FW.condF rfl c26 ?_
  refine FW.skip (FW.seq (FW.region ?_))
  refine FL.v (E.move (v := v0) rfl) ?_
  obtain ⟨r27, hr28, hp⟩ := bnd hp
  refine FL.call rfl rfl rfl (E.call Tryz.call63 (A1 rfl)) (w_impl_trimSeq S25.sl v0 a0 p0 hr28) ?_
  rintro e w30 ⟨H29, v33, n34, cs35, rfl, r32, els36, nd37⟩
  refine ⟨_, rfl, ?_⟩
  have nv38 : New Ha cs35 := New.of_up S25.sl els36.dom
  have els36 := els36.mono (up_le S25.size)
  have S31 := S25.join (l' := [.row 74 6 v33 n34 cs35]) r32 rfl
  refine FL.v (E.assign (v := v33) rfl) ?_
  refine FL.v (E.assign (v := Value.bool true) rfl) ?_
  refine FL.nil ?_
  refine FW.ret ?_
  obtain rfl := Option.some.inj hp
  exact ⟨.inr rfl, res2 rfl rfl rfl ⟨_, _, _, _, rfl, S31, els36, nd37⟩⟩

set_option maxHeartbeats 4000000 in
theorem w_laws_eqStringS {Ha : GH} {wa : World} (hs : Sl Ha wa) (v0 : Value) (a0 : List ByteArray) (p0 : RSl Ha eS 1 v0 a0) (v1 : Value) (a1 : List ByteArray) (p1 : RSl Ha eS 1 v1 a1) {r : Bool} (hp : (PF.laws_eqStringS a0 a1) = some r) :
  Calls Tryz.prog 14 #[v0, v1] wa (Sc Ha wa (Value.bool r)) := by
 unfold PF.laws_eqStringS at hp
 have S0 := St.init hs
 refine calls_go (N := 26) (args := [v0, v1]) Tryz.func14 rfl rfl rfl ?_
 refine FW.seq (FW.region ?_)
 refine FL.v (E.assign (v := Value.bool false) rfl) ?_
 refine FL.nil (FW.seq (FW.seq (FW.region ?_)))
 refine FL.v (E.move (v := v0) rfl) ?_
 refine FL.v (E.lenP te22 rfl p0) ?_
 refine FL.v (E.move (v := v1) rfl) ?_
 refine FL.v (E.lenP te22 rfl p1) ?_
 refine FL.v (E.neq rfl rfl) ?_
 refine FL.nil ?_
 rcases ifB hp with ⟨c21, hp⟩ | ⟨c21, hp⟩
 ·
  refine FW.condT rfl c21 ?_
  refine FW.seq (FW.region ?_)
  refine FL.v (E.assign (v := Value.bool false) rfl) ?_
  refine FL.nil ?_
  refine FW.ret ?_
  obtain rfl := Option.some.inj hp
  exact ⟨.inr rfl, res1 rfl rfl ⟨rfl, S0.back⟩⟩
 ·
  refine FW.condF rfl c21 ?_
  refine FW.skip (FW.seq (FW.seq (FW.region ?_)))
  refine FL.v (E.assign (v := Value.int .i64 0) rfl) ?_
  refine FL.nil ?_
  obtain ⟨q23, hq, hp⟩ := bndR hp
  refine FW.block ?_
  refine FW.mono (FW.forL (S := Unit) (X := Bool) (fun (i23 : Nat) (s23 : Unit) f w => ∃ H : GH, St Ha wa H w [] ∧ Inc Ha H ∧ f 5 = Value.int .i64 ((i23 : Nat) : Int) ∧ f 0 = v0 ∧ f 1 = v1) (fun q e f w => match q with | .go s23 => e = Exit.exit 0 ∧ (∃ H : GH, St Ha wa H w [] ∧ Inc Ha H) | .rt x => ((e = Exit.ret) ∧ (fun e f w => (e = Exit.normal ∨ e = Exit.ret) ∧ ∀ a, Fr (δ := []) 26 a f → ∃ v, (results Tryz.f14 a.tmps).run Tryz.prog w = .ok v w ∧ (Sc Ha wa (Value.bool x)) (.returned v) w) e f w)) hq ⟨_, S0, (Inc.rfl _), rfl, rfl, rfl⟩ ?_ ?_) ?_
  ·
   clear hp hq
   rintro i23 y22 s23 f55 w54 ⟨H51, S52, i53, k56, k57, k58⟩ hx23 o78 hp
   refine FW.seq (FW.seq (FW.region ?_))
   refine FL.v (E.move k56) ?_
   refine FL.v (E.move k57) ?_
   refine FL.v (E.lenP te22 rfl p0) ?_
   refine FL.v (E.lssT rfl rfl (lss_len hx23)) ?_
   refine FL.nil ?_
   refine FW.condT rfl rfl ?_
   refine FW.skip (FW.seq (FW.block (FW.seq ?_)))
   refine FW.draw (fun w' => Run w54.heap.size H51 w54 H51 w') (by kernel_rfl) (by kernel_rfl) (run_drew S52.sl) ?_
   refine FD.val rfl rfl rfl (fun w' hw' => (E.move k57)) ?_
   refine FD.val rfl rfl rfl (fun w' hw' => (E.move k56)) ?_
   obtain ⟨p60, cs61, pt62, l63, at64, rel65⟩ := p0.at (ix_nat hx23)
   obtain rfl := eS_open rel65
   refine FD.val rfl rfl rfl (fun w' hw' => (E.indexAddr te22 rfl rfl pt62)) ?_
   refine FD.val rfl rfl rfl (fun w' hw' => (E.load rfl (run_load0 Tryz.isAgg9 ((at64.mono i53).now (S52.call hw').sl) rfl))) ?_
   refine FD.val rfl rfl rfl (fun w' hw' => (E.move k58)) ?_
   refine FD.val rfl rfl rfl (fun w' hw' => (E.move k56)) ?_
   obtain ⟨x72, hx73, hp⟩ := bnd hp
   obtain ⟨p66, cs67, pt68, l69, at70, rel71⟩ := p1.at hx73
   obtain rfl := eS_open rel71
   refine FD.val rfl rfl rfl (fun w' hw' => (E.indexAddr te22 rfl rfl pt68)) ?_
   refine FD.val rfl rfl rfl (fun w' hw' => (E.load rfl (run_load0 Tryz.isAgg9 ((at70.mono i53).now (S52.call hw').sl) rfl))) ?_
   refine FD.val rfl rfl rfl (fun w' hw' => (E.neqS rfl rfl)) ?_
   refine FD.nil ?_
   intro w74 r76
   have S75 := S52.call r76
   rcases ifB hp with ⟨c77, hp⟩ | ⟨c77, hp⟩
   ·
    refine FW.condT rfl c77 ?_
    refine FW.seq (FW.region ?_)
    refine FL.v (E.assign (v := Value.bool false) rfl) ?_
    refine FL.nil ?_
    refine FW.ret ?_
    obtain rfl := Option.some.inj hp
    exact ⟨nofun, rfl, ⟨.inr rfl, res1 rfl rfl ⟨rfl, S75.back⟩⟩⟩
   ·
    refine FW.condF rfl c77 ?_
    refine FW.skip (FW.region ?_)
    refine FL.v (E.move k56) ?_
    refine FL.v (E.add rfl rfl) ?_
    refine FL.v (E.assign (v := Value.int .i64 (wr (((i23 : Nat) : Int) + 1))) rfl) ?_
    refine FL.nil ?_
    obtain rfl := Option.some.inj hp
    exact ⟨rfl, ⟨_, S75, i53, (nat_succ rfl (lt_of_get hx23) (p0.mono i53).le), k57, k58⟩⟩
  ·
   clear hp hq
   rintro s23 f88 w87 ⟨H84, S85, i86, k89, k90, k91⟩
   refine FW.seq (FW.seq (FW.region ?_))
   refine FL.v (E.move k89) ?_
   refine FL.v (E.move k90) ?_
   refine FL.v (E.lenP te22 rfl p0) ?_
   refine FL.v (E.lss rfl rfl) ?_
   refine FL.nil ?_
   refine FW.condF rfl dlt_len ?_
   refine FW.exit ?_
   exact ⟨nofun, rfl, ⟨_, S85, i86⟩⟩
  ·
   clear hq
   intro e f83 w82 hD
   rcases q23 with s23 | x23
   ·
    obtain ⟨rfl, hD⟩ := hD
    obtain ⟨H79, S80, i81⟩ := hD
    replace hp := el_go hp
    refine FW.seq (FW.region ?_)
    refine FL.v (E.assign (v := Value.bool true) rfl) ?_
    refine FL.nil ?_
    refine FW.ret ?_
    obtain rfl := Option.some.inj hp
    exact ⟨.inr rfl, res1 rfl rfl ⟨rfl, S80.back⟩⟩
   ·
    obtain ⟨he, hL⟩ := hD
    replace hp := el_rt hp
    obtain rfl := Option.some.inj hp
    subst he
    exact hL

theorem w_laws_eqSequent {Ha : GH} {wa : World} (hs : Sl Ha wa) (a0 : Sequent) (v0_0 : Value) (p0_0 : RSl Ha eS 1 v0_0 a0.left) (v0_1 : Value) (p0_1 : RSl Ha eS 1 v0_1 a0.right) (a1 : Sequent) (v1_0 : Value) (p1_0 : RSl Ha eS 1 v1_0 a1.left) (v1_1 : Value) (p1_1 : RSl Ha eS 1 v1_1 a1.right) {r : Bool} (hp : (PF.laws_eqSequent a0 a1) = some r) :
  Calls Tryz.prog 105 #[Value.agg #[v0_0, v0_1], Value.agg #[v1_0, v1_1]] wa (Sc Ha wa (Value.bool r)) := by
 unfold PF.laws_eqSequent at hp
 have S0 := St.init hs
 refine calls_go (N := 17) (args := [Value.agg #[v0_0, v0_1], Value.agg #[v1_0, v1_1]]) Tryz.func105 rfl rfl rfl ?_
 refine FW.seq (FW.region ?_)
 obtain ⟨b21, w22, run23, S24⟩ := S0.box (P := Tryz.prog) 68 [v0_0, v0_1] (v := Value.agg #[v0_0, v0_1]) rfl (ones_cons p0_0.one (ones_cons p0_1.one ones_nil))
 refine FL.v (E.box rfl run23) ?_
 obtain ⟨H25, S26, i27, at28⟩ := S24.sealBox (i := 0) (l' := []) rfl rfl
 obtain ⟨b29, w30, run31, S32⟩ := S26.box (P := Tryz.prog) 68 [v1_0, v1_1] (v := Value.agg #[v1_0, v1_1]) rfl (ones_cons p1_0.one (ones_cons p1_1.one ones_nil))
 refine FL.v (E.box rfl run31) ?_
 obtain ⟨H33, S34, i35, at36⟩ := S32.sealBox (i := 0) (l' := []) rfl rfl
 refine FL.v (E.assign (v := Value.bool false) rfl) ?_
 refine FL.nil (FW.seq (FW.seq (FW.region ?_)))
 refine FL.v (E.fieldAddr tf68_0 rfl) ?_
 refine FL.v (E.load rfl (run_load1 Tryz.isAgg22 ((at28.mono i35).now S34.sl) rfl)) ?_
 refine FL.v (E.fieldAddr tf68_0 rfl) ?_
 refine FL.v (E.load rfl (run_load1 Tryz.isAgg22 (at36.now S34.sl) rfl)) ?_
 obtain ⟨r37, hr38, hp⟩ := bnd hp
 refine FL.call rfl rfl rfl (E.call Tryz.call14 (A2 rfl rfl)) (w_laws_eqStringS S34.sl v0_0 a0.left (p0_0.mono (i27.tr i35)) v1_0 a1.left (p1_0.mono (i27.tr i35)) hr38) ?_
 rintro e w39 ⟨rfl, r40⟩
 refine ⟨_, rfl, ?_⟩
 have S41 := S34.call r40
 refine FL.v (E.not rfl) ?_
 refine FL.nil ?_
 rcases ifB hp with ⟨c42, hp⟩ | ⟨c42, hp⟩
 ·
  refine FW.condT rfl c42 ?_
  refine FW.seq (FW.region ?_)
  refine FL.v (E.assign (v := Value.bool false) rfl) ?_
  refine FL.nil ?_
  refine FW.ret ?_
  obtain rfl := Option.some.inj hp
  exact ⟨.inr rfl, res1 rfl rfl ⟨rfl, S41.back⟩⟩
 ·
  refine FW.condF rfl c42 ?_
  refine FW.skip (FW.seq (FW.seq (FW.region ?_)))
  refine FL.v (E.fieldAddr tf68_1 rfl) ?_
  refine FL.v (E.load rfl (run_load1 Tryz.isAgg22 ((at28.mono i35).now S41.sl) rfl)) ?_
  refine FL.v (E.fieldAddr tf68_1 rfl) ?_
  refine FL.v (E.load rfl (run_load1 Tryz.isAgg22 (at36.now S41.sl) rfl)) ?_
  obtain ⟨r43, hr44, hp⟩ := bnd hp
  refine FL.call rfl rfl rfl (E.call Tryz.call14 (A2 rfl rfl)) (w_laws_eqStringS S41.sl v0_1 a0.right (p0_1.mono (i27.tr i35)) v1_1 a1.right (p1_1.mono (i27.tr i35)) hr44) ?_
  rintro e w45 ⟨rfl, r46⟩
  refine ⟨_, rfl, ?_⟩
  have S47 := S41.call r46
  refine FL.v (E.not rfl) ?_
  refine FL.nil ?_
  rcases ifB hp with ⟨c48, hp⟩ | ⟨c48, hp⟩
  ·
   refine FW.condT rfl c48 ?_
   refine FW.seq (FW.region ?_)
   refine FL.v (E.assign (v := Value.bool false) rfl) ?_
   refine FL.nil ?_
   refine FW.ret ?_
   obtain rfl := Option.some.inj hp
   exact ⟨.inr rfl, res1 rfl rfl ⟨rfl, S47.back⟩⟩
  ·
   refine FW.condF rfl c48 ?_
   refine FW.skip (FW.seq (FW.region ?_))
   refine FL.v (E.assign (v := Value.bool true) rfl) ?_
   refine FL.nil ?_
   refine FW.ret ?_
   obtain rfl := Option.some.inj hp
   exact ⟨.inr rfl, res1 rfl rfl ⟨rfl, S47.back⟩⟩

set_option maxHeartbeats 4000000 in
theorem w_laws_eqSeqStep {Ha : GH} {wa : World} (hs : Sl Ha wa) (a0 : SeqStep) (v0_0 : Value) (p0_0 : RSl Ha eS 1 v0_0 a0.seq.left) (v0_1 : Value) (p0_1 : RSl Ha eS 1 v0_1 a0.seq.right) (a1 : SeqStep) (v1_0 : Value) (p1_0 : RSl Ha eS 1 v1_0 a1.seq.left) (v1_1 : Value) (p1_1 : RSl Ha eS 1 v1_1 a1.seq.right) {r : Bool} (hp : (PF.laws_eqSeqStep a0 a1) = some r) :
  Calls Tryz.prog 54 #[Value.agg #[v0_0, v0_1, Value.int .i64 a0.rule, Value.string a0.main, Value.int .i64 a0.a, Value.int .i64 a0.b], Value.agg #[v1_0, v1_1, Value.int .i64 a1.rule, Value.string a1.main, Value.int .i64 a1.a, Value.int .i64 a1.b]] wa (Sc Ha wa (Value.bool r)) := by
 unfold PF.laws_eqSeqStep at hp
 have S0 := St.init hs
 refine calls_go (N := 31) (args := [Value.agg #[v0_0, v0_1, Value.int .i64 a0.rule, Value.string a0.main, Value.int .i64 a0.a, Value.int .i64 a0.b], Value.agg #[v1_0, v1_1, Value.int .i64 a1.rule, Value.string a1.main, Value.int .i64 a1.a, Value.int .i64 a1.b]]) Tryz.func54 rfl rfl rfl ?_
 refine FW.seq (FW.region ?_)
 obtain ⟨b21, w22, run23, S24⟩ := S0.box (P := Tryz.prog) 74 [v0_0, v0_1, Value.int .i64 a0.rule, Value.string a0.main, Value.int .i64 a0.a, Value.int .i64 a0.b] (v := Value.agg #[v0_0, v0_1, Value.int .i64 a0.rule, Value.string a0.main, Value.int .i64 a0.a, Value.int .i64 a0.b]) rfl (ones_cons p0_0.one (ones_cons p0_1.one (ones_cons rfl (ones_cons rfl (ones_cons rfl (ones_cons rfl ones_nil))))))
 refine FL.v (E.box rfl run23) ?_
 obtain ⟨H25, S26, i27, at28⟩ := S24.sealBox (i := 0) (l' := []) rfl rfl
 obtain ⟨b29, w30, run31, S32⟩ := S26.box (P := Tryz.prog) 74 [v1_0, v1_1, Value.int .i64 a1.rule, Value.string a1.main, Value.int .i64 a1.a, Value.int .i64 a1.b] (v := Value.agg #[v1_0, v1_1, Value.int .i64 a1.rule, Value.string a1.main, Value.int .i64 a1.a, Value.int .i64 a1.b]) rfl (ones_cons p1_0.one (ones_cons p1_1.one (ones_cons rfl (ones_cons rfl (ones_cons rfl (ones_cons rfl ones_nil))))))
 refine FL.v (E.box rfl run31) ?_
 obtain ⟨H33, S34, i35, at36⟩ := S32.sealBox (i := 0) (l' := []) rfl rfl
 refine FL.v (E.assign (v := Value.bool false) rfl) ?_
 refine FL.nil (FW.seq (FW.seq (FW.region ?_)))
 refine FL.v (E.fieldAddr tf74_0 rfl) ?_
 refine FL.v (E.load rfl (run_loadA Tryz.isAgg68 Tryz.sizeOf68 (((at28.mono i35).now S34.sl).sub (j := 0) (n := 2) (c := [v0_0, v0_1]) rfl) rfl)) ?_
 refine FL.v (E.fieldAddr tf74_0 rfl) ?_
 refine FL.v (E.load rfl (run_loadA Tryz.isAgg68 Tryz.sizeOf68 ((at36.now S34.sl).sub (j := 0) (n := 2) (c := [v1_0, v1_1]) rfl) rfl)) ?_
 obtain ⟨r37, hr38, hp⟩ := bnd hp
 refine FL.call rfl rfl rfl (E.call Tryz.call105 (A2 rfl rfl)) (w_laws_eqSequent S34.sl a0.seq v0_0 (p0_0.mono (i27.tr i35)) v0_1 (p0_1.mono (i27.tr i35)) a1.seq v1_0 (p1_0.mono (i27.tr i35)) v1_1 (p1_1.mono (i27.tr i35)) hr38) ?_
 rintro e w39 ⟨rfl, r40⟩
 refine ⟨_, rfl, ?_⟩
 have S41 := S34.call r40
 refine FL.v (E.not rfl) ?_
 refine FL.nil ?_
 rcases ifB hp with ⟨c42, hp⟩ | ⟨c42, hp⟩
 ·
  refine FW.condT rfl c42 ?_
  refine FW.seq (FW.region ?_)
  refine FL.v (E.assign (v := Value.bool false) rfl) ?_
  refine FL.nil ?_
  refine FW.ret ?_
  obtain rfl := Option.some.inj hp
  exact ⟨.inr rfl, res1 rfl rfl ⟨rfl, S41.back⟩⟩
 ·
  refine FW.condF rfl c42 ?_
  refine FW.skip (FW.seq (FW.seq (FW.region ?_)))
  refine FL.v (E.fieldAddr tf74_1 rfl) ?_
  refine FL.v (E.load rfl (run_load1 Tryz.isAgg3 ((at28.mono i35).now S41.sl) rfl)) ?_
  refine FL.v (E.fieldAddr tf74_1 rfl) ?_
  refine FL.v (E.load rfl (run_load1 Tryz.isAgg3 (at36.now S41.sl) rfl)) ?_
  refine FL.v (E.neq rfl rfl) ?_
  refine FL.nil ?_
  rcases ifB hp with ⟨c43, hp⟩ | ⟨c43, hp⟩
  ·
   refine FW.condT rfl c43 ?_
   refine FW.seq (FW.region ?_)
   refine FL.v (E.assign (v := Value.bool false) rfl) ?_
   refine FL.nil ?_
   refine FW.ret ?_
   obtain rfl := Option.some.inj hp
   exact ⟨.inr rfl, res1 rfl rfl ⟨rfl, S41.back⟩⟩
  ·
   refine FW.condF rfl c43 ?_
   refine FW.skip (FW.seq (FW.seq (FW.region ?_)))
   refine FL.v (E.fieldAddr tf74_2 rfl) ?_
   refine FL.v (E.load rfl (run_load1 Tryz.isAgg9 ((at28.mono i35).now S41.sl) rfl)) ?_
   refine FL.v (E.fieldAddr tf74_2 rfl) ?_
   refine FL.v (E.load rfl (run_load1 Tryz.isAgg9 (at36.now S41.sl) rfl)) ?_
   refine FL.v (E.neqS rfl rfl) ?_
   refine FL.nil ?_
   rcases ifB hp with ⟨c44, hp⟩ | ⟨c44, hp⟩
   ·
    refine FW.condT rfl c44 ?_
    refine FW.seq (FW.region ?_)
    refine FL.v (E.assign (v := Value.bool false) rfl) ?_
    refine FL.nil ?_
    refine FW.ret ?_
    obtain rfl := Option.some.inj hp
    exact ⟨.inr rfl, res1 rfl rfl ⟨rfl, S41.back⟩⟩
   ·
    refine FW.condF rfl c44 ?_
    refine FW.skip (FW.seq (FW.seq (FW.region ?_)))
    refine FL.v (E.fieldAddr tf74_3 rfl) ?_
    refine FL.v (E.load rfl (run_load1 Tryz.isAgg3 ((at28.mono i35).now S41.sl) rfl)) ?_
    refine FL.v (E.fieldAddr tf74_3 rfl) ?_
    refine FL.v (E.load rfl (run_load1 Tryz.isAgg3 (at36.now S41.sl) rfl)) ?_
    refine FL.v (E.neq rfl rfl) ?_
    refine FL.nil ?_
    rcases ifB hp with ⟨c45, hp⟩ | ⟨c45, hp⟩
    ·
     refine FW.condT rfl c45 ?_
     refine FW.seq (FW.region ?_)
     refine FL.v (E.assign (v := Value.bool false) rfl) ?_
     refine FL.nil ?_
     refine FW.ret ?_
     obtain rfl := Option.some.inj hp
     exact ⟨.inr rfl, res1 rfl rfl ⟨rfl, S41.back⟩⟩
    ·
     refine FW.condF rfl c45 ?_
     refine FW.skip (FW.seq (FW.seq (FW.region ?_)))
     refine FL.v (E.fieldAddr tf74_4 rfl) ?_
     refine FL.v (E.load rfl (run_load1 Tryz.isAgg3 ((at28.mono i35).now S41.sl) rfl)) ?_
     refine FL.v (E.fieldAddr tf74_4 rfl) ?_
     refine FL.v (E.load rfl (run_load1 Tryz.isAgg3 (at36.now S41.sl) rfl)) ?_
     refine FL.v (E.neq rfl rfl) ?_
     refine FL.nil ?_
     rcases ifB hp with ⟨c46, hp⟩ | ⟨c46, hp⟩
     ·
      refine FW.condT rfl c46 ?_
      refine FW.seq (FW.region ?_)
      refine FL.v (E.assign (v := Value.bool false) rfl) ?_
      refine FL.nil ?_
      refine FW.ret ?_
      obtain rfl := Option.some.inj hp
      exact ⟨.inr rfl, res1 rfl rfl ⟨rfl, S41.back⟩⟩
     ·
      refine FW.condF rfl c46 ?_
      refine FW.skip (FW.seq (FW.region ?_))
      refine FL.v (E.assign (v := Value.bool true) rfl) ?_
      refine FL.nil ?_
      refine FW.ret ?_
      obtain rfl := Option.some.inj hp
      exact ⟨.inr rfl, res1 rfl rfl ⟨rfl, S41.back⟩⟩

set_option maxHeartbeats 4000000 in
theorem w_laws_eqSeqStepS {Ha : GH} {wa : World} (hs : Sl Ha wa) (v0 : Value) (a0 : List SeqStep) (p0 : RSl Ha eSeqStep 6 v0 a0) (v1 : Value) (a1 : List SeqStep) (p1 : RSl Ha eSeqStep 6 v1 a1) {r : Bool} (hp : (PF.laws_eqSeqStepS a0 a1) = some r) :
  Calls Tryz.prog 13 #[v0, v1] wa (Sc Ha wa (Value.bool r)) := by
 unfold PF.laws_eqSeqStepS at hp
 have S0 := St.init hs
 refine calls_go (N := 27) (args := [v0, v1]) Tryz.func13 rfl rfl rfl ?_
 refine FW.seq (FW.region ?_)
 refine FL.v (E.assign (v := Value.bool false) rfl) ?_
 refine FL.nil (FW.seq (FW.seq (FW.region ?_)))
 refine FL.v (E.move (v := v0) rfl) ?_
 refine FL.v (E.lenP te24 rfl p0) ?_
 refine FL.v (E.move (v := v1) rfl) ?_
 refine FL.v (E.lenP te24 rfl p1) ?_
 refine FL.v (E.neq rfl rfl) ?_
 refine FL.nil ?_
 rcases ifB hp with ⟨c21, hp⟩ | ⟨c21, hp⟩
 ·
  refine FW.condT rfl c21 ?_
  refine FW.seq (FW.region ?_)
  refine FL.v (E.assign (v := Value.bool false) rfl) ?_
  refine FL.nil ?_
  refine FW.ret ?_
  obtain rfl := Option.some.inj hp
  exact ⟨.inr rfl, res1 rfl rfl ⟨rfl, S0.back⟩⟩
 ·
  refine FW.condF rfl c21 ?_
  refine FW.skip (FW.seq (FW.seq (FW.region ?_)))
  refine FL.v (E.assign (v := Value.int .i64 0) rfl) ?_
  refine FL.nil ?_
  obtain ⟨q23, hq, hp⟩ := bndR hp
  refine FW.block ?_
  refine FW.mono (FW.forL (S := Unit) (X := Bool) (fun (i23 : Nat) (s23 : Unit) f w => ∃ H : GH, St Ha wa H w [] ∧ Inc Ha H ∧ f 5 = Value.int .i64 ((i23 : Nat) : Int) ∧ f 0 = v0 ∧ f 1 = v1) (fun q e f w => match q with | .go s23 => e = Exit.exit 0 ∧ (∃ H : GH, St Ha wa H w [] ∧ Inc Ha H) | .rt x => ((e = Exit.ret) ∧ (fun e f w => (e = Exit.normal ∨ e = Exit.ret) ∧ ∀ a, Fr (δ := []) 27 a f → ∃ v, (results Tryz.f13 a.tmps).run Tryz.prog w = .ok v w ∧ (Sc Ha wa (Value.bool x)) (.returned v) w) e f w)) hq ⟨_, S0, (Inc.rfl _), rfl, rfl, rfl⟩ ?_ ?_) ?_
  ·
   clear hp hq
   rintro i23 y22 s23 f65 w64 ⟨H61, S62, i63, k66, k67, k68⟩ hx23 o98 hp
   refine FW.seq (FW.seq (FW.region ?_))
   refine FL.v (E.move k66) ?_
   refine FL.v (E.move k67) ?_
   refine FL.v (E.lenP te24 rfl p0) ?_
   refine FL.v (E.lssT rfl rfl (lss_len hx23)) ?_
   refine FL.nil ?_
   refine FW.condT rfl rfl ?_
   refine FW.skip (FW.seq (FW.block (FW.seq ?_)))
   refine FW.draw (fun w' => Run w64.heap.size H61 w64 H61 w') (by kernel_rfl) (by kernel_rfl) (run_drew S62.sl) ?_
   refine FD.val rfl rfl rfl (fun w' hw' => (E.move k67)) ?_
   refine FD.val rfl rfl rfl (fun w' hw' => (E.move k66)) ?_
   obtain ⟨p70, cs71, pt72, l73, at74, rel75⟩ := p0.at (ix_nat hx23)
   obtain ⟨v76, v78, rfl, h77, h79⟩ := eSeqStep_open rel75
   refine FD.val rfl rfl rfl (fun w' hw' => (E.indexAddr te24 rfl rfl pt72)) ?_
   refine FD.val rfl rfl rfl (fun w' hw' => (E.load rfl (run_loadA Tryz.isAgg74 Tryz.sizeOf74 ((at74.mono i63).now (S62.call hw').sl) rfl))) ?_
   refine FD.val rfl rfl rfl (fun w' hw' => (E.move k68)) ?_
   refine FD.val rfl rfl rfl (fun w' hw' => (E.move k66)) ?_
   obtain ⟨x86, hx87, hp⟩ := bnd hp
   obtain ⟨p80, cs81, pt82, l83, at84, rel85⟩ := p1.at hx87
   obtain ⟨v88, v90, rfl, h89, h91⟩ := eSeqStep_open rel85
   refine FD.val rfl rfl rfl (fun w' hw' => (E.indexAddr te24 rfl rfl pt82)) ?_
   refine FD.val rfl rfl rfl (fun w' hw' => (E.load rfl (run_loadA Tryz.isAgg74 Tryz.sizeOf74 ((at84.mono i63).now (S62.call hw').sl) rfl))) ?_
   obtain ⟨r92, hr93, hp⟩ := bnd hp
   refine FD.call rfl rfl rfl (fun w' hw' => (E.call Tryz.call54 (A2 rfl rfl))) (fun w' hw' => Calls.cls hw' (w_laws_eqSeqStep (S62.call hw').sl y22 v76 (h77.mono i63) v78 (h79.mono i63) x86 v88 (h89.mono i63) v90 (h91.mono i63) hr93)) ?_
   refine FD.val rfl rfl rfl (fun w' hw' => (E.not rfl)) ?_
   refine FD.nil ?_
   intro w94 r96
   have S95 := S62.call r96
   rcases ifB hp with ⟨c97, hp⟩ | ⟨c97, hp⟩
   ·
    refine FW.condT rfl c97 ?_
    refine FW.seq (FW.region ?_)
    refine FL.v (E.assign (v := Value.bool false) rfl) ?_
    refine FL.nil ?_
    refine FW.ret ?_
    obtain rfl := Option.some.inj hp
    exact ⟨nofun, rfl, ⟨.inr rfl, res1 rfl rfl ⟨rfl, S95.back⟩⟩⟩
   ·
    refine FW.condF rfl c97 ?_
    refine FW.skip (FW.region ?_)
    refine FL.v (E.move k66) ?_
    refine FL.v (E.add rfl rfl) ?_
    refine FL.v (E.assign (v := Value.int .i64 (wr (((i23 : Nat) : Int) + 1))) rfl) ?_
    refine FL.nil ?_
    obtain rfl := Option.some.inj hp
    exact ⟨rfl, ⟨_, S95, i63, (nat_succ rfl (lt_of_get hx23) (p0.mono i63).le), k67, k68⟩⟩
  ·
   clear hp hq
   rintro s23 f108 w107 ⟨H104, S105, i106, k109, k110, k111⟩
   refine FW.seq (FW.seq (FW.region ?_))
   refine FL.v (E.move k109) ?_
   refine FL.v (E.move k110) ?_
   refine FL.v (E.lenP te24 rfl p0) ?_
   refine FL.v (E.lss rfl rfl) ?_
   refine FL.nil ?_
   refine FW.condF rfl dlt_len ?_
   refine FW.exit ?_
   exact ⟨nofun, rfl, ⟨_, S105, i106⟩⟩
  ·
   clear hq
   intro e f103 w102 hD
   rcases q23 with s23 | x23
   ·
    obtain ⟨rfl, hD⟩ := hD
    obtain ⟨H99, S100, i101⟩ := hD
    replace hp := el_go hp
    refine FW.seq (FW.region ?_)
    refine FL.v (E.assign (v := Value.bool true) rfl) ?_
    refine FL.nil ?_
    refine FW.ret ?_
    obtain rfl := Option.some.inj hp
    exact ⟨.inr rfl, res1 rfl rfl ⟨rfl, S100.back⟩⟩
   ·
    obtain ⟨he, hL⟩ := hD
    replace hp := el_rt hp
    obtain rfl := Option.some.inj hp
    subst he
    exact hL

theorem w_laws_markTextO {Ha : GH} {wa : World} (hs : Sl Ha wa) (a0 : Int) {r : ByteArray} (hp : (PF.laws_markTextO a0) = some r) :
  Calls Tryz.prog 55 #[Value.int .i64 a0] wa (Sc Ha wa (Value.string r)) := by
 unfold PF.laws_markTextO at hp
 have S0 := St.init hs
 refine calls_go (N := 20) (args := [Value.int .i64 a0]) Tryz.func55 rfl rfl rfl ?_
 refine FW.seq (FW.region ?_)
 refine FL.v (E.assign (v := Value.string (ByteArray.mk #[])) rfl) ?_
 refine FL.nil (FW.seq (FW.seq (FW.region ?_)))
 refine FL.v (E.move (v := Value.int .i64 a0) rfl) ?_
 refine FL.v (E.leq rfl rfl) ?_
 refine FL.nil ?_
 rcases ifB hp with ⟨c21, hp⟩ | ⟨c21, hp⟩
 ·
  refine FW.condT rfl c21 ?_
  refine FW.seq (FW.region ?_)
  refine FL.v (E.assign (v := Value.string (ByteArray.mk #[109, 48])) rfl) ?_
  refine FL.nil ?_
  refine FW.ret ?_
  obtain rfl := Option.some.inj hp
  exact ⟨.inr rfl, res1 rfl rfl ⟨rfl, S0.back⟩⟩
 ·
  refine FW.condF rfl c21 ?_
  refine FW.skip (FW.seq (FW.region ?_))
  refine FL.v (E.assign (v := Value.string (ByteArray.mk #[])) rfl) ?_
  refine FL.nil (FW.seq ?_)
  obtain ⟨q22, hq, hp⟩ := bndR hp
  refine FW.block ?_
  refine FW.mono (FW.iter (S := (Int × ByteArray)) (X := Empty) (fun (s22 : (Int × ByteArray)) f w => ∃ H : GH, St Ha wa H w [] ∧ Inc Ha H ∧ f 0 = Value.int .i64 s22.1 ∧ f 3 = Value.string s22.2) (fun (q : Rs (Int × ByteArray) Empty) e f w => match q with | .go s22 => e = Exit.exit 0 ∧ (∃ H : GH, St Ha wa H w [] ∧ Inc Ha H ∧ f 3 = Value.string s22.2) | .rt x => x.elim) hq ⟨_, S0, (Inc.rfl _), rfl, rfl⟩ ?_) ?_
  ·
   clear hp hq
   rintro s22 f42 w41 ⟨H38, S39, i40, k43, k44⟩ o53 hp
   refine FW.seq (FW.seq (FW.region ?_))
   refine FL.v (E.move k43) ?_
   refine FL.v (E.gtr rfl rfl) ?_
   refine FL.nil ?_
   rcases ifB hp with ⟨c45, hp⟩ | ⟨c45, hp⟩
   ·
    refine FW.condT rfl c45 ?_
    refine FW.skip (FW.block (FW.seq (FW.region ?_)))
    refine FL.v (E.move k43) ?_
    refine FL.v (E.rem rfl rfl (by decide)) ?_
    refine FL.v (E.add rfl rfl) ?_
    refine FL.v (E.conv Tryz.runUnderlying3 Tryz.runUnderlying5 rfl) ?_
    obtain ⟨v46, w47, run48, S49⟩ := S39.buildSlice (P := Tryz.prog) te41 [Value.int .u8 (wrk false 8 (wr (48 + (s22.1.tmod 10))))] (parts := #[(0, Value.int .u8 (wrk false 8 (wr (48 + (s22.1.tmod 10)))))]) (cells := [Value.int .u8 (wrk false 8 (wr (48 + (s22.1.tmod 10))))]) rfl (szs_cons rfl szs_nil) (fc_cons rfl fc_nil) (ones_cons rfl ones_nil) (Nat.le_of_ble_eq_true rfl)
    have els50 : Els (up wa.heap.size H38) (eN .u8) 1 [Value.int .u8 (wrk false 8 (wr (48 + (s22.1.tmod 10))))] [(wrk false 8 (wr (48 + (s22.1.tmod 10))))] := (Els.snoc (H := (up wa.heap.size H38)) (E := (eN .u8)) (k := 1) (c := [Value.int .u8 (wrk false 8 (wr (48 + (s22.1.tmod 10))))]) (x := (wrk false 8 (wr (48 + (s22.1.tmod 10))))) Els.nil rfl rfl)
    refine FL.v (E.buildSlice (B1 rfl) run48) ?_
    refine FL.v (E.bytes Tryz.underlying41 Tryz.underlying5 Tryz.underlying9 S49 (i := 0) rfl els50 rfl) ?_
    refine FL.v (E.move k44) ?_
    obtain ⟨z51, h52, hp⟩ := bnd hp
    refine FL.v (E.addT rfl rfl h52) ?_
    refine FL.v (E.assign (v := Value.string z51) rfl) ?_
    refine FL.nil (FW.region ?_)
    refine FL.v (E.move k43) ?_
    refine FL.v (E.quo rfl rfl (by decide)) ?_
    refine FL.v (E.assign (v := Value.int .i64 (wr (s22.1.tdiv 10))) rfl) ?_
    refine FL.nil ?_
    obtain rfl := Option.some.inj hp
    exact ⟨rfl, ⟨_, (S49.sel [] (by decide) rfl), i40, rfl, rfl⟩⟩
   ·
    refine FW.condF rfl c45 ?_
    refine FW.exit ?_
    obtain rfl := Option.some.inj hp
    exact ⟨nofun, rfl, ⟨_, S39, i40, k44⟩⟩
  ·
   clear hq
   intro e f58 w57 hD
   rcases q22 with s22 | x22
   ·
    obtain ⟨rfl, hD⟩ := hD
    obtain ⟨H54, S55, i56, k59⟩ := hD
    replace hp := el_go hp
    refine FW.seq (FW.region ?_)
    refine FL.v (E.move k59) ?_
    obtain ⟨z60, h61, hp⟩ := bnd hp
    refine FL.v (E.addT rfl rfl h61) ?_
    refine FL.v (E.assign (v := Value.string z60) rfl) ?_
    refine FL.nil ?_
    refine FW.ret ?_
    obtain rfl := Option.some.inj hp
    exact ⟨.inr rfl, res1 rfl rfl ⟨rfl, S55.back⟩⟩
   ·
    exact x22.elim
theorem w_laws_markText {Ha : GH} {wa : World} (hs : Sl Ha wa) (a0 : Int) : Calls Tryz.prog 55 #[Value.int .i64 a0] wa (Sc Ha wa (Value.string (PF.laws_markText a0))) := w_laws_markTextO hs a0 (PF.laws_markText_eq a0)

end Go.Proofs
