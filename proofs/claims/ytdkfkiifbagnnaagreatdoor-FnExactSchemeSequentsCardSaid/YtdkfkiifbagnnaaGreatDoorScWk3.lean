/- Part of the walks and plain laws behind the claim: it proves helpers, under no condition beyond their own. -/
import Derived.Test.YtdkfkiifbagnnaaGreatDoorScWk2
set_option linter.unusedVariables false
set_option maxRecDepth 100000
namespace Go.Proofs
open Go.Mr Go.Pu Go.PF Go.RowKit

@[reducible] def p_impl_premisesOf (Ha : GH) (wa : World) (r : (List Sequent)) : Ending → World → Prop :=
 fun e w' => ∃ H' : GH, ∃ v0 : Value, ∃ n0 : Nat, ∃ c0 : List Value, e = .returned (v0) ∧ St Ha wa H' w' [.row 51 2 v0 n0 c0] ∧ Els H' eSequent 2 c0 r
set_option maxHeartbeats 4000000 in
theorem w_impl_premisesOf {Ha : GH} {wa : World} (hs : Sl Ha wa) (a0 : Sequent) (v0_0 : Value) (p0_0 : RSl Ha eS 1 v0_0 a0.left) (v0_1 : Value) (p0_1 : RSl Ha eS 1 v0_1 a0.right) (a1 : Int) (v2 : Value) (a2 : Fo) (p2 : FAt Ha v2 a2) {r : (List Sequent)} (hp : (PF.impl_premisesOf a0 a1 a2) = some r) :
  Calls Tryz.prog 98 #[Value.agg #[v0_0, v0_1], Value.int .i64 a1, v2] wa (p_impl_premisesOf Ha wa r) := by
 unfold PF.impl_premisesOf at hp
 have S0 := St.init hs
 refine calls_go (N := 180) (args := [Value.agg #[v0_0, v0_1], Value.int .i64 a1, v2]) Tryz.func98 rfl rfl rfl ?_
 refine FW.seq (FW.region ?_)
 obtain ⟨b21, w22, run23, S24⟩ := S0.box (P := Tryz.prog) 51 [v0_0, v0_1] (v := Value.agg #[v0_0, v0_1]) rfl (ones_cons p0_0.one (ones_cons p0_1.one ones_nil))
 refine FL.v (E.box rfl run23) ?_
 obtain ⟨H25, S26, i27, at28⟩ := S24.sealBox (i := 0) (l' := []) rfl rfl
 refine FL.v (E.assign (v := Value.slice none 0 0) rfl) ?_
 refine FL.nil (FW.seq ?_)
 obtain ⟨y32, hy33, hp⟩ := bnd hp
 obtain ⟨r40, hr41, hp⟩ := bnd hp
 obtain ⟨r50, hr52, hp⟩ := bnd hp
 refine FW.drawB (Sl H25) (fun f w => ∃ H : GH, ∃ v61 : Value, ∃ v63 : Value, ∃ n64 : Nat, ∃ cs65 : List Value, ∃ v67 : Value, ∃ n68 : Nat, ∃ cs69 : List Value, St Ha wa H w [.row 9 1 v63 n64 cs65, .row 9 1 v67 n68 cs69] ∧ Inc H25 H ∧ FAt H v61 a2 ∧ Els (up wa.heap.size H) eS 1 cs65 r40 ∧ Els (up wa.heap.size H) eS 1 cs69 r50 ∧ f 1 = Value.int .i64 a1 ∧ f 2 = v61 ∧ f 3 = Value.pointer (some ⟨b21, 0, none⟩) ∧ f 7 = v63 ∧ f 8 = v67) (by kernel_rfl) S26.sl ?_ ?_
 ·
  intro w29 r30
  have S31 := S26.call r30
  refine FB.t (i := 0) (bs 16 1) rfl (SP.nil S31.sl) rfl (fun w' hw' => (E.fieldAddr tf51_0 rfl)) ?_
  refine FB.t (i := 1) (bs 16 3) rfl (SP.nil S31.sl) rfl (fun w' hw' => (E.load rfl (run_load1 Tryz.isAgg30 (at28.now hw') rfl))) ?_
  refine FB.t (i := 2) (bs 16 7) rfl (SP.nil S31.sl) rfl (fun w' hw' => (E.move (v := v2) rfl)) ?_
  obtain ⟨q34, v36, v37, rfl, at35, h38, h39⟩ := FAt.open p2 hy33
  refine FB.t (i := 3) (bs 16 15) rfl (SP.nil S31.sl) rfl (fun w' hw' => (E.nilCheck rfl)) ?_
  refine FB.t (i := 4) (bs 16 31) rfl (SP.nil S31.sl) rfl (fun w' hw' => (E.fieldAddr tf86_3 rfl)) ?_
  refine FB.t (i := 5) (bs 16 63) rfl (SP.nil S31.sl) rfl (fun w' hw' => (E.load rfl (run_load1 Tryz.isAgg9 ((at35.mono i27).now hw') rfl))) ?_
  refine FB.t (i := 7) (bs 16 191) rfl (SP.nil S31.sl) rfl (fun w' hw' => (E.fieldAddr tf51_1 rfl)) ?_
  refine FB.t (i := 8) (bs 16 447) rfl (SP.nil S31.sl) rfl (fun w' hw' => (E.load rfl (run_load1 Tryz.isAgg30 (at28.now hw') rfl))) ?_
  refine FB.t (i := 9) (bs 16 959) rfl (SP.nil S31.sl) rfl (fun w' hw' => (E.move (v := Value.pointer (some q34)) rfl)) ?_
  refine FB.t (i := 10) (bs 16 1983) rfl (SP.nil S31.sl) rfl (fun w' hw' => (E.nilCheck rfl)) ?_
  refine FB.t (i := 11) (bs 16 4031) rfl (SP.nil S31.sl) rfl (fun w' hw' => (E.fieldAddr tf86_3 rfl)) ?_
  refine FB.t (i := 12) (bs 16 8127) rfl (SP.nil S31.sl) rfl (fun w' hw' => (E.load rfl (run_load1 Tryz.isAgg9 ((at35.mono i27).now hw') rfl))) ?_
  refine FB.all1 (i := 6) (by kernel_rfl) ?_
  ·
   refine FC.call (l' := (bs 16 8191)) rfl (by kernel_rfl) rfl rfl rfl (E.call Tryz.call136 (A2 rfl rfl)) (w_impl_lacking S31.sl v0_0 a0.left (p0_0.mono i27) y32.text hr41) ?_
   rintro e w43 ⟨H42, v46, n47, cs48, rfl, r45, els49⟩
   refine ⟨_, rfl, ?_⟩
   have els49 := els49.mono (up_le S31.size)
   have S44 := S31.join (l' := [.row 9 1 v46 n47 cs48]) r45 rfl
   refine ⟨(SP.nil (Sl.of_inc r45.run.inc S44.sl)), ?_⟩
   refine FB.all1 (i := 13) (by kernel_rfl) ?_
   ·
    refine FC.call (l' := (bs 16 16383)) rfl (by kernel_rfl) rfl rfl rfl (E.call Tryz.call136 (A2 rfl rfl)) (w_impl_lacking S44.sl v0_1 a0.right (p0_1.mono (i27.tr r45.run.inc)) y32.text hr52) ?_
    rintro e w54 ⟨H53, v57, n58, cs59, rfl, r56, els60⟩
    refine ⟨_, rfl, ?_⟩
    have els60 := els60.mono (up_le S44.size)
    have S55 := S44.join (l' := [.row 9 1 v57 n58 cs59, .row 9 1 v46 n47 cs48]) r56 rfl
    refine ⟨(SP.nil (Sl.of_inc (r45.run.inc.tr r56.run.inc) S55.sl)), ?_⟩
    refine FB.t (i := 14) (bs 16 32767) rfl (SP.nil (Sl.of_inc (r45.run.inc.tr r56.run.inc) S55.sl)) rfl (fun w' hw' => (E.assign (v := v46) rfl)) ?_
    refine FB.t (i := 15) (bs 16 65535) rfl (SP.nil (Sl.of_inc (r45.run.inc.tr r56.run.inc) S55.sl)) rfl (fun w' hw' => (E.assign (v := v57) rfl)) ?_
    exact FB.done (by kernel_rfl) ⟨_, _, _, _, _, _, _, _, (S55.sel [1, 0] (by decide) rfl), (r45.run.inc.tr r56.run.inc), (p2.mono ((i27.tr r45.run.inc).tr r56.run.inc)), (els49.mono (up_mono r56.run.inc)), els60, rfl, rfl, rfl, rfl, rfl⟩
 ·
  rintro f75 w74 ⟨H71, v61, v63, n64, cs65, v67, n68, cs69, S72, i73, h62, els66, els70, k76, k77, k78, k79, k80⟩
  refine FW.seq ?_
  refine FW.draw (fun w' => Run w74.heap.size H71 w74 H71 w') (by kernel_rfl) (by kernel_rfl) (run_drew S72.sl) ?_
  refine FD.val rfl rfl rfl (fun w' hw' => (E.move k77)) ?_
  obtain ⟨y81, hy82, hp⟩ := bnd hp
  obtain ⟨q83, v85, v87, rfl, at84, h88, h89⟩ := FAt.open h62 hy82
  refine FD.val rfl rfl rfl (fun w' hw' => (E.nilCheck rfl)) ?_
  refine FD.val rfl rfl rfl (fun w' hw' => (E.fieldAddr tf86_1 rfl)) ?_
  refine FD.val rfl rfl rfl (fun w' hw' => (E.load rfl (run_load1 Tryz.isAgg67 (at84.now (S72.call hw').sl) rfl))) ?_
  refine FD.val rfl rfl rfl (fun w' hw' => (E.move k77)) ?_
  refine FD.val rfl rfl rfl (fun w' hw' => (E.nilCheck rfl)) ?_
  refine FD.val rfl rfl rfl (fun w' hw' => (E.fieldAddr tf86_2 rfl)) ?_
  refine FD.val rfl rfl rfl (fun w' hw' => (E.load rfl (run_load1 Tryz.isAgg67 (at84.now (S72.call hw').sl) rfl))) ?_
  refine FD.val rfl rfl rfl (fun w' hw' => (E.assign (v := v85) rfl)) ?_
  refine FD.val rfl rfl rfl (fun w' hw' => (E.assign (v := v87) rfl)) ?_
  refine FD.nil ?_
  intro w90 r92
  have S91 := S72.call r92
  refine FW.seq (FW.seq (FW.region ?_))
  refine FL.v (E.move k76) ?_
  refine FL.nil (FW.block (FW.seq (FW.region ?_)))
  refine FL.v (E.eql rfl rfl) ?_
  refine FL.v (E.assign (v := Value.bool (a1 == 2)) rfl) ?_
  refine FL.nil ?_
  rcases ifB hp with ⟨c93, hp⟩ | ⟨c93, hp⟩
  ·
   refine FW.condT rfl c93 ?_
   refine FW.seq ?_
   obtain ⟨y97, hy98, hp⟩ := bnd hp
   obtain ⟨r115, hr116, hp⟩ := bnd hp
   refine FW.drawB (Sl H71) (fun f w => ∃ H : GH, ∃ v145 : Value, ∃ n146 : Nat, ∃ cs147 : List Value, St Ha wa H w [.row 51 2 v145 n146 cs147] ∧ Inc H71 H ∧ Els (up wa.heap.size H) eSequent 2 cs147 [(Sequent.mk r40 r115)] ∧ (bl cs147).Nodup ∧ f 6 = v145) (by kernel_rfl) S91.sl ?_ ?_
   ·
    intro w94 r95
    have S96 := S91.call r95
    refine FB.t (i := 0) (bs 12 1) rfl (SP.nil S96.sl) rfl (fun w' hw' => (E.move k79)) ?_
    refine FB.t (i := 1) (bs 12 3) rfl (SP.nil S96.sl) rfl (fun w' hw' => (E.fieldAddr tf51_1 k78)) ?_
    refine FB.t (i := 2) (bs 12 7) rfl (SP.nil S96.sl) rfl (fun w' hw' => (E.load rfl (run_load1 Tryz.isAgg30 ((at28.mono i73).now hw') rfl))) ?_
    refine FB.t (i := 3) (bs 12 15) rfl (SP.nil S96.sl) rfl (fun w' hw' => (E.move (v := v85) rfl)) ?_
    obtain ⟨q99, v101, v102, rfl, at100, h103, h104⟩ := FAt.open h88 hy98
    refine FB.t (i := 4) (bs 12 31) rfl (SP.nil S96.sl) rfl (fun w' hw' => (E.nilCheck rfl)) ?_
    refine FB.t (i := 5) (bs 12 63) rfl (SP.nil S96.sl) rfl (fun w' hw' => (E.fieldAddr tf86_3 rfl)) ?_
    refine FB.t (i := 6) (bs 12 127) rfl (SP.nil S96.sl) rfl (fun w' hw' => (E.load rfl (run_load1 Tryz.isAgg9 (at100.now hw') rfl))) ?_
    refine FB.all1 (i := 7) (by kernel_rfl) ?_
    ·
     obtain ⟨v105, w106, run107, S108⟩ := S96.buildSlice (P := Tryz.prog) te30 [Value.string y97.text] (parts := #[(0, Value.string y97.text)]) (cells := [Value.string y97.text]) rfl (szs_cons rfl szs_nil) (fc_cons rfl fc_nil) (ones_cons rfl ones_nil) (Nat.le_of_ble_eq_true rfl)
     have els109 : Els (up wa.heap.size H71) eS 1 [Value.string y97.text] [y97.text] := (Els.snoc (H := (up wa.heap.size H71)) (E := eS) (k := 1) (c := [Value.string y97.text]) (x := y97.text) Els.nil rfl rfl)
     refine FC.val (l' := (bs 12 255)) rfl (by kernel_rfl) rfl rfl rfl (E.buildSlice (B1 rfl) run107) ?_
     refine ⟨(SP.nil S108.sl), ?_⟩
     refine FB.all1 (i := 8) (by kernel_rfl) ?_
     ·
      obtain ⟨H110, S111, i112, h113, nv114⟩ := S108.sealRowU (i := 0) (l' := [.row 9 1 v63 n64 cs65, .row 9 1 v67 n68 cs69]) rfl els109 (by decide) rfl
      refine FC.call (l' := (bs 12 511)) rfl (by kernel_rfl) rfl rfl rfl (E.call Tryz.call65 (A2 rfl rfl)) (w_impl_with S111.sl v0_1 a0.right (p0_1.mono ((i27.tr i73).tr i112)) v105 [y97.text] (h113.mono upI) hr116) ?_
      rintro e w118 ⟨H117, v123, n124, cs125, rfl, r120, els126⟩
      refine ⟨_, rfl, ?_⟩
      obtain ⟨H121, r120, hU122⟩ := St.lendX i112 S108.sl r120
      have els126 := els126.mono (hU122.tr (up_le S108.size))
      have S119 := S108.join (l' := [.row 9 1 v123 n124 cs125, .row 9 1 v105 1 [Value.string y97.text], .row 9 1 v63 n64 cs65, .row 9 1 v67 n68 cs69]) r120 rfl
      refine ⟨(SP.nil (Sl.of_inc r120.run.inc S119.sl)), ?_⟩
      obtain ⟨H127, S128, i129, h131, nv132⟩ := S119.sealRowU (i := 2) (l' := [.row 9 1 v123 n124 cs125, .row 9 1 v105 1 [Value.string y97.text], .row 9 1 v67 n68 cs69]) rfl (els66.mono (up_mono r120.run.inc)) (by decide) rfl
      obtain ⟨H133, S134, i135, h136, nv137⟩ := S128.sealRowU (i := 0) (l' := [.row 9 1 v105 1 [Value.string y97.text], .row 9 1 v67 n68 cs69]) rfl (els126.mono (up_mono i129)) (by decide) rfl
      refine FB.t (i := 9) (bs 12 1023) rfl (SP.nil (Sl.of_inc r120.run.inc S119.sl)) rfl (fun w' hw' => (E.build (B2 rfl rfl) (run_build _ 51 #[(0, v63), (1, v123)] #[v63, v123] (by obtain ⟨_, _, rfl⟩ := RSl.ln (h131.mono (upI.tr i135)); obtain ⟨_, _, rfl⟩ := RSl.ln (h136.mono upI); rfl)))) ?_
      refine FB.all1 (i := 10) (by kernel_rfl) ?_
      ·
       obtain ⟨v138, w139, run140, S141⟩ := S134.buildSlice (P := Tryz.prog) te130 [Value.agg #[v63, v123]] (parts := #[(0, Value.agg #[v63, v123])]) (cells := [v63, v123]) rfl (szs_cons rfl szs_nil) (fc_cons rfl fc_nil) (ones_cons h131.one (ones_cons h136.one ones_nil)) (Nat.le_of_ble_eq_true rfl)
       have els142 : Els (up wa.heap.size H133) eSequent 2 [v63, v123] [(Sequent.mk r40 r115)] := (Els.snoc (H := (up wa.heap.size H133)) (E := eSequent) (k := 2) (c := [v63, v123]) (x := (Sequent.mk r40 r115)) Els.nil rfl ⟨_, _, rfl, (h131.mono (up_mono i135)), h136⟩)
       have nd143 : (bl [v63, v123]).Nodup := by exact nd_two (New.apart (h131.mono (up_mono (Inc.rfl _))) nv137)
       have nv144 : New H121 [v63, v123] := by exact (New.two nv132 (nv137.anti i129))
       refine FC.val (l' := (bs 12 2047)) rfl (by kernel_rfl) rfl rfl rfl (E.buildSlice (B1 rfl) run140) ?_
       refine ⟨(SP.nil (Sl.of_inc ((r120.run.inc.tr i129).tr i135) S141.sl)), ?_⟩
       refine FB.t (i := 11) (bs 12 4095) rfl (SP.nil (Sl.of_inc ((r120.run.inc.tr i129).tr i135) S141.sl)) rfl (fun w' hw' => (E.assign (v := v138) rfl)) ?_
       exact FB.done (by kernel_rfl) ⟨_, _, _, _, (S141.sel [0] (by decide) rfl), ((r120.run.inc.tr i129).tr i135), els142, nd143, rfl⟩
   ·
    rintro f154 w153 ⟨H150, v145, n146, cs147, S151, i152, els148, nd149, k155⟩
    refine FW.ret ?_
    obtain rfl := Option.some.inj hp
    exact ⟨.inr rfl, res1 rfl k155 ⟨_, _, _, _, rfl, S151, (els148.mono upI)⟩⟩
  ·
   refine FW.condF rfl c93 ?_
   refine FW.seq (FW.region ?_)
   refine FL.v (E.eql rfl rfl) ?_
   refine FL.v (E.assign (v := Value.bool (a1 == 3)) rfl) ?_
   refine FL.nil ?_
   rcases ifB hp with ⟨c156, hp⟩ | ⟨c156, hp⟩
   ·
    refine FW.condT rfl c156 ?_
    refine FW.seq ?_
    obtain ⟨y160, hy161, hp⟩ := bnd hp
    obtain ⟨r178, hr179, hp⟩ := bnd hp
    refine FW.drawB (Sl H71) (fun f w => ∃ H : GH, ∃ v207 : Value, ∃ n208 : Nat, ∃ cs209 : List Value, St Ha wa H w [.row 51 2 v207 n208 cs209] ∧ Inc H71 H ∧ Els (up wa.heap.size H) eSequent 2 cs209 [(Sequent.mk r178 r50)] ∧ (bl cs209).Nodup ∧ f 6 = v207) (by kernel_rfl) S91.sl ?_ ?_
    ·
     intro w157 r158
     have S159 := S91.call r158
     refine FB.t (i := 0) (bs 12 1) rfl (SP.nil S159.sl) rfl (fun w' hw' => (E.fieldAddr tf51_0 k78)) ?_
     refine FB.t (i := 1) (bs 12 3) rfl (SP.nil S159.sl) rfl (fun w' hw' => (E.load rfl (run_load1 Tryz.isAgg30 ((at28.mono i73).now hw') rfl))) ?_
     refine FB.t (i := 2) (bs 12 7) rfl (SP.nil S159.sl) rfl (fun w' hw' => (E.move (v := v85) rfl)) ?_
     obtain ⟨q162, v164, v165, rfl, at163, h166, h167⟩ := FAt.open h88 hy161
     refine FB.t (i := 3) (bs 12 15) rfl (SP.nil S159.sl) rfl (fun w' hw' => (E.nilCheck rfl)) ?_
     refine FB.t (i := 4) (bs 12 31) rfl (SP.nil S159.sl) rfl (fun w' hw' => (E.fieldAddr tf86_3 rfl)) ?_
     refine FB.t (i := 5) (bs 12 63) rfl (SP.nil S159.sl) rfl (fun w' hw' => (E.load rfl (run_load1 Tryz.isAgg9 (at163.now hw') rfl))) ?_
     refine FB.t (i := 8) (bs 12 319) rfl (SP.nil S159.sl) rfl (fun w' hw' => (E.move k80)) ?_
     refine FB.all1 (i := 6) (by kernel_rfl) ?_
     ·
      obtain ⟨v168, w169, run170, S171⟩ := S159.buildSlice (P := Tryz.prog) te30 [Value.string y160.text] (parts := #[(0, Value.string y160.text)]) (cells := [Value.string y160.text]) rfl (szs_cons rfl szs_nil) (fc_cons rfl fc_nil) (ones_cons rfl ones_nil) (Nat.le_of_ble_eq_true rfl)
      have els172 : Els (up wa.heap.size H71) eS 1 [Value.string y160.text] [y160.text] := (Els.snoc (H := (up wa.heap.size H71)) (E := eS) (k := 1) (c := [Value.string y160.text]) (x := y160.text) Els.nil rfl rfl)
      refine FC.val (l' := (bs 12 383)) rfl (by kernel_rfl) rfl rfl rfl (E.buildSlice (B1 rfl) run170) ?_
      refine ⟨(SP.nil S171.sl), ?_⟩
      refine FB.all1 (i := 7) (by kernel_rfl) ?_
      ·
       obtain ⟨H173, S174, i175, h176, nv177⟩ := S171.sealRowU (i := 0) (l' := [.row 9 1 v63 n64 cs65, .row 9 1 v67 n68 cs69]) rfl els172 (by decide) rfl
       refine FC.call (l' := (bs 12 511)) rfl (by kernel_rfl) rfl rfl rfl (E.call Tryz.call65 (A2 rfl rfl)) (w_impl_with S174.sl v0_0 a0.left (p0_0.mono ((i27.tr i73).tr i175)) v168 [y160.text] (h176.mono upI) hr179) ?_
       rintro e w181 ⟨H180, v186, n187, cs188, rfl, r183, els189⟩
       refine ⟨_, rfl, ?_⟩
       obtain ⟨H184, r183, hU185⟩ := St.lendX i175 S171.sl r183
       have els189 := els189.mono (hU185.tr (up_le S171.size))
       have S182 := S171.join (l' := [.row 9 1 v186 n187 cs188, .row 9 1 v168 1 [Value.string y160.text], .row 9 1 v63 n64 cs65, .row 9 1 v67 n68 cs69]) r183 rfl
       refine ⟨(SP.nil (Sl.of_inc r183.run.inc S182.sl)), ?_⟩
       obtain ⟨H190, S191, i192, h193, nv194⟩ := S182.sealRowU (i := 0) (l' := [.row 9 1 v168 1 [Value.string y160.text], .row 9 1 v63 n64 cs65, .row 9 1 v67 n68 cs69]) rfl els189 (by decide) rfl
       obtain ⟨H195, S196, i197, h198, nv199⟩ := S191.sealRowU (i := 2) (l' := [.row 9 1 v168 1 [Value.string y160.text], .row 9 1 v63 n64 cs65]) rfl (els70.mono (up_mono (r183.run.inc.tr i192))) (by decide) rfl
       refine FB.t (i := 9) (bs 12 1023) rfl (SP.nil (Sl.of_inc r183.run.inc S182.sl)) rfl (fun w' hw' => (E.build (B2 rfl rfl) (run_build _ 51 #[(0, v186), (1, v67)] #[v186, v67] (by obtain ⟨_, _, rfl⟩ := RSl.ln (h193.mono (upI.tr i197)); obtain ⟨_, _, rfl⟩ := RSl.ln (h198.mono upI); rfl)))) ?_
       refine FB.all1 (i := 10) (by kernel_rfl) ?_
       ·
        obtain ⟨v200, w201, run202, S203⟩ := S196.buildSlice (P := Tryz.prog) te130 [Value.agg #[v186, v67]] (parts := #[(0, Value.agg #[v186, v67])]) (cells := [v186, v67]) rfl (szs_cons rfl szs_nil) (fc_cons rfl fc_nil) (ones_cons h193.one (ones_cons h198.one ones_nil)) (Nat.le_of_ble_eq_true rfl)
        have els204 : Els (up wa.heap.size H195) eSequent 2 [v186, v67] [(Sequent.mk r178 r50)] := (Els.snoc (H := (up wa.heap.size H195)) (E := eSequent) (k := 2) (c := [v186, v67]) (x := (Sequent.mk r178 r50)) Els.nil rfl ⟨_, _, rfl, (h193.mono (up_mono i197)), h198⟩)
        have nd205 : (bl [v186, v67]).Nodup := by exact nd_two (New.apart (h193.mono (up_mono (Inc.rfl _))) nv199)
        have nv206 : New H184 [v186, v67] := by exact (New.two nv194 (nv199.anti i192))
        refine FC.val (l' := (bs 12 2047)) rfl (by kernel_rfl) rfl rfl rfl (E.buildSlice (B1 rfl) run202) ?_
        refine ⟨(SP.nil (Sl.of_inc ((r183.run.inc.tr i192).tr i197) S203.sl)), ?_⟩
        refine FB.t (i := 11) (bs 12 4095) rfl (SP.nil (Sl.of_inc ((r183.run.inc.tr i192).tr i197) S203.sl)) rfl (fun w' hw' => (E.assign (v := v200) rfl)) ?_
        exact FB.done (by kernel_rfl) ⟨_, _, _, _, (S203.sel [0] (by decide) rfl), ((r183.run.inc.tr i192).tr i197), els204, nd205, rfl⟩
    ·
     rintro f216 w215 ⟨H212, v207, n208, cs209, S213, i214, els210, nd211, k217⟩
     refine FW.ret ?_
     obtain rfl := Option.some.inj hp
     exact ⟨.inr rfl, res1 rfl k217 ⟨_, _, _, _, rfl, S213, (els210.mono upI)⟩⟩
   ·
    refine FW.condF rfl c156 ?_
    refine FW.seq (FW.region ?_)
    refine FL.v (E.eql rfl rfl) ?_
    refine FL.v (E.assign (v := Value.bool (a1 == 4)) rfl) ?_
    refine FL.nil ?_
    rcases ifB hp with ⟨c218, hp⟩ | ⟨c218, hp⟩
    ·
     refine FW.condT rfl c218 ?_
     refine FW.seq ?_
     obtain ⟨y222, hy223, hp⟩ := bnd hp
     obtain ⟨y230, hy231, hp⟩ := bnd hp
     obtain ⟨r253, hr254, hp⟩ := bnd hp
     refine FW.drawB (Sl H71) (fun f w => ∃ H : GH, ∃ v275 : Value, ∃ n276 : Nat, ∃ cs277 : List Value, St Ha wa H w [.row 51 2 v275 n276 cs277] ∧ Inc H71 H ∧ Els H eSequent 2 cs277 [(Sequent.mk r253 a0.right)] ∧ f 6 = v275) (by kernel_rfl) S91.sl ?_ ?_
     ·
      intro w219 r220
      have S221 := S91.call r220
      refine FB.t (i := 0) (bs 16 1) rfl (SP.nil S221.sl) rfl (fun w' hw' => (E.move k79)) ?_
      refine FB.t (i := 1) (bs 16 3) rfl (SP.nil S221.sl) rfl (fun w' hw' => (E.move (v := v85) rfl)) ?_
      obtain ⟨q224, v226, v227, rfl, at225, h228, h229⟩ := FAt.open h88 hy223
      refine FB.t (i := 2) (bs 16 7) rfl (SP.nil S221.sl) rfl (fun w' hw' => (E.nilCheck rfl)) ?_
      refine FB.t (i := 3) (bs 16 15) rfl (SP.nil S221.sl) rfl (fun w' hw' => (E.fieldAddr tf86_3 rfl)) ?_
      refine FB.t (i := 4) (bs 16 31) rfl (SP.nil S221.sl) rfl (fun w' hw' => (E.load rfl (run_load1 Tryz.isAgg9 (at225.now hw') rfl))) ?_
      refine FB.t (i := 5) (bs 16 63) rfl (SP.nil S221.sl) rfl (fun w' hw' => (E.move (v := v87) rfl)) ?_
      obtain ⟨q232, v234, v235, rfl, at233, h236, h237⟩ := FAt.open h89 hy231
      refine FB.t (i := 6) (bs 16 127) rfl (SP.nil S221.sl) rfl (fun w' hw' => (E.nilCheck rfl)) ?_
      refine FB.t (i := 7) (bs 16 255) rfl (SP.nil S221.sl) rfl (fun w' hw' => (E.fieldAddr tf86_3 rfl)) ?_
      refine FB.t (i := 8) (bs 16 511) rfl (SP.nil S221.sl) rfl (fun w' hw' => (E.load rfl (run_load1 Tryz.isAgg9 (at233.now hw') rfl))) ?_
      refine FB.t (i := 11) (bs 16 2559) rfl (SP.nil S221.sl) rfl (fun w' hw' => (E.fieldAddr tf51_1 k78)) ?_
      refine FB.t (i := 12) (bs 16 6655) rfl (SP.nil S221.sl) rfl (fun w' hw' => (E.load rfl (run_load1 Tryz.isAgg30 ((at28.mono i73).now hw') rfl))) ?_
      refine FB.all1 (i := 9) (by kernel_rfl) ?_
      ·
       obtain ⟨v238, w239, run240, S241⟩ := S221.buildSlice (P := Tryz.prog) te30 [Value.string y222.text, Value.string y230.text] (parts := #[(0, Value.string y222.text), (1, Value.string y230.text)]) (cells := [Value.string y222.text, Value.string y230.text]) rfl (szs_cons rfl (szs_cons rfl szs_nil)) (fc_cons rfl (fc_cons rfl fc_nil)) (ones_cons rfl (ones_cons rfl ones_nil)) (Nat.le_of_ble_eq_true rfl)
       have els242 : Els (up wa.heap.size H71) eS 1 [Value.string y222.text, Value.string y230.text] [y222.text, y230.text] := (Els.snoc (H := (up wa.heap.size H71)) (E := eS) (k := 1) (c := [Value.string y230.text]) (x := y230.text) (Els.snoc (H := (up wa.heap.size H71)) (E := eS) (k := 1) (c := [Value.string y222.text]) (x := y222.text) Els.nil rfl rfl) rfl rfl)
       refine FC.val (l' := (bs 16 7167)) rfl (by kernel_rfl) rfl rfl rfl (E.buildSlice (B2 rfl rfl) run240) ?_
       refine ⟨(SP.nil S241.sl), ?_⟩
       refine FB.all1 (i := 10) (by kernel_rfl) ?_
       ·
        obtain ⟨H243, S244, i245, h246, nv247⟩ := S241.sealRowU (i := 1) (l' := [.row 9 1 v238 2 [Value.string y222.text, Value.string y230.text], .row 9 1 v67 n68 cs69]) rfl els66 (by decide) rfl
        obtain ⟨H248, S249, i250, h251, nv252⟩ := S244.sealRowU (i := 0) (l' := [.row 9 1 v67 n68 cs69]) rfl (els242.mono (up_mono i245)) (by decide) rfl
        refine FC.call (l' := (bs 16 8191)) rfl (by kernel_rfl) rfl rfl rfl (E.call Tryz.call65 (A2 rfl rfl)) (w_impl_with S249.sl v63 r40 (h246.mono (upI.tr i250)) v238 [y222.text, y230.text] (h251.mono upI) hr254) ?_
        rintro e w256 ⟨H255, v261, n262, cs263, rfl, r258, els264⟩
        refine ⟨_, rfl, ?_⟩
        obtain ⟨H259, r258, hU260⟩ := St.lendX (i245.tr i250) S241.sl r258
        have els264 := els264.mono (hU260.tr (up_le S241.size))
        have S257 := S241.join (l' := [.row 9 1 v261 n262 cs263, .row 9 1 v238 2 [Value.string y222.text, Value.string y230.text], .row 9 1 v63 n64 cs65, .row 9 1 v67 n68 cs69]) r258 rfl
        refine ⟨(SP.nil (Sl.of_inc r258.run.inc S257.sl)), ?_⟩
        obtain ⟨H265, S266, i267, h268, nv269⟩ := S257.sealRowU (i := 0) (l' := [.row 9 1 v238 2 [Value.string y222.text, Value.string y230.text], .row 9 1 v63 n64 cs65, .row 9 1 v67 n68 cs69]) rfl els264 (by decide) rfl
        refine FB.t (i := 13) (bs 16 16383) rfl (SP.nil (Sl.of_inc r258.run.inc S257.sl)) rfl (fun w' hw' => (E.build (B2 rfl rfl) (run_build _ 51 #[(0, v261), (1, v0_1)] #[v261, v0_1] (by obtain ⟨_, _, rfl⟩ := RSl.ln (h268.mono upI); obtain ⟨_, _, rfl⟩ := RSl.ln (p0_1.mono (((i27.tr i73).tr r258.run.inc).tr i267)); rfl)))) ?_
        refine FB.all1 (i := 14) (by kernel_rfl) ?_
        ·
         obtain ⟨v270, w271, run272, S273⟩ := S266.buildSlice (P := Tryz.prog) te130 [Value.agg #[v261, v0_1]] (parts := #[(0, Value.agg #[v261, v0_1])]) (cells := [v261, v0_1]) rfl (szs_cons rfl szs_nil) (fc_cons rfl fc_nil) (ones_cons h268.one (ones_cons p0_1.one ones_nil)) (Nat.le_of_ble_eq_true rfl)
         have els274 : Els H265 eSequent 2 [v261, v0_1] [(Sequent.mk r253 a0.right)] := (Els.snoc (H := H265) (E := eSequent) (k := 2) (c := [v261, v0_1]) (x := (Sequent.mk r253 a0.right)) Els.nil rfl ⟨_, _, rfl, (h268.mono upI), (p0_1.mono (((i27.tr i73).tr r258.run.inc).tr i267))⟩)
         refine FC.val (l' := (bs 16 32767)) rfl (by kernel_rfl) rfl rfl rfl (E.buildSlice (B1 rfl) run272) ?_
         refine ⟨(SP.nil (Sl.of_inc (r258.run.inc.tr i267) S273.sl)), ?_⟩
         refine FB.t (i := 15) (bs 16 65535) rfl (SP.nil (Sl.of_inc (r258.run.inc.tr i267) S273.sl)) rfl (fun w' hw' => (E.assign (v := v270) rfl)) ?_
         exact FB.done (by kernel_rfl) ⟨_, _, _, _, (S273.sel [0] (by decide) rfl), (r258.run.inc.tr i267), els274, rfl⟩
     ·
      rintro f283 w282 ⟨H279, v275, n276, cs277, S280, i281, els278, k284⟩
      refine FW.ret ?_
      obtain rfl := Option.some.inj hp
      exact ⟨.inr rfl, res1 rfl k284 ⟨_, _, _, _, rfl, S280, els278⟩⟩
    ·
     refine FW.condF rfl c218 ?_
     refine FW.seq (FW.region ?_)
     refine FL.v (E.eql rfl rfl) ?_
     refine FL.v (E.assign (v := Value.bool (a1 == 5)) rfl) ?_
     refine FL.nil ?_
     rcases ifB hp with ⟨c285, hp⟩ | ⟨c285, hp⟩
     ·
      refine FW.condT rfl c285 ?_
      refine FW.seq ?_
      obtain ⟨y289, hy290, hp⟩ := bnd hp
      obtain ⟨r312, hr313, hp⟩ := bnd hp
      obtain ⟨y329, hy330, hp⟩ := bnd hp
      obtain ⟨r352, hr353, hp⟩ := bnd hp
      refine FW.drawB (Sl H71) (fun f w => ∃ H : GH, ∃ v374 : Value, ∃ n375 : Nat, ∃ cs376 : List Value, St Ha wa H w [.row 51 2 v374 n375 cs376] ∧ Inc H71 H ∧ Els H eSequent 2 cs376 [(Sequent.mk a0.left r312), (Sequent.mk a0.left r352)] ∧ f 6 = v374) (by kernel_rfl) S91.sl ?_ ?_
      ·
       intro w286 r287
       have S288 := S91.call r287
       refine FB.t (i := 0) (bs 22 1) rfl (SP.nil S288.sl) rfl (fun w' hw' => (E.fieldAddr tf51_0 k78)) ?_
       refine FB.t (i := 1) (bs 22 3) rfl (SP.nil S288.sl) rfl (fun w' hw' => (E.load rfl (run_load1 Tryz.isAgg30 ((at28.mono i73).now hw') rfl))) ?_
       refine FB.t (i := 2) (bs 22 7) rfl (SP.nil S288.sl) rfl (fun w' hw' => (E.move k80)) ?_
       refine FB.t (i := 3) (bs 22 15) rfl (SP.nil S288.sl) rfl (fun w' hw' => (E.move (v := v85) rfl)) ?_
       obtain ⟨q291, v293, v294, rfl, at292, h295, h296⟩ := FAt.open h88 hy290
       refine FB.t (i := 4) (bs 22 31) rfl (SP.nil S288.sl) rfl (fun w' hw' => (E.nilCheck rfl)) ?_
       refine FB.t (i := 5) (bs 22 63) rfl (SP.nil S288.sl) rfl (fun w' hw' => (E.fieldAddr tf86_3 rfl)) ?_
       refine FB.t (i := 6) (bs 22 127) rfl (SP.nil S288.sl) rfl (fun w' hw' => (E.load rfl (run_load1 Tryz.isAgg9 (at292.now hw') rfl))) ?_
       refine FB.t (i := 10) (bs 22 1151) rfl (SP.nil S288.sl) rfl (fun w' hw' => (E.fieldAddr tf51_0 k78)) ?_
       refine FB.t (i := 11) (bs 22 3199) rfl (SP.nil S288.sl) rfl (fun w' hw' => (E.load rfl (run_load1 Tryz.isAgg30 ((at28.mono i73).now hw') rfl))) ?_
       refine FB.t (i := 12) (bs 22 7295) rfl (SP.nil S288.sl) rfl (fun w' hw' => (E.move k80)) ?_
       refine FB.t (i := 13) (bs 22 15487) rfl (SP.nil S288.sl) rfl (fun w' hw' => (E.move (v := v87) rfl)) ?_
       obtain ⟨q331, v333, v334, rfl, at332, h335, h336⟩ := FAt.open h89 hy330
       refine FB.t (i := 14) (bs 22 31871) rfl (SP.nil S288.sl) rfl (fun w' hw' => (E.nilCheck rfl)) ?_
       refine FB.t (i := 15) (bs 22 64639) rfl (SP.nil S288.sl) rfl (fun w' hw' => (E.fieldAddr tf86_3 rfl)) ?_
       refine FB.t (i := 16) (bs 22 130175) rfl (SP.nil S288.sl) rfl (fun w' hw' => (E.load rfl (run_load1 Tryz.isAgg9 (at332.now hw') rfl))) ?_
       refine FB.all2 (i := 7) (j := 17) (by kernel_rfl) ?_ ?_
       ·
        obtain ⟨v297, w298, run299, S300⟩ := S288.buildSlice (P := Tryz.prog) te30 [Value.string y289.text] (parts := #[(0, Value.string y289.text)]) (cells := [Value.string y289.text]) rfl (szs_cons rfl szs_nil) (fc_cons rfl fc_nil) (ones_cons rfl ones_nil) (Nat.le_of_ble_eq_true rfl)
        have els301 : Els (up wa.heap.size H71) eS 1 [Value.string y289.text] [y289.text] := (Els.snoc (H := (up wa.heap.size H71)) (E := eS) (k := 1) (c := [Value.string y289.text]) (x := y289.text) Els.nil rfl rfl)
        refine FC.val (l' := (bs 22 130303)) rfl (by kernel_rfl) rfl rfl rfl (E.buildSlice (B1 rfl) run299) ?_
        refine ⟨(SP.nil S300.sl), ?_⟩
        refine FB.all2 (i := 8) (j := 17) (by kernel_rfl) ?_ ?_
        ·
         obtain ⟨H302, S303, i304, h305, nv306⟩ := S300.sealRowU (i := 2) (l' := [.row 9 1 v297 1 [Value.string y289.text], .row 9 1 v63 n64 cs65]) rfl els70 (by decide) rfl
         obtain ⟨H307, S308, i309, h310, nv311⟩ := S303.sealRowU (i := 0) (l' := [.row 9 1 v63 n64 cs65]) rfl (els301.mono (up_mono i304)) (by decide) rfl
         refine FC.call (l' := (bs 22 130559)) rfl (by kernel_rfl) rfl rfl rfl (E.call Tryz.call65 (A2 rfl rfl)) (w_impl_with S308.sl v67 r50 (h305.mono (upI.tr i309)) v297 [y289.text] (h310.mono upI) hr313) ?_
         rintro e w315 ⟨H314, v320, n321, cs322, rfl, r317, els323⟩
         refine ⟨_, rfl, ?_⟩
         obtain ⟨H318, r317, hU319⟩ := St.lendX (i304.tr i309) S300.sl r317
         have els323 := els323.mono (hU319.tr (up_le S300.size))
         have S316 := S300.join (l' := [.row 9 1 v320 n321 cs322, .row 9 1 v297 1 [Value.string y289.text], .row 9 1 v63 n64 cs65, .row 9 1 v67 n68 cs69]) r317 rfl
         refine ⟨(SP.nil (Sl.of_inc r317.run.inc S316.sl)), ?_⟩
         obtain ⟨H324, S325, i326, h327, nv328⟩ := S316.sealRowU (i := 0) (l' := [.row 9 1 v297 1 [Value.string y289.text], .row 9 1 v63 n64 cs65, .row 9 1 v67 n68 cs69]) rfl els323 (by decide) rfl
         refine FB.t (i := 9) (bs 22 131071) rfl (SP.nil (Sl.of_inc r317.run.inc S316.sl)) rfl (fun w' hw' => (E.build (B2 rfl rfl) (run_build _ 51 #[(0, v0_0), (1, v320)] #[v0_0, v320] (by obtain ⟨_, _, rfl⟩ := RSl.ln (p0_0.mono (((i27.tr i73).tr r317.run.inc).tr i326)); obtain ⟨_, _, rfl⟩ := RSl.ln (h327.mono upI); rfl)))) ?_
         refine FB.all1 (i := 17) (by kernel_rfl) ?_
         ·
          obtain ⟨v337, w338, run339, S340⟩ := S325.buildSlice (P := Tryz.prog) te30 [Value.string y329.text] (parts := #[(0, Value.string y329.text)]) (cells := [Value.string y329.text]) rfl (szs_cons rfl szs_nil) (fc_cons rfl fc_nil) (ones_cons rfl ones_nil) (Nat.le_of_ble_eq_true rfl)
          have els341 : Els (up wa.heap.size H324) eS 1 [Value.string y329.text] [y329.text] := (Els.snoc (H := (up wa.heap.size H324)) (E := eS) (k := 1) (c := [Value.string y329.text]) (x := y329.text) Els.nil rfl rfl)
          refine FC.val (l' := (bs 22 262143)) rfl (by kernel_rfl) rfl rfl rfl (E.buildSlice (B1 rfl) run339) ?_
          refine ⟨(SP.nil (Sl.of_inc (r317.run.inc.tr i326) S340.sl)), ?_⟩
          refine FB.all1 (i := 18) (by kernel_rfl) ?_
          ·
           obtain ⟨H342, S343, i344, h345, nv346⟩ := S340.sealRowU (i := 3) (l' := [.row 9 1 v337 1 [Value.string y329.text], .row 9 1 v297 1 [Value.string y289.text], .row 9 1 v63 n64 cs65]) rfl (els70.mono (up_mono (r317.run.inc.tr i326))) (by decide) rfl
           obtain ⟨H347, S348, i349, h350, nv351⟩ := S343.sealRowU (i := 0) (l' := [.row 9 1 v297 1 [Value.string y289.text], .row 9 1 v63 n64 cs65]) rfl (els341.mono (up_mono i344)) (by decide) rfl
           refine FC.call (l' := (bs 22 524287)) rfl (by kernel_rfl) rfl rfl rfl (E.call Tryz.call65 (A2 rfl rfl)) (w_impl_with S348.sl v67 r50 (h345.mono (upI.tr i349)) v337 [y329.text] (h350.mono upI) hr353) ?_
           rintro e w355 ⟨H354, v360, n361, cs362, rfl, r357, els363⟩
           refine ⟨_, rfl, ?_⟩
           obtain ⟨H358, r357, hU359⟩ := St.lendX (i344.tr i349) S340.sl r357
           have els363 := els363.mono (hU359.tr (up_le S340.size))
           have S356 := S340.join (l' := [.row 9 1 v360 n361 cs362, .row 9 1 v337 1 [Value.string y329.text], .row 9 1 v297 1 [Value.string y289.text], .row 9 1 v63 n64 cs65, .row 9 1 v67 n68 cs69]) r357 rfl
           refine ⟨(SP.nil (Sl.of_inc ((r317.run.inc.tr i326).tr r357.run.inc) S356.sl)), ?_⟩
           obtain ⟨H364, S365, i366, h367, nv368⟩ := S356.sealRowU (i := 0) (l' := [.row 9 1 v337 1 [Value.string y329.text], .row 9 1 v297 1 [Value.string y289.text], .row 9 1 v63 n64 cs65, .row 9 1 v67 n68 cs69]) rfl els363 (by decide) rfl
           refine FB.t (i := 19) (bs 22 1048575) rfl (SP.nil (Sl.of_inc ((r317.run.inc.tr i326).tr r357.run.inc) S356.sl)) rfl (fun w' hw' => (E.build (B2 rfl rfl) (run_build _ 51 #[(0, v0_0), (1, v360)] #[v0_0, v360] (by obtain ⟨_, _, rfl⟩ := RSl.ln (p0_0.mono (((((i27.tr i73).tr r317.run.inc).tr i326).tr r357.run.inc).tr i366)); obtain ⟨_, _, rfl⟩ := RSl.ln (h367.mono upI); rfl)))) ?_
           refine FB.all1 (i := 20) (by kernel_rfl) ?_
           ·
            obtain ⟨v369, w370, run371, S372⟩ := S365.buildSlice (P := Tryz.prog) te130 [Value.agg #[v0_0, v320], Value.agg #[v0_0, v360]] (parts := #[(0, Value.agg #[v0_0, v320]), (1, Value.agg #[v0_0, v360])]) (cells := [v0_0, v320, v0_0, v360]) rfl (szs_cons rfl (szs_cons rfl szs_nil)) (fc_cons rfl (fc_cons rfl fc_nil)) (ones_cons p0_0.one (ones_cons h327.one (ones_cons p0_0.one (ones_cons h367.one ones_nil)))) (Nat.le_of_ble_eq_true rfl)
            have els373 : Els H364 eSequent 2 [v0_0, v320, v0_0, v360] [(Sequent.mk a0.left r312), (Sequent.mk a0.left r352)] := (Els.snoc (H := H364) (E := eSequent) (k := 2) (c := [v0_0, v360]) (x := (Sequent.mk a0.left r352)) (Els.snoc (H := H364) (E := eSequent) (k := 2) (c := [v0_0, v320]) (x := (Sequent.mk a0.left r312)) Els.nil rfl ⟨_, _, rfl, (p0_0.mono (((((i27.tr i73).tr r317.run.inc).tr i326).tr r357.run.inc).tr i366)), (h327.mono (upI.tr (r357.run.inc.tr i366)))⟩) rfl ⟨_, _, rfl, (p0_0.mono (((((i27.tr i73).tr r317.run.inc).tr i326).tr r357.run.inc).tr i366)), (h367.mono upI)⟩)
            refine FC.val (l' := (bs 22 2097151)) rfl (by kernel_rfl) rfl rfl rfl (E.buildSlice (B2 rfl rfl) run371) ?_
            refine ⟨(SP.nil (Sl.of_inc (((r317.run.inc.tr i326).tr r357.run.inc).tr i366) S372.sl)), ?_⟩
            refine FB.t (i := 21) (bs 22 4194303) rfl (SP.nil (Sl.of_inc (((r317.run.inc.tr i326).tr r357.run.inc).tr i366) S372.sl)) rfl (fun w' hw' => (E.assign (v := v369) rfl)) ?_
            exact FB.done (by kernel_rfl) ⟨_, _, _, _, (S372.sel [0] (by decide) rfl), (((r317.run.inc.tr i326).tr r357.run.inc).tr i366), els373, rfl⟩
        ·
         obtain ⟨v337, w338, run339, S340⟩ := S300.buildSlice (P := Tryz.prog) te30 [Value.string y329.text] (parts := #[(0, Value.string y329.text)]) (cells := [Value.string y329.text]) rfl (szs_cons rfl szs_nil) (fc_cons rfl fc_nil) (ones_cons rfl ones_nil) (Nat.le_of_ble_eq_true rfl)
         have els341 : Els (up wa.heap.size H71) eS 1 [Value.string y329.text] [y329.text] := (Els.snoc (H := (up wa.heap.size H71)) (E := eS) (k := 1) (c := [Value.string y329.text]) (x := y329.text) Els.nil rfl rfl)
         refine FC.val (l' := (bs 22 261375)) rfl (by kernel_rfl) rfl rfl rfl (E.buildSlice (B1 rfl) run339) ?_
         refine ⟨(SP.nil S340.sl), ?_⟩
         refine FB.all1 (i := 8) (by kernel_rfl) ?_
         ·
          obtain ⟨H302, S303, i304, h305, nv306⟩ := S340.sealRowU (i := 3) (l' := [.row 9 1 v337 1 [Value.string y329.text], .row 9 1 v297 1 [Value.string y289.text], .row 9 1 v63 n64 cs65]) rfl els70 (by decide) rfl
          obtain ⟨H307, S308, i309, h310, nv311⟩ := S303.sealRowU (i := 1) (l' := [.row 9 1 v337 1 [Value.string y329.text], .row 9 1 v63 n64 cs65]) rfl (els301.mono (up_mono i304)) (by decide) rfl
          refine FC.call (l' := (bs 22 261631)) rfl (by kernel_rfl) rfl rfl rfl (E.call Tryz.call65 (A2 rfl rfl)) (w_impl_with S308.sl v67 r50 (h305.mono (upI.tr i309)) v297 [y289.text] (h310.mono upI) hr313) ?_
          rintro e w315 ⟨H314, v320, n321, cs322, rfl, r317, els323⟩
          refine ⟨_, rfl, ?_⟩
          obtain ⟨H318, r317, hU319⟩ := St.lendX (i304.tr i309) S340.sl r317
          have els323 := els323.mono (hU319.tr (up_le S340.size))
          have S316 := S340.join (l' := [.row 9 1 v320 n321 cs322, .row 9 1 v337 1 [Value.string y329.text], .row 9 1 v297 1 [Value.string y289.text], .row 9 1 v63 n64 cs65, .row 9 1 v67 n68 cs69]) r317 rfl
          refine ⟨(SP.nil (Sl.of_inc r317.run.inc S316.sl)), ?_⟩
          obtain ⟨H324, S325, i326, h327, nv328⟩ := S316.sealRowU (i := 0) (l' := [.row 9 1 v337 1 [Value.string y329.text], .row 9 1 v297 1 [Value.string y289.text], .row 9 1 v63 n64 cs65, .row 9 1 v67 n68 cs69]) rfl els323 (by decide) rfl
          refine FB.t (i := 9) (bs 22 262143) rfl (SP.nil (Sl.of_inc r317.run.inc S316.sl)) rfl (fun w' hw' => (E.build (B2 rfl rfl) (run_build _ 51 #[(0, v0_0), (1, v320)] #[v0_0, v320] (by obtain ⟨_, _, rfl⟩ := RSl.ln (p0_0.mono (((i27.tr i73).tr r317.run.inc).tr i326)); obtain ⟨_, _, rfl⟩ := RSl.ln (h327.mono upI); rfl)))) ?_
          refine FB.all1 (i := 18) (by kernel_rfl) ?_
          ·
           obtain ⟨H342, S343, i344, h345, nv346⟩ := S325.sealRowU (i := 3) (l' := [.row 9 1 v337 1 [Value.string y329.text], .row 9 1 v297 1 [Value.string y289.text], .row 9 1 v63 n64 cs65]) rfl (els70.mono (up_mono (r317.run.inc.tr i326))) (by decide) rfl
           obtain ⟨H347, S348, i349, h350, nv351⟩ := S343.sealRowU (i := 0) (l' := [.row 9 1 v297 1 [Value.string y289.text], .row 9 1 v63 n64 cs65]) rfl (els341.mono (up_mono ((r317.run.inc.tr i326).tr i344))) (by decide) rfl
           refine FC.call (l' := (bs 22 524287)) rfl (by kernel_rfl) rfl rfl rfl (E.call Tryz.call65 (A2 rfl rfl)) (w_impl_with S348.sl v67 r50 (h345.mono (upI.tr i349)) v337 [y329.text] (h350.mono upI) hr353) ?_
           rintro e w355 ⟨H354, v360, n361, cs362, rfl, r357, els363⟩
           refine ⟨_, rfl, ?_⟩
           obtain ⟨H358, r357, hU359⟩ := St.lendX (i344.tr i349) S325.sl r357
           have els363 := els363.mono (hU359.tr (up_le S325.size))
           have S356 := S325.join (l' := [.row 9 1 v360 n361 cs362, .row 9 1 v337 1 [Value.string y329.text], .row 9 1 v297 1 [Value.string y289.text], .row 9 1 v63 n64 cs65, .row 9 1 v67 n68 cs69]) r357 rfl
           refine ⟨(SP.nil (Sl.of_inc ((r317.run.inc.tr i326).tr r357.run.inc) S356.sl)), ?_⟩
           obtain ⟨H364, S365, i366, h367, nv368⟩ := S356.sealRowU (i := 0) (l' := [.row 9 1 v337 1 [Value.string y329.text], .row 9 1 v297 1 [Value.string y289.text], .row 9 1 v63 n64 cs65, .row 9 1 v67 n68 cs69]) rfl els363 (by decide) rfl
           refine FB.t (i := 19) (bs 22 1048575) rfl (SP.nil (Sl.of_inc ((r317.run.inc.tr i326).tr r357.run.inc) S356.sl)) rfl (fun w' hw' => (E.build (B2 rfl rfl) (run_build _ 51 #[(0, v0_0), (1, v360)] #[v0_0, v360] (by obtain ⟨_, _, rfl⟩ := RSl.ln (p0_0.mono (((((i27.tr i73).tr r317.run.inc).tr i326).tr r357.run.inc).tr i366)); obtain ⟨_, _, rfl⟩ := RSl.ln (h367.mono upI); rfl)))) ?_
           refine FB.all1 (i := 20) (by kernel_rfl) ?_
           ·
            obtain ⟨v369, w370, run371, S372⟩ := S365.buildSlice (P := Tryz.prog) te130 [Value.agg #[v0_0, v320], Value.agg #[v0_0, v360]] (parts := #[(0, Value.agg #[v0_0, v320]), (1, Value.agg #[v0_0, v360])]) (cells := [v0_0, v320, v0_0, v360]) rfl (szs_cons rfl (szs_cons rfl szs_nil)) (fc_cons rfl (fc_cons rfl fc_nil)) (ones_cons p0_0.one (ones_cons h327.one (ones_cons p0_0.one (ones_cons h367.one ones_nil)))) (Nat.le_of_ble_eq_true rfl)
            have els373 : Els H364 eSequent 2 [v0_0, v320, v0_0, v360] [(Sequent.mk a0.left r312), (Sequent.mk a0.left r352)] := (Els.snoc (H := H364) (E := eSequent) (k := 2) (c := [v0_0, v360]) (x := (Sequent.mk a0.left r352)) (Els.snoc (H := H364) (E := eSequent) (k := 2) (c := [v0_0, v320]) (x := (Sequent.mk a0.left r312)) Els.nil rfl ⟨_, _, rfl, (p0_0.mono (((((i27.tr i73).tr r317.run.inc).tr i326).tr r357.run.inc).tr i366)), (h327.mono (upI.tr (r357.run.inc.tr i366)))⟩) rfl ⟨_, _, rfl, (p0_0.mono (((((i27.tr i73).tr r317.run.inc).tr i326).tr r357.run.inc).tr i366)), (h367.mono upI)⟩)
            refine FC.val (l' := (bs 22 2097151)) rfl (by kernel_rfl) rfl rfl rfl (E.buildSlice (B2 rfl rfl) run371) ?_
            refine ⟨(SP.nil (Sl.of_inc (((r317.run.inc.tr i326).tr r357.run.inc).tr i366) S372.sl)), ?_⟩
            refine FB.t (i := 21) (bs 22 4194303) rfl (SP.nil (Sl.of_inc (((r317.run.inc.tr i326).tr r357.run.inc).tr i366) S372.sl)) rfl (fun w' hw' => (E.assign (v := v369) rfl)) ?_
            exact FB.done (by kernel_rfl) ⟨_, _, _, _, (S372.sel [0] (by decide) rfl), (((r317.run.inc.tr i326).tr r357.run.inc).tr i366), els373, rfl⟩
       ·
        obtain ⟨v337, w338, run339, S340⟩ := S288.buildSlice (P := Tryz.prog) te30 [Value.string y329.text] (parts := #[(0, Value.string y329.text)]) (cells := [Value.string y329.text]) rfl (szs_cons rfl szs_nil) (fc_cons rfl fc_nil) (ones_cons rfl ones_nil) (Nat.le_of_ble_eq_true rfl)
        have els341 : Els (up wa.heap.size H71) eS 1 [Value.string y329.text] [y329.text] := (Els.snoc (H := (up wa.heap.size H71)) (E := eS) (k := 1) (c := [Value.string y329.text]) (x := y329.text) Els.nil rfl rfl)
        refine FC.val (l' := (bs 22 261247)) rfl (by kernel_rfl) rfl rfl rfl (E.buildSlice (B1 rfl) run339) ?_
        refine ⟨(SP.nil S340.sl), ?_⟩
        refine FB.all1 (i := 7) (by kernel_rfl) ?_
        ·
         obtain ⟨v297, w298, run299, S300⟩ := S340.buildSlice (P := Tryz.prog) te30 [Value.string y289.text] (parts := #[(0, Value.string y289.text)]) (cells := [Value.string y289.text]) rfl (szs_cons rfl szs_nil) (fc_cons rfl fc_nil) (ones_cons rfl ones_nil) (Nat.le_of_ble_eq_true rfl)
         have els301 : Els (up wa.heap.size H71) eS 1 [Value.string y289.text] [y289.text] := (Els.snoc (H := (up wa.heap.size H71)) (E := eS) (k := 1) (c := [Value.string y289.text]) (x := y289.text) Els.nil rfl rfl)
         refine FC.val (l' := (bs 22 261375)) rfl (by kernel_rfl) rfl rfl rfl (E.buildSlice (B1 rfl) run299) ?_
         refine ⟨(SP.nil S300.sl), ?_⟩
         refine FB.all1 (i := 8) (by kernel_rfl) ?_
         ·
          obtain ⟨H302, S303, i304, h305, nv306⟩ := S300.sealRowU (i := 3) (l' := [.row 9 1 v297 1 [Value.string y289.text], .row 9 1 v337 1 [Value.string y329.text], .row 9 1 v63 n64 cs65]) rfl els70 (by decide) rfl
          obtain ⟨H307, S308, i309, h310, nv311⟩ := S303.sealRowU (i := 0) (l' := [.row 9 1 v337 1 [Value.string y329.text], .row 9 1 v63 n64 cs65]) rfl (els301.mono (up_mono i304)) (by decide) rfl
          refine FC.call (l' := (bs 22 261631)) rfl (by kernel_rfl) rfl rfl rfl (E.call Tryz.call65 (A2 rfl rfl)) (w_impl_with S308.sl v67 r50 (h305.mono (upI.tr i309)) v297 [y289.text] (h310.mono upI) hr313) ?_
          rintro e w315 ⟨H314, v320, n321, cs322, rfl, r317, els323⟩
          refine ⟨_, rfl, ?_⟩
          obtain ⟨H318, r317, hU319⟩ := St.lendX (i304.tr i309) S300.sl r317
          have els323 := els323.mono (hU319.tr (up_le S300.size))
          have S316 := S300.join (l' := [.row 9 1 v320 n321 cs322, .row 9 1 v297 1 [Value.string y289.text], .row 9 1 v337 1 [Value.string y329.text], .row 9 1 v63 n64 cs65, .row 9 1 v67 n68 cs69]) r317 rfl
          refine ⟨(SP.nil (Sl.of_inc r317.run.inc S316.sl)), ?_⟩
          obtain ⟨H324, S325, i326, h327, nv328⟩ := S316.sealRowU (i := 0) (l' := [.row 9 1 v297 1 [Value.string y289.text], .row 9 1 v337 1 [Value.string y329.text], .row 9 1 v63 n64 cs65, .row 9 1 v67 n68 cs69]) rfl els323 (by decide) rfl
          refine FB.t (i := 9) (bs 22 262143) rfl (SP.nil (Sl.of_inc r317.run.inc S316.sl)) rfl (fun w' hw' => (E.build (B2 rfl rfl) (run_build _ 51 #[(0, v0_0), (1, v320)] #[v0_0, v320] (by obtain ⟨_, _, rfl⟩ := RSl.ln (p0_0.mono (((i27.tr i73).tr r317.run.inc).tr i326)); obtain ⟨_, _, rfl⟩ := RSl.ln (h327.mono upI); rfl)))) ?_
          refine FB.all1 (i := 18) (by kernel_rfl) ?_
          ·
           obtain ⟨H342, S343, i344, h345, nv346⟩ := S325.sealRowU (i := 3) (l' := [.row 9 1 v297 1 [Value.string y289.text], .row 9 1 v337 1 [Value.string y329.text], .row 9 1 v63 n64 cs65]) rfl (els70.mono (up_mono (r317.run.inc.tr i326))) (by decide) rfl
           obtain ⟨H347, S348, i349, h350, nv351⟩ := S343.sealRowU (i := 1) (l' := [.row 9 1 v297 1 [Value.string y289.text], .row 9 1 v63 n64 cs65]) rfl (els341.mono (up_mono ((r317.run.inc.tr i326).tr i344))) (by decide) rfl
           refine FC.call (l' := (bs 22 524287)) rfl (by kernel_rfl) rfl rfl rfl (E.call Tryz.call65 (A2 rfl rfl)) (w_impl_with S348.sl v67 r50 (h345.mono (upI.tr i349)) v337 [y329.text] (h350.mono upI) hr353) ?_
           rintro e w355 ⟨H354, v360, n361, cs362, rfl, r357, els363⟩
           refine ⟨_, rfl, ?_⟩
           obtain ⟨H358, r357, hU359⟩ := St.lendX (i344.tr i349) S325.sl r357
           have els363 := els363.mono (hU359.tr (up_le S325.size))
           have S356 := S325.join (l' := [.row 9 1 v360 n361 cs362, .row 9 1 v297 1 [Value.string y289.text], .row 9 1 v337 1 [Value.string y329.text], .row 9 1 v63 n64 cs65, .row 9 1 v67 n68 cs69]) r357 rfl
           refine ⟨(SP.nil (Sl.of_inc ((r317.run.inc.tr i326).tr r357.run.inc) S356.sl)), ?_⟩
           obtain ⟨H364, S365, i366, h367, nv368⟩ := S356.sealRowU (i := 0) (l' := [.row 9 1 v297 1 [Value.string y289.text], .row 9 1 v337 1 [Value.string y329.text], .row 9 1 v63 n64 cs65, .row 9 1 v67 n68 cs69]) rfl els363 (by decide) rfl
           refine FB.t (i := 19) (bs 22 1048575) rfl (SP.nil (Sl.of_inc ((r317.run.inc.tr i326).tr r357.run.inc) S356.sl)) rfl (fun w' hw' => (E.build (B2 rfl rfl) (run_build _ 51 #[(0, v0_0), (1, v360)] #[v0_0, v360] (by obtain ⟨_, _, rfl⟩ := RSl.ln (p0_0.mono (((((i27.tr i73).tr r317.run.inc).tr i326).tr r357.run.inc).tr i366)); obtain ⟨_, _, rfl⟩ := RSl.ln (h367.mono upI); rfl)))) ?_
           refine FB.all1 (i := 20) (by kernel_rfl) ?_
           ·
            obtain ⟨v369, w370, run371, S372⟩ := S365.buildSlice (P := Tryz.prog) te130 [Value.agg #[v0_0, v320], Value.agg #[v0_0, v360]] (parts := #[(0, Value.agg #[v0_0, v320]), (1, Value.agg #[v0_0, v360])]) (cells := [v0_0, v320, v0_0, v360]) rfl (szs_cons rfl (szs_cons rfl szs_nil)) (fc_cons rfl (fc_cons rfl fc_nil)) (ones_cons p0_0.one (ones_cons h327.one (ones_cons p0_0.one (ones_cons h367.one ones_nil)))) (Nat.le_of_ble_eq_true rfl)
            have els373 : Els H364 eSequent 2 [v0_0, v320, v0_0, v360] [(Sequent.mk a0.left r312), (Sequent.mk a0.left r352)] := (Els.snoc (H := H364) (E := eSequent) (k := 2) (c := [v0_0, v360]) (x := (Sequent.mk a0.left r352)) (Els.snoc (H := H364) (E := eSequent) (k := 2) (c := [v0_0, v320]) (x := (Sequent.mk a0.left r312)) Els.nil rfl ⟨_, _, rfl, (p0_0.mono (((((i27.tr i73).tr r317.run.inc).tr i326).tr r357.run.inc).tr i366)), (h327.mono (upI.tr (r357.run.inc.tr i366)))⟩) rfl ⟨_, _, rfl, (p0_0.mono (((((i27.tr i73).tr r317.run.inc).tr i326).tr r357.run.inc).tr i366)), (h367.mono upI)⟩)
            refine FC.val (l' := (bs 22 2097151)) rfl (by kernel_rfl) rfl rfl rfl (E.buildSlice (B2 rfl rfl) run371) ?_
            refine ⟨(SP.nil (Sl.of_inc (((r317.run.inc.tr i326).tr r357.run.inc).tr i366) S372.sl)), ?_⟩
            refine FB.t (i := 21) (bs 22 4194303) rfl (SP.nil (Sl.of_inc (((r317.run.inc.tr i326).tr r357.run.inc).tr i366) S372.sl)) rfl (fun w' hw' => (E.assign (v := v369) rfl)) ?_
            exact FB.done (by kernel_rfl) ⟨_, _, _, _, (S372.sel [0] (by decide) rfl), (((r317.run.inc.tr i326).tr r357.run.inc).tr i366), els373, rfl⟩
      ·
       rintro f382 w381 ⟨H378, v374, n375, cs376, S379, i380, els377, k383⟩
       refine FW.ret ?_
       obtain rfl := Option.some.inj hp
       exact ⟨.inr rfl, res1 rfl k383 ⟨_, _, _, _, rfl, S379, els377⟩⟩
     ·
      refine FW.condF rfl c285 ?_
      refine FW.seq (FW.region ?_)
      refine FL.v (E.eql rfl rfl) ?_
      refine FL.v (E.assign (v := Value.bool (a1 == 6)) rfl) ?_
      refine FL.nil ?_
      rcases ifB hp with ⟨c384, hp⟩ | ⟨c384, hp⟩
      ·
       refine FW.condT rfl c384 ?_
       refine FW.seq ?_
       obtain ⟨y388, hy389, hp⟩ := bnd hp
       obtain ⟨r411, hr412, hp⟩ := bnd hp
       obtain ⟨y428, hy429, hp⟩ := bnd hp
       obtain ⟨r451, hr452, hp⟩ := bnd hp
       refine FW.drawB (Sl H71) (fun f w => ∃ H : GH, ∃ v473 : Value, ∃ n474 : Nat, ∃ cs475 : List Value, St Ha wa H w [.row 51 2 v473 n474 cs475] ∧ Inc H71 H ∧ Els H eSequent 2 cs475 [(Sequent.mk r411 a0.right), (Sequent.mk r451 a0.right)] ∧ f 6 = v473) (by kernel_rfl) S91.sl ?_ ?_
       ·
        intro w385 r386
        have S387 := S91.call r386
        refine FB.t (i := 0) (bs 22 1) rfl (SP.nil S387.sl) rfl (fun w' hw' => (E.move k79)) ?_
        refine FB.t (i := 1) (bs 22 3) rfl (SP.nil S387.sl) rfl (fun w' hw' => (E.move (v := v85) rfl)) ?_
        obtain ⟨q390, v392, v393, rfl, at391, h394, h395⟩ := FAt.open h88 hy389
        refine FB.t (i := 2) (bs 22 7) rfl (SP.nil S387.sl) rfl (fun w' hw' => (E.nilCheck rfl)) ?_
        refine FB.t (i := 3) (bs 22 15) rfl (SP.nil S387.sl) rfl (fun w' hw' => (E.fieldAddr tf86_3 rfl)) ?_
        refine FB.t (i := 4) (bs 22 31) rfl (SP.nil S387.sl) rfl (fun w' hw' => (E.load rfl (run_load1 Tryz.isAgg9 (at391.now hw') rfl))) ?_
        refine FB.t (i := 7) (bs 22 159) rfl (SP.nil S387.sl) rfl (fun w' hw' => (E.fieldAddr tf51_1 k78)) ?_
        refine FB.t (i := 8) (bs 22 415) rfl (SP.nil S387.sl) rfl (fun w' hw' => (E.load rfl (run_load1 Tryz.isAgg30 ((at28.mono i73).now hw') rfl))) ?_
        refine FB.t (i := 10) (bs 22 1439) rfl (SP.nil S387.sl) rfl (fun w' hw' => (E.move k79)) ?_
        refine FB.t (i := 11) (bs 22 3487) rfl (SP.nil S387.sl) rfl (fun w' hw' => (E.move (v := v87) rfl)) ?_
        obtain ⟨q430, v432, v433, rfl, at431, h434, h435⟩ := FAt.open h89 hy429
        refine FB.t (i := 12) (bs 22 7583) rfl (SP.nil S387.sl) rfl (fun w' hw' => (E.nilCheck rfl)) ?_
        refine FB.t (i := 13) (bs 22 15775) rfl (SP.nil S387.sl) rfl (fun w' hw' => (E.fieldAddr tf86_3 rfl)) ?_
        refine FB.t (i := 14) (bs 22 32159) rfl (SP.nil S387.sl) rfl (fun w' hw' => (E.load rfl (run_load1 Tryz.isAgg9 (at431.now hw') rfl))) ?_
        refine FB.t (i := 17) (bs 22 163231) rfl (SP.nil S387.sl) rfl (fun w' hw' => (E.fieldAddr tf51_1 k78)) ?_
        refine FB.t (i := 18) (bs 22 425375) rfl (SP.nil S387.sl) rfl (fun w' hw' => (E.load rfl (run_load1 Tryz.isAgg30 ((at28.mono i73).now hw') rfl))) ?_
        refine FB.all2 (i := 5) (j := 15) (by kernel_rfl) ?_ ?_
        ·
         obtain ⟨v396, w397, run398, S399⟩ := S387.buildSlice (P := Tryz.prog) te30 [Value.string y388.text] (parts := #[(0, Value.string y388.text)]) (cells := [Value.string y388.text]) rfl (szs_cons rfl szs_nil) (fc_cons rfl fc_nil) (ones_cons rfl ones_nil) (Nat.le_of_ble_eq_true rfl)
         have els400 : Els (up wa.heap.size H71) eS 1 [Value.string y388.text] [y388.text] := (Els.snoc (H := (up wa.heap.size H71)) (E := eS) (k := 1) (c := [Value.string y388.text]) (x := y388.text) Els.nil rfl rfl)
         refine FC.val (l' := (bs 22 425407)) rfl (by kernel_rfl) rfl rfl rfl (E.buildSlice (B1 rfl) run398) ?_
         refine ⟨(SP.nil S399.sl), ?_⟩
         refine FB.all2 (i := 6) (j := 15) (by kernel_rfl) ?_ ?_
         ·
          obtain ⟨H401, S402, i403, h404, nv405⟩ := S399.sealRowU (i := 1) (l' := [.row 9 1 v396 1 [Value.string y388.text], .row 9 1 v67 n68 cs69]) rfl els66 (by decide) rfl
          obtain ⟨H406, S407, i408, h409, nv410⟩ := S402.sealRowU (i := 0) (l' := [.row 9 1 v67 n68 cs69]) rfl (els400.mono (up_mono i403)) (by decide) rfl
          refine FC.call (l' := (bs 22 425471)) rfl (by kernel_rfl) rfl rfl rfl (E.call Tryz.call65 (A2 rfl rfl)) (w_impl_with S407.sl v63 r40 (h404.mono (upI.tr i408)) v396 [y388.text] (h409.mono upI) hr412) ?_
          rintro e w414 ⟨H413, v419, n420, cs421, rfl, r416, els422⟩
          refine ⟨_, rfl, ?_⟩
          obtain ⟨H417, r416, hU418⟩ := St.lendX (i403.tr i408) S399.sl r416
          have els422 := els422.mono (hU418.tr (up_le S399.size))
          have S415 := S399.join (l' := [.row 9 1 v419 n420 cs421, .row 9 1 v396 1 [Value.string y388.text], .row 9 1 v63 n64 cs65, .row 9 1 v67 n68 cs69]) r416 rfl
          refine ⟨(SP.nil (Sl.of_inc r416.run.inc S415.sl)), ?_⟩
          obtain ⟨H423, S424, i425, h426, nv427⟩ := S415.sealRowU (i := 0) (l' := [.row 9 1 v396 1 [Value.string y388.text], .row 9 1 v63 n64 cs65, .row 9 1 v67 n68 cs69]) rfl els422 (by decide) rfl
          refine FB.t (i := 9) (bs 22 425983) rfl (SP.nil (Sl.of_inc r416.run.inc S415.sl)) rfl (fun w' hw' => (E.build (B2 rfl rfl) (run_build _ 51 #[(0, v419), (1, v0_1)] #[v419, v0_1] (by obtain ⟨_, _, rfl⟩ := RSl.ln (h426.mono upI); obtain ⟨_, _, rfl⟩ := RSl.ln (p0_1.mono (((i27.tr i73).tr r416.run.inc).tr i425)); rfl)))) ?_
          refine FB.all1 (i := 15) (by kernel_rfl) ?_
          ·
           obtain ⟨v436, w437, run438, S439⟩ := S424.buildSlice (P := Tryz.prog) te30 [Value.string y428.text] (parts := #[(0, Value.string y428.text)]) (cells := [Value.string y428.text]) rfl (szs_cons rfl szs_nil) (fc_cons rfl fc_nil) (ones_cons rfl ones_nil) (Nat.le_of_ble_eq_true rfl)
           have els440 : Els (up wa.heap.size H423) eS 1 [Value.string y428.text] [y428.text] := (Els.snoc (H := (up wa.heap.size H423)) (E := eS) (k := 1) (c := [Value.string y428.text]) (x := y428.text) Els.nil rfl rfl)
           refine FC.val (l' := (bs 22 458751)) rfl (by kernel_rfl) rfl rfl rfl (E.buildSlice (B1 rfl) run438) ?_
           refine ⟨(SP.nil (Sl.of_inc (r416.run.inc.tr i425) S439.sl)), ?_⟩
           refine FB.all1 (i := 16) (by kernel_rfl) ?_
           ·
            obtain ⟨H441, S442, i443, h444, nv445⟩ := S439.sealRowU (i := 2) (l' := [.row 9 1 v436 1 [Value.string y428.text], .row 9 1 v396 1 [Value.string y388.text], .row 9 1 v67 n68 cs69]) rfl (els66.mono (up_mono (r416.run.inc.tr i425))) (by decide) rfl
            obtain ⟨H446, S447, i448, h449, nv450⟩ := S442.sealRowU (i := 0) (l' := [.row 9 1 v396 1 [Value.string y388.text], .row 9 1 v67 n68 cs69]) rfl (els440.mono (up_mono i443)) (by decide) rfl
            refine FC.call (l' := (bs 22 524287)) rfl (by kernel_rfl) rfl rfl rfl (E.call Tryz.call65 (A2 rfl rfl)) (w_impl_with S447.sl v63 r40 (h444.mono (upI.tr i448)) v436 [y428.text] (h449.mono upI) hr452) ?_
            rintro e w454 ⟨H453, v459, n460, cs461, rfl, r456, els462⟩
            refine ⟨_, rfl, ?_⟩
            obtain ⟨H457, r456, hU458⟩ := St.lendX (i443.tr i448) S439.sl r456
            have els462 := els462.mono (hU458.tr (up_le S439.size))
            have S455 := S439.join (l' := [.row 9 1 v459 n460 cs461, .row 9 1 v436 1 [Value.string y428.text], .row 9 1 v396 1 [Value.string y388.text], .row 9 1 v63 n64 cs65, .row 9 1 v67 n68 cs69]) r456 rfl
            refine ⟨(SP.nil (Sl.of_inc ((r416.run.inc.tr i425).tr r456.run.inc) S455.sl)), ?_⟩
            obtain ⟨H463, S464, i465, h466, nv467⟩ := S455.sealRowU (i := 0) (l' := [.row 9 1 v436 1 [Value.string y428.text], .row 9 1 v396 1 [Value.string y388.text], .row 9 1 v63 n64 cs65, .row 9 1 v67 n68 cs69]) rfl els462 (by decide) rfl
            refine FB.t (i := 19) (bs 22 1048575) rfl (SP.nil (Sl.of_inc ((r416.run.inc.tr i425).tr r456.run.inc) S455.sl)) rfl (fun w' hw' => (E.build (B2 rfl rfl) (run_build _ 51 #[(0, v459), (1, v0_1)] #[v459, v0_1] (by obtain ⟨_, _, rfl⟩ := RSl.ln (h466.mono upI); obtain ⟨_, _, rfl⟩ := RSl.ln (p0_1.mono (((((i27.tr i73).tr r416.run.inc).tr i425).tr r456.run.inc).tr i465)); rfl)))) ?_
            refine FB.all1 (i := 20) (by kernel_rfl) ?_
            ·
             obtain ⟨v468, w469, run470, S471⟩ := S464.buildSlice (P := Tryz.prog) te130 [Value.agg #[v419, v0_1], Value.agg #[v459, v0_1]] (parts := #[(0, Value.agg #[v419, v0_1]), (1, Value.agg #[v459, v0_1])]) (cells := [v419, v0_1, v459, v0_1]) rfl (szs_cons rfl (szs_cons rfl szs_nil)) (fc_cons rfl (fc_cons rfl fc_nil)) (ones_cons h426.one (ones_cons p0_1.one (ones_cons h466.one (ones_cons p0_1.one ones_nil)))) (Nat.le_of_ble_eq_true rfl)
             have els472 : Els H463 eSequent 2 [v419, v0_1, v459, v0_1] [(Sequent.mk r411 a0.right), (Sequent.mk r451 a0.right)] := (Els.snoc (H := H463) (E := eSequent) (k := 2) (c := [v459, v0_1]) (x := (Sequent.mk r451 a0.right)) (Els.snoc (H := H463) (E := eSequent) (k := 2) (c := [v419, v0_1]) (x := (Sequent.mk r411 a0.right)) Els.nil rfl ⟨_, _, rfl, (h426.mono (upI.tr (r456.run.inc.tr i465))), (p0_1.mono (((((i27.tr i73).tr r416.run.inc).tr i425).tr r456.run.inc).tr i465))⟩) rfl ⟨_, _, rfl, (h466.mono upI), (p0_1.mono (((((i27.tr i73).tr r416.run.inc).tr i425).tr r456.run.inc).tr i465))⟩)
             refine FC.val (l' := (bs 22 2097151)) rfl (by kernel_rfl) rfl rfl rfl (E.buildSlice (B2 rfl rfl) run470) ?_
             refine ⟨(SP.nil (Sl.of_inc (((r416.run.inc.tr i425).tr r456.run.inc).tr i465) S471.sl)), ?_⟩
             refine FB.t (i := 21) (bs 22 4194303) rfl (SP.nil (Sl.of_inc (((r416.run.inc.tr i425).tr r456.run.inc).tr i465) S471.sl)) rfl (fun w' hw' => (E.assign (v := v468) rfl)) ?_
             exact FB.done (by kernel_rfl) ⟨_, _, _, _, (S471.sel [0] (by decide) rfl), (((r416.run.inc.tr i425).tr r456.run.inc).tr i465), els472, rfl⟩
         ·
          obtain ⟨v436, w437, run438, S439⟩ := S399.buildSlice (P := Tryz.prog) te30 [Value.string y428.text] (parts := #[(0, Value.string y428.text)]) (cells := [Value.string y428.text]) rfl (szs_cons rfl szs_nil) (fc_cons rfl fc_nil) (ones_cons rfl ones_nil) (Nat.le_of_ble_eq_true rfl)
          have els440 : Els (up wa.heap.size H71) eS 1 [Value.string y428.text] [y428.text] := (Els.snoc (H := (up wa.heap.size H71)) (E := eS) (k := 1) (c := [Value.string y428.text]) (x := y428.text) Els.nil rfl rfl)
          refine FC.val (l' := (bs 22 458175)) rfl (by kernel_rfl) rfl rfl rfl (E.buildSlice (B1 rfl) run438) ?_
          refine ⟨(SP.nil S439.sl), ?_⟩
          refine FB.all1 (i := 6) (by kernel_rfl) ?_
          ·
           obtain ⟨H401, S402, i403, h404, nv405⟩ := S439.sealRowU (i := 2) (l' := [.row 9 1 v436 1 [Value.string y428.text], .row 9 1 v396 1 [Value.string y388.text], .row 9 1 v67 n68 cs69]) rfl els66 (by decide) rfl
           obtain ⟨H406, S407, i408, h409, nv410⟩ := S402.sealRowU (i := 1) (l' := [.row 9 1 v436 1 [Value.string y428.text], .row 9 1 v67 n68 cs69]) rfl (els400.mono (up_mono i403)) (by decide) rfl
           refine FC.call (l' := (bs 22 458239)) rfl (by kernel_rfl) rfl rfl rfl (E.call Tryz.call65 (A2 rfl rfl)) (w_impl_with S407.sl v63 r40 (h404.mono (upI.tr i408)) v396 [y388.text] (h409.mono upI) hr412) ?_
           rintro e w414 ⟨H413, v419, n420, cs421, rfl, r416, els422⟩
           refine ⟨_, rfl, ?_⟩
           obtain ⟨H417, r416, hU418⟩ := St.lendX (i403.tr i408) S439.sl r416
           have els422 := els422.mono (hU418.tr (up_le S439.size))
           have S415 := S439.join (l' := [.row 9 1 v419 n420 cs421, .row 9 1 v436 1 [Value.string y428.text], .row 9 1 v396 1 [Value.string y388.text], .row 9 1 v63 n64 cs65, .row 9 1 v67 n68 cs69]) r416 rfl
           refine ⟨(SP.nil (Sl.of_inc r416.run.inc S415.sl)), ?_⟩
           obtain ⟨H423, S424, i425, h426, nv427⟩ := S415.sealRowU (i := 0) (l' := [.row 9 1 v436 1 [Value.string y428.text], .row 9 1 v396 1 [Value.string y388.text], .row 9 1 v63 n64 cs65, .row 9 1 v67 n68 cs69]) rfl els422 (by decide) rfl
           refine FB.t (i := 9) (bs 22 458751) rfl (SP.nil (Sl.of_inc r416.run.inc S415.sl)) rfl (fun w' hw' => (E.build (B2 rfl rfl) (run_build _ 51 #[(0, v419), (1, v0_1)] #[v419, v0_1] (by obtain ⟨_, _, rfl⟩ := RSl.ln (h426.mono upI); obtain ⟨_, _, rfl⟩ := RSl.ln (p0_1.mono (((i27.tr i73).tr r416.run.inc).tr i425)); rfl)))) ?_
           refine FB.all1 (i := 16) (by kernel_rfl) ?_
           ·
            obtain ⟨H441, S442, i443, h444, nv445⟩ := S424.sealRowU (i := 2) (l' := [.row 9 1 v436 1 [Value.string y428.text], .row 9 1 v396 1 [Value.string y388.text], .row 9 1 v67 n68 cs69]) rfl (els66.mono (up_mono (r416.run.inc.tr i425))) (by decide) rfl
            obtain ⟨H446, S447, i448, h449, nv450⟩ := S442.sealRowU (i := 0) (l' := [.row 9 1 v396 1 [Value.string y388.text], .row 9 1 v67 n68 cs69]) rfl (els440.mono (up_mono ((r416.run.inc.tr i425).tr i443))) (by decide) rfl
            refine FC.call (l' := (bs 22 524287)) rfl (by kernel_rfl) rfl rfl rfl (E.call Tryz.call65 (A2 rfl rfl)) (w_impl_with S447.sl v63 r40 (h444.mono (upI.tr i448)) v436 [y428.text] (h449.mono upI) hr452) ?_
            rintro e w454 ⟨H453, v459, n460, cs461, rfl, r456, els462⟩
            refine ⟨_, rfl, ?_⟩
            obtain ⟨H457, r456, hU458⟩ := St.lendX (i443.tr i448) S424.sl r456
            have els462 := els462.mono (hU458.tr (up_le S424.size))
            have S455 := S424.join (l' := [.row 9 1 v459 n460 cs461, .row 9 1 v436 1 [Value.string y428.text], .row 9 1 v396 1 [Value.string y388.text], .row 9 1 v63 n64 cs65, .row 9 1 v67 n68 cs69]) r456 rfl
            refine ⟨(SP.nil (Sl.of_inc ((r416.run.inc.tr i425).tr r456.run.inc) S455.sl)), ?_⟩
            obtain ⟨H463, S464, i465, h466, nv467⟩ := S455.sealRowU (i := 0) (l' := [.row 9 1 v436 1 [Value.string y428.text], .row 9 1 v396 1 [Value.string y388.text], .row 9 1 v63 n64 cs65, .row 9 1 v67 n68 cs69]) rfl els462 (by decide) rfl
            refine FB.t (i := 19) (bs 22 1048575) rfl (SP.nil (Sl.of_inc ((r416.run.inc.tr i425).tr r456.run.inc) S455.sl)) rfl (fun w' hw' => (E.build (B2 rfl rfl) (run_build _ 51 #[(0, v459), (1, v0_1)] #[v459, v0_1] (by obtain ⟨_, _, rfl⟩ := RSl.ln (h466.mono upI); obtain ⟨_, _, rfl⟩ := RSl.ln (p0_1.mono (((((i27.tr i73).tr r416.run.inc).tr i425).tr r456.run.inc).tr i465)); rfl)))) ?_
            refine FB.all1 (i := 20) (by kernel_rfl) ?_
            ·
             obtain ⟨v468, w469, run470, S471⟩ := S464.buildSlice (P := Tryz.prog) te130 [Value.agg #[v419, v0_1], Value.agg #[v459, v0_1]] (parts := #[(0, Value.agg #[v419, v0_1]), (1, Value.agg #[v459, v0_1])]) (cells := [v419, v0_1, v459, v0_1]) rfl (szs_cons rfl (szs_cons rfl szs_nil)) (fc_cons rfl (fc_cons rfl fc_nil)) (ones_cons h426.one (ones_cons p0_1.one (ones_cons h466.one (ones_cons p0_1.one ones_nil)))) (Nat.le_of_ble_eq_true rfl)
             have els472 : Els H463 eSequent 2 [v419, v0_1, v459, v0_1] [(Sequent.mk r411 a0.right), (Sequent.mk r451 a0.right)] := (Els.snoc (H := H463) (E := eSequent) (k := 2) (c := [v459, v0_1]) (x := (Sequent.mk r451 a0.right)) (Els.snoc (H := H463) (E := eSequent) (k := 2) (c := [v419, v0_1]) (x := (Sequent.mk r411 a0.right)) Els.nil rfl ⟨_, _, rfl, (h426.mono (upI.tr (r456.run.inc.tr i465))), (p0_1.mono (((((i27.tr i73).tr r416.run.inc).tr i425).tr r456.run.inc).tr i465))⟩) rfl ⟨_, _, rfl, (h466.mono upI), (p0_1.mono (((((i27.tr i73).tr r416.run.inc).tr i425).tr r456.run.inc).tr i465))⟩)
             refine FC.val (l' := (bs 22 2097151)) rfl (by kernel_rfl) rfl rfl rfl (E.buildSlice (B2 rfl rfl) run470) ?_
             refine ⟨(SP.nil (Sl.of_inc (((r416.run.inc.tr i425).tr r456.run.inc).tr i465) S471.sl)), ?_⟩
             refine FB.t (i := 21) (bs 22 4194303) rfl (SP.nil (Sl.of_inc (((r416.run.inc.tr i425).tr r456.run.inc).tr i465) S471.sl)) rfl (fun w' hw' => (E.assign (v := v468) rfl)) ?_
             exact FB.done (by kernel_rfl) ⟨_, _, _, _, (S471.sel [0] (by decide) rfl), (((r416.run.inc.tr i425).tr r456.run.inc).tr i465), els472, rfl⟩
        ·
         obtain ⟨v436, w437, run438, S439⟩ := S387.buildSlice (P := Tryz.prog) te30 [Value.string y428.text] (parts := #[(0, Value.string y428.text)]) (cells := [Value.string y428.text]) rfl (szs_cons rfl szs_nil) (fc_cons rfl fc_nil) (ones_cons rfl ones_nil) (Nat.le_of_ble_eq_true rfl)
         have els440 : Els (up wa.heap.size H71) eS 1 [Value.string y428.text] [y428.text] := (Els.snoc (H := (up wa.heap.size H71)) (E := eS) (k := 1) (c := [Value.string y428.text]) (x := y428.text) Els.nil rfl rfl)
         refine FC.val (l' := (bs 22 458143)) rfl (by kernel_rfl) rfl rfl rfl (E.buildSlice (B1 rfl) run438) ?_
         refine ⟨(SP.nil S439.sl), ?_⟩
         refine FB.all1 (i := 5) (by kernel_rfl) ?_
         ·
          obtain ⟨v396, w397, run398, S399⟩ := S439.buildSlice (P := Tryz.prog) te30 [Value.string y388.text] (parts := #[(0, Value.string y388.text)]) (cells := [Value.string y388.text]) rfl (szs_cons rfl szs_nil) (fc_cons rfl fc_nil) (ones_cons rfl ones_nil) (Nat.le_of_ble_eq_true rfl)
          have els400 : Els (up wa.heap.size H71) eS 1 [Value.string y388.text] [y388.text] := (Els.snoc (H := (up wa.heap.size H71)) (E := eS) (k := 1) (c := [Value.string y388.text]) (x := y388.text) Els.nil rfl rfl)
          refine FC.val (l' := (bs 22 458175)) rfl (by kernel_rfl) rfl rfl rfl (E.buildSlice (B1 rfl) run398) ?_
          refine ⟨(SP.nil S399.sl), ?_⟩
          refine FB.all1 (i := 6) (by kernel_rfl) ?_
          ·
           obtain ⟨H401, S402, i403, h404, nv405⟩ := S399.sealRowU (i := 2) (l' := [.row 9 1 v396 1 [Value.string y388.text], .row 9 1 v436 1 [Value.string y428.text], .row 9 1 v67 n68 cs69]) rfl els66 (by decide) rfl
           obtain ⟨H406, S407, i408, h409, nv410⟩ := S402.sealRowU (i := 0) (l' := [.row 9 1 v436 1 [Value.string y428.text], .row 9 1 v67 n68 cs69]) rfl (els400.mono (up_mono i403)) (by decide) rfl
           refine FC.call (l' := (bs 22 458239)) rfl (by kernel_rfl) rfl rfl rfl (E.call Tryz.call65 (A2 rfl rfl)) (w_impl_with S407.sl v63 r40 (h404.mono (upI.tr i408)) v396 [y388.text] (h409.mono upI) hr412) ?_
           rintro e w414 ⟨H413, v419, n420, cs421, rfl, r416, els422⟩
           refine ⟨_, rfl, ?_⟩
           obtain ⟨H417, r416, hU418⟩ := St.lendX (i403.tr i408) S399.sl r416
           have els422 := els422.mono (hU418.tr (up_le S399.size))
           have S415 := S399.join (l' := [.row 9 1 v419 n420 cs421, .row 9 1 v396 1 [Value.string y388.text], .row 9 1 v436 1 [Value.string y428.text], .row 9 1 v63 n64 cs65, .row 9 1 v67 n68 cs69]) r416 rfl
           refine ⟨(SP.nil (Sl.of_inc r416.run.inc S415.sl)), ?_⟩
           obtain ⟨H423, S424, i425, h426, nv427⟩ := S415.sealRowU (i := 0) (l' := [.row 9 1 v396 1 [Value.string y388.text], .row 9 1 v436 1 [Value.string y428.text], .row 9 1 v63 n64 cs65, .row 9 1 v67 n68 cs69]) rfl els422 (by decide) rfl
           refine FB.t (i := 9) (bs 22 458751) rfl (SP.nil (Sl.of_inc r416.run.inc S415.sl)) rfl (fun w' hw' => (E.build (B2 rfl rfl) (run_build _ 51 #[(0, v419), (1, v0_1)] #[v419, v0_1] (by obtain ⟨_, _, rfl⟩ := RSl.ln (h426.mono upI); obtain ⟨_, _, rfl⟩ := RSl.ln (p0_1.mono (((i27.tr i73).tr r416.run.inc).tr i425)); rfl)))) ?_
           refine FB.all1 (i := 16) (by kernel_rfl) ?_
           ·
            obtain ⟨H441, S442, i443, h444, nv445⟩ := S424.sealRowU (i := 2) (l' := [.row 9 1 v396 1 [Value.string y388.text], .row 9 1 v436 1 [Value.string y428.text], .row 9 1 v67 n68 cs69]) rfl (els66.mono (up_mono (r416.run.inc.tr i425))) (by decide) rfl
            obtain ⟨H446, S447, i448, h449, nv450⟩ := S442.sealRowU (i := 1) (l' := [.row 9 1 v396 1 [Value.string y388.text], .row 9 1 v67 n68 cs69]) rfl (els440.mono (up_mono ((r416.run.inc.tr i425).tr i443))) (by decide) rfl
            refine FC.call (l' := (bs 22 524287)) rfl (by kernel_rfl) rfl rfl rfl (E.call Tryz.call65 (A2 rfl rfl)) (w_impl_with S447.sl v63 r40 (h444.mono (upI.tr i448)) v436 [y428.text] (h449.mono upI) hr452) ?_
            rintro e w454 ⟨H453, v459, n460, cs461, rfl, r456, els462⟩
            refine ⟨_, rfl, ?_⟩
            obtain ⟨H457, r456, hU458⟩ := St.lendX (i443.tr i448) S424.sl r456
            have els462 := els462.mono (hU458.tr (up_le S424.size))
            have S455 := S424.join (l' := [.row 9 1 v459 n460 cs461, .row 9 1 v396 1 [Value.string y388.text], .row 9 1 v436 1 [Value.string y428.text], .row 9 1 v63 n64 cs65, .row 9 1 v67 n68 cs69]) r456 rfl
            refine ⟨(SP.nil (Sl.of_inc ((r416.run.inc.tr i425).tr r456.run.inc) S455.sl)), ?_⟩
            obtain ⟨H463, S464, i465, h466, nv467⟩ := S455.sealRowU (i := 0) (l' := [.row 9 1 v396 1 [Value.string y388.text], .row 9 1 v436 1 [Value.string y428.text], .row 9 1 v63 n64 cs65, .row 9 1 v67 n68 cs69]) rfl els462 (by decide) rfl
            refine FB.t (i := 19) (bs 22 1048575) rfl (SP.nil (Sl.of_inc ((r416.run.inc.tr i425).tr r456.run.inc) S455.sl)) rfl (fun w' hw' => (E.build (B2 rfl rfl) (run_build _ 51 #[(0, v459), (1, v0_1)] #[v459, v0_1] (by obtain ⟨_, _, rfl⟩ := RSl.ln (h466.mono upI); obtain ⟨_, _, rfl⟩ := RSl.ln (p0_1.mono (((((i27.tr i73).tr r416.run.inc).tr i425).tr r456.run.inc).tr i465)); rfl)))) ?_
            refine FB.all1 (i := 20) (by kernel_rfl) ?_
            ·
             obtain ⟨v468, w469, run470, S471⟩ := S464.buildSlice (P := Tryz.prog) te130 [Value.agg #[v419, v0_1], Value.agg #[v459, v0_1]] (parts := #[(0, Value.agg #[v419, v0_1]), (1, Value.agg #[v459, v0_1])]) (cells := [v419, v0_1, v459, v0_1]) rfl (szs_cons rfl (szs_cons rfl szs_nil)) (fc_cons rfl (fc_cons rfl fc_nil)) (ones_cons h426.one (ones_cons p0_1.one (ones_cons h466.one (ones_cons p0_1.one ones_nil)))) (Nat.le_of_ble_eq_true rfl)
             have els472 : Els H463 eSequent 2 [v419, v0_1, v459, v0_1] [(Sequent.mk r411 a0.right), (Sequent.mk r451 a0.right)] := (Els.snoc (H := H463) (E := eSequent) (k := 2) (c := [v459, v0_1]) (x := (Sequent.mk r451 a0.right)) (Els.snoc (H := H463) (E := eSequent) (k := 2) (c := [v419, v0_1]) (x := (Sequent.mk r411 a0.right)) Els.nil rfl ⟨_, _, rfl, (h426.mono (upI.tr (r456.run.inc.tr i465))), (p0_1.mono (((((i27.tr i73).tr r416.run.inc).tr i425).tr r456.run.inc).tr i465))⟩) rfl ⟨_, _, rfl, (h466.mono upI), (p0_1.mono (((((i27.tr i73).tr r416.run.inc).tr i425).tr r456.run.inc).tr i465))⟩)
             refine FC.val (l' := (bs 22 2097151)) rfl (by kernel_rfl) rfl rfl rfl (E.buildSlice (B2 rfl rfl) run470) ?_
             refine ⟨(SP.nil (Sl.of_inc (((r416.run.inc.tr i425).tr r456.run.inc).tr i465) S471.sl)), ?_⟩
             refine FB.t (i := 21) (bs 22 4194303) rfl (SP.nil (Sl.of_inc (((r416.run.inc.tr i425).tr r456.run.inc).tr i465) S471.sl)) rfl (fun w' hw' => (E.assign (v := v468) rfl)) ?_
             exact FB.done (by kernel_rfl) ⟨_, _, _, _, (S471.sel [0] (by decide) rfl), (((r416.run.inc.tr i425).tr r456.run.inc).tr i465), els472, rfl⟩
       ·
        rintro f481 w480 ⟨H477, v473, n474, cs475, S478, i479, els476, k482⟩
        refine FW.ret ?_
        obtain rfl := Option.some.inj hp
        exact ⟨.inr rfl, res1 rfl k482 ⟨_, _, _, _, rfl, S478, els476⟩⟩
      ·
       refine FW.condF rfl c384 ?_
       refine FW.seq (FW.region ?_)
       refine FL.v (E.eql rfl rfl) ?_
       refine FL.v (E.assign (v := Value.bool (a1 == 7)) rfl) ?_
       refine FL.nil ?_
       rcases ifB hp with ⟨c483, hp⟩ | ⟨c483, hp⟩
       ·
        refine FW.condT rfl c483 ?_
        refine FW.seq ?_
        obtain ⟨y487, hy488, hp⟩ := bnd hp
        obtain ⟨y495, hy496, hp⟩ := bnd hp
        obtain ⟨r518, hr519, hp⟩ := bnd hp
        refine FW.drawB (Sl H71) (fun f w => ∃ H : GH, ∃ v540 : Value, ∃ n541 : Nat, ∃ cs542 : List Value, St Ha wa H w [.row 51 2 v540 n541 cs542] ∧ Inc H71 H ∧ Els H eSequent 2 cs542 [(Sequent.mk a0.left r518)] ∧ f 6 = v540) (by kernel_rfl) S91.sl ?_ ?_
        ·
         intro w484 r485
         have S486 := S91.call r485
         refine FB.t (i := 0) (bs 16 1) rfl (SP.nil S486.sl) rfl (fun w' hw' => (E.fieldAddr tf51_0 k78)) ?_
         refine FB.t (i := 1) (bs 16 3) rfl (SP.nil S486.sl) rfl (fun w' hw' => (E.load rfl (run_load1 Tryz.isAgg30 ((at28.mono i73).now hw') rfl))) ?_
         refine FB.t (i := 2) (bs 16 7) rfl (SP.nil S486.sl) rfl (fun w' hw' => (E.move k80)) ?_
         refine FB.t (i := 3) (bs 16 15) rfl (SP.nil S486.sl) rfl (fun w' hw' => (E.move (v := v85) rfl)) ?_
         obtain ⟨q489, v491, v492, rfl, at490, h493, h494⟩ := FAt.open h88 hy488
         refine FB.t (i := 4) (bs 16 31) rfl (SP.nil S486.sl) rfl (fun w' hw' => (E.nilCheck rfl)) ?_
         refine FB.t (i := 5) (bs 16 63) rfl (SP.nil S486.sl) rfl (fun w' hw' => (E.fieldAddr tf86_3 rfl)) ?_
         refine FB.t (i := 6) (bs 16 127) rfl (SP.nil S486.sl) rfl (fun w' hw' => (E.load rfl (run_load1 Tryz.isAgg9 (at490.now hw') rfl))) ?_
         refine FB.t (i := 7) (bs 16 255) rfl (SP.nil S486.sl) rfl (fun w' hw' => (E.move (v := v87) rfl)) ?_
         obtain ⟨q497, v499, v500, rfl, at498, h501, h502⟩ := FAt.open h89 hy496
         refine FB.t (i := 8) (bs 16 511) rfl (SP.nil S486.sl) rfl (fun w' hw' => (E.nilCheck rfl)) ?_
         refine FB.t (i := 9) (bs 16 1023) rfl (SP.nil S486.sl) rfl (fun w' hw' => (E.fieldAddr tf86_3 rfl)) ?_
         refine FB.t (i := 10) (bs 16 2047) rfl (SP.nil S486.sl) rfl (fun w' hw' => (E.load rfl (run_load1 Tryz.isAgg9 (at498.now hw') rfl))) ?_
         refine FB.all1 (i := 11) (by kernel_rfl) ?_
         ·
          obtain ⟨v503, w504, run505, S506⟩ := S486.buildSlice (P := Tryz.prog) te30 [Value.string y487.text, Value.string y495.text] (parts := #[(0, Value.string y487.text), (1, Value.string y495.text)]) (cells := [Value.string y487.text, Value.string y495.text]) rfl (szs_cons rfl (szs_cons rfl szs_nil)) (fc_cons rfl (fc_cons rfl fc_nil)) (ones_cons rfl (ones_cons rfl ones_nil)) (Nat.le_of_ble_eq_true rfl)
          have els507 : Els (up wa.heap.size H71) eS 1 [Value.string y487.text, Value.string y495.text] [y487.text, y495.text] := (Els.snoc (H := (up wa.heap.size H71)) (E := eS) (k := 1) (c := [Value.string y495.text]) (x := y495.text) (Els.snoc (H := (up wa.heap.size H71)) (E := eS) (k := 1) (c := [Value.string y487.text]) (x := y487.text) Els.nil rfl rfl) rfl rfl)
          refine FC.val (l' := (bs 16 4095)) rfl (by kernel_rfl) rfl rfl rfl (E.buildSlice (B2 rfl rfl) run505) ?_
          refine ⟨(SP.nil S506.sl), ?_⟩
          refine FB.all1 (i := 12) (by kernel_rfl) ?_
          ·
           obtain ⟨H508, S509, i510, h511, nv512⟩ := S506.sealRowU (i := 2) (l' := [.row 9 1 v503 2 [Value.string y487.text, Value.string y495.text], .row 9 1 v63 n64 cs65]) rfl els70 (by decide) rfl
           obtain ⟨H513, S514, i515, h516, nv517⟩ := S509.sealRowU (i := 0) (l' := [.row 9 1 v63 n64 cs65]) rfl (els507.mono (up_mono i510)) (by decide) rfl
           refine FC.call (l' := (bs 16 8191)) rfl (by kernel_rfl) rfl rfl rfl (E.call Tryz.call65 (A2 rfl rfl)) (w_impl_with S514.sl v67 r50 (h511.mono (upI.tr i515)) v503 [y487.text, y495.text] (h516.mono upI) hr519) ?_
           rintro e w521 ⟨H520, v526, n527, cs528, rfl, r523, els529⟩
           refine ⟨_, rfl, ?_⟩
           obtain ⟨H524, r523, hU525⟩ := St.lendX (i510.tr i515) S506.sl r523
           have els529 := els529.mono (hU525.tr (up_le S506.size))
           have S522 := S506.join (l' := [.row 9 1 v526 n527 cs528, .row 9 1 v503 2 [Value.string y487.text, Value.string y495.text], .row 9 1 v63 n64 cs65, .row 9 1 v67 n68 cs69]) r523 rfl
           refine ⟨(SP.nil (Sl.of_inc r523.run.inc S522.sl)), ?_⟩
           obtain ⟨H530, S531, i532, h533, nv534⟩ := S522.sealRowU (i := 0) (l' := [.row 9 1 v503 2 [Value.string y487.text, Value.string y495.text], .row 9 1 v63 n64 cs65, .row 9 1 v67 n68 cs69]) rfl els529 (by decide) rfl
           refine FB.t (i := 13) (bs 16 16383) rfl (SP.nil (Sl.of_inc r523.run.inc S522.sl)) rfl (fun w' hw' => (E.build (B2 rfl rfl) (run_build _ 51 #[(0, v0_0), (1, v526)] #[v0_0, v526] (by obtain ⟨_, _, rfl⟩ := RSl.ln (p0_0.mono (((i27.tr i73).tr r523.run.inc).tr i532)); obtain ⟨_, _, rfl⟩ := RSl.ln (h533.mono upI); rfl)))) ?_
           refine FB.all1 (i := 14) (by kernel_rfl) ?_
           ·
            obtain ⟨v535, w536, run537, S538⟩ := S531.buildSlice (P := Tryz.prog) te130 [Value.agg #[v0_0, v526]] (parts := #[(0, Value.agg #[v0_0, v526])]) (cells := [v0_0, v526]) rfl (szs_cons rfl szs_nil) (fc_cons rfl fc_nil) (ones_cons p0_0.one (ones_cons h533.one ones_nil)) (Nat.le_of_ble_eq_true rfl)
            have els539 : Els H530 eSequent 2 [v0_0, v526] [(Sequent.mk a0.left r518)] := (Els.snoc (H := H530) (E := eSequent) (k := 2) (c := [v0_0, v526]) (x := (Sequent.mk a0.left r518)) Els.nil rfl ⟨_, _, rfl, (p0_0.mono (((i27.tr i73).tr r523.run.inc).tr i532)), (h533.mono upI)⟩)
            refine FC.val (l' := (bs 16 32767)) rfl (by kernel_rfl) rfl rfl rfl (E.buildSlice (B1 rfl) run537) ?_
            refine ⟨(SP.nil (Sl.of_inc (r523.run.inc.tr i532) S538.sl)), ?_⟩
            refine FB.t (i := 15) (bs 16 65535) rfl (SP.nil (Sl.of_inc (r523.run.inc.tr i532) S538.sl)) rfl (fun w' hw' => (E.assign (v := v535) rfl)) ?_
            exact FB.done (by kernel_rfl) ⟨_, _, _, _, (S538.sel [0] (by decide) rfl), (r523.run.inc.tr i532), els539, rfl⟩
        ·
         rintro f548 w547 ⟨H544, v540, n541, cs542, S545, i546, els543, k549⟩
         refine FW.ret ?_
         obtain rfl := Option.some.inj hp
         exact ⟨.inr rfl, res1 rfl k549 ⟨_, _, _, _, rfl, S545, els543⟩⟩
       ·
        refine FW.condF rfl c483 ?_
        refine FW.seq (FW.region ?_)
        refine FL.v (E.eql rfl rfl) ?_
        refine FL.v (E.assign (v := Value.bool (a1 == 8)) rfl) ?_
        refine FL.nil ?_
        rcases ifB hp with ⟨c550, hp⟩ | ⟨c550, hp⟩
        ·
         refine FW.condT rfl c550 ?_
         refine FW.seq ?_
         obtain ⟨y554, hy555, hp⟩ := bnd hp
         obtain ⟨r572, hr573, hp⟩ := bnd hp
         obtain ⟨y594, hy595, hp⟩ := bnd hp
         obtain ⟨r612, hr613, hp⟩ := bnd hp
         refine FW.drawB (Sl H71) (fun f w => ∃ H : GH, ∃ v634 : Value, ∃ n635 : Nat, ∃ cs636 : List Value, St Ha wa H w [.row 51 2 v634 n635 cs636] ∧ Inc H71 H ∧ Els H eSequent 2 cs636 [(Sequent.mk r40 r572), (Sequent.mk r612 a0.right)] ∧ f 6 = v634) (by kernel_rfl) S91.sl ?_ ?_
         ·
          intro w551 r552
          have S553 := S91.call r552
          refine FB.t (i := 0) (bs 22 1) rfl (SP.nil S553.sl) rfl (fun w' hw' => (E.move k79)) ?_
          refine FB.t (i := 1) (bs 22 3) rfl (SP.nil S553.sl) rfl (fun w' hw' => (E.fieldAddr tf51_1 k78)) ?_
          refine FB.t (i := 2) (bs 22 7) rfl (SP.nil S553.sl) rfl (fun w' hw' => (E.load rfl (run_load1 Tryz.isAgg30 ((at28.mono i73).now hw') rfl))) ?_
          refine FB.t (i := 3) (bs 22 15) rfl (SP.nil S553.sl) rfl (fun w' hw' => (E.move (v := v85) rfl)) ?_
          obtain ⟨q556, v558, v559, rfl, at557, h560, h561⟩ := FAt.open h88 hy555
          refine FB.t (i := 4) (bs 22 31) rfl (SP.nil S553.sl) rfl (fun w' hw' => (E.nilCheck rfl)) ?_
          refine FB.t (i := 5) (bs 22 63) rfl (SP.nil S553.sl) rfl (fun w' hw' => (E.fieldAddr tf86_3 rfl)) ?_
          refine FB.t (i := 6) (bs 22 127) rfl (SP.nil S553.sl) rfl (fun w' hw' => (E.load rfl (run_load1 Tryz.isAgg9 (at557.now hw') rfl))) ?_
          refine FB.t (i := 10) (bs 22 1151) rfl (SP.nil S553.sl) rfl (fun w' hw' => (E.move k79)) ?_
          refine FB.t (i := 11) (bs 22 3199) rfl (SP.nil S553.sl) rfl (fun w' hw' => (E.move (v := v87) rfl)) ?_
          obtain ⟨q596, v598, v599, rfl, at597, h600, h601⟩ := FAt.open h89 hy595
          refine FB.t (i := 12) (bs 22 7295) rfl (SP.nil S553.sl) rfl (fun w' hw' => (E.nilCheck rfl)) ?_
          refine FB.t (i := 13) (bs 22 15487) rfl (SP.nil S553.sl) rfl (fun w' hw' => (E.fieldAddr tf86_3 rfl)) ?_
          refine FB.t (i := 14) (bs 22 31871) rfl (SP.nil S553.sl) rfl (fun w' hw' => (E.load rfl (run_load1 Tryz.isAgg9 (at597.now hw') rfl))) ?_
          refine FB.t (i := 17) (bs 22 162943) rfl (SP.nil S553.sl) rfl (fun w' hw' => (E.fieldAddr tf51_1 k78)) ?_
          refine FB.t (i := 18) (bs 22 425087) rfl (SP.nil S553.sl) rfl (fun w' hw' => (E.load rfl (run_load1 Tryz.isAgg30 ((at28.mono i73).now hw') rfl))) ?_
          refine FB.all2 (i := 7) (j := 15) (by kernel_rfl) ?_ ?_
          ·
           obtain ⟨v562, w563, run564, S565⟩ := S553.buildSlice (P := Tryz.prog) te30 [Value.string y554.text] (parts := #[(0, Value.string y554.text)]) (cells := [Value.string y554.text]) rfl (szs_cons rfl szs_nil) (fc_cons rfl fc_nil) (ones_cons rfl ones_nil) (Nat.le_of_ble_eq_true rfl)
           have els566 : Els (up wa.heap.size H71) eS 1 [Value.string y554.text] [y554.text] := (Els.snoc (H := (up wa.heap.size H71)) (E := eS) (k := 1) (c := [Value.string y554.text]) (x := y554.text) Els.nil rfl rfl)
           refine FC.val (l' := (bs 22 425215)) rfl (by kernel_rfl) rfl rfl rfl (E.buildSlice (B1 rfl) run564) ?_
           refine ⟨(SP.nil S565.sl), ?_⟩
           refine FB.all2 (i := 8) (j := 15) (by kernel_rfl) ?_ ?_
           ·
            obtain ⟨H567, S568, i569, h570, nv571⟩ := S565.sealRowU (i := 0) (l' := [.row 9 1 v63 n64 cs65, .row 9 1 v67 n68 cs69]) rfl els566 (by decide) rfl
            refine FC.call (l' := (bs 22 425471)) rfl (by kernel_rfl) rfl rfl rfl (E.call Tryz.call65 (A2 rfl rfl)) (w_impl_with S568.sl v0_1 a0.right (p0_1.mono ((i27.tr i73).tr i569)) v562 [y554.text] (h570.mono upI) hr573) ?_
            rintro e w575 ⟨H574, v580, n581, cs582, rfl, r577, els583⟩
            refine ⟨_, rfl, ?_⟩
            obtain ⟨H578, r577, hU579⟩ := St.lendX i569 S565.sl r577
            have els583 := els583.mono (hU579.tr (up_le S565.size))
            have S576 := S565.join (l' := [.row 9 1 v580 n581 cs582, .row 9 1 v562 1 [Value.string y554.text], .row 9 1 v63 n64 cs65, .row 9 1 v67 n68 cs69]) r577 rfl
            refine ⟨(SP.nil (Sl.of_inc r577.run.inc S576.sl)), ?_⟩
            obtain ⟨H584, S585, i586, h587, nv588⟩ := S576.sealRowU (i := 2) (l' := [.row 9 1 v580 n581 cs582, .row 9 1 v562 1 [Value.string y554.text], .row 9 1 v67 n68 cs69]) rfl (els66.mono (up_mono r577.run.inc)) (by decide) rfl
            obtain ⟨H589, S590, i591, h592, nv593⟩ := S585.sealRowU (i := 0) (l' := [.row 9 1 v562 1 [Value.string y554.text], .row 9 1 v67 n68 cs69]) rfl (els583.mono (up_mono i586)) (by decide) rfl
            refine FB.t (i := 9) (bs 22 425983) rfl (SP.nil (Sl.of_inc r577.run.inc S576.sl)) rfl (fun w' hw' => (E.build (B2 rfl rfl) (run_build _ 51 #[(0, v63), (1, v580)] #[v63, v580] (by obtain ⟨_, _, rfl⟩ := RSl.ln (h587.mono (upI.tr i591)); obtain ⟨_, _, rfl⟩ := RSl.ln (h592.mono upI); rfl)))) ?_
            refine FB.all1 (i := 15) (by kernel_rfl) ?_
            ·
             obtain ⟨v602, w603, run604, S605⟩ := S590.buildSlice (P := Tryz.prog) te30 [Value.string y594.text] (parts := #[(0, Value.string y594.text)]) (cells := [Value.string y594.text]) rfl (szs_cons rfl szs_nil) (fc_cons rfl fc_nil) (ones_cons rfl ones_nil) (Nat.le_of_ble_eq_true rfl)
             have els606 : Els (up wa.heap.size H589) eS 1 [Value.string y594.text] [y594.text] := (Els.snoc (H := (up wa.heap.size H589)) (E := eS) (k := 1) (c := [Value.string y594.text]) (x := y594.text) Els.nil rfl rfl)
             refine FC.val (l' := (bs 22 458751)) rfl (by kernel_rfl) rfl rfl rfl (E.buildSlice (B1 rfl) run604) ?_
             refine ⟨(SP.nil (Sl.of_inc ((r577.run.inc.tr i586).tr i591) S605.sl)), ?_⟩
             refine FB.all1 (i := 16) (by kernel_rfl) ?_
             ·
              obtain ⟨H607, S608, i609, h610, nv611⟩ := S605.sealRowU (i := 0) (l' := [.row 9 1 v562 1 [Value.string y554.text], .row 9 1 v67 n68 cs69]) rfl els606 (by decide) rfl
              refine FC.call (l' := (bs 22 524287)) rfl (by kernel_rfl) rfl rfl rfl (E.call Tryz.call65 (A2 rfl rfl)) (w_impl_with S608.sl v63 r40 (h587.mono (upI.tr (i591.tr i609))) v602 [y594.text] (h610.mono upI) hr613) ?_
              rintro e w615 ⟨H614, v620, n621, cs622, rfl, r617, els623⟩
              refine ⟨_, rfl, ?_⟩
              obtain ⟨H618, r617, hU619⟩ := St.lendX i609 S605.sl r617
              have els623 := els623.mono (hU619.tr (up_le S605.size))
              have S616 := S605.join (l' := [.row 9 1 v620 n621 cs622, .row 9 1 v602 1 [Value.string y594.text], .row 9 1 v562 1 [Value.string y554.text], .row 9 1 v67 n68 cs69]) r617 rfl
              refine ⟨(SP.nil (Sl.of_inc (((r577.run.inc.tr i586).tr i591).tr r617.run.inc) S616.sl)), ?_⟩
              obtain ⟨H624, S625, i626, h627, nv628⟩ := S616.sealRowU (i := 0) (l' := [.row 9 1 v602 1 [Value.string y594.text], .row 9 1 v562 1 [Value.string y554.text], .row 9 1 v67 n68 cs69]) rfl els623 (by decide) rfl
              refine FB.t (i := 19) (bs 22 1048575) rfl (SP.nil (Sl.of_inc (((r577.run.inc.tr i586).tr i591).tr r617.run.inc) S616.sl)) rfl (fun w' hw' => (E.build (B2 rfl rfl) (run_build _ 51 #[(0, v620), (1, v0_1)] #[v620, v0_1] (by obtain ⟨_, _, rfl⟩ := RSl.ln (h627.mono upI); obtain ⟨_, _, rfl⟩ := RSl.ln (p0_1.mono ((((((i27.tr i73).tr r577.run.inc).tr i586).tr i591).tr r617.run.inc).tr i626)); rfl)))) ?_
              refine FB.all1 (i := 20) (by kernel_rfl) ?_
              ·
               obtain ⟨v629, w630, run631, S632⟩ := S625.buildSlice (P := Tryz.prog) te130 [Value.agg #[v63, v580], Value.agg #[v620, v0_1]] (parts := #[(0, Value.agg #[v63, v580]), (1, Value.agg #[v620, v0_1])]) (cells := [v63, v580, v620, v0_1]) rfl (szs_cons rfl (szs_cons rfl szs_nil)) (fc_cons rfl (fc_cons rfl fc_nil)) (ones_cons h587.one (ones_cons h592.one (ones_cons h627.one (ones_cons p0_1.one ones_nil)))) (Nat.le_of_ble_eq_true rfl)
               have els633 : Els H624 eSequent 2 [v63, v580, v620, v0_1] [(Sequent.mk r40 r572), (Sequent.mk r612 a0.right)] := (Els.snoc (H := H624) (E := eSequent) (k := 2) (c := [v620, v0_1]) (x := (Sequent.mk r612 a0.right)) (Els.snoc (H := H624) (E := eSequent) (k := 2) (c := [v63, v580]) (x := (Sequent.mk r40 r572)) Els.nil rfl ⟨_, _, rfl, (h587.mono (upI.tr ((i591.tr r617.run.inc).tr i626))), (h592.mono (upI.tr (r617.run.inc.tr i626)))⟩) rfl ⟨_, _, rfl, (h627.mono upI), (p0_1.mono ((((((i27.tr i73).tr r577.run.inc).tr i586).tr i591).tr r617.run.inc).tr i626))⟩)
               refine FC.val (l' := (bs 22 2097151)) rfl (by kernel_rfl) rfl rfl rfl (E.buildSlice (B2 rfl rfl) run631) ?_
               refine ⟨(SP.nil (Sl.of_inc ((((r577.run.inc.tr i586).tr i591).tr r617.run.inc).tr i626) S632.sl)), ?_⟩
               refine FB.t (i := 21) (bs 22 4194303) rfl (SP.nil (Sl.of_inc ((((r577.run.inc.tr i586).tr i591).tr r617.run.inc).tr i626) S632.sl)) rfl (fun w' hw' => (E.assign (v := v629) rfl)) ?_
               exact FB.done (by kernel_rfl) ⟨_, _, _, _, (S632.sel [0] (by decide) rfl), ((((r577.run.inc.tr i586).tr i591).tr r617.run.inc).tr i626), els633, rfl⟩
           ·
            obtain ⟨v602, w603, run604, S605⟩ := S565.buildSlice (P := Tryz.prog) te30 [Value.string y594.text] (parts := #[(0, Value.string y594.text)]) (cells := [Value.string y594.text]) rfl (szs_cons rfl szs_nil) (fc_cons rfl fc_nil) (ones_cons rfl ones_nil) (Nat.le_of_ble_eq_true rfl)
            have els606 : Els (up wa.heap.size H71) eS 1 [Value.string y594.text] [y594.text] := (Els.snoc (H := (up wa.heap.size H71)) (E := eS) (k := 1) (c := [Value.string y594.text]) (x := y594.text) Els.nil rfl rfl)
            refine FC.val (l' := (bs 22 457983)) rfl (by kernel_rfl) rfl rfl rfl (E.buildSlice (B1 rfl) run604) ?_
            refine ⟨(SP.nil S605.sl), ?_⟩
            refine FB.all1 (i := 8) (by kernel_rfl) ?_
            ·
             obtain ⟨H567, S568, i569, h570, nv571⟩ := S605.sealRowU (i := 1) (l' := [.row 9 1 v602 1 [Value.string y594.text], .row 9 1 v63 n64 cs65, .row 9 1 v67 n68 cs69]) rfl els566 (by decide) rfl
             refine FC.call (l' := (bs 22 458239)) rfl (by kernel_rfl) rfl rfl rfl (E.call Tryz.call65 (A2 rfl rfl)) (w_impl_with S568.sl v0_1 a0.right (p0_1.mono ((i27.tr i73).tr i569)) v562 [y554.text] (h570.mono upI) hr573) ?_
             rintro e w575 ⟨H574, v580, n581, cs582, rfl, r577, els583⟩
             refine ⟨_, rfl, ?_⟩
             obtain ⟨H578, r577, hU579⟩ := St.lendX i569 S605.sl r577
             have els583 := els583.mono (hU579.tr (up_le S605.size))
             have S576 := S605.join (l' := [.row 9 1 v580 n581 cs582, .row 9 1 v602 1 [Value.string y594.text], .row 9 1 v562 1 [Value.string y554.text], .row 9 1 v63 n64 cs65, .row 9 1 v67 n68 cs69]) r577 rfl
             refine ⟨(SP.nil (Sl.of_inc r577.run.inc S576.sl)), ?_⟩
             obtain ⟨H584, S585, i586, h587, nv588⟩ := S576.sealRowU (i := 3) (l' := [.row 9 1 v580 n581 cs582, .row 9 1 v602 1 [Value.string y594.text], .row 9 1 v562 1 [Value.string y554.text], .row 9 1 v67 n68 cs69]) rfl (els66.mono (up_mono r577.run.inc)) (by decide) rfl
             obtain ⟨H589, S590, i591, h592, nv593⟩ := S585.sealRowU (i := 0) (l' := [.row 9 1 v602 1 [Value.string y594.text], .row 9 1 v562 1 [Value.string y554.text], .row 9 1 v67 n68 cs69]) rfl (els583.mono (up_mono i586)) (by decide) rfl
             refine FB.t (i := 9) (bs 22 458751) rfl (SP.nil (Sl.of_inc r577.run.inc S576.sl)) rfl (fun w' hw' => (E.build (B2 rfl rfl) (run_build _ 51 #[(0, v63), (1, v580)] #[v63, v580] (by obtain ⟨_, _, rfl⟩ := RSl.ln (h587.mono (upI.tr i591)); obtain ⟨_, _, rfl⟩ := RSl.ln (h592.mono upI); rfl)))) ?_
             refine FB.all1 (i := 16) (by kernel_rfl) ?_
             ·
              obtain ⟨H607, S608, i609, h610, nv611⟩ := S590.sealRowU (i := 0) (l' := [.row 9 1 v562 1 [Value.string y554.text], .row 9 1 v67 n68 cs69]) rfl (els606.mono (up_mono ((r577.run.inc.tr i586).tr i591))) (by decide) rfl
              refine FC.call (l' := (bs 22 524287)) rfl (by kernel_rfl) rfl rfl rfl (E.call Tryz.call65 (A2 rfl rfl)) (w_impl_with S608.sl v63 r40 (h587.mono (upI.tr (i591.tr i609))) v602 [y594.text] (h610.mono upI) hr613) ?_
              rintro e w615 ⟨H614, v620, n621, cs622, rfl, r617, els623⟩
              refine ⟨_, rfl, ?_⟩
              obtain ⟨H618, r617, hU619⟩ := St.lendX i609 S590.sl r617
              have els623 := els623.mono (hU619.tr (up_le S590.size))
              have S616 := S590.join (l' := [.row 9 1 v620 n621 cs622, .row 9 1 v602 1 [Value.string y594.text], .row 9 1 v562 1 [Value.string y554.text], .row 9 1 v67 n68 cs69]) r617 rfl
              refine ⟨(SP.nil (Sl.of_inc (((r577.run.inc.tr i586).tr i591).tr r617.run.inc) S616.sl)), ?_⟩
              obtain ⟨H624, S625, i626, h627, nv628⟩ := S616.sealRowU (i := 0) (l' := [.row 9 1 v602 1 [Value.string y594.text], .row 9 1 v562 1 [Value.string y554.text], .row 9 1 v67 n68 cs69]) rfl els623 (by decide) rfl
              refine FB.t (i := 19) (bs 22 1048575) rfl (SP.nil (Sl.of_inc (((r577.run.inc.tr i586).tr i591).tr r617.run.inc) S616.sl)) rfl (fun w' hw' => (E.build (B2 rfl rfl) (run_build _ 51 #[(0, v620), (1, v0_1)] #[v620, v0_1] (by obtain ⟨_, _, rfl⟩ := RSl.ln (h627.mono upI); obtain ⟨_, _, rfl⟩ := RSl.ln (p0_1.mono ((((((i27.tr i73).tr r577.run.inc).tr i586).tr i591).tr r617.run.inc).tr i626)); rfl)))) ?_
              refine FB.all1 (i := 20) (by kernel_rfl) ?_
              ·
               obtain ⟨v629, w630, run631, S632⟩ := S625.buildSlice (P := Tryz.prog) te130 [Value.agg #[v63, v580], Value.agg #[v620, v0_1]] (parts := #[(0, Value.agg #[v63, v580]), (1, Value.agg #[v620, v0_1])]) (cells := [v63, v580, v620, v0_1]) rfl (szs_cons rfl (szs_cons rfl szs_nil)) (fc_cons rfl (fc_cons rfl fc_nil)) (ones_cons h587.one (ones_cons h592.one (ones_cons h627.one (ones_cons p0_1.one ones_nil)))) (Nat.le_of_ble_eq_true rfl)
               have els633 : Els H624 eSequent 2 [v63, v580, v620, v0_1] [(Sequent.mk r40 r572), (Sequent.mk r612 a0.right)] := (Els.snoc (H := H624) (E := eSequent) (k := 2) (c := [v620, v0_1]) (x := (Sequent.mk r612 a0.right)) (Els.snoc (H := H624) (E := eSequent) (k := 2) (c := [v63, v580]) (x := (Sequent.mk r40 r572)) Els.nil rfl ⟨_, _, rfl, (h587.mono (upI.tr ((i591.tr r617.run.inc).tr i626))), (h592.mono (upI.tr (r617.run.inc.tr i626)))⟩) rfl ⟨_, _, rfl, (h627.mono upI), (p0_1.mono ((((((i27.tr i73).tr r577.run.inc).tr i586).tr i591).tr r617.run.inc).tr i626))⟩)
               refine FC.val (l' := (bs 22 2097151)) rfl (by kernel_rfl) rfl rfl rfl (E.buildSlice (B2 rfl rfl) run631) ?_
               refine ⟨(SP.nil (Sl.of_inc ((((r577.run.inc.tr i586).tr i591).tr r617.run.inc).tr i626) S632.sl)), ?_⟩
               refine FB.t (i := 21) (bs 22 4194303) rfl (SP.nil (Sl.of_inc ((((r577.run.inc.tr i586).tr i591).tr r617.run.inc).tr i626) S632.sl)) rfl (fun w' hw' => (E.assign (v := v629) rfl)) ?_
               exact FB.done (by kernel_rfl) ⟨_, _, _, _, (S632.sel [0] (by decide) rfl), ((((r577.run.inc.tr i586).tr i591).tr r617.run.inc).tr i626), els633, rfl⟩
          ·
           obtain ⟨v602, w603, run604, S605⟩ := S553.buildSlice (P := Tryz.prog) te30 [Value.string y594.text] (parts := #[(0, Value.string y594.text)]) (cells := [Value.string y594.text]) rfl (szs_cons rfl szs_nil) (fc_cons rfl fc_nil) (ones_cons rfl ones_nil) (Nat.le_of_ble_eq_true rfl)
           have els606 : Els (up wa.heap.size H71) eS 1 [Value.string y594.text] [y594.text] := (Els.snoc (H := (up wa.heap.size H71)) (E := eS) (k := 1) (c := [Value.string y594.text]) (x := y594.text) Els.nil rfl rfl)
           refine FC.val (l' := (bs 22 457855)) rfl (by kernel_rfl) rfl rfl rfl (E.buildSlice (B1 rfl) run604) ?_
           refine ⟨(SP.nil S605.sl), ?_⟩
           refine FB.all1 (i := 7) (by kernel_rfl) ?_
           ·
            obtain ⟨v562, w563, run564, S565⟩ := S605.buildSlice (P := Tryz.prog) te30 [Value.string y554.text] (parts := #[(0, Value.string y554.text)]) (cells := [Value.string y554.text]) rfl (szs_cons rfl szs_nil) (fc_cons rfl fc_nil) (ones_cons rfl ones_nil) (Nat.le_of_ble_eq_true rfl)
            have els566 : Els (up wa.heap.size H71) eS 1 [Value.string y554.text] [y554.text] := (Els.snoc (H := (up wa.heap.size H71)) (E := eS) (k := 1) (c := [Value.string y554.text]) (x := y554.text) Els.nil rfl rfl)
            refine FC.val (l' := (bs 22 457983)) rfl (by kernel_rfl) rfl rfl rfl (E.buildSlice (B1 rfl) run564) ?_
            refine ⟨(SP.nil S565.sl), ?_⟩
            refine FB.all1 (i := 8) (by kernel_rfl) ?_
            ·
             obtain ⟨H567, S568, i569, h570, nv571⟩ := S565.sealRowU (i := 0) (l' := [.row 9 1 v602 1 [Value.string y594.text], .row 9 1 v63 n64 cs65, .row 9 1 v67 n68 cs69]) rfl els566 (by decide) rfl
             refine FC.call (l' := (bs 22 458239)) rfl (by kernel_rfl) rfl rfl rfl (E.call Tryz.call65 (A2 rfl rfl)) (w_impl_with S568.sl v0_1 a0.right (p0_1.mono ((i27.tr i73).tr i569)) v562 [y554.text] (h570.mono upI) hr573) ?_
             rintro e w575 ⟨H574, v580, n581, cs582, rfl, r577, els583⟩
             refine ⟨_, rfl, ?_⟩
             obtain ⟨H578, r577, hU579⟩ := St.lendX i569 S565.sl r577
             have els583 := els583.mono (hU579.tr (up_le S565.size))
             have S576 := S565.join (l' := [.row 9 1 v580 n581 cs582, .row 9 1 v562 1 [Value.string y554.text], .row 9 1 v602 1 [Value.string y594.text], .row 9 1 v63 n64 cs65, .row 9 1 v67 n68 cs69]) r577 rfl
             refine ⟨(SP.nil (Sl.of_inc r577.run.inc S576.sl)), ?_⟩
             obtain ⟨H584, S585, i586, h587, nv588⟩ := S576.sealRowU (i := 3) (l' := [.row 9 1 v580 n581 cs582, .row 9 1 v562 1 [Value.string y554.text], .row 9 1 v602 1 [Value.string y594.text], .row 9 1 v67 n68 cs69]) rfl (els66.mono (up_mono r577.run.inc)) (by decide) rfl
             obtain ⟨H589, S590, i591, h592, nv593⟩ := S585.sealRowU (i := 0) (l' := [.row 9 1 v562 1 [Value.string y554.text], .row 9 1 v602 1 [Value.string y594.text], .row 9 1 v67 n68 cs69]) rfl (els583.mono (up_mono i586)) (by decide) rfl
             refine FB.t (i := 9) (bs 22 458751) rfl (SP.nil (Sl.of_inc r577.run.inc S576.sl)) rfl (fun w' hw' => (E.build (B2 rfl rfl) (run_build _ 51 #[(0, v63), (1, v580)] #[v63, v580] (by obtain ⟨_, _, rfl⟩ := RSl.ln (h587.mono (upI.tr i591)); obtain ⟨_, _, rfl⟩ := RSl.ln (h592.mono upI); rfl)))) ?_
             refine FB.all1 (i := 16) (by kernel_rfl) ?_
             ·
              obtain ⟨H607, S608, i609, h610, nv611⟩ := S590.sealRowU (i := 1) (l' := [.row 9 1 v562 1 [Value.string y554.text], .row 9 1 v67 n68 cs69]) rfl (els606.mono (up_mono ((r577.run.inc.tr i586).tr i591))) (by decide) rfl
              refine FC.call (l' := (bs 22 524287)) rfl (by kernel_rfl) rfl rfl rfl (E.call Tryz.call65 (A2 rfl rfl)) (w_impl_with S608.sl v63 r40 (h587.mono (upI.tr (i591.tr i609))) v602 [y594.text] (h610.mono upI) hr613) ?_
              rintro e w615 ⟨H614, v620, n621, cs622, rfl, r617, els623⟩
              refine ⟨_, rfl, ?_⟩
              obtain ⟨H618, r617, hU619⟩ := St.lendX i609 S590.sl r617
              have els623 := els623.mono (hU619.tr (up_le S590.size))
              have S616 := S590.join (l' := [.row 9 1 v620 n621 cs622, .row 9 1 v562 1 [Value.string y554.text], .row 9 1 v602 1 [Value.string y594.text], .row 9 1 v67 n68 cs69]) r617 rfl
              refine ⟨(SP.nil (Sl.of_inc (((r577.run.inc.tr i586).tr i591).tr r617.run.inc) S616.sl)), ?_⟩
              obtain ⟨H624, S625, i626, h627, nv628⟩ := S616.sealRowU (i := 0) (l' := [.row 9 1 v562 1 [Value.string y554.text], .row 9 1 v602 1 [Value.string y594.text], .row 9 1 v67 n68 cs69]) rfl els623 (by decide) rfl
              refine FB.t (i := 19) (bs 22 1048575) rfl (SP.nil (Sl.of_inc (((r577.run.inc.tr i586).tr i591).tr r617.run.inc) S616.sl)) rfl (fun w' hw' => (E.build (B2 rfl rfl) (run_build _ 51 #[(0, v620), (1, v0_1)] #[v620, v0_1] (by obtain ⟨_, _, rfl⟩ := RSl.ln (h627.mono upI); obtain ⟨_, _, rfl⟩ := RSl.ln (p0_1.mono ((((((i27.tr i73).tr r577.run.inc).tr i586).tr i591).tr r617.run.inc).tr i626)); rfl)))) ?_
              refine FB.all1 (i := 20) (by kernel_rfl) ?_
              ·
               obtain ⟨v629, w630, run631, S632⟩ := S625.buildSlice (P := Tryz.prog) te130 [Value.agg #[v63, v580], Value.agg #[v620, v0_1]] (parts := #[(0, Value.agg #[v63, v580]), (1, Value.agg #[v620, v0_1])]) (cells := [v63, v580, v620, v0_1]) rfl (szs_cons rfl (szs_cons rfl szs_nil)) (fc_cons rfl (fc_cons rfl fc_nil)) (ones_cons h587.one (ones_cons h592.one (ones_cons h627.one (ones_cons p0_1.one ones_nil)))) (Nat.le_of_ble_eq_true rfl)
               have els633 : Els H624 eSequent 2 [v63, v580, v620, v0_1] [(Sequent.mk r40 r572), (Sequent.mk r612 a0.right)] := (Els.snoc (H := H624) (E := eSequent) (k := 2) (c := [v620, v0_1]) (x := (Sequent.mk r612 a0.right)) (Els.snoc (H := H624) (E := eSequent) (k := 2) (c := [v63, v580]) (x := (Sequent.mk r40 r572)) Els.nil rfl ⟨_, _, rfl, (h587.mono (upI.tr ((i591.tr r617.run.inc).tr i626))), (h592.mono (upI.tr (r617.run.inc.tr i626)))⟩) rfl ⟨_, _, rfl, (h627.mono upI), (p0_1.mono ((((((i27.tr i73).tr r577.run.inc).tr i586).tr i591).tr r617.run.inc).tr i626))⟩)
               refine FC.val (l' := (bs 22 2097151)) rfl (by kernel_rfl) rfl rfl rfl (E.buildSlice (B2 rfl rfl) run631) ?_
               refine ⟨(SP.nil (Sl.of_inc ((((r577.run.inc.tr i586).tr i591).tr r617.run.inc).tr i626) S632.sl)), ?_⟩
               refine FB.t (i := 21) (bs 22 4194303) rfl (SP.nil (Sl.of_inc ((((r577.run.inc.tr i586).tr i591).tr r617.run.inc).tr i626) S632.sl)) rfl (fun w' hw' => (E.assign (v := v629) rfl)) ?_
               exact FB.done (by kernel_rfl) ⟨_, _, _, _, (S632.sel [0] (by decide) rfl), ((((r577.run.inc.tr i586).tr i591).tr r617.run.inc).tr i626), els633, rfl⟩
         ·
          rintro f642 w641 ⟨H638, v634, n635, cs636, S639, i640, els637, k643⟩
          refine FW.ret ?_
          obtain rfl := Option.some.inj hp
          exact ⟨.inr rfl, res1 rfl k643 ⟨_, _, _, _, rfl, S639, els637⟩⟩
        ·
         refine FW.condF rfl c550 ?_
         refine FW.skip (FW.seq ?_)
         obtain ⟨y647, hy648, hp⟩ := bnd hp
         obtain ⟨r665, hr666, hp⟩ := bnd hp
         obtain ⟨y677, hy678, hp⟩ := bnd hp
         obtain ⟨r700, hr701, hp⟩ := bnd hp
         refine FW.drawB (Sl H71) (fun f w => ∃ H : GH, ∃ v729 : Value, ∃ n730 : Nat, ∃ cs731 : List Value, St Ha wa H w [.row 51 2 v729 n730 cs731] ∧ Inc H71 H ∧ Els (up wa.heap.size H) eSequent 2 cs731 [(Sequent.mk r665 r700)] ∧ (bl cs731).Nodup ∧ f 6 = v729) (by kernel_rfl) S91.sl ?_ ?_
         ·
          intro w644 r645
          have S646 := S91.call r645
          refine FB.t (i := 0) (bs 18 1) rfl (SP.nil S646.sl) rfl (fun w' hw' => (E.fieldAddr tf51_0 k78)) ?_
          refine FB.t (i := 1) (bs 18 3) rfl (SP.nil S646.sl) rfl (fun w' hw' => (E.load rfl (run_load1 Tryz.isAgg30 ((at28.mono i73).now hw') rfl))) ?_
          refine FB.t (i := 2) (bs 18 7) rfl (SP.nil S646.sl) rfl (fun w' hw' => (E.move (v := v85) rfl)) ?_
          obtain ⟨q649, v651, v652, rfl, at650, h653, h654⟩ := FAt.open h88 hy648
          refine FB.t (i := 3) (bs 18 15) rfl (SP.nil S646.sl) rfl (fun w' hw' => (E.nilCheck rfl)) ?_
          refine FB.t (i := 4) (bs 18 31) rfl (SP.nil S646.sl) rfl (fun w' hw' => (E.fieldAddr tf86_3 rfl)) ?_
          refine FB.t (i := 5) (bs 18 63) rfl (SP.nil S646.sl) rfl (fun w' hw' => (E.load rfl (run_load1 Tryz.isAgg9 (at650.now hw') rfl))) ?_
          refine FB.t (i := 8) (bs 18 319) rfl (SP.nil S646.sl) rfl (fun w' hw' => (E.move k80)) ?_
          refine FB.t (i := 9) (bs 18 831) rfl (SP.nil S646.sl) rfl (fun w' hw' => (E.move (v := v87) rfl)) ?_
          obtain ⟨q679, v681, v682, rfl, at680, h683, h684⟩ := FAt.open h89 hy678
          refine FB.t (i := 10) (bs 18 1855) rfl (SP.nil S646.sl) rfl (fun w' hw' => (E.nilCheck rfl)) ?_
          refine FB.t (i := 11) (bs 18 3903) rfl (SP.nil S646.sl) rfl (fun w' hw' => (E.fieldAddr tf86_3 rfl)) ?_
          refine FB.t (i := 12) (bs 18 7999) rfl (SP.nil S646.sl) rfl (fun w' hw' => (E.load rfl (run_load1 Tryz.isAgg9 (at680.now hw') rfl))) ?_
          refine FB.all2 (i := 6) (j := 13) (by kernel_rfl) ?_ ?_
          ·
           obtain ⟨v655, w656, run657, S658⟩ := S646.buildSlice (P := Tryz.prog) te30 [Value.string y647.text] (parts := #[(0, Value.string y647.text)]) (cells := [Value.string y647.text]) rfl (szs_cons rfl szs_nil) (fc_cons rfl fc_nil) (ones_cons rfl ones_nil) (Nat.le_of_ble_eq_true rfl)
           have els659 : Els (up wa.heap.size H71) eS 1 [Value.string y647.text] [y647.text] := (Els.snoc (H := (up wa.heap.size H71)) (E := eS) (k := 1) (c := [Value.string y647.text]) (x := y647.text) Els.nil rfl rfl)
           refine FC.val (l' := (bs 18 8063)) rfl (by kernel_rfl) rfl rfl rfl (E.buildSlice (B1 rfl) run657) ?_
           refine ⟨(SP.nil S658.sl), ?_⟩
           refine FB.all2 (i := 7) (j := 13) (by kernel_rfl) ?_ ?_
           ·
            obtain ⟨H660, S661, i662, h663, nv664⟩ := S658.sealRowU (i := 0) (l' := [.row 9 1 v63 n64 cs65, .row 9 1 v67 n68 cs69]) rfl els659 (by decide) rfl
            refine FC.call (l' := (bs 18 8191)) rfl (by kernel_rfl) rfl rfl rfl (E.call Tryz.call65 (A2 rfl rfl)) (w_impl_with S661.sl v0_0 a0.left (p0_0.mono ((i27.tr i73).tr i662)) v655 [y647.text] (h663.mono upI) hr666) ?_
            rintro e w668 ⟨H667, v673, n674, cs675, rfl, r670, els676⟩
            refine ⟨_, rfl, ?_⟩
            obtain ⟨H671, r670, hU672⟩ := St.lendX i662 S658.sl r670
            have els676 := els676.mono (hU672.tr (up_le S658.size))
            have S669 := S658.join (l' := [.row 9 1 v673 n674 cs675, .row 9 1 v655 1 [Value.string y647.text], .row 9 1 v63 n64 cs65, .row 9 1 v67 n68 cs69]) r670 rfl
            refine ⟨(SP.nil (Sl.of_inc r670.run.inc S669.sl)), ?_⟩
            refine FB.all1 (i := 13) (by kernel_rfl) ?_
            ·
             obtain ⟨v685, w686, run687, S688⟩ := S669.buildSlice (P := Tryz.prog) te30 [Value.string y677.text] (parts := #[(0, Value.string y677.text)]) (cells := [Value.string y677.text]) rfl (szs_cons rfl szs_nil) (fc_cons rfl fc_nil) (ones_cons rfl ones_nil) (Nat.le_of_ble_eq_true rfl)
             have els689 : Els (up wa.heap.size H671) eS 1 [Value.string y677.text] [y677.text] := (Els.snoc (H := (up wa.heap.size H671)) (E := eS) (k := 1) (c := [Value.string y677.text]) (x := y677.text) Els.nil rfl rfl)
             refine FC.val (l' := (bs 18 16383)) rfl (by kernel_rfl) rfl rfl rfl (E.buildSlice (B1 rfl) run687) ?_
             refine ⟨(SP.nil (Sl.of_inc r670.run.inc S688.sl)), ?_⟩
             refine FB.all1 (i := 14) (by kernel_rfl) ?_
             ·
              obtain ⟨H690, S691, i692, h693, nv694⟩ := S688.sealRowU (i := 4) (l' := [.row 9 1 v685 1 [Value.string y677.text], .row 9 1 v673 n674 cs675, .row 9 1 v655 1 [Value.string y647.text], .row 9 1 v63 n64 cs65]) rfl (els70.mono (up_mono r670.run.inc)) (by decide) rfl
              obtain ⟨H695, S696, i697, h698, nv699⟩ := S691.sealRowU (i := 0) (l' := [.row 9 1 v673 n674 cs675, .row 9 1 v655 1 [Value.string y647.text], .row 9 1 v63 n64 cs65]) rfl (els689.mono (up_mono i692)) (by decide) rfl
              refine FC.call (l' := (bs 18 32767)) rfl (by kernel_rfl) rfl rfl rfl (E.call Tryz.call65 (A2 rfl rfl)) (w_impl_with S696.sl v67 r50 (h693.mono (upI.tr i697)) v685 [y677.text] (h698.mono upI) hr701) ?_
              rintro e w703 ⟨H702, v708, n709, cs710, rfl, r705, els711⟩
              refine ⟨_, rfl, ?_⟩
              obtain ⟨H706, r705, hU707⟩ := St.lendX (i692.tr i697) S688.sl r705
              have els711 := els711.mono (hU707.tr (up_le S688.size))
              have S704 := S688.join (l' := [.row 9 1 v708 n709 cs710, .row 9 1 v685 1 [Value.string y677.text], .row 9 1 v673 n674 cs675, .row 9 1 v655 1 [Value.string y647.text], .row 9 1 v63 n64 cs65, .row 9 1 v67 n68 cs69]) r705 rfl
              refine ⟨(SP.nil (Sl.of_inc (r670.run.inc.tr r705.run.inc) S704.sl)), ?_⟩
              obtain ⟨H712, S713, i714, h715, nv716⟩ := S704.sealRowU (i := 2) (l' := [.row 9 1 v708 n709 cs710, .row 9 1 v685 1 [Value.string y677.text], .row 9 1 v655 1 [Value.string y647.text], .row 9 1 v63 n64 cs65, .row 9 1 v67 n68 cs69]) rfl (els676.mono (up_mono r705.run.inc)) (by decide) rfl
              obtain ⟨H717, S718, i719, h720, nv721⟩ := S713.sealRowU (i := 0) (l' := [.row 9 1 v685 1 [Value.string y677.text], .row 9 1 v655 1 [Value.string y647.text], .row 9 1 v63 n64 cs65, .row 9 1 v67 n68 cs69]) rfl (els711.mono (up_mono i714)) (by decide) rfl
              refine FB.t (i := 15) (bs 18 65535) rfl (SP.nil (Sl.of_inc (r670.run.inc.tr r705.run.inc) S704.sl)) rfl (fun w' hw' => (E.build (B2 rfl rfl) (run_build _ 51 #[(0, v673), (1, v708)] #[v673, v708] (by obtain ⟨_, _, rfl⟩ := RSl.ln (h715.mono (upI.tr i719)); obtain ⟨_, _, rfl⟩ := RSl.ln (h720.mono upI); rfl)))) ?_
              refine FB.all1 (i := 16) (by kernel_rfl) ?_
              ·
               obtain ⟨v722, w723, run724, S725⟩ := S718.buildSlice (P := Tryz.prog) te130 [Value.agg #[v673, v708]] (parts := #[(0, Value.agg #[v673, v708])]) (cells := [v673, v708]) rfl (szs_cons rfl szs_nil) (fc_cons rfl fc_nil) (ones_cons h715.one (ones_cons h720.one ones_nil)) (Nat.le_of_ble_eq_true rfl)
               have els726 : Els (up wa.heap.size H717) eSequent 2 [v673, v708] [(Sequent.mk r665 r700)] := (Els.snoc (H := (up wa.heap.size H717)) (E := eSequent) (k := 2) (c := [v673, v708]) (x := (Sequent.mk r665 r700)) Els.nil rfl ⟨_, _, rfl, (h715.mono (up_mono i719)), h720⟩)
               have nd727 : (bl [v673, v708]).Nodup := by exact nd_two (New.apart (h715.mono (up_mono (Inc.rfl _))) nv721)
               have nv728 : New H706 [v673, v708] := by exact (New.two nv716 (nv721.anti i714))
               refine FC.val (l' := (bs 18 131071)) rfl (by kernel_rfl) rfl rfl rfl (E.buildSlice (B1 rfl) run724) ?_
               refine ⟨(SP.nil (Sl.of_inc (((r670.run.inc.tr r705.run.inc).tr i714).tr i719) S725.sl)), ?_⟩
               refine FB.t (i := 17) (bs 18 262143) rfl (SP.nil (Sl.of_inc (((r670.run.inc.tr r705.run.inc).tr i714).tr i719) S725.sl)) rfl (fun w' hw' => (E.assign (v := v722) rfl)) ?_
               exact FB.done (by kernel_rfl) ⟨_, _, _, _, (S725.sel [0] (by decide) rfl), (((r670.run.inc.tr r705.run.inc).tr i714).tr i719), els726, nd727, rfl⟩
           ·
            obtain ⟨v685, w686, run687, S688⟩ := S658.buildSlice (P := Tryz.prog) te30 [Value.string y677.text] (parts := #[(0, Value.string y677.text)]) (cells := [Value.string y677.text]) rfl (szs_cons rfl szs_nil) (fc_cons rfl fc_nil) (ones_cons rfl ones_nil) (Nat.le_of_ble_eq_true rfl)
            have els689 : Els (up wa.heap.size H71) eS 1 [Value.string y677.text] [y677.text] := (Els.snoc (H := (up wa.heap.size H71)) (E := eS) (k := 1) (c := [Value.string y677.text]) (x := y677.text) Els.nil rfl rfl)
            refine FC.val (l' := (bs 18 16255)) rfl (by kernel_rfl) rfl rfl rfl (E.buildSlice (B1 rfl) run687) ?_
            refine ⟨(SP.nil S688.sl), ?_⟩
            refine FB.all1 (i := 7) (by kernel_rfl) ?_
            ·
             obtain ⟨H660, S661, i662, h663, nv664⟩ := S688.sealRowU (i := 1) (l' := [.row 9 1 v685 1 [Value.string y677.text], .row 9 1 v63 n64 cs65, .row 9 1 v67 n68 cs69]) rfl els659 (by decide) rfl
             refine FC.call (l' := (bs 18 16383)) rfl (by kernel_rfl) rfl rfl rfl (E.call Tryz.call65 (A2 rfl rfl)) (w_impl_with S661.sl v0_0 a0.left (p0_0.mono ((i27.tr i73).tr i662)) v655 [y647.text] (h663.mono upI) hr666) ?_
             rintro e w668 ⟨H667, v673, n674, cs675, rfl, r670, els676⟩
             refine ⟨_, rfl, ?_⟩
             obtain ⟨H671, r670, hU672⟩ := St.lendX i662 S688.sl r670
             have els676 := els676.mono (hU672.tr (up_le S688.size))
             have S669 := S688.join (l' := [.row 9 1 v673 n674 cs675, .row 9 1 v685 1 [Value.string y677.text], .row 9 1 v655 1 [Value.string y647.text], .row 9 1 v63 n64 cs65, .row 9 1 v67 n68 cs69]) r670 rfl
             refine ⟨(SP.nil (Sl.of_inc r670.run.inc S669.sl)), ?_⟩
             refine FB.all1 (i := 14) (by kernel_rfl) ?_
             ·
              obtain ⟨H690, S691, i692, h693, nv694⟩ := S669.sealRowU (i := 4) (l' := [.row 9 1 v673 n674 cs675, .row 9 1 v685 1 [Value.string y677.text], .row 9 1 v655 1 [Value.string y647.text], .row 9 1 v63 n64 cs65]) rfl (els70.mono (up_mono r670.run.inc)) (by decide) rfl
              obtain ⟨H695, S696, i697, h698, nv699⟩ := S691.sealRowU (i := 1) (l' := [.row 9 1 v673 n674 cs675, .row 9 1 v655 1 [Value.string y647.text], .row 9 1 v63 n64 cs65]) rfl (els689.mono (up_mono (r670.run.inc.tr i692))) (by decide) rfl
              refine FC.call (l' := (bs 18 32767)) rfl (by kernel_rfl) rfl rfl rfl (E.call Tryz.call65 (A2 rfl rfl)) (w_impl_with S696.sl v67 r50 (h693.mono (upI.tr i697)) v685 [y677.text] (h698.mono upI) hr701) ?_
              rintro e w703 ⟨H702, v708, n709, cs710, rfl, r705, els711⟩
              refine ⟨_, rfl, ?_⟩
              obtain ⟨H706, r705, hU707⟩ := St.lendX (i692.tr i697) S669.sl r705
              have els711 := els711.mono (hU707.tr (up_le S669.size))
              have S704 := S669.join (l' := [.row 9 1 v708 n709 cs710, .row 9 1 v673 n674 cs675, .row 9 1 v685 1 [Value.string y677.text], .row 9 1 v655 1 [Value.string y647.text], .row 9 1 v63 n64 cs65, .row 9 1 v67 n68 cs69]) r705 rfl
              refine ⟨(SP.nil (Sl.of_inc (r670.run.inc.tr r705.run.inc) S704.sl)), ?_⟩
              obtain ⟨H712, S713, i714, h715, nv716⟩ := S704.sealRowU (i := 1) (l' := [.row 9 1 v708 n709 cs710, .row 9 1 v685 1 [Value.string y677.text], .row 9 1 v655 1 [Value.string y647.text], .row 9 1 v63 n64 cs65, .row 9 1 v67 n68 cs69]) rfl (els676.mono (up_mono r705.run.inc)) (by decide) rfl
              obtain ⟨H717, S718, i719, h720, nv721⟩ := S713.sealRowU (i := 0) (l' := [.row 9 1 v685 1 [Value.string y677.text], .row 9 1 v655 1 [Value.string y647.text], .row 9 1 v63 n64 cs65, .row 9 1 v67 n68 cs69]) rfl (els711.mono (up_mono i714)) (by decide) rfl
              refine FB.t (i := 15) (bs 18 65535) rfl (SP.nil (Sl.of_inc (r670.run.inc.tr r705.run.inc) S704.sl)) rfl (fun w' hw' => (E.build (B2 rfl rfl) (run_build _ 51 #[(0, v673), (1, v708)] #[v673, v708] (by obtain ⟨_, _, rfl⟩ := RSl.ln (h715.mono (upI.tr i719)); obtain ⟨_, _, rfl⟩ := RSl.ln (h720.mono upI); rfl)))) ?_
              refine FB.all1 (i := 16) (by kernel_rfl) ?_
              ·
               obtain ⟨v722, w723, run724, S725⟩ := S718.buildSlice (P := Tryz.prog) te130 [Value.agg #[v673, v708]] (parts := #[(0, Value.agg #[v673, v708])]) (cells := [v673, v708]) rfl (szs_cons rfl szs_nil) (fc_cons rfl fc_nil) (ones_cons h715.one (ones_cons h720.one ones_nil)) (Nat.le_of_ble_eq_true rfl)
               have els726 : Els (up wa.heap.size H717) eSequent 2 [v673, v708] [(Sequent.mk r665 r700)] := (Els.snoc (H := (up wa.heap.size H717)) (E := eSequent) (k := 2) (c := [v673, v708]) (x := (Sequent.mk r665 r700)) Els.nil rfl ⟨_, _, rfl, (h715.mono (up_mono i719)), h720⟩)
               have nd727 : (bl [v673, v708]).Nodup := by exact nd_two (New.apart (h715.mono (up_mono (Inc.rfl _))) nv721)
               have nv728 : New H706 [v673, v708] := by exact (New.two nv716 (nv721.anti i714))
               refine FC.val (l' := (bs 18 131071)) rfl (by kernel_rfl) rfl rfl rfl (E.buildSlice (B1 rfl) run724) ?_
               refine ⟨(SP.nil (Sl.of_inc (((r670.run.inc.tr r705.run.inc).tr i714).tr i719) S725.sl)), ?_⟩
               refine FB.t (i := 17) (bs 18 262143) rfl (SP.nil (Sl.of_inc (((r670.run.inc.tr r705.run.inc).tr i714).tr i719) S725.sl)) rfl (fun w' hw' => (E.assign (v := v722) rfl)) ?_
               exact FB.done (by kernel_rfl) ⟨_, _, _, _, (S725.sel [0] (by decide) rfl), (((r670.run.inc.tr r705.run.inc).tr i714).tr i719), els726, nd727, rfl⟩
          ·
           obtain ⟨v685, w686, run687, S688⟩ := S646.buildSlice (P := Tryz.prog) te30 [Value.string y677.text] (parts := #[(0, Value.string y677.text)]) (cells := [Value.string y677.text]) rfl (szs_cons rfl szs_nil) (fc_cons rfl fc_nil) (ones_cons rfl ones_nil) (Nat.le_of_ble_eq_true rfl)
           have els689 : Els (up wa.heap.size H71) eS 1 [Value.string y677.text] [y677.text] := (Els.snoc (H := (up wa.heap.size H71)) (E := eS) (k := 1) (c := [Value.string y677.text]) (x := y677.text) Els.nil rfl rfl)
           refine FC.val (l' := (bs 18 16191)) rfl (by kernel_rfl) rfl rfl rfl (E.buildSlice (B1 rfl) run687) ?_
           refine ⟨(SP.nil S688.sl), ?_⟩
           refine FB.all1 (i := 6) (by kernel_rfl) ?_
           ·
            obtain ⟨v655, w656, run657, S658⟩ := S688.buildSlice (P := Tryz.prog) te30 [Value.string y647.text] (parts := #[(0, Value.string y647.text)]) (cells := [Value.string y647.text]) rfl (szs_cons rfl szs_nil) (fc_cons rfl fc_nil) (ones_cons rfl ones_nil) (Nat.le_of_ble_eq_true rfl)
            have els659 : Els (up wa.heap.size H71) eS 1 [Value.string y647.text] [y647.text] := (Els.snoc (H := (up wa.heap.size H71)) (E := eS) (k := 1) (c := [Value.string y647.text]) (x := y647.text) Els.nil rfl rfl)
            refine FC.val (l' := (bs 18 16255)) rfl (by kernel_rfl) rfl rfl rfl (E.buildSlice (B1 rfl) run657) ?_
            refine ⟨(SP.nil S658.sl), ?_⟩
            refine FB.all1 (i := 7) (by kernel_rfl) ?_
            ·
             obtain ⟨H660, S661, i662, h663, nv664⟩ := S658.sealRowU (i := 0) (l' := [.row 9 1 v685 1 [Value.string y677.text], .row 9 1 v63 n64 cs65, .row 9 1 v67 n68 cs69]) rfl els659 (by decide) rfl
             refine FC.call (l' := (bs 18 16383)) rfl (by kernel_rfl) rfl rfl rfl (E.call Tryz.call65 (A2 rfl rfl)) (w_impl_with S661.sl v0_0 a0.left (p0_0.mono ((i27.tr i73).tr i662)) v655 [y647.text] (h663.mono upI) hr666) ?_
             rintro e w668 ⟨H667, v673, n674, cs675, rfl, r670, els676⟩
             refine ⟨_, rfl, ?_⟩
             obtain ⟨H671, r670, hU672⟩ := St.lendX i662 S658.sl r670
             have els676 := els676.mono (hU672.tr (up_le S658.size))
             have S669 := S658.join (l' := [.row 9 1 v673 n674 cs675, .row 9 1 v655 1 [Value.string y647.text], .row 9 1 v685 1 [Value.string y677.text], .row 9 1 v63 n64 cs65, .row 9 1 v67 n68 cs69]) r670 rfl
             refine ⟨(SP.nil (Sl.of_inc r670.run.inc S669.sl)), ?_⟩
             refine FB.all1 (i := 14) (by kernel_rfl) ?_
             ·
              obtain ⟨H690, S691, i692, h693, nv694⟩ := S669.sealRowU (i := 4) (l' := [.row 9 1 v673 n674 cs675, .row 9 1 v655 1 [Value.string y647.text], .row 9 1 v685 1 [Value.string y677.text], .row 9 1 v63 n64 cs65]) rfl (els70.mono (up_mono r670.run.inc)) (by decide) rfl
              obtain ⟨H695, S696, i697, h698, nv699⟩ := S691.sealRowU (i := 2) (l' := [.row 9 1 v673 n674 cs675, .row 9 1 v655 1 [Value.string y647.text], .row 9 1 v63 n64 cs65]) rfl (els689.mono (up_mono (r670.run.inc.tr i692))) (by decide) rfl
              refine FC.call (l' := (bs 18 32767)) rfl (by kernel_rfl) rfl rfl rfl (E.call Tryz.call65 (A2 rfl rfl)) (w_impl_with S696.sl v67 r50 (h693.mono (upI.tr i697)) v685 [y677.text] (h698.mono upI) hr701) ?_
              rintro e w703 ⟨H702, v708, n709, cs710, rfl, r705, els711⟩
              refine ⟨_, rfl, ?_⟩
              obtain ⟨H706, r705, hU707⟩ := St.lendX (i692.tr i697) S669.sl r705
              have els711 := els711.mono (hU707.tr (up_le S669.size))
              have S704 := S669.join (l' := [.row 9 1 v708 n709 cs710, .row 9 1 v673 n674 cs675, .row 9 1 v655 1 [Value.string y647.text], .row 9 1 v685 1 [Value.string y677.text], .row 9 1 v63 n64 cs65, .row 9 1 v67 n68 cs69]) r705 rfl
              refine ⟨(SP.nil (Sl.of_inc (r670.run.inc.tr r705.run.inc) S704.sl)), ?_⟩
              obtain ⟨H712, S713, i714, h715, nv716⟩ := S704.sealRowU (i := 1) (l' := [.row 9 1 v708 n709 cs710, .row 9 1 v655 1 [Value.string y647.text], .row 9 1 v685 1 [Value.string y677.text], .row 9 1 v63 n64 cs65, .row 9 1 v67 n68 cs69]) rfl (els676.mono (up_mono r705.run.inc)) (by decide) rfl
              obtain ⟨H717, S718, i719, h720, nv721⟩ := S713.sealRowU (i := 0) (l' := [.row 9 1 v655 1 [Value.string y647.text], .row 9 1 v685 1 [Value.string y677.text], .row 9 1 v63 n64 cs65, .row 9 1 v67 n68 cs69]) rfl (els711.mono (up_mono i714)) (by decide) rfl
              refine FB.t (i := 15) (bs 18 65535) rfl (SP.nil (Sl.of_inc (r670.run.inc.tr r705.run.inc) S704.sl)) rfl (fun w' hw' => (E.build (B2 rfl rfl) (run_build _ 51 #[(0, v673), (1, v708)] #[v673, v708] (by obtain ⟨_, _, rfl⟩ := RSl.ln (h715.mono (upI.tr i719)); obtain ⟨_, _, rfl⟩ := RSl.ln (h720.mono upI); rfl)))) ?_
              refine FB.all1 (i := 16) (by kernel_rfl) ?_
              ·
               obtain ⟨v722, w723, run724, S725⟩ := S718.buildSlice (P := Tryz.prog) te130 [Value.agg #[v673, v708]] (parts := #[(0, Value.agg #[v673, v708])]) (cells := [v673, v708]) rfl (szs_cons rfl szs_nil) (fc_cons rfl fc_nil) (ones_cons h715.one (ones_cons h720.one ones_nil)) (Nat.le_of_ble_eq_true rfl)
               have els726 : Els (up wa.heap.size H717) eSequent 2 [v673, v708] [(Sequent.mk r665 r700)] := (Els.snoc (H := (up wa.heap.size H717)) (E := eSequent) (k := 2) (c := [v673, v708]) (x := (Sequent.mk r665 r700)) Els.nil rfl ⟨_, _, rfl, (h715.mono (up_mono i719)), h720⟩)
               have nd727 : (bl [v673, v708]).Nodup := by exact nd_two (New.apart (h715.mono (up_mono (Inc.rfl _))) nv721)
               have nv728 : New H706 [v673, v708] := by exact (New.two nv716 (nv721.anti i714))
               refine FC.val (l' := (bs 18 131071)) rfl (by kernel_rfl) rfl rfl rfl (E.buildSlice (B1 rfl) run724) ?_
               refine ⟨(SP.nil (Sl.of_inc (((r670.run.inc.tr r705.run.inc).tr i714).tr i719) S725.sl)), ?_⟩
               refine FB.t (i := 17) (bs 18 262143) rfl (SP.nil (Sl.of_inc (((r670.run.inc.tr r705.run.inc).tr i714).tr i719) S725.sl)) rfl (fun w' hw' => (E.assign (v := v722) rfl)) ?_
               exact FB.done (by kernel_rfl) ⟨_, _, _, _, (S725.sel [0] (by decide) rfl), (((r670.run.inc.tr r705.run.inc).tr i714).tr i719), els726, nd727, rfl⟩
         ·
          rintro f738 w737 ⟨H734, v729, n730, cs731, S735, i736, els732, nd733, k739⟩
          refine FW.ret ?_
          obtain rfl := Option.some.inj hp
          exact ⟨.inr rfl, res1 rfl k739 ⟨_, _, _, _, rfl, S735, (els732.mono upI)⟩⟩

@[reducible] def p_impl_seqSearch_search (H0 : GH) (w0 : World) (Ha : GH) (L : List MO) (b0 : Nat) (k0_0 : List Value) (r : (Bool × seqSearch)) : Ending → World → Prop :=
 fun e w' => ∃ H' : GH, ∃ v0_0r : Value, ∃ n0_0r : Nat, ∃ c0_0r : List Value, ∃ v0_1r : Value, e = .returned (Value.bool r.1) ∧ (St H0 w0 H' w' (.box b0 102 [v0_0r, v0_1r] :: .row 55 6 v0_0r n0_0r c0_0r :: L) ∧ Inc Ha H') ∧ Els (up w0.heap.size H') eSeqStep 6 c0_0r r.2.steps ∧ (bl c0_0r).Nodup ∧ Gr Ha k0_0 c0_0r ∧ PAt H' eSequent v0_1r r.2.open_
set_option maxHeartbeats 4000000 in
theorem w_impl_seqSearch_search_B {rec_impl_seqSearch_search : seqSearch → Sequent → Option (Bool × seqSearch)} (hrec_impl_seqSearch_search : ∀ {H0 Ha : GH} {w0 wa : World} {L : List MO} {a0 : seqSearch} {b0 : Nat} {v0_0 : Value} {n0_0 : Nat} {k0_0 : List Value} {v0_1 : Value} (S0 : St H0 w0 Ha wa (.box b0 102 [v0_0, v0_1] :: .row 55 6 v0_0 n0_0 k0_0 :: L)) (p0_0 : Els (up w0.heap.size Ha) eSeqStep 6 k0_0 a0.steps) (d0_0 : (bl k0_0).Nodup) (p0_1 : PAt Ha eSequent v0_1 a0.open_) (a1 : Sequent) (v1_0 : Value) (p1_0 : RSl Ha eS 1 v1_0 a1.left) (v1_1 : Value) (p1_1 : RSl Ha eS 1 v1_1 a1.right) {r : (Bool × seqSearch)} (hp : rec_impl_seqSearch_search a0 a1 = some r), Calls Tryz.prog 64 #[Value.pointer (some (⟨b0, 0, none⟩ : Addr)), Value.agg #[v1_0, v1_1]] wa (p_impl_seqSearch_search H0 w0 Ha L b0 k0_0 r)) {H0 Ha : GH} {w0 wa : World} {L : List MO} {a0 : seqSearch} {b0 : Nat} {v0_0 : Value} {n0_0 : Nat} {k0_0 : List Value} {v0_1 : Value} (S0 : St H0 w0 Ha wa (.box b0 102 [v0_0, v0_1] :: .row 55 6 v0_0 n0_0 k0_0 :: L)) (p0_0 : Els (up w0.heap.size Ha) eSeqStep 6 k0_0 a0.steps) (d0_0 : (bl k0_0).Nodup) (p0_1 : PAt Ha eSequent v0_1 a0.open_) (a1 : Sequent) (v1_0 : Value) (p1_0 : RSl Ha eS 1 v1_0 a1.left) (v1_1 : Value) (p1_1 : RSl Ha eS 1 v1_1 a1.right) {r : (Bool × seqSearch)} (hp : PF.impl_seqSearch_search_B rec_impl_seqSearch_search a0 a1 = some r) :
  Calls Tryz.prog 64 #[Value.pointer (some (⟨b0, 0, none⟩ : Addr)), Value.agg #[v1_0, v1_1]] wa (p_impl_seqSearch_search H0 w0 Ha L b0 k0_0 r) := by
 unfold PF.impl_seqSearch_search_B at hp
 refine calls_go (N := 83) (args := [Value.pointer (some (⟨b0, 0, none⟩ : Addr)), Value.agg #[v1_0, v1_1]]) Tryz.func64 rfl rfl rfl ?_
 refine FW.seq (FW.region ?_)
 obtain ⟨b21, w22, run23, S24⟩ := S0.box (P := Tryz.prog) 51 [v1_0, v1_1] (v := Value.agg #[v1_0, v1_1]) rfl (ones_cons p1_0.one (ones_cons p1_1.one ones_nil))
 refine FL.v (E.box rfl run23) ?_
 refine FL.v (E.assign (v := Value.bool false) rfl) ?_
 refine FL.nil (FW.seq (FW.seq (FW.region ?_)))
 refine FL.v (E.load rfl (run_loadA Tryz.isAgg51 Tryz.sizeOf51 (S24.box_now (i := 0) rfl) rfl)) ?_
 obtain ⟨r25, hr26, hp⟩ := bnd hp
 refine FL.call rfl rfl rfl (E.call Tryz.call94 (A1 rfl)) (w_impl_IsSequent S24.sl a1 v1_0 p1_0 v1_1 p1_1 hr26) ?_
 rintro e w27 ⟨rfl, r28⟩
 refine ⟨_, rfl, ?_⟩
 have S29 := S24.call r28
 refine FL.v (E.not rfl) ?_
 refine FL.nil ?_
 rcases ifB hp with ⟨c30, hp⟩ | ⟨c30, hp⟩
 ·
  refine FW.condT rfl c30 ?_
  refine FW.seq (FW.region ?_)
  refine FL.v (E.assign (v := Value.bool false) rfl) ?_
  refine FL.nil ?_
  refine FW.ret ?_
  obtain rfl := Option.some.inj hp
  exact ⟨.inr rfl, res1 rfl rfl ⟨_, _, _, _, _, rfl, ⟨(S29.selT (a := [.box b21 51 [v1_0, v1_1], .box b0 102 [v0_0, v0_1], .row 55 6 v0_0 n0_0 k0_0]) (l' := [.box b0 102 [v0_0, v0_1], .row 55 6 v0_0 n0_0 k0_0]) [1, 2] (by decide) rfl), (Inc.rfl _)⟩, p0_0, d0_0, Gr.rfl, p0_1⟩⟩
 ·
  refine FW.condF rfl c30 ?_
  refine FW.skip (FW.seq (FW.region ?_))
  refine FL.v (E.load rfl (run_loadA Tryz.isAgg51 Tryz.sizeOf51 (S29.box_now (i := 0) rfl) rfl)) ?_
  obtain ⟨r31, hr32, hp⟩ := bnd hp
  refine FL.call rfl rfl rfl (E.call Tryz.call95 (A1 rfl)) (w_impl_Sequent_clone S29.sl a1 v1_0 p1_0 v1_1 p1_1 hr32) ?_
  rintro e w34 ⟨H33, v37, v43, rfl, r36, ⟨c40, c46, ns39, ns45, ap49⟩⟩
  refine ⟨_, rfl, ?_⟩
  have h38 := ns39.rsl
  have nv41 : New Ha c40 := New.of_up S29.sl (fun b hb => ns39.dom b (.inr hb))
  have nv42 : New Ha [v37] := New.of_up S29.sl h38.dom
  have h38 := h38.mono (up_le S29.size)
  have ns39 := ns39.mono (up_le S29.size)
  have h44 := ns45.rsl
  have nv47 : New Ha c46 := New.of_up S29.sl (fun b hb => ns45.dom b (.inr hb))
  have nv48 : New Ha [v43] := New.of_up S29.sl h44.dom
  have h44 := h44.mono (up_le S29.size)
  have ns45 := ns45.mono (up_le S29.size)
  have S35 := S29.call r36
  refine FL.v (E.build (B2 rfl rfl) (run_build _ 55 #[(0, Value.agg #[v37, v43]), (1, Value.int .i64 1)] #[v37, v43, Value.int .i64 1, Value.string ByteArray.empty, Value.int .i64 0, Value.int .i64 0] (by obtain ⟨_, _, rfl⟩ := RSl.ln (h38.mono upI); obtain ⟨_, _, rfl⟩ := RSl.ln (h44.mono upI); rfl))) ?_
  obtain ⟨b50, w51, run52, S53⟩ := S35.alloc (P := Tryz.prog) 55 [Value.slice none 0 0, Value.slice none 0 0, Value.int .i64 0, Value.string ByteArray.empty, Value.int .i64 0, Value.int .i64 0] Tryz.zeroValue55 rfl (ones_cons rfl (ones_cons rfl (ones_cons rfl (ones_cons rfl (ones_cons rfl (ones_cons rfl ones_nil))))))
  refine FL.v (E.alloc run52) ?_
  obtain ⟨w54, run55, S56⟩ := S53.store0 (P := Tryz.prog) (t := 55) (i := 0) (cs' := [v37, v43, Value.int .i64 1, Value.string ByteArray.empty, Value.int .i64 0, Value.int .i64 0]) (l' := (.box b50 55 [v37, v43, Value.int .i64 1, Value.string ByteArray.empty, Value.int .i64 0, Value.int .i64 0] :: .box b21 51 [v1_0, v1_1] :: .box b0 102 [v0_0, v0_1] :: .row 55 6 v0_0 n0_0 k0_0 :: L)) (v := Value.agg #[v37, v43, Value.int .i64 1, Value.string ByteArray.empty, Value.int .i64 0, Value.int .i64 0]) (c := [v37, v43, Value.int .i64 1, Value.string ByteArray.empty, Value.int .i64 0, Value.int .i64 0]) rfl Tryz.sizeOf55 rfl rfl (ones_cons h38.one (ones_cons h44.one (ones_cons rfl (ones_cons rfl (ones_cons rfl (ones_cons rfl ones_nil)))))) (Nat.le_of_ble_eq_true rfl) rfl rfl
  refine FL.act rfl rfl (E.store rfl rfl run55) ?_
  refine FL.nil (FW.seq (FW.seq (FW.region ?_)))
  refine FL.v (E.load rfl (run_loadA Tryz.isAgg51 Tryz.sizeOf51 (S56.box_now (i := 1) rfl) rfl)) ?_
  obtain ⟨r57, hr58, hp⟩ := bnd hp
  refine FL.call rfl rfl rfl (E.call Tryz.call96 (A1 rfl)) (w_impl_isSeqAxiom S56.sl a1 v1_0 (p1_0.mono r36.inc) v1_1 (p1_1.mono r36.inc) hr58) ?_
  rintro e w59 ⟨rfl, r60⟩
  refine ⟨_, rfl, ?_⟩
  have S61 := S56.call r60
  refine FL.v (E.not rfl) ?_
  refine FL.nil ?_
  obtain ⟨q316, hq, hp⟩ := bndR hp
  refine FW.joinE (S := ((List SeqStep) × Int × ByteArray × Int × Int × (Option Sequent))) (X := (Bool × seqSearch)) (q := q316) (fun s315 f w => ∃ H : GH, ∃ v318 : Value, ∃ n319 : Nat, ∃ cs320 : List Value, ∃ v324 : Value, St H0 w0 H w (.box b50 55 [v37, v43, Value.int .i64 s315.2.1, Value.string s315.2.2.1, Value.int .i64 s315.2.2.2.1, Value.int .i64 s315.2.2.2.2.1] :: .box b0 102 [v318, v324] :: .row 55 6 v318 n319 cs320 :: L) ∧ Inc H33 H ∧ Els (up w0.heap.size H) eSeqStep 6 cs320 s315.1 ∧ PAt H eSequent v324 s315.2.2.2.2.2 ∧ (bl cs320).Nodup ∧ Gr H33 k0_0 cs320 ∧ f 0 = Value.pointer (some (⟨b0, 0, none⟩ : Addr)) ∧ f 5 = Value.pointer (some (⟨b50, 0, none⟩ : Addr))) (fun x e f w => (e = Exit.ret) ∧ (fun e f w => (e = Exit.normal ∨ e = Exit.ret) ∧ ∀ a, Fr (δ := []) 83 a f → ∃ v, (results Tryz.f64 a.tmps).run Tryz.prog w = .ok v w ∧ (p_impl_seqSearch_search H0 w0 Ha L b0 k0_0 x) (.returned v) w) e f w) ?_ ?_ ?_
  ·
   clear hp; have hp := hq; clear hq
   rcases ifB hp with ⟨c326, hp⟩ | ⟨c326, hp⟩
   ·
    refine FW.condT rfl c326 ?_
    refine FW.seq (FW.region ?_)
    refine FL.v (E.load rfl (run_loadA Tryz.isAgg51 Tryz.sizeOf51 (S61.box_now (i := 1) rfl) rfl)) ?_
    obtain ⟨r327, hr328, hp⟩ := bnd hp
    refine FL.call rfl rfl rfl (E.call Tryz.call97 (A1 rfl)) (w_impl_mainOf S61.sl a1 v1_0 (p1_0.mono r36.inc) v1_1 (p1_1.mono r36.inc) hr328) ?_
    rintro e w330 ⟨H329, v333, rfl, r332, h334⟩
    refine ⟨_, rfl, ?_⟩
    have S331 := S61.call r332
    refine FL.v (E.move (v := Value.tuple #[v333, Value.int .i64 r327.2]) rfl) ?_
    refine FL.v (E.extract (i := 0) rfl rfl) ?_
    refine FL.v (E.extract (i := 1) rfl rfl) ?_
    refine FL.v (E.assign (v := v333) rfl) ?_
    refine FL.v (E.assign (v := Value.int .i64 r327.2) rfl) ?_
    refine FL.nil (FW.seq (FW.seq (FW.region ?_)))
    refine FL.v (E.move (v := v333) rfl) ?_
    refine FL.v (E.eqlN Tryz.runUnderlying67 h334.isNil rfl rfl) ?_
    refine FL.nil ?_
    rcases ifB hp with ⟨c335, hp⟩ | ⟨c335, hp⟩
    ·
     refine FW.condT rfl c335 ?_
     refine FW.seq (FW.region ?_)
     refine FL.v (E.move (v := Value.pointer (some (⟨b0, 0, none⟩ : Addr))) rfl) ?_
     refine FL.v (E.nilCheck rfl) ?_
     refine FL.v (E.fieldAddr tf102_1 rfl) ?_
     obtain ⟨H336, S337, i338, at339⟩ := S331.sealBox (i := 1) (l' := (.box b50 55 [v37, v43, Value.int .i64 1, Value.string ByteArray.empty, Value.int .i64 0, Value.int .i64 0] :: .box b0 102 [v0_0, v0_1] :: .row 55 6 v0_0 n0_0 k0_0 :: L)) rfl rfl
     obtain ⟨w340, run341, S342⟩ := S337.store (P := Tryz.prog) (t := 100) (i := 1) (j := 1) (cs' := [v0_0, Value.pointer (some ⟨b21, 0, none⟩)]) (l' := (.box b50 55 [v37, v43, Value.int .i64 1, Value.string ByteArray.empty, Value.int .i64 0, Value.int .i64 0] :: .box b0 102 [v0_0, Value.pointer (some ⟨b21, 0, none⟩)] :: .row 55 6 v0_0 n0_0 k0_0 :: L)) (v := Value.pointer (some ⟨b21, 0, none⟩)) (c := [Value.pointer (some ⟨b21, 0, none⟩)]) rfl Tryz.sizeOf100 rfl rfl (ones_cons rfl ones_nil) (Nat.le_of_ble_eq_true rfl) rfl rfl
     refine FL.act rfl rfl (E.store rfl rfl run341) ?_
     refine FL.nil (FW.seq (FW.region ?_))
     refine FL.v (E.assign (v := Value.bool false) rfl) ?_
     refine FL.nil ?_
     refine FW.ret ?_
     obtain rfl := Option.some.inj hp
     exact ⟨nofun, rfl, ⟨.inr rfl, res1 rfl rfl ⟨_, _, _, _, _, rfl, ⟨(S342.selT (a := [.box b50 55 [v37, v43, Value.int .i64 1, Value.string ByteArray.empty, Value.int .i64 0, Value.int .i64 0], .box b0 102 [v0_0, Value.pointer (some ⟨b21, 0, none⟩)], .row 55 6 v0_0 n0_0 k0_0]) (l' := [.box b0 102 [v0_0, Value.pointer (some ⟨b21, 0, none⟩)], .row 55 6 v0_0 n0_0 k0_0]) [1, 2] (by decide) rfl), ((r36.inc.tr r332.inc).tr i338)⟩, (p0_0.mono (up_mono ((r36.inc.tr r332.inc).tr i338))), d0_0, Gr.rfl, (PAt.mk at339 ⟨_, _, rfl, (p1_0.mono ((r36.inc.tr r332.inc).tr i338)), (p1_1.mono ((r36.inc.tr r332.inc).tr i338))⟩)⟩⟩⟩
    ·
     refine FW.condF rfl c335 ?_
     refine FW.skip (FW.seq (FW.region ?_))
     refine FL.v (E.move (v := Value.int .i64 r327.2) rfl) ?_
     refine FL.v (E.fieldAddr tf55_1 rfl) ?_
     obtain ⟨w343, run344, S345⟩ := S331.store (P := Tryz.prog) (t := 3) (i := 0) (j := 2) (cs' := [v37, v43, Value.int .i64 r327.2, Value.string ByteArray.empty, Value.int .i64 0, Value.int .i64 0]) (l' := (.box b50 55 [v37, v43, Value.int .i64 r327.2, Value.string ByteArray.empty, Value.int .i64 0, Value.int .i64 0] :: .box b21 51 [v1_0, v1_1] :: .box b0 102 [v0_0, v0_1] :: .row 55 6 v0_0 n0_0 k0_0 :: L)) (v := Value.int .i64 r327.2) (c := [Value.int .i64 r327.2]) rfl Tryz.sizeOf3 rfl rfl (ones_cons rfl ones_nil) (Nat.le_of_ble_eq_true rfl) rfl rfl
     refine FL.act rfl rfl (E.store rfl rfl run344) ?_
     refine FL.nil (FW.seq (FW.region ?_))
     refine FL.v (E.move (v := v333) rfl) ?_
     obtain ⟨y346, hy347, hp⟩ := bnd hp
     obtain ⟨q348, v350, v351, rfl, at349, h352, h353⟩ := FAt.open h334 hy347
     refine FL.v (E.nilCheck rfl) ?_
     refine FL.v (E.fieldAddr tf86_3 rfl) ?_
     refine FL.v (E.load rfl (run_load1 Tryz.isAgg9 (at349.now S345.sl) rfl)) ?_
     refine FL.v (E.fieldAddr tf55_2 rfl) ?_
     obtain ⟨w354, run355, S356⟩ := S345.store (P := Tryz.prog) (t := 9) (i := 0) (j := 3) (cs' := [v37, v43, Value.int .i64 r327.2, Value.string y346.text, Value.int .i64 0, Value.int .i64 0]) (l' := (.box b50 55 [v37, v43, Value.int .i64 r327.2, Value.string y346.text, Value.int .i64 0, Value.int .i64 0] :: .box b21 51 [v1_0, v1_1] :: .box b0 102 [v0_0, v0_1] :: .row 55 6 v0_0 n0_0 k0_0 :: L)) (v := Value.string y346.text) (c := [Value.string y346.text]) rfl Tryz.sizeOf9 rfl rfl (ones_cons rfl ones_nil) (Nat.le_of_ble_eq_true rfl) rfl rfl
     refine FL.act rfl rfl (E.store rfl rfl run355) ?_
     refine FL.nil (FW.seq (FW.region ?_))
     refine FL.v (E.load rfl (run_loadA Tryz.isAgg51 Tryz.sizeOf51 (S356.box_now (i := 1) rfl) rfl)) ?_
     refine FL.v (E.move (v := Value.int .i64 r327.2) rfl) ?_
     refine FL.v (E.move (v := Value.pointer (some q348)) rfl) ?_
     obtain ⟨r357, hr358, hp⟩ := bnd hp
     refine FL.call rfl rfl rfl (E.call Tryz.call98 (A3 rfl rfl rfl)) (w_impl_premisesOf S356.sl a1 v1_0 (p1_0.mono (r36.inc.tr r332.inc)) v1_1 (p1_1.mono (r36.inc.tr r332.inc)) r327.2 (Value.pointer (some q348)) r327.1 h334 hr358) ?_
     rintro e w360 ⟨H359, v363, n364, cs365, rfl, r362, els366⟩
     refine ⟨_, rfl, ?_⟩
     have S361 := S356.join (l' := (.row 51 2 v363 n364 cs365 :: .box b50 55 [v37, v43, Value.int .i64 r327.2, Value.string y346.text, Value.int .i64 0, Value.int .i64 0] :: .box b21 51 [v1_0, v1_1] :: .box b0 102 [v0_0, v0_1] :: .row 55 6 v0_0 n0_0 k0_0 :: L)) r362 rfl
     refine FL.v (E.lenO te130 rfl S361 (i := 0) rfl els366 (by decide)) ?_
     refine FL.v (E.move (v := Value.int .i64 0) rfl) ?_
     refine FL.nil ?_
     obtain ⟨m367, hchk368, hp⟩ := bnd hp
     obtain ⟨q368, hq, hp⟩ := bndR hp
     refine FW.block ?_
     refine FW.mono (FW.forR (S := ((List SeqStep) × Int × Int × (Option Sequent))) (X := (Rs ((List SeqStep) × Int × ByteArray × Int × Int × (Option Sequent)) (Bool × seqSearch))) (fun (i368 : Nat) (s368 : ((List SeqStep) × Int × Int × (Option Sequent))) f w => ∃ H : GH, ∃ v497 : Value, ∃ n498 : Nat, ∃ cs499 : List Value, ∃ v503 : Value, St H0 w0 H w (.row 51 2 v363 n364 cs365 :: .box b50 55 [v37, v43, Value.int .i64 r327.2, Value.string y346.text, Value.int .i64 s368.2.1, Value.int .i64 s368.2.2.1] :: .box b0 102 [v497, v503] :: .row 55 6 v497 n498 cs499 :: L) ∧ Inc H359 H ∧ Els (up w0.heap.size H) eSeqStep 6 cs499 s368.1 ∧ PAt H eSequent v503 s368.2.2.2 ∧ (bl cs499).Nodup ∧ Gr H359 k0_0 cs499 ∧ f 41 = Value.int .i64 ((i368 : Nat) : Int) ∧ f 0 = Value.pointer (some (⟨b0, 0, none⟩ : Addr)) ∧ f 5 = Value.pointer (some (⟨b50, 0, none⟩ : Addr)) ∧ f 39 = v363 ∧ f 40 = Value.int .i64 (len r357)) (fun q e f w => match q with | .go s368 => e = Exit.exit 0 ∧ (∃ H : GH, ∃ v497 : Value, ∃ n498 : Nat, ∃ cs499 : List Value, ∃ v503 : Value, St H0 w0 H w (.row 51 2 v363 n364 cs365 :: .box b50 55 [v37, v43, Value.int .i64 r327.2, Value.string y346.text, Value.int .i64 s368.2.1, Value.int .i64 s368.2.2.1] :: .box b0 102 [v497, v503] :: .row 55 6 v497 n498 cs499 :: L) ∧ Inc H359 H ∧ Els (up w0.heap.size H) eSeqStep 6 cs499 s368.1 ∧ PAt H eSequent v503 s368.2.2.2 ∧ (bl cs499).Nodup ∧ Gr H359 k0_0 cs499 ∧ f 0 = Value.pointer (some (⟨b0, 0, none⟩ : Addr)) ∧ f 5 = Value.pointer (some (⟨b50, 0, none⟩ : Addr))) | .rt x => ((e = Exit.ret) ∧ (Jn (fun s315 f w => ∃ H : GH, ∃ v318 : Value, ∃ n319 : Nat, ∃ cs320 : List Value, ∃ v324 : Value, St H0 w0 H w (.box b50 55 [v37, v43, Value.int .i64 s315.2.1, Value.string s315.2.2.1, Value.int .i64 s315.2.2.2.1, Value.int .i64 s315.2.2.2.2.1] :: .box b0 102 [v318, v324] :: .row 55 6 v318 n319 cs320 :: L) ∧ Inc H33 H ∧ Els (up w0.heap.size H) eSeqStep 6 cs320 s315.1 ∧ PAt H eSequent v324 s315.2.2.2.2.2 ∧ (bl cs320).Nodup ∧ Gr H33 k0_0 cs320 ∧ f 0 = Value.pointer (some (⟨b0, 0, none⟩ : Addr)) ∧ f 5 = Value.pointer (some (⟨b50, 0, none⟩ : Addr))) (fun x e f w => (e = Exit.ret) ∧ (fun e f w => (e = Exit.normal ∨ e = Exit.ret) ∧ ∀ a, Fr (δ := []) 83 a f → ∃ v, (results Tryz.f64 a.tmps).run Tryz.prog w = .ok v w ∧ (p_impl_seqSearch_search H0 w0 Ha L b0 k0_0 x) (.returned v) w) e f w) x) e f w)) hq ⟨_, _, _, _, _, (S361.selT (a := [.row 51 2 v363 n364 cs365, .box b50 55 [v37, v43, Value.int .i64 r327.2, Value.string y346.text, Value.int .i64 0, Value.int .i64 0], .box b21 51 [v1_0, v1_1], .box b0 102 [v0_0, v0_1], .row 55 6 v0_0 n0_0 k0_0]) (l' := [.row 51 2 v363 n364 cs365, .box b50 55 [v37, v43, Value.int .i64 r327.2, Value.string y346.text, Value.int .i64 0, Value.int .i64 0], .box b0 102 [v0_0, v0_1], .row 55 6 v0_0 n0_0 k0_0]) [0, 1, 3, 4] (by decide) rfl), (Inc.rfl _), (p0_0.mono (up_mono ((r36.inc.tr r332.inc).tr r362.run.inc))), (p0_1.mono ((r36.inc.tr r332.inc).tr r362.run.inc)), d0_0, Gr.rfl, rfl, rfl, rfl, rfl, rfl⟩ ?_ ?_) ?_
     ·
      clear hp hq
      rintro i368 s368 f566 w565 ⟨H562, v497, n498, cs499, v503, S563, i564, els500, h504, nd501, gr502, k567, k568, k569, k570, k571⟩ hi368 hj368 o619 hp
      refine FW.seq (FW.region ?_)
      refine FL.v (E.lssT k567 k571 (lss_chk hj368 hchk368)) ?_
      refine FL.nil (FW.seq ?_)
      refine FW.condT rfl rfl ?_
      refine FW.skip (FW.seq (FW.block (FW.seq (FW.region ?_))))
      refine FL.v (E.move k567) ?_
      obtain ⟨x578, hx579, hp⟩ := bnd hp
      obtain ⟨p572, cs573, pt574, l575, at576, rel577⟩ := S563.row_at (i := 0) rfl els366 (by decide) hx579
      obtain ⟨v580, v582, rfl, h581, h583⟩ := eSequent_open rel577
      refine FL.v (E.indexAddr te130 k570 k567 pt574) ?_
      refine FL.v (E.load rfl (run_loadA Tryz.isAgg51 Tryz.sizeOf51 at576 rfl)) ?_
      obtain ⟨b584, w585, run586, S587⟩ := S563.alloc (P := Tryz.prog) 51 [Value.slice none 0 0, Value.slice none 0 0] Tryz.zeroValue51 rfl (ones_cons rfl (ones_cons rfl ones_nil))
      refine FL.v (E.alloc run586) ?_
      refine FL.v (E.assign (v := Value.int .i64 ((i368 : Nat) : Int)) rfl) ?_
      obtain ⟨w588, run589, S590⟩ := S587.store0 (P := Tryz.prog) (t := 51) (i := 0) (cs' := [v580, v582]) (l' := (.box b584 51 [v580, v582] :: .row 51 2 v363 n364 cs365 :: .box b50 55 [v37, v43, Value.int .i64 r327.2, Value.string y346.text, Value.int .i64 s368.2.1, Value.int .i64 s368.2.2.1] :: .box b0 102 [v497, v503] :: .row 55 6 v497 n498 cs499 :: L)) (v := Value.agg #[v580, v582]) (c := [v580, v582]) rfl Tryz.sizeOf51 rfl rfl (ones_cons h581.one (ones_cons h583.one ones_nil)) (Nat.le_of_ble_eq_true rfl) rfl rfl
      refine FL.act rfl rfl (E.store rfl rfl run589) ?_
      obtain ⟨H591, S592, i593, at594⟩ := S590.sealBox (i := 0) (l' := (.row 51 2 v363 n364 cs365 :: .box b50 55 [v37, v43, Value.int .i64 r327.2, Value.string y346.text, Value.int .i64 s368.2.1, Value.int .i64 s368.2.2.1] :: .box b0 102 [v497, v503] :: .row 55 6 v497 n498 cs499 :: L)) rfl rfl
      refine FL.nil (FW.seq (FW.seq (FW.region ?_)))
      refine FL.v (E.move k568) ?_
      refine FL.v (E.load rfl (run_loadA Tryz.isAgg51 Tryz.sizeOf51 (at594.now S592.sl) rfl)) ?_
      obtain ⟨r595, hr596, hp⟩ := bnd hp
      have S597 : St H0 w0 H591 w588 (.row 55 6 v497 n498 cs499 :: .row 51 2 v363 n364 cs365 :: .box b50 55 [v37, v43, Value.int .i64 r327.2, Value.string y346.text, Value.int .i64 s368.2.1, Value.int .i64 s368.2.2.1] :: .box b0 102 [v497, v503] :: L) := S592.front 3 rfl rfl
      have S598 : St H0 w0 H591 w588 (.box b0 102 [v497, v503] :: .row 55 6 v497 n498 cs499 :: .row 51 2 v363 n364 cs365 :: .box b50 55 [v37, v43, Value.int .i64 r327.2, Value.string y346.text, Value.int .i64 s368.2.1, Value.int .i64 s368.2.2.1] :: L) := S597.front 3 rfl rfl
      refine FL.call rfl rfl rfl (E.call Tryz.call64 (A2 rfl rfl)) (hrec_impl_seqSearch_search (L := (.row 51 2 v363 n364 cs365 :: .box b50 55 [v37, v43, Value.int .i64 r327.2, Value.string y346.text, Value.int .i64 s368.2.1, Value.int .i64 s368.2.2.1] :: L)) S598 (a0 := (seqSearch.mk s368.1 s368.2.2.2)) (els500.mono (up_mono i593)) nd501 (h504.mono i593) x578 v580 (h581.mono (i564.tr i593)) v582 (h583.mono (i564.tr i593)) hr596) ?_
      rintro e w600 ⟨H599, v603, n604, cs605, v609, rfl, ⟨S601, i602⟩, els606, nd607, gr608, h610⟩
      refine ⟨_, rfl, ?_⟩
      have S601 : St H0 w0 H599 w600 (.box b0 102 [v603, v609] :: .row 55 6 v603 n604 cs605 :: .row 51 2 v363 n364 cs365 :: .box b50 55 [v37, v43, Value.int .i64 r327.2, Value.string y346.text, Value.int .i64 s368.2.1, Value.int .i64 s368.2.2.1] :: L) := S601
      refine FL.v (E.not rfl) ?_
      refine FL.nil ?_
      rcases ifB hp with ⟨c611, hp⟩ | ⟨c611, hp⟩
      ·
       refine FW.condT rfl c611 ?_
       refine FW.seq (FW.region ?_)
       refine FL.v (E.assign (v := Value.bool false) rfl) ?_
       refine FL.nil ?_
       refine FW.ret ?_
       obtain rfl := Option.some.inj hp
       exact ⟨nofun, rfl, ⟨nofun, rfl, ⟨.inr rfl, res1 rfl rfl ⟨_, _, _, _, _, rfl, ⟨(S601.selT (a := [.box b0 102 [v603, v609], .row 55 6 v603 n604 cs605, .row 51 2 v363 n364 cs365, .box b50 55 [v37, v43, Value.int .i64 r327.2, Value.string y346.text, Value.int .i64 s368.2.1, Value.int .i64 s368.2.2.1]]) (l' := [.box b0 102 [v603, v609], .row 55 6 v603 n604 cs605]) [0, 1] (by decide) rfl), (((((r36.inc.tr r332.inc).tr r362.run.inc).tr i564).tr i593).tr i602)⟩, els606, nd607, ((gr502.tr (i564.tr i593) gr608).anti ((r36.inc.tr r332.inc).tr r362.run.inc)), h610⟩⟩⟩⟩
      ·
       refine FW.condF rfl c611 ?_
       refine FW.skip (FW.seq (FW.region ?_))
       refine FL.v (E.move (v := Value.int .i64 ((i368 : Nat) : Int)) rfl) ?_
       refine FL.v (E.eql rfl rfl) ?_
       refine FL.nil ?_
       rcases ifB hp with ⟨c612, hp⟩ | ⟨c612, hp⟩
       ·
        refine FW.condT rfl c612 ?_
        refine FW.region ?_
        refine FL.v (E.move k568) ?_
        refine FL.v (E.nilCheck rfl) ?_
        refine FL.v (E.fieldAddr tf102_0 rfl) ?_
        refine FL.v (E.load rfl (run_load1 Tryz.isAgg22 (S601.box_now (i := 0) rfl) rfl)) ?_
        refine FL.v (E.lenO te22 rfl S601 (i := 1) rfl els606 (by decide)) ?_
        refine FL.v (E.sub rfl rfl) ?_
        refine FL.v (E.fieldAddr tf55_3 k569) ?_
        obtain ⟨w613, run614, S615⟩ := S601.store (P := Tryz.prog) (t := 3) (i := 3) (j := 4) (cs' := [v37, v43, Value.int .i64 r327.2, Value.string y346.text, Value.int .i64 (wr ((len r595.2.steps) - 1)), Value.int .i64 s368.2.2.1]) (l' := (.box b0 102 [v603, v609] :: .row 55 6 v603 n604 cs605 :: .row 51 2 v363 n364 cs365 :: .box b50 55 [v37, v43, Value.int .i64 r327.2, Value.string y346.text, Value.int .i64 (wr ((len r595.2.steps) - 1)), Value.int .i64 s368.2.2.1] :: L)) (v := Value.int .i64 (wr ((len r595.2.steps) - 1))) (c := [Value.int .i64 (wr ((len r595.2.steps) - 1))]) rfl Tryz.sizeOf3 rfl rfl (ones_cons rfl ones_nil) (Nat.le_of_ble_eq_true rfl) rfl rfl
        refine FL.act rfl rfl (E.store rfl rfl run614) ?_
        refine FL.nil (FW.region ?_)
        refine FL.v (E.add k567 rfl) ?_
        refine FL.v (E.move (v := Value.int .i64 (wr (((i368 : Nat) : Int) + 1))) rfl) ?_
        refine FL.nil ?_
        obtain rfl := Option.some.inj hp
        exact ⟨rfl, ⟨_, _, _, _, _, (S615.selT (a := [.box b0 102 [v603, v609], .row 55 6 v603 n604 cs605, .row 51 2 v363 n364 cs365, .box b50 55 [v37, v43, Value.int .i64 r327.2, Value.string y346.text, Value.int .i64 (wr ((len r595.2.steps) - 1)), Value.int .i64 s368.2.2.1]]) (l' := [.row 51 2 v363 n364 cs365, .box b50 55 [v37, v43, Value.int .i64 r327.2, Value.string y346.text, Value.int .i64 (wr ((len r595.2.steps) - 1)), Value.int .i64 s368.2.2.1], .box b0 102 [v603, v609], .row 55 6 v603 n604 cs605]) [2, 3, 0, 1] (by decide) rfl), ((i564.tr i593).tr i602), els606, h610, nd607, ((gr502.tr (i564.tr i593) gr608).anti (Inc.rfl _)), (nat_succ rfl hj368 (chk_le hchk368)), k568, k569, k570, k571⟩⟩
       ·
        refine FW.condF rfl c612 ?_
        refine FW.region ?_
        refine FL.v (E.move k568) ?_
        refine FL.v (E.nilCheck rfl) ?_
        refine FL.v (E.fieldAddr tf102_0 rfl) ?_
        refine FL.v (E.load rfl (run_load1 Tryz.isAgg22 (S601.box_now (i := 0) rfl) rfl)) ?_
        refine FL.v (E.lenO te22 rfl S601 (i := 1) rfl els606 (by decide)) ?_
        refine FL.v (E.sub rfl rfl) ?_
        refine FL.v (E.fieldAddr tf55_4 k569) ?_
        obtain ⟨w616, run617, S618⟩ := S601.store (P := Tryz.prog) (t := 3) (i := 3) (j := 5) (cs' := [v37, v43, Value.int .i64 r327.2, Value.string y346.text, Value.int .i64 s368.2.1, Value.int .i64 (wr ((len r595.2.steps) - 1))]) (l' := (.box b0 102 [v603, v609] :: .row 55 6 v603 n604 cs605 :: .row 51 2 v363 n364 cs365 :: .box b50 55 [v37, v43, Value.int .i64 r327.2, Value.string y346.text, Value.int .i64 s368.2.1, Value.int .i64 (wr ((len r595.2.steps) - 1))] :: L)) (v := Value.int .i64 (wr ((len r595.2.steps) - 1))) (c := [Value.int .i64 (wr ((len r595.2.steps) - 1))]) rfl Tryz.sizeOf3 rfl rfl (ones_cons rfl ones_nil) (Nat.le_of_ble_eq_true rfl) rfl rfl
        refine FL.act rfl rfl (E.store rfl rfl run617) ?_
        refine FL.nil (FW.region ?_)
        refine FL.v (E.add k567 rfl) ?_
        refine FL.v (E.move (v := Value.int .i64 (wr (((i368 : Nat) : Int) + 1))) rfl) ?_
        refine FL.nil ?_
        obtain rfl := Option.some.inj hp
        exact ⟨rfl, ⟨_, _, _, _, _, (S618.selT (a := [.box b0 102 [v603, v609], .row 55 6 v603 n604 cs605, .row 51 2 v363 n364 cs365, .box b50 55 [v37, v43, Value.int .i64 r327.2, Value.string y346.text, Value.int .i64 s368.2.1, Value.int .i64 (wr ((len r595.2.steps) - 1))]]) (l' := [.row 51 2 v363 n364 cs365, .box b50 55 [v37, v43, Value.int .i64 r327.2, Value.string y346.text, Value.int .i64 s368.2.1, Value.int .i64 (wr ((len r595.2.steps) - 1))], .box b0 102 [v603, v609], .row 55 6 v603 n604 cs605]) [2, 3, 0, 1] (by decide) rfl), ((i564.tr i593).tr i602), els606, h610, nd607, ((gr502.tr (i564.tr i593) gr608).anti (Inc.rfl _)), (nat_succ rfl hj368 (chk_le hchk368)), k568, k569, k570, k571⟩⟩
     ·
      clear hp hq
      rintro s368 f631 w630 ⟨H627, v497, n498, cs499, v503, S628, i629, els500, h504, nd501, gr502, k632, k633, k634, k635, k636⟩
      refine FW.seq (FW.region ?_)
      refine FL.v (E.lss k632 k636) ?_
      refine FL.nil (FW.seq ?_)
      refine FW.condF rfl (dlt_maxchk hchk368) ?_
      refine FW.exit ?_
      exact ⟨nofun, rfl, ⟨_, _, _, _, _, S628, i629, els500, h504, nd501, (gr502.anti (Inc.rfl _)), k633, k634⟩⟩
     ·
      clear hq
      intro e f624 w623 hD
      rcases q368 with s368 | x368
      ·
       obtain ⟨rfl, hD⟩ := hD
       obtain ⟨H620, v497, n498, cs499, v503, S621, i622, els500, h504, nd501, gr502, k625, k626⟩ := hD
       replace hp := el_go hp
       obtain rfl := Option.some.inj hp
       exact ⟨rfl, ⟨_, _, _, _, _, (S621.selT (a := [.row 51 2 v363 n364 cs365, .box b50 55 [v37, v43, Value.int .i64 r327.2, Value.string y346.text, Value.int .i64 s368.2.1, Value.int .i64 s368.2.2.1], .box b0 102 [v497, v503], .row 55 6 v497 n498 cs499]) (l' := [.box b50 55 [v37, v43, Value.int .i64 r327.2, Value.string y346.text, Value.int .i64 s368.2.1, Value.int .i64 s368.2.2.1], .box b0 102 [v497, v503], .row 55 6 v497 n498 cs499]) [1, 2, 3] (by decide) rfl), ((r332.inc.tr r362.run.inc).tr i622), els500, h504, nd501, (gr502.anti (r332.inc.tr r362.run.inc)), k625, k626⟩⟩
      ·
       obtain ⟨he, hL⟩ := hD
       replace hp := el_rt hp
       obtain rfl := Option.some.inj hp
       subst he
       exact hL
   ·
    refine FW.condF rfl c326 ?_
    refine FW.skip ?_
    obtain rfl := Option.some.inj hp
    exact ⟨rfl, ⟨_, _, _, _, _, (S61.selT (a := [.box b50 55 [v37, v43, Value.int .i64 1, Value.string ByteArray.empty, Value.int .i64 0, Value.int .i64 0], .box b21 51 [v1_0, v1_1], .box b0 102 [v0_0, v0_1], .row 55 6 v0_0 n0_0 k0_0]) (l' := [.box b50 55 [v37, v43, Value.int .i64 1, Value.string ByteArray.empty, Value.int .i64 0, Value.int .i64 0], .box b0 102 [v0_0, v0_1], .row 55 6 v0_0 n0_0 k0_0]) [0, 2, 3] (by decide) rfl), (Inc.rfl _), (p0_0.mono (up_mono r36.inc)), (p0_1.mono r36.inc), d0_0, Gr.rfl, rfl, rfl⟩⟩
  ·
   rintro s315 rfl f641 w640 ⟨H637, v318, n319, cs320, v324, S638, i639, els321, h325, nd322, gr323, k642, k643⟩
   replace hp := el_go hp
   refine FW.seq ?_
   obtain ⟨xs69, hz70, hp⟩ := bnd hp
   refine FW.drawB (SX H0 w0 H637 (.box b50 55 [v37, v43, Value.int .i64 s315.2.1, Value.string s315.2.2.1, Value.int .i64 s315.2.2.2.1, Value.int .i64 s315.2.2.2.2.1] :: L)) (fun f w => ∃ H : GH, ∃ v85 : Value, ∃ n87 : Nat, ∃ cs88 : List Value, ∃ v92 : Value, St H0 w0 H w (.box b0 102 [v85, v92] :: .row 55 6 v85 n87 cs88 :: L) ∧ Inc H637 H ∧ Els (up w0.heap.size H) eSeqStep 6 cs88 xs69 ∧ PAt H eSequent v92 s315.2.2.2.2.2 ∧ (bl cs88).Nodup ∧ Gr Ha k0_0 cs88 ∧ f 0 = Value.pointer (some (⟨b0, 0, none⟩ : Addr))) (by kernel_rfl) S638.sl ?_ ?_
   ·
    intro w644 r645
    have S646 := S638.call r645
    refine FB.phase [10] (fun w => WAt w (Addr.add ⟨b0, 0, none⟩ 0) [v318]) ?_
    refine FB.t (i := 0) (bs 11 1) rfl (SP.on ((S646.box_now (i := 1) rfl).sub (j := 0) (n := 1) (c := [v318]) rfl) (SP.nil ⟨_, (S646.selT (a := [.box b50 55 [v37, v43, Value.int .i64 s315.2.1, Value.string s315.2.2.1, Value.int .i64 s315.2.2.2.1, Value.int .i64 s315.2.2.2.2.1], .box b0 102 [v318, v324], .row 55 6 v318 n319 cs320]) (l' := [.box b50 55 [v37, v43, Value.int .i64 s315.2.1, Value.string s315.2.2.1, Value.int .i64 s315.2.2.2.1, Value.int .i64 s315.2.2.2.2.1]]) [0] (by decide) rfl), (Inc.rfl _)⟩)) rfl (fun w' hw' => (E.move k642)) ?_
    refine FB.t (i := 1) (bs 11 3) rfl (SP.on ((S646.box_now (i := 1) rfl).sub (j := 0) (n := 1) (c := [v318]) rfl) (SP.nil ⟨_, (S646.selT (a := [.box b50 55 [v37, v43, Value.int .i64 s315.2.1, Value.string s315.2.2.1, Value.int .i64 s315.2.2.2.1, Value.int .i64 s315.2.2.2.2.1], .box b0 102 [v318, v324], .row 55 6 v318 n319 cs320]) (l' := [.box b50 55 [v37, v43, Value.int .i64 s315.2.1, Value.string s315.2.2.1, Value.int .i64 s315.2.2.2.1, Value.int .i64 s315.2.2.2.2.1]]) [0] (by decide) rfl), (Inc.rfl _)⟩)) rfl (fun w' hw' => (E.move k642)) ?_
    refine FB.t (i := 2) (bs 11 7) rfl (SP.on ((S646.box_now (i := 1) rfl).sub (j := 0) (n := 1) (c := [v318]) rfl) (SP.nil ⟨_, (S646.selT (a := [.box b50 55 [v37, v43, Value.int .i64 s315.2.1, Value.string s315.2.2.1, Value.int .i64 s315.2.2.2.1, Value.int .i64 s315.2.2.2.2.1], .box b0 102 [v318, v324], .row 55 6 v318 n319 cs320]) (l' := [.box b50 55 [v37, v43, Value.int .i64 s315.2.1, Value.string s315.2.2.1, Value.int .i64 s315.2.2.2.1, Value.int .i64 s315.2.2.2.2.1]]) [0] (by decide) rfl), (Inc.rfl _)⟩)) rfl (fun w' hw' => (E.nilCheck rfl)) ?_
    refine FB.t (i := 3) (bs 11 15) rfl (SP.on ((S646.box_now (i := 1) rfl).sub (j := 0) (n := 1) (c := [v318]) rfl) (SP.nil ⟨_, (S646.selT (a := [.box b50 55 [v37, v43, Value.int .i64 s315.2.1, Value.string s315.2.2.1, Value.int .i64 s315.2.2.2.1, Value.int .i64 s315.2.2.2.2.1], .box b0 102 [v318, v324], .row 55 6 v318 n319 cs320]) (l' := [.box b50 55 [v37, v43, Value.int .i64 s315.2.1, Value.string s315.2.2.1, Value.int .i64 s315.2.2.2.1, Value.int .i64 s315.2.2.2.2.1]]) [0] (by decide) rfl), (Inc.rfl _)⟩)) rfl (fun w' hw' => (E.fieldAddr tf102_0 rfl)) ?_
    refine FB.p (i := 4) (bs 11 31) 0 [7, 8, 9, 10] rfl (SP.on ((S646.box_now (i := 1) rfl).sub (j := 0) (n := 1) (c := [v318]) rfl) (SP.nil ⟨_, (S646.selT (a := [.box b50 55 [v37, v43, Value.int .i64 s315.2.1, Value.string s315.2.2.1, Value.int .i64 s315.2.2.2.1, Value.int .i64 s315.2.2.2.2.1], .box b0 102 [v318, v324], .row 55 6 v318 n319 cs320]) (l' := [.box b50 55 [v37, v43, Value.int .i64 s315.2.1, Value.string s315.2.2.1, Value.int .i64 s315.2.2.2.1, Value.int .i64 s315.2.2.2.2.1]]) [0] (by decide) rfl), (Inc.rfl _)⟩)) rfl rfl (fun w' hw' => (E.load rfl (run_load0 Tryz.isAgg22 hw' rfl))) ?_
    refine FB.t (i := 5) (bs 11 63) rfl (SP.on ((S646.box_now (i := 1) rfl).sub (j := 0) (n := 1) (c := [v318]) rfl) (SP.nil ⟨_, (S646.selT (a := [.box b50 55 [v37, v43, Value.int .i64 s315.2.1, Value.string s315.2.2.1, Value.int .i64 s315.2.2.2.1, Value.int .i64 s315.2.2.2.2.1], .box b0 102 [v318, v324], .row 55 6 v318 n319 cs320]) (l' := [.box b50 55 [v37, v43, Value.int .i64 s315.2.1, Value.string s315.2.2.1, Value.int .i64 s315.2.2.2.1, Value.int .i64 s315.2.2.2.2.1]]) [0] (by decide) rfl), (Inc.rfl _)⟩)) rfl (fun w' hw' => (E.load k643 (run_loadA Tryz.isAgg55 Tryz.sizeOf55 (SX.box_now hw' (i := 0) rfl) rfl))) ?_
    refine FB.all1 (i := 6) (by kernel_rfl) ?_
    ·
     obtain ⟨v62, w63, run64, S65⟩ := S646.buildSlice (P := Tryz.prog) te22 [Value.agg #[v37, v43, Value.int .i64 s315.2.1, Value.string s315.2.2.1, Value.int .i64 s315.2.2.2.1, Value.int .i64 s315.2.2.2.2.1]] (parts := #[(0, Value.agg #[v37, v43, Value.int .i64 s315.2.1, Value.string s315.2.2.1, Value.int .i64 s315.2.2.2.1, Value.int .i64 s315.2.2.2.2.1])]) (cells := [v37, v43, Value.int .i64 s315.2.1, Value.string s315.2.2.1, Value.int .i64 s315.2.2.2.1, Value.int .i64 s315.2.2.2.2.1]) rfl (szs_cons rfl szs_nil) (fc_cons rfl fc_nil) (ones_cons h38.one (ones_cons h44.one (ones_cons rfl (ones_cons rfl (ones_cons rfl (ones_cons rfl ones_nil)))))) (Nat.le_of_ble_eq_true rfl)
     have els66 : Els (up w0.heap.size H637) eSeqStep 6 [v37, v43, Value.int .i64 s315.2.1, Value.string s315.2.2.1, Value.int .i64 s315.2.2.2.1, Value.int .i64 s315.2.2.2.2.1] [(SeqStep.mk r31 s315.2.1 s315.2.2.1 s315.2.2.2.1 s315.2.2.2.2.1)] := (Els.snoc (H := (up w0.heap.size H637)) (E := eSeqStep) (k := 6) (c := [v37, v43, Value.int .i64 s315.2.1, Value.string s315.2.2.1, Value.int .i64 s315.2.2.2.1, Value.int .i64 s315.2.2.2.2.1]) (x := (SeqStep.mk r31 s315.2.1 s315.2.2.1 s315.2.2.2.1 s315.2.2.2.2.1)) Els.nil rfl ⟨_, _, rfl, (h38.mono (up_mono i639)), (h44.mono (up_mono i639))⟩)
     have nd67 : (bl [v37, v43, Value.int .i64 s315.2.1, Value.string s315.2.2.1, Value.int .i64 s315.2.2.2.1, Value.int .i64 s315.2.2.2.2.1]).Nodup := by exact nd_two ap49.dis
     have nv68 : New Ha [v37, v43, Value.int .i64 s315.2.1, Value.string s315.2.2.1, Value.int .i64 s315.2.2.2.1, Value.int .i64 s315.2.2.2.2.1] := by exact (New.two nv42 nv48)
     refine FC.val (l' := (bs 11 127)) rfl (by kernel_rfl) rfl rfl rfl (E.buildSlice (B1 rfl) run64) ?_
     refine ⟨(SP.on ((S65.box_now (i := 2) rfl).sub (j := 0) (n := 1) (c := [v318]) rfl) (SP.nil ⟨_, (S65.selT (a := [.row 55 6 v62 1 [v37, v43, Value.int .i64 s315.2.1, Value.string s315.2.2.1, Value.int .i64 s315.2.2.2.1, Value.int .i64 s315.2.2.2.2.1], .box b50 55 [v37, v43, Value.int .i64 s315.2.1, Value.string s315.2.2.1, Value.int .i64 s315.2.2.2.1, Value.int .i64 s315.2.2.2.2.1], .box b0 102 [v318, v324], .row 55 6 v318 n319 cs320]) (l' := [.box b50 55 [v37, v43, Value.int .i64 s315.2.1, Value.string s315.2.2.1, Value.int .i64 s315.2.2.2.1, Value.int .i64 s315.2.2.2.2.1]]) [1] (by decide) rfl), (Inc.rfl _)⟩)), ?_⟩
     refine FB.all1 (i := 7) (by kernel_rfl) ?_
     ·
      obtain ⟨v71, w74, n72, cs73, run75, S76, els77, ce78⟩ := S65.appendO (P := Tryz.prog) te22 (i := 3) (j := 0) rfl els321 rfl els66 hz70
      have S76 : St H0 w0 H637 w74 (.row 55 6 v62 1 [v37, v43, Value.int .i64 s315.2.1, Value.string s315.2.2.1, Value.int .i64 s315.2.2.2.1, Value.int .i64 s315.2.2.2.2.1] :: .box b50 55 [v37, v43, Value.int .i64 s315.2.1, Value.string s315.2.2.1, Value.int .i64 s315.2.2.2.1, Value.int .i64 s315.2.2.2.2.1] :: .box b0 102 [v318, v324] :: .row 55 6 v71 n72 cs73 :: L) := S76
      have nd79 : (bl cs73).Nodup := by rw [ce78]; exact Gr.nd_app nd322 nd67 gr323 (Els.dom (p0_0.mono (upI.tr (Inc.rfl _)))) (by exact nv68) (by exact dom_two (RSl.dom (h38.mono (upI.tr (Inc.rfl _)))) (RSl.dom (h44.mono (upI.tr (Inc.rfl _)))))
      have gr80 : Gr Ha k0_0 cs73 := by rw [ce78]; exact ((gr323.anti r36.inc).app (by exact nv68))
      have S81 : St H0 w0 H637 w74 (.box b50 55 [v37, v43, Value.int .i64 s315.2.1, Value.string s315.2.2.1, Value.int .i64 s315.2.2.2.1, Value.int .i64 s315.2.2.2.2.1] :: .box b0 102 [v318, v324] :: .row 55 6 v71 n72 cs73 :: L) := S76.drop 0
      refine FC.val (l' := (bs 11 255)) rfl (by kernel_rfl) rfl rfl rfl (E.append rfl rfl run75) ?_
      refine ⟨(SP.on ((S81.box_now (i := 1) rfl).sub (j := 0) (n := 1) (c := [v318]) rfl) (SP.nil ⟨_, (S81.selT (a := [.box b50 55 [v37, v43, Value.int .i64 s315.2.1, Value.string s315.2.2.1, Value.int .i64 s315.2.2.2.1, Value.int .i64 s315.2.2.2.2.1], .box b0 102 [v318, v324], .row 55 6 v71 n72 cs73]) (l' := [.box b50 55 [v37, v43, Value.int .i64 s315.2.1, Value.string s315.2.2.1, Value.int .i64 s315.2.2.2.1, Value.int .i64 s315.2.2.2.2.1]]) [0] (by decide) rfl), (Inc.rfl _)⟩)), ?_⟩
      refine FB.t (i := 8) (bs 11 511) rfl (SP.on ((S81.box_now (i := 1) rfl).sub (j := 0) (n := 1) (c := [v318]) rfl) (SP.nil ⟨_, (S81.selT (a := [.box b50 55 [v37, v43, Value.int .i64 s315.2.1, Value.string s315.2.2.1, Value.int .i64 s315.2.2.2.1, Value.int .i64 s315.2.2.2.2.1], .box b0 102 [v318, v324], .row 55 6 v71 n72 cs73]) (l' := [.box b50 55 [v37, v43, Value.int .i64 s315.2.1, Value.string s315.2.2.1, Value.int .i64 s315.2.2.2.1, Value.int .i64 s315.2.2.2.2.1]]) [0] (by decide) rfl), (Inc.rfl _)⟩)) rfl (fun w' hw' => (E.nilCheck rfl)) ?_
      refine FB.t (i := 9) (bs 11 1023) rfl (SP.on ((S81.box_now (i := 1) rfl).sub (j := 0) (n := 1) (c := [v318]) rfl) (SP.nil ⟨_, (S81.selT (a := [.box b50 55 [v37, v43, Value.int .i64 s315.2.1, Value.string s315.2.2.1, Value.int .i64 s315.2.2.2.1, Value.int .i64 s315.2.2.2.2.1], .box b0 102 [v318, v324], .row 55 6 v71 n72 cs73]) (l' := [.box b50 55 [v37, v43, Value.int .i64 s315.2.1, Value.string s315.2.2.1, Value.int .i64 s315.2.2.2.1, Value.int .i64 s315.2.2.2.2.1]]) [0] (by decide) rfl), (Inc.rfl _)⟩)) rfl (fun w' hw' => (E.fieldAddr tf102_0 rfl)) ?_
      refine FB.all1 (i := 10) (by kernel_rfl) ?_
      ·
       obtain ⟨w82, run83, S84⟩ := S81.store (P := Tryz.prog) (t := 22) (i := 1) (j := 0) (cs' := [v71, v324]) (l' := (.box b50 55 [v37, v43, Value.int .i64 s315.2.1, Value.string s315.2.2.1, Value.int .i64 s315.2.2.2.1, Value.int .i64 s315.2.2.2.2.1] :: .box b0 102 [v71, v324] :: .row 55 6 v71 n72 cs73 :: L)) (v := v71) (c := [v71]) rfl Tryz.sizeOf22 (Ln.cells (S81.row_ln (i := 2) rfl)) rfl (ones_cons (Ln.one (S81.row_ln (i := 2) rfl)) ones_nil) (Nat.le_of_ble_eq_true rfl) rfl rfl
       refine FC.act (l' := (bs 11 2047)) rfl (by kernel_rfl) rfl rfl (E.store rfl rfl run83) ?_
       refine ⟨(SP.o (SP.nil ⟨_, (S84.selT (a := [.box b50 55 [v37, v43, Value.int .i64 s315.2.1, Value.string s315.2.2.1, Value.int .i64 s315.2.2.2.1, Value.int .i64 s315.2.2.2.2.1], .box b0 102 [v71, v324], .row 55 6 v71 n72 cs73]) (l' := [.box b50 55 [v37, v43, Value.int .i64 s315.2.1, Value.string s315.2.2.1, Value.int .i64 s315.2.2.2.1, Value.int .i64 s315.2.2.2.2.1]]) [0] (by decide) rfl), (Inc.rfl _)⟩)), ?_⟩
       exact FB.done (by kernel_rfl) ⟨_, _, _, _, _, (S84.selT (a := [.box b50 55 [v37, v43, Value.int .i64 s315.2.1, Value.string s315.2.2.1, Value.int .i64 s315.2.2.2.1, Value.int .i64 s315.2.2.2.2.1], .box b0 102 [v71, v324], .row 55 6 v71 n72 cs73]) (l' := [.box b0 102 [v71, v324], .row 55 6 v71 n72 cs73]) [1, 2] (by decide) rfl), (Inc.rfl _), els77, h325, nd79, (gr80.anti (Inc.rfl _)), k642⟩
   ·
    rintro f98 w97 ⟨H94, v85, n87, cs88, v92, S95, i96, els89, h93, nd90, gr91, k99⟩
    refine FW.seq (FW.region ?_)
    refine FL.v (E.move k99) ?_
    refine FL.v (E.nilCheck rfl) ?_
    refine FL.v (E.fieldAddr tf102_0 rfl) ?_
    refine FL.v (E.load rfl (run_load1 Tryz.isAgg22 (S95.box_now (i := 0) rfl) rfl)) ?_
    refine FL.v (E.lenO te22 rfl S95 (i := 1) rfl els89 (by decide)) ?_
    refine FL.v (E.leq rfl rfl) ?_
    refine FL.v (E.assign (v := Value.bool (decide ((len xs69) ≤ 200))) rfl) ?_
    refine FL.nil ?_
    refine FW.ret ?_
    obtain rfl := Option.some.inj hp
    exact ⟨.inr rfl, res1 rfl rfl ⟨_, _, _, _, _, rfl, ⟨S95, ((r36.inc.tr i639).tr i96)⟩, els89, nd90, (gr91.anti (Inc.rfl _)), h93⟩⟩
  ·
   rintro x317 rfl e f w hne ⟨he, hL⟩
   replace hp := el_rt hp
   obtain rfl := Option.some.inj hp
   subst he
   exact hL
theorem w_impl_seqSearch_search_F (n : Nat) : ∀ {H0 Ha : GH} {w0 wa : World} {L : List MO} {a0 : seqSearch} {b0 : Nat} {v0_0 : Value} {n0_0 : Nat} {k0_0 : List Value} {v0_1 : Value} (S0 : St H0 w0 Ha wa (.box b0 102 [v0_0, v0_1] :: .row 55 6 v0_0 n0_0 k0_0 :: L)) (p0_0 : Els (up w0.heap.size Ha) eSeqStep 6 k0_0 a0.steps) (d0_0 : (bl k0_0).Nodup) (p0_1 : PAt Ha eSequent v0_1 a0.open_) (a1 : Sequent) (v1_0 : Value) (p1_0 : RSl Ha eS 1 v1_0 a1.left) (v1_1 : Value) (p1_1 : RSl Ha eS 1 v1_1 a1.right) {r : (Bool × seqSearch)} (hp : PF.impl_seqSearch_search_F n a0 a1 = some r), Calls Tryz.prog 64 #[Value.pointer (some (⟨b0, 0, none⟩ : Addr)), Value.agg #[v1_0, v1_1]] wa (p_impl_seqSearch_search H0 w0 Ha L b0 k0_0 r) := by
 induction n with
 | zero => intros; rename_i hp; exact nomatch hp
 | succ n ih => exact w_impl_seqSearch_search_B (rec_impl_seqSearch_search := PF.impl_seqSearch_search_F n) ih
theorem w_impl_seqSearch_search {H0 Ha : GH} {w0 wa : World} {L : List MO} {a0 : seqSearch} {b0 : Nat} {v0_0 : Value} {n0_0 : Nat} {k0_0 : List Value} {v0_1 : Value} (S0 : St H0 w0 Ha wa (.box b0 102 [v0_0, v0_1] :: .row 55 6 v0_0 n0_0 k0_0 :: L)) (p0_0 : Els (up w0.heap.size Ha) eSeqStep 6 k0_0 a0.steps) (d0_0 : (bl k0_0).Nodup) (p0_1 : PAt Ha eSequent v0_1 a0.open_) (a1 : Sequent) (v1_0 : Value) (p1_0 : RSl Ha eS 1 v1_0 a1.left) (v1_1 : Value) (p1_1 : RSl Ha eS 1 v1_1 a1.right) {r : (Bool × seqSearch)} (hp : PF.impl_seqSearch_search a0 a1 = some r) :
  Calls Tryz.prog 64 #[Value.pointer (some (⟨b0, 0, none⟩ : Addr)), Value.agg #[v1_0, v1_1]] wa (p_impl_seqSearch_search H0 w0 Ha L b0 k0_0 r) := w_impl_seqSearch_search_F deep S0 p0_0 d0_0 p0_1 a1 v1_0 p1_0 v1_1 p1_1 hp

@[reducible] def p_impl_SearchSequent (Ha : GH) (wa : World) (r : ((List SeqStep) × Bool)) : Ending → World → Prop :=
 fun e w' => ∃ H' : GH, ∃ v0 : Value, ∃ n0 : Nat, ∃ c0 : List Value, e = .returned (Value.tuple #[v0, Value.bool r.2]) ∧ St Ha wa H' w' [.row 55 6 v0 n0 c0] ∧ Els (up wa.heap.size H') eSeqStep 6 c0 r.1 ∧ (bl c0).Nodup
theorem w_impl_SearchSequent {Ha : GH} {wa : World} (hs : Sl Ha wa) (a0 : Sequent) (v0_0 : Value) (p0_0 : RSl Ha eS 1 v0_0 a0.left) (v0_1 : Value) (p0_1 : RSl Ha eS 1 v0_1 a0.right) {r : ((List SeqStep) × Bool)} (hp : (PF.impl_SearchSequent a0) = some r) :
  Calls Tryz.prog 26 #[Value.agg #[v0_0, v0_1]] wa (p_impl_SearchSequent Ha wa r) := by
 unfold PF.impl_SearchSequent at hp
 have S0 := St.init hs
 refine calls_go (N := 15) (args := [Value.agg #[v0_0, v0_1]]) Tryz.func26 rfl rfl rfl ?_
 refine FW.seq (FW.region ?_)
 obtain ⟨b21, w22, run23, S24⟩ := S0.box (P := Tryz.prog) 51 [v0_0, v0_1] (v := Value.agg #[v0_0, v0_1]) rfl (ones_cons p0_0.one (ones_cons p0_1.one ones_nil))
 refine FL.v (E.box rfl run23) ?_
 obtain ⟨H25, S26, i27, at28⟩ := S24.sealBox (i := 0) (l' := []) rfl rfl
 refine FL.v (E.assign (v := Value.slice none 0 0) rfl) ?_
 refine FL.v (E.assign (v := Value.bool false) rfl) ?_
 refine FL.nil (FW.seq (FW.region ?_))
 refine FL.v (E.build (B0) (run_build _ 102 #[] #[Value.slice none 0 0, Value.pointer none] (by rfl))) ?_
 obtain ⟨b29, w30, run31, S32⟩ := S26.box (P := Tryz.prog) 102 [Value.slice none 0 0, Value.pointer none] (v := Value.agg #[Value.slice none 0 0, Value.pointer none]) rfl (ones_cons rfl (ones_cons rfl ones_nil))
 refine FL.v (E.box rfl run31) ?_
 refine FL.v (E.assign (v := Value.pointer (some (⟨b29, 0, none⟩ : Addr))) rfl) ?_
 refine FL.nil (FW.seq (FW.seq (FW.region ?_)))
 refine FL.v (E.move (v := Value.pointer (some (⟨b29, 0, none⟩ : Addr))) rfl) ?_
 refine FL.v (E.load rfl (run_loadA Tryz.isAgg51 Tryz.sizeOf51 (at28.now S32.sl) rfl)) ?_
 have S33 := S32.nil 55 6
 have els34 : Els (up wa.heap.size H25) eSeqStep 6 [] [] := Els.nil
 obtain ⟨r35, hr36, hp⟩ := bnd hp
 have S37 : St Ha wa H25 w30 [.box b29 102 [(Value.slice none 0 0), Value.pointer none], .row 55 6 (Value.slice none 0 0) 0 []] := S33.front 1 rfl rfl
 refine FL.call rfl rfl rfl (E.call Tryz.call64 (A2 rfl rfl)) (w_impl_seqSearch_search (L := []) S37 (a0 := (seqSearch.mk [] none)) els34 (show (bl []).Nodup from List.nodup_nil) PAt.nil a0 v0_0 (p0_0.mono i27) v0_1 (p0_1.mono i27) hr36) ?_
 rintro e w39 ⟨H38, v42, n43, cs44, v48, rfl, ⟨S40, i41⟩, els45, nd46, gr47, h49⟩
 refine ⟨_, rfl, ?_⟩
 have S40 : St Ha wa H38 w39 [.box b29 102 [v42, v48], .row 55 6 v42 n43 cs44] := S40
 refine FL.v (E.not rfl) ?_
 refine FL.nil ?_
 rcases ifB hp with ⟨c50, hp⟩ | ⟨c50, hp⟩
 ·
  refine FW.condT rfl c50 ?_
  refine FW.seq (FW.region ?_)
  refine FL.v (E.assign (v := Value.slice none 0 0) rfl) ?_
  refine FL.v (E.assign (v := Value.bool false) rfl) ?_
  refine FL.nil ?_
  refine FW.ret ?_
  obtain rfl := Option.some.inj hp
  exact ⟨.inr rfl, res2 rfl rfl rfl ⟨_, _, _, _, rfl, ((S40.nil 55 6).sel [0] (by decide) rfl), Els.nil, List.nodup_nil⟩⟩
 ·
  refine FW.condF rfl c50 ?_
  refine FW.skip (FW.seq (FW.region ?_))
  refine FL.v (E.move (v := Value.pointer (some (⟨b29, 0, none⟩ : Addr))) rfl) ?_
  refine FL.v (E.nilCheck rfl) ?_
  refine FL.v (E.fieldAddr tf102_0 rfl) ?_
  refine FL.v (E.load rfl (run_load1 Tryz.isAgg22 (S40.box_now (i := 0) rfl) rfl)) ?_
  refine FL.v (E.assign (v := v42) rfl) ?_
  refine FL.v (E.assign (v := Value.bool true) rfl) ?_
  refine FL.nil ?_
  refine FW.ret ?_
  obtain rfl := Option.some.inj hp
  exact ⟨.inr rfl, res2 rfl rfl rfl ⟨_, _, _, _, rfl, (S40.sel [1] (by decide) rfl), els45, nd46⟩⟩

@[reducible] def p_impl_SchemeSequents (Ha : GH) (wa : World) (r : ((List SeqStep) × Bool)) : Ending → World → Prop :=
 fun e w' => ∃ H' : GH, ∃ v0 : Value, ∃ n0 : Nat, ∃ c0 : List Value, e = .returned (Value.tuple #[v0, Value.bool r.2]) ∧ St Ha wa H' w' [.row 55 6 v0 n0 c0] ∧ Els (up wa.heap.size H') eSeqStep 6 c0 r.1 ∧ (bl c0).Nodup
theorem w_impl_SchemeSequents {Ha : GH} {wa : World} (hs : Sl Ha wa) (a0 : Int) (a1 : ByteArray) (a2 : ByteArray) (a3 : ByteArray) (hT : TabS 0 PF.glob0 Ha) {r : ((List SeqStep) × Bool)} (hp : (PF.impl_SchemeSequents a0 a1 a2 a3) = some r) :
  Calls Tryz.prog 6 #[Value.int .i64 a0, Value.string a1, Value.string a2, Value.string a3] wa (p_impl_SchemeSequents Ha wa r) := by
 unfold PF.impl_SchemeSequents at hp
 have S0 := St.init hs
 refine calls_go (N := 27) (args := [Value.int .i64 a0, Value.string a1, Value.string a2, Value.string a3]) Tryz.func6 rfl rfl rfl ?_
 refine FW.seq (FW.region ?_)
 refine FL.v (E.assign (v := Value.slice none 0 0) rfl) ?_
 refine FL.v (E.assign (v := Value.bool false) rfl) ?_
 refine FL.nil (FW.seq (FW.region ?_))
 refine FL.v (E.move (v := Value.int .i64 a0) rfl) ?_
 refine FL.v (E.move (v := Value.string a1) rfl) ?_
 refine FL.v (E.move (v := Value.string a2) rfl) ?_
 refine FL.v (E.move (v := Value.string a3) rfl) ?_
 obtain ⟨r21, hr22, hp⟩ := bnd hp
 refine FL.call rfl rfl rfl (E.call Tryz.call25 (A4 rfl rfl rfl rfl)) (w_impl_CaseOf S0.sl a0 a1 a2 a3 hT hr22) ?_
 rintro e w23 ⟨rfl, r24⟩
 refine ⟨_, rfl, ?_⟩
 have S25 := S0.call r24
 refine FL.v (E.move (v := Value.tuple #[Value.string r21.1, Value.bool r21.2]) rfl) ?_
 refine FL.v (E.extract (i := 0) rfl rfl) ?_
 refine FL.v (E.extract (i := 1) rfl rfl) ?_
 refine FL.v (E.assign (v := Value.string r21.1) rfl) ?_
 refine FL.v (E.assign (v := Value.bool r21.2) rfl) ?_
 refine FL.nil (FW.seq (FW.seq (FW.region ?_)))
 refine FL.v (E.move (v := Value.bool r21.2) rfl) ?_
 refine FL.v (E.not rfl) ?_
 refine FL.nil ?_
 rcases ifB hp with ⟨c26, hp⟩ | ⟨c26, hp⟩
 ·
  refine FW.condT rfl c26 ?_
  refine FW.seq (FW.region ?_)
  refine FL.v (E.assign (v := Value.slice none 0 0) rfl) ?_
  refine FL.v (E.assign (v := Value.bool false) rfl) ?_
  refine FL.nil ?_
  refine FW.ret ?_
  obtain rfl := Option.some.inj hp
  exact ⟨.inr rfl, res2 rfl rfl rfl ⟨_, _, _, _, rfl, (S25.nil 55 6), Els.nil, List.nodup_nil⟩⟩
 ·
  refine FW.condF rfl c26 ?_
  refine FW.skip (FW.seq (FW.region ?_))
  refine FL.v (E.move (v := Value.string r21.1) rfl) ?_
  obtain ⟨r27, hr28, hp⟩ := bnd hp
  refine FL.call rfl rfl rfl (E.call Tryz.call27 (A2 rfl rfl)) (w_impl_givenSequent S25.sl _ [] (RSl.nil _ _ _) r21.1 hr28) ?_
  rintro e w30 ⟨H29, v33, v39, rfl, r32, ⟨c36, c42, ns35, ns41, ap45⟩⟩
  refine ⟨_, rfl, ?_⟩
  have h34 := ns35.rsl
  have nv37 : New Ha c36 := New.of_up S25.sl (fun b hb => ns35.dom b (.inr hb))
  have nv38 : New Ha [v33] := New.of_up S25.sl h34.dom
  have h34 := h34.mono (up_le S25.size)
  have ns35 := ns35.mono (up_le S25.size)
  have h40 := ns41.rsl
  have nv43 : New Ha c42 := New.of_up S25.sl (fun b hb => ns41.dom b (.inr hb))
  have nv44 : New Ha [v39] := New.of_up S25.sl h40.dom
  have h40 := h40.mono (up_le S25.size)
  have ns41 := ns41.mono (up_le S25.size)
  have S31 := S25.call r32
  obtain ⟨r46, hr47, hp⟩ := bnd hp
  refine FL.call rfl rfl rfl (E.call Tryz.call26 (A1 rfl)) (w_impl_SearchSequent S31.sl r27 v33 (h34.mono upI) v39 (h40.mono upI) hr47) ?_
  rintro e w49 ⟨H48, v52, n53, cs54, rfl, r51, els55, nd56⟩
  refine ⟨_, rfl, ?_⟩
  have nv57 : New H29 cs54 := New.of_up S31.sl els55.dom
  have els55 := els55.mono (up_le S31.size)
  have S50 := S31.join (l' := [.row 55 6 v52 n53 cs54]) r51 rfl
  refine FL.v (E.extract (i := 0) rfl rfl) ?_
  refine FL.v (E.extract (i := 1) rfl rfl) ?_
  refine FL.v (E.assign (v := v52) rfl) ?_
  refine FL.v (E.assign (v := Value.bool r46.2) rfl) ?_
  refine FL.nil ?_
  refine FW.ret ?_
  obtain rfl := Option.some.inj hp
  exact ⟨.inr rfl, res2 rfl rfl rfl ⟨_, _, _, _, rfl, S50, els55, nd56⟩⟩

set_option maxHeartbeats 4000000 in
theorem w_laws_eqStringS {Ha : GH} {wa : World} (hs : Sl Ha wa) (v0 : Value) (a0 : List ByteArray) (p0 : RSl Ha eS 1 v0 a0) (v1 : Value) (a1 : List ByteArray) (p1 : RSl Ha eS 1 v1 a1) {r : Bool} (hp : (PF.laws_eqStringS a0 a1) = some r) :
  Calls Tryz.prog 103 #[v0, v1] wa (Sc Ha wa (Value.bool r)) := by
 unfold PF.laws_eqStringS at hp
 have S0 := St.init hs
 refine calls_go (N := 26) (args := [v0, v1]) Tryz.func103 rfl rfl rfl ?_
 refine FW.seq (FW.region ?_)
 refine FL.v (E.assign (v := Value.bool false) rfl) ?_
 refine FL.nil (FW.seq (FW.seq (FW.region ?_)))
 refine FL.v (E.move (v := v0) rfl) ?_
 refine FL.v (E.lenP te30 rfl p0) ?_
 refine FL.v (E.move (v := v1) rfl) ?_
 refine FL.v (E.lenP te30 rfl p1) ?_
 refine FL.v (E.neq rfl rfl) ?_
 refine FL.nil ?_
 rcases ifB hp with ⟨c21, hp⟩ | ⟨c21, hp⟩
 ·
  refine FW.condT rfl c21 ?_
  refine FW.seq (FW.region ?_)
  refine FL.v (E.assign (v := Value.bool false) rfl) ?_
  refine FL.nil ?_
  refine FW.ret ?_
  obtain rfl := Option.some.inj hp
  exact ⟨.inr rfl, res1 rfl rfl ⟨rfl, S0.back⟩⟩
 ·
  refine FW.condF rfl c21 ?_
  refine FW.skip (FW.seq (FW.seq (FW.region ?_)))
  refine FL.v (E.assign (v := Value.int .i64 0) rfl) ?_
  refine FL.nil ?_
  obtain ⟨q23, hq, hp⟩ := bndR hp
  refine FW.block ?_
  refine FW.mono (FW.forL (S := Unit) (X := Bool) (fun (i23 : Nat) (s23 : Unit) f w => ∃ H : GH, St Ha wa H w [] ∧ Inc Ha H ∧ f 5 = Value.int .i64 ((i23 : Nat) : Int) ∧ f 0 = v0 ∧ f 1 = v1) (fun q e f w => match q with | .go s23 => e = Exit.exit 0 ∧ (∃ H : GH, St Ha wa H w [] ∧ Inc Ha H) | .rt x => ((e = Exit.ret) ∧ (fun e f w => (e = Exit.normal ∨ e = Exit.ret) ∧ ∀ a, Fr (δ := []) 26 a f → ∃ v, (results Tryz.f103 a.tmps).run Tryz.prog w = .ok v w ∧ (Sc Ha wa (Value.bool x)) (.returned v) w) e f w)) hq ⟨_, S0, (Inc.rfl _), rfl, rfl, rfl⟩ ?_ ?_) ?_
  ·
   clear hp hq
   rintro i23 y22 s23 f55 w54 ⟨H51, S52, i53, k56, k57, k58⟩ hx23 o78 hp
   refine FW.seq (FW.seq (FW.region ?_))
   refine FL.v (E.move k56) ?_
   refine FL.v (E.move k57) ?_
   refine FL.v (E.lenP te30 rfl p0) ?_
   refine FL.v (E.lssT rfl rfl (lss_len hx23)) ?_
   refine FL.nil ?_
   refine FW.condT rfl rfl ?_
   refine FW.skip (FW.seq (FW.block (FW.seq ?_)))
   refine FW.draw (fun w' => Run w54.heap.size H51 w54 H51 w') (by kernel_rfl) (by kernel_rfl) (run_drew S52.sl) ?_
   refine FD.val rfl rfl rfl (fun w' hw' => (E.move k57)) ?_
   refine FD.val rfl rfl rfl (fun w' hw' => (E.move k56)) ?_
   obtain ⟨p60, cs61, pt62, l63, at64, rel65⟩ := p0.at (ix_nat hx23)
   obtain rfl := eS_open rel65
   refine FD.val rfl rfl rfl (fun w' hw' => (E.indexAddr te30 rfl rfl pt62)) ?_
   refine FD.val rfl rfl rfl (fun w' hw' => (E.load rfl (run_load0 Tryz.isAgg9 ((at64.mono i53).now (S52.call hw').sl) rfl))) ?_
   refine FD.val rfl rfl rfl (fun w' hw' => (E.move k58)) ?_
   refine FD.val rfl rfl rfl (fun w' hw' => (E.move k56)) ?_
   obtain ⟨x72, hx73, hp⟩ := bnd hp
   obtain ⟨p66, cs67, pt68, l69, at70, rel71⟩ := p1.at hx73
   obtain rfl := eS_open rel71
   refine FD.val rfl rfl rfl (fun w' hw' => (E.indexAddr te30 rfl rfl pt68)) ?_
   refine FD.val rfl rfl rfl (fun w' hw' => (E.load rfl (run_load0 Tryz.isAgg9 ((at70.mono i53).now (S52.call hw').sl) rfl))) ?_
   refine FD.val rfl rfl rfl (fun w' hw' => (E.neqS rfl rfl)) ?_
   refine FD.nil ?_
   intro w74 r76
   have S75 := S52.call r76
   rcases ifB hp with ⟨c77, hp⟩ | ⟨c77, hp⟩
   ·
    refine FW.condT rfl c77 ?_
    refine FW.seq (FW.region ?_)
    refine FL.v (E.assign (v := Value.bool false) rfl) ?_
    refine FL.nil ?_
    refine FW.ret ?_
    obtain rfl := Option.some.inj hp
    exact ⟨nofun, rfl, ⟨.inr rfl, res1 rfl rfl ⟨rfl, S75.back⟩⟩⟩
   ·
    refine FW.condF rfl c77 ?_
    refine FW.skip (FW.region ?_)
    refine FL.v (E.move k56) ?_
    refine FL.v (E.add rfl rfl) ?_
    refine FL.v (E.assign (v := Value.int .i64 (wr (((i23 : Nat) : Int) + 1))) rfl) ?_
    refine FL.nil ?_
    obtain rfl := Option.some.inj hp
    exact ⟨rfl, ⟨_, S75, i53, (nat_succ rfl (lt_of_get hx23) (p0.mono i53).le), k57, k58⟩⟩
  ·
   clear hp hq
   rintro s23 f88 w87 ⟨H84, S85, i86, k89, k90, k91⟩
   refine FW.seq (FW.seq (FW.region ?_))
   refine FL.v (E.move k89) ?_
   refine FL.v (E.move k90) ?_
   refine FL.v (E.lenP te30 rfl p0) ?_
   refine FL.v (E.lss rfl rfl) ?_
   refine FL.nil ?_
   refine FW.condF rfl dlt_len ?_
   refine FW.exit ?_
   exact ⟨nofun, rfl, ⟨_, S85, i86⟩⟩
  ·
   clear hq
   intro e f83 w82 hD
   rcases q23 with s23 | x23
   ·
    obtain ⟨rfl, hD⟩ := hD
    obtain ⟨H79, S80, i81⟩ := hD
    replace hp := el_go hp
    refine FW.seq (FW.region ?_)
    refine FL.v (E.assign (v := Value.bool true) rfl) ?_
    refine FL.nil ?_
    refine FW.ret ?_
    obtain rfl := Option.some.inj hp
    exact ⟨.inr rfl, res1 rfl rfl ⟨rfl, S80.back⟩⟩
   ·
    obtain ⟨he, hL⟩ := hD
    replace hp := el_rt hp
    obtain rfl := Option.some.inj hp
    subst he
    exact hL

theorem w_laws_eqSequent {Ha : GH} {wa : World} (hs : Sl Ha wa) (a0 : Sequent) (v0_0 : Value) (p0_0 : RSl Ha eS 1 v0_0 a0.left) (v0_1 : Value) (p0_1 : RSl Ha eS 1 v0_1 a0.right) (a1 : Sequent) (v1_0 : Value) (p1_0 : RSl Ha eS 1 v1_0 a1.left) (v1_1 : Value) (p1_1 : RSl Ha eS 1 v1_1 a1.right) {r : Bool} (hp : (PF.laws_eqSequent a0 a1) = some r) :
  Calls Tryz.prog 66 #[Value.agg #[v0_0, v0_1], Value.agg #[v1_0, v1_1]] wa (Sc Ha wa (Value.bool r)) := by
 unfold PF.laws_eqSequent at hp
 have S0 := St.init hs
 refine calls_go (N := 17) (args := [Value.agg #[v0_0, v0_1], Value.agg #[v1_0, v1_1]]) Tryz.func66 rfl rfl rfl ?_
 refine FW.seq (FW.region ?_)
 obtain ⟨b21, w22, run23, S24⟩ := S0.box (P := Tryz.prog) 51 [v0_0, v0_1] (v := Value.agg #[v0_0, v0_1]) rfl (ones_cons p0_0.one (ones_cons p0_1.one ones_nil))
 refine FL.v (E.box rfl run23) ?_
 obtain ⟨H25, S26, i27, at28⟩ := S24.sealBox (i := 0) (l' := []) rfl rfl
 obtain ⟨b29, w30, run31, S32⟩ := S26.box (P := Tryz.prog) 51 [v1_0, v1_1] (v := Value.agg #[v1_0, v1_1]) rfl (ones_cons p1_0.one (ones_cons p1_1.one ones_nil))
 refine FL.v (E.box rfl run31) ?_
 obtain ⟨H33, S34, i35, at36⟩ := S32.sealBox (i := 0) (l' := []) rfl rfl
 refine FL.v (E.assign (v := Value.bool false) rfl) ?_
 refine FL.nil (FW.seq (FW.seq (FW.region ?_)))
 refine FL.v (E.fieldAddr tf51_0 rfl) ?_
 refine FL.v (E.load rfl (run_load1 Tryz.isAgg30 ((at28.mono i35).now S34.sl) rfl)) ?_
 refine FL.v (E.fieldAddr tf51_0 rfl) ?_
 refine FL.v (E.load rfl (run_load1 Tryz.isAgg30 (at36.now S34.sl) rfl)) ?_
 obtain ⟨r37, hr38, hp⟩ := bnd hp
 refine FL.call rfl rfl rfl (E.call Tryz.call103 (A2 rfl rfl)) (w_laws_eqStringS S34.sl v0_0 a0.left (p0_0.mono (i27.tr i35)) v1_0 a1.left (p1_0.mono (i27.tr i35)) hr38) ?_
 rintro e w39 ⟨rfl, r40⟩
 refine ⟨_, rfl, ?_⟩
 have S41 := S34.call r40
 refine FL.v (E.not rfl) ?_
 refine FL.nil ?_
 rcases ifB hp with ⟨c42, hp⟩ | ⟨c42, hp⟩
 ·
  refine FW.condT rfl c42 ?_
  refine FW.seq (FW.region ?_)
  refine FL.v (E.assign (v := Value.bool false) rfl) ?_
  refine FL.nil ?_
  refine FW.ret ?_
  obtain rfl := Option.some.inj hp
  exact ⟨.inr rfl, res1 rfl rfl ⟨rfl, S41.back⟩⟩
 ·
  refine FW.condF rfl c42 ?_
  refine FW.skip (FW.seq (FW.seq (FW.region ?_)))
  refine FL.v (E.fieldAddr tf51_1 rfl) ?_
  refine FL.v (E.load rfl (run_load1 Tryz.isAgg30 ((at28.mono i35).now S41.sl) rfl)) ?_
  refine FL.v (E.fieldAddr tf51_1 rfl) ?_
  refine FL.v (E.load rfl (run_load1 Tryz.isAgg30 (at36.now S41.sl) rfl)) ?_
  obtain ⟨r43, hr44, hp⟩ := bnd hp
  refine FL.call rfl rfl rfl (E.call Tryz.call103 (A2 rfl rfl)) (w_laws_eqStringS S41.sl v0_1 a0.right (p0_1.mono (i27.tr i35)) v1_1 a1.right (p1_1.mono (i27.tr i35)) hr44) ?_
  rintro e w45 ⟨rfl, r46⟩
  refine ⟨_, rfl, ?_⟩
  have S47 := S41.call r46
  refine FL.v (E.not rfl) ?_
  refine FL.nil ?_
  rcases ifB hp with ⟨c48, hp⟩ | ⟨c48, hp⟩
  ·
   refine FW.condT rfl c48 ?_
   refine FW.seq (FW.region ?_)
   refine FL.v (E.assign (v := Value.bool false) rfl) ?_
   refine FL.nil ?_
   refine FW.ret ?_
   obtain rfl := Option.some.inj hp
   exact ⟨.inr rfl, res1 rfl rfl ⟨rfl, S47.back⟩⟩
  ·
   refine FW.condF rfl c48 ?_
   refine FW.skip (FW.seq (FW.region ?_))
   refine FL.v (E.assign (v := Value.bool true) rfl) ?_
   refine FL.nil ?_
   refine FW.ret ?_
   obtain rfl := Option.some.inj hp
   exact ⟨.inr rfl, res1 rfl rfl ⟨rfl, S47.back⟩⟩

set_option maxHeartbeats 4000000 in
theorem w_laws_eqSeqStep {Ha : GH} {wa : World} (hs : Sl Ha wa) (a0 : SeqStep) (v0_0 : Value) (p0_0 : RSl Ha eS 1 v0_0 a0.seq.left) (v0_1 : Value) (p0_1 : RSl Ha eS 1 v0_1 a0.seq.right) (a1 : SeqStep) (v1_0 : Value) (p1_0 : RSl Ha eS 1 v1_0 a1.seq.left) (v1_1 : Value) (p1_1 : RSl Ha eS 1 v1_1 a1.seq.right) {r : Bool} (hp : (PF.laws_eqSeqStep a0 a1) = some r) :
  Calls Tryz.prog 28 #[Value.agg #[v0_0, v0_1, Value.int .i64 a0.rule, Value.string a0.main, Value.int .i64 a0.a, Value.int .i64 a0.b], Value.agg #[v1_0, v1_1, Value.int .i64 a1.rule, Value.string a1.main, Value.int .i64 a1.a, Value.int .i64 a1.b]] wa (Sc Ha wa (Value.bool r)) := by
 unfold PF.laws_eqSeqStep at hp
 have S0 := St.init hs
 refine calls_go (N := 31) (args := [Value.agg #[v0_0, v0_1, Value.int .i64 a0.rule, Value.string a0.main, Value.int .i64 a0.a, Value.int .i64 a0.b], Value.agg #[v1_0, v1_1, Value.int .i64 a1.rule, Value.string a1.main, Value.int .i64 a1.a, Value.int .i64 a1.b]]) Tryz.func28 rfl rfl rfl ?_
 refine FW.seq (FW.region ?_)
 obtain ⟨b21, w22, run23, S24⟩ := S0.box (P := Tryz.prog) 55 [v0_0, v0_1, Value.int .i64 a0.rule, Value.string a0.main, Value.int .i64 a0.a, Value.int .i64 a0.b] (v := Value.agg #[v0_0, v0_1, Value.int .i64 a0.rule, Value.string a0.main, Value.int .i64 a0.a, Value.int .i64 a0.b]) rfl (ones_cons p0_0.one (ones_cons p0_1.one (ones_cons rfl (ones_cons rfl (ones_cons rfl (ones_cons rfl ones_nil))))))
 refine FL.v (E.box rfl run23) ?_
 obtain ⟨H25, S26, i27, at28⟩ := S24.sealBox (i := 0) (l' := []) rfl rfl
 obtain ⟨b29, w30, run31, S32⟩ := S26.box (P := Tryz.prog) 55 [v1_0, v1_1, Value.int .i64 a1.rule, Value.string a1.main, Value.int .i64 a1.a, Value.int .i64 a1.b] (v := Value.agg #[v1_0, v1_1, Value.int .i64 a1.rule, Value.string a1.main, Value.int .i64 a1.a, Value.int .i64 a1.b]) rfl (ones_cons p1_0.one (ones_cons p1_1.one (ones_cons rfl (ones_cons rfl (ones_cons rfl (ones_cons rfl ones_nil))))))
 refine FL.v (E.box rfl run31) ?_
 obtain ⟨H33, S34, i35, at36⟩ := S32.sealBox (i := 0) (l' := []) rfl rfl
 refine FL.v (E.assign (v := Value.bool false) rfl) ?_
 refine FL.nil (FW.seq (FW.seq (FW.region ?_)))
 refine FL.v (E.fieldAddr tf55_0 rfl) ?_
 refine FL.v (E.load rfl (run_loadA Tryz.isAgg51 Tryz.sizeOf51 (((at28.mono i35).now S34.sl).sub (j := 0) (n := 2) (c := [v0_0, v0_1]) rfl) rfl)) ?_
 refine FL.v (E.fieldAddr tf55_0 rfl) ?_
 refine FL.v (E.load rfl (run_loadA Tryz.isAgg51 Tryz.sizeOf51 ((at36.now S34.sl).sub (j := 0) (n := 2) (c := [v1_0, v1_1]) rfl) rfl)) ?_
 obtain ⟨r37, hr38, hp⟩ := bnd hp
 refine FL.call rfl rfl rfl (E.call Tryz.call66 (A2 rfl rfl)) (w_laws_eqSequent S34.sl a0.seq v0_0 (p0_0.mono (i27.tr i35)) v0_1 (p0_1.mono (i27.tr i35)) a1.seq v1_0 (p1_0.mono (i27.tr i35)) v1_1 (p1_1.mono (i27.tr i35)) hr38) ?_
 rintro e w39 ⟨rfl, r40⟩
 refine ⟨_, rfl, ?_⟩
 have S41 := S34.call r40
 refine FL.v (E.not rfl) ?_
 refine FL.nil ?_
 rcases ifB hp with ⟨c42, hp⟩ | ⟨c42, hp⟩
 ·
  refine FW.condT rfl c42 ?_
  refine FW.seq (FW.region ?_)
  refine FL.v (E.assign (v := Value.bool false) rfl) ?_
  refine FL.nil ?_
  refine FW.ret ?_
  obtain rfl := Option.some.inj hp
  exact ⟨.inr rfl, res1 rfl rfl ⟨rfl, S41.back⟩⟩
 ·
  refine FW.condF rfl c42 ?_
  refine FW.skip (FW.seq (FW.seq (FW.region ?_)))
  refine FL.v (E.fieldAddr tf55_1 rfl) ?_
  refine FL.v (E.load rfl (run_load1 Tryz.isAgg3 ((at28.mono i35).now S41.sl) rfl)) ?_
  refine FL.v (E.fieldAddr tf55_1 rfl) ?_
  refine FL.v (E.load rfl (run_load1 Tryz.isAgg3 (at36.now S41.sl) rfl)) ?_
  refine FL.v (E.neq rfl rfl) ?_
  refine FL.nil ?_
  rcases ifB hp with ⟨c43, hp⟩ | ⟨c43, hp⟩
  ·
   refine FW.condT rfl c43 ?_
   refine FW.seq (FW.region ?_)
   refine FL.v (E.assign (v := Value.bool false) rfl) ?_
   refine FL.nil ?_
   refine FW.ret ?_
   obtain rfl := Option.some.inj hp
   exact ⟨.inr rfl, res1 rfl rfl ⟨rfl, S41.back⟩⟩
  ·
   refine FW.condF rfl c43 ?_
   refine FW.skip (FW.seq (FW.seq (FW.region ?_)))
   refine FL.v (E.fieldAddr tf55_2 rfl) ?_
   refine FL.v (E.load rfl (run_load1 Tryz.isAgg9 ((at28.mono i35).now S41.sl) rfl)) ?_
   refine FL.v (E.fieldAddr tf55_2 rfl) ?_
   refine FL.v (E.load rfl (run_load1 Tryz.isAgg9 (at36.now S41.sl) rfl)) ?_
   refine FL.v (E.neqS rfl rfl) ?_
   refine FL.nil ?_
   rcases ifB hp with ⟨c44, hp⟩ | ⟨c44, hp⟩
   ·
    refine FW.condT rfl c44 ?_
    refine FW.seq (FW.region ?_)
    refine FL.v (E.assign (v := Value.bool false) rfl) ?_
    refine FL.nil ?_
    refine FW.ret ?_
    obtain rfl := Option.some.inj hp
    exact ⟨.inr rfl, res1 rfl rfl ⟨rfl, S41.back⟩⟩
   ·
    refine FW.condF rfl c44 ?_
    refine FW.skip (FW.seq (FW.seq (FW.region ?_)))
    refine FL.v (E.fieldAddr tf55_3 rfl) ?_
    refine FL.v (E.load rfl (run_load1 Tryz.isAgg3 ((at28.mono i35).now S41.sl) rfl)) ?_
    refine FL.v (E.fieldAddr tf55_3 rfl) ?_
    refine FL.v (E.load rfl (run_load1 Tryz.isAgg3 (at36.now S41.sl) rfl)) ?_
    refine FL.v (E.neq rfl rfl) ?_
    refine FL.nil ?_
    rcases ifB hp with ⟨c45, hp⟩ | ⟨c45, hp⟩
    ·
     refine FW.condT rfl c45 ?_
     refine FW.seq (FW.region ?_)
     refine FL.v (E.assign (v := Value.bool false) rfl) ?_
     refine FL.nil ?_
     refine FW.ret ?_
     obtain rfl := Option.some.inj hp
     exact ⟨.inr rfl, res1 rfl rfl ⟨rfl, S41.back⟩⟩
    ·
     refine FW.condF rfl c45 ?_
     refine FW.skip (FW.seq (FW.seq (FW.region ?_)))
     refine FL.v (E.fieldAddr tf55_4 rfl) ?_
     refine FL.v (E.load rfl (run_load1 Tryz.isAgg3 ((at28.mono i35).now S41.sl) rfl)) ?_
     refine FL.v (E.fieldAddr tf55_4 rfl) ?_
     refine FL.v (E.load rfl (run_load1 Tryz.isAgg3 (at36.now S41.sl) rfl)) ?_
     refine FL.v (E.neq rfl rfl) ?_
     refine FL.nil ?_
     rcases ifB hp with ⟨c46, hp⟩ | ⟨c46, hp⟩
     ·
      refine FW.condT rfl c46 ?_
      refine FW.seq (FW.region ?_)
      refine FL.v (E.assign (v := Value.bool false) rfl) ?_
      refine FL.nil ?_
      refine FW.ret ?_
      obtain rfl := Option.some.inj hp
      exact ⟨.inr rfl, res1 rfl rfl ⟨rfl, S41.back⟩⟩
     ·
      refine FW.condF rfl c46 ?_
      refine FW.skip (FW.seq (FW.region ?_))
      refine FL.v (E.assign (v := Value.bool true) rfl) ?_
      refine FL.nil ?_
      refine FW.ret ?_
      obtain rfl := Option.some.inj hp
      exact ⟨.inr rfl, res1 rfl rfl ⟨rfl, S41.back⟩⟩

set_option maxHeartbeats 4000000 in
theorem w_laws_eqSeqStepS {Ha : GH} {wa : World} (hs : Sl Ha wa) (v0 : Value) (a0 : List SeqStep) (p0 : RSl Ha eSeqStep 6 v0 a0) (v1 : Value) (a1 : List SeqStep) (p1 : RSl Ha eSeqStep 6 v1 a1) {r : Bool} (hp : (PF.laws_eqSeqStepS a0 a1) = some r) :
  Calls Tryz.prog 7 #[v0, v1] wa (Sc Ha wa (Value.bool r)) := by
 unfold PF.laws_eqSeqStepS at hp
 have S0 := St.init hs
 refine calls_go (N := 27) (args := [v0, v1]) Tryz.func7 rfl rfl rfl ?_
 refine FW.seq (FW.region ?_)
 refine FL.v (E.assign (v := Value.bool false) rfl) ?_
 refine FL.nil (FW.seq (FW.seq (FW.region ?_)))
 refine FL.v (E.move (v := v0) rfl) ?_
 refine FL.v (E.lenP te22 rfl p0) ?_
 refine FL.v (E.move (v := v1) rfl) ?_
 refine FL.v (E.lenP te22 rfl p1) ?_
 refine FL.v (E.neq rfl rfl) ?_
 refine FL.nil ?_
 rcases ifB hp with ⟨c21, hp⟩ | ⟨c21, hp⟩
 ·
  refine FW.condT rfl c21 ?_
  refine FW.seq (FW.region ?_)
  refine FL.v (E.assign (v := Value.bool false) rfl) ?_
  refine FL.nil ?_
  refine FW.ret ?_
  obtain rfl := Option.some.inj hp
  exact ⟨.inr rfl, res1 rfl rfl ⟨rfl, S0.back⟩⟩
 ·
  refine FW.condF rfl c21 ?_
  refine FW.skip (FW.seq (FW.seq (FW.region ?_)))
  refine FL.v (E.assign (v := Value.int .i64 0) rfl) ?_
  refine FL.nil ?_
  obtain ⟨q23, hq, hp⟩ := bndR hp
  refine FW.block ?_
  refine FW.mono (FW.forL (S := Unit) (X := Bool) (fun (i23 : Nat) (s23 : Unit) f w => ∃ H : GH, St Ha wa H w [] ∧ Inc Ha H ∧ f 5 = Value.int .i64 ((i23 : Nat) : Int) ∧ f 0 = v0 ∧ f 1 = v1) (fun q e f w => match q with | .go s23 => e = Exit.exit 0 ∧ (∃ H : GH, St Ha wa H w [] ∧ Inc Ha H) | .rt x => ((e = Exit.ret) ∧ (fun e f w => (e = Exit.normal ∨ e = Exit.ret) ∧ ∀ a, Fr (δ := []) 27 a f → ∃ v, (results Tryz.f7 a.tmps).run Tryz.prog w = .ok v w ∧ (Sc Ha wa (Value.bool x)) (.returned v) w) e f w)) hq ⟨_, S0, (Inc.rfl _), rfl, rfl, rfl⟩ ?_ ?_) ?_
  ·
   clear hp hq
   rintro i23 y22 s23 f65 w64 ⟨H61, S62, i63, k66, k67, k68⟩ hx23 o98 hp
   refine FW.seq (FW.seq (FW.region ?_))
   refine FL.v (E.move k66) ?_
   refine FL.v (E.move k67) ?_
   refine FL.v (E.lenP te22 rfl p0) ?_
   refine FL.v (E.lssT rfl rfl (lss_len hx23)) ?_
   refine FL.nil ?_
   refine FW.condT rfl rfl ?_
   refine FW.skip (FW.seq (FW.block (FW.seq ?_)))
   refine FW.draw (fun w' => Run w64.heap.size H61 w64 H61 w') (by kernel_rfl) (by kernel_rfl) (run_drew S62.sl) ?_
   refine FD.val rfl rfl rfl (fun w' hw' => (E.move k67)) ?_
   refine FD.val rfl rfl rfl (fun w' hw' => (E.move k66)) ?_
   obtain ⟨p70, cs71, pt72, l73, at74, rel75⟩ := p0.at (ix_nat hx23)
   obtain ⟨v76, v78, rfl, h77, h79⟩ := eSeqStep_open rel75
   refine FD.val rfl rfl rfl (fun w' hw' => (E.indexAddr te22 rfl rfl pt72)) ?_
   refine FD.val rfl rfl rfl (fun w' hw' => (E.load rfl (run_loadA Tryz.isAgg55 Tryz.sizeOf55 ((at74.mono i63).now (S62.call hw').sl) rfl))) ?_
   refine FD.val rfl rfl rfl (fun w' hw' => (E.move k68)) ?_
   refine FD.val rfl rfl rfl (fun w' hw' => (E.move k66)) ?_
   obtain ⟨x86, hx87, hp⟩ := bnd hp
   obtain ⟨p80, cs81, pt82, l83, at84, rel85⟩ := p1.at hx87
   obtain ⟨v88, v90, rfl, h89, h91⟩ := eSeqStep_open rel85
   refine FD.val rfl rfl rfl (fun w' hw' => (E.indexAddr te22 rfl rfl pt82)) ?_
   refine FD.val rfl rfl rfl (fun w' hw' => (E.load rfl (run_loadA Tryz.isAgg55 Tryz.sizeOf55 ((at84.mono i63).now (S62.call hw').sl) rfl))) ?_
   obtain ⟨r92, hr93, hp⟩ := bnd hp
   refine FD.call rfl rfl rfl (fun w' hw' => (E.call Tryz.call28 (A2 rfl rfl))) (fun w' hw' => Calls.cls hw' (w_laws_eqSeqStep (S62.call hw').sl y22 v76 (h77.mono i63) v78 (h79.mono i63) x86 v88 (h89.mono i63) v90 (h91.mono i63) hr93)) ?_
   refine FD.val rfl rfl rfl (fun w' hw' => (E.not rfl)) ?_
   refine FD.nil ?_
   intro w94 r96
   have S95 := S62.call r96
   rcases ifB hp with ⟨c97, hp⟩ | ⟨c97, hp⟩
   ·
    refine FW.condT rfl c97 ?_
    refine FW.seq (FW.region ?_)
    refine FL.v (E.assign (v := Value.bool false) rfl) ?_
    refine FL.nil ?_
    refine FW.ret ?_
    obtain rfl := Option.some.inj hp
    exact ⟨nofun, rfl, ⟨.inr rfl, res1 rfl rfl ⟨rfl, S95.back⟩⟩⟩
   ·
    refine FW.condF rfl c97 ?_
    refine FW.skip (FW.region ?_)
    refine FL.v (E.move k66) ?_
    refine FL.v (E.add rfl rfl) ?_
    refine FL.v (E.assign (v := Value.int .i64 (wr (((i23 : Nat) : Int) + 1))) rfl) ?_
    refine FL.nil ?_
    obtain rfl := Option.some.inj hp
    exact ⟨rfl, ⟨_, S95, i63, (nat_succ rfl (lt_of_get hx23) (p0.mono i63).le), k67, k68⟩⟩
  ·
   clear hp hq
   rintro s23 f108 w107 ⟨H104, S105, i106, k109, k110, k111⟩
   refine FW.seq (FW.seq (FW.region ?_))
   refine FL.v (E.move k109) ?_
   refine FL.v (E.move k110) ?_
   refine FL.v (E.lenP te22 rfl p0) ?_
   refine FL.v (E.lss rfl rfl) ?_
   refine FL.nil ?_
   refine FW.condF rfl dlt_len ?_
   refine FW.exit ?_
   exact ⟨nofun, rfl, ⟨_, S105, i106⟩⟩
  ·
   clear hq
   intro e f103 w102 hD
   rcases q23 with s23 | x23
   ·
    obtain ⟨rfl, hD⟩ := hD
    obtain ⟨H99, S100, i101⟩ := hD
    replace hp := el_go hp
    refine FW.seq (FW.region ?_)
    refine FL.v (E.assign (v := Value.bool true) rfl) ?_
    refine FL.nil ?_
    refine FW.ret ?_
    obtain rfl := Option.some.inj hp
    exact ⟨.inr rfl, res1 rfl rfl ⟨rfl, S100.back⟩⟩
   ·
    obtain ⟨he, hL⟩ := hD
    replace hp := el_rt hp
    obtain rfl := Option.some.inj hp
    subst he
    exact hL

theorem w_laws_markTextO {Ha : GH} {wa : World} (hs : Sl Ha wa) (a0 : Int) {r : ByteArray} (hp : (PF.laws_markTextO a0) = some r) :
  Calls Tryz.prog 30 #[Value.int .i64 a0] wa (Sc Ha wa (Value.string r)) := by
 unfold PF.laws_markTextO at hp
 have S0 := St.init hs
 refine calls_go (N := 20) (args := [Value.int .i64 a0]) Tryz.func30 rfl rfl rfl ?_
 refine FW.seq (FW.region ?_)
 refine FL.v (E.assign (v := Value.string (ByteArray.mk #[])) rfl) ?_
 refine FL.nil (FW.seq (FW.seq (FW.region ?_)))
 refine FL.v (E.move (v := Value.int .i64 a0) rfl) ?_
 refine FL.v (E.leq rfl rfl) ?_
 refine FL.nil ?_
 rcases ifB hp with ⟨c21, hp⟩ | ⟨c21, hp⟩
 ·
  refine FW.condT rfl c21 ?_
  refine FW.seq (FW.region ?_)
  refine FL.v (E.assign (v := Value.string (ByteArray.mk #[109, 48])) rfl) ?_
  refine FL.nil ?_
  refine FW.ret ?_
  obtain rfl := Option.some.inj hp
  exact ⟨.inr rfl, res1 rfl rfl ⟨rfl, S0.back⟩⟩
 ·
  refine FW.condF rfl c21 ?_
  refine FW.skip (FW.seq (FW.region ?_))
  refine FL.v (E.assign (v := Value.string (ByteArray.mk #[])) rfl) ?_
  refine FL.nil (FW.seq ?_)
  obtain ⟨q22, hq, hp⟩ := bndR hp
  refine FW.block ?_
  refine FW.mono (FW.iter (S := (Int × ByteArray)) (X := Empty) (fun (s22 : (Int × ByteArray)) f w => ∃ H : GH, St Ha wa H w [] ∧ Inc Ha H ∧ f 0 = Value.int .i64 s22.1 ∧ f 3 = Value.string s22.2) (fun (q : Rs (Int × ByteArray) Empty) e f w => match q with | .go s22 => e = Exit.exit 0 ∧ (∃ H : GH, St Ha wa H w [] ∧ Inc Ha H ∧ f 3 = Value.string s22.2) | .rt x => x.elim) hq ⟨_, S0, (Inc.rfl _), rfl, rfl⟩ ?_) ?_
  ·
   clear hp hq
   rintro s22 f42 w41 ⟨H38, S39, i40, k43, k44⟩ o53 hp
   refine FW.seq (FW.seq (FW.region ?_))
   refine FL.v (E.move k43) ?_
   refine FL.v (E.gtr rfl rfl) ?_
   refine FL.nil ?_
   rcases ifB hp with ⟨c45, hp⟩ | ⟨c45, hp⟩
   ·
    refine FW.condT rfl c45 ?_
    refine FW.skip (FW.block (FW.seq (FW.region ?_)))
    refine FL.v (E.move k43) ?_
    refine FL.v (E.rem rfl rfl (by decide)) ?_
    refine FL.v (E.add rfl rfl) ?_
    refine FL.v (E.conv Tryz.runUnderlying3 Tryz.runUnderlying5 rfl) ?_
    obtain ⟨v46, w47, run48, S49⟩ := S39.buildSlice (P := Tryz.prog) te28 [Value.int .u8 (wrk false 8 (wr (48 + (s22.1.tmod 10))))] (parts := #[(0, Value.int .u8 (wrk false 8 (wr (48 + (s22.1.tmod 10)))))]) (cells := [Value.int .u8 (wrk false 8 (wr (48 + (s22.1.tmod 10))))]) rfl (szs_cons rfl szs_nil) (fc_cons rfl fc_nil) (ones_cons rfl ones_nil) (Nat.le_of_ble_eq_true rfl)
    have els50 : Els (up wa.heap.size H38) (eN .u8) 1 [Value.int .u8 (wrk false 8 (wr (48 + (s22.1.tmod 10))))] [(wrk false 8 (wr (48 + (s22.1.tmod 10))))] := (Els.snoc (H := (up wa.heap.size H38)) (E := (eN .u8)) (k := 1) (c := [Value.int .u8 (wrk false 8 (wr (48 + (s22.1.tmod 10))))]) (x := (wrk false 8 (wr (48 + (s22.1.tmod 10))))) Els.nil rfl rfl)
    refine FL.v (E.buildSlice (B1 rfl) run48) ?_
    refine FL.v (E.bytes Tryz.underlying28 Tryz.underlying5 Tryz.underlying9 S49 (i := 0) rfl els50 rfl) ?_
    refine FL.v (E.move k44) ?_
    obtain ⟨z51, h52, hp⟩ := bnd hp
    refine FL.v (E.addT rfl rfl h52) ?_
    refine FL.v (E.assign (v := Value.string z51) rfl) ?_
    refine FL.nil (FW.region ?_)
    refine FL.v (E.move k43) ?_
    refine FL.v (E.quo rfl rfl (by decide)) ?_
    refine FL.v (E.assign (v := Value.int .i64 (wr (s22.1.tdiv 10))) rfl) ?_
    refine FL.nil ?_
    obtain rfl := Option.some.inj hp
    exact ⟨rfl, ⟨_, (S49.sel [] (by decide) rfl), i40, rfl, rfl⟩⟩
   ·
    refine FW.condF rfl c45 ?_
    refine FW.exit ?_
    obtain rfl := Option.some.inj hp
    exact ⟨nofun, rfl, ⟨_, S39, i40, k44⟩⟩
  ·
   clear hq
   intro e f58 w57 hD
   rcases q22 with s22 | x22
   ·
    obtain ⟨rfl, hD⟩ := hD
    obtain ⟨H54, S55, i56, k59⟩ := hD
    replace hp := el_go hp
    refine FW.seq (FW.region ?_)
    refine FL.v (E.move k59) ?_
    obtain ⟨z60, h61, hp⟩ := bnd hp
    refine FL.v (E.addT rfl rfl h61) ?_
    refine FL.v (E.assign (v := Value.string z60) rfl) ?_
    refine FL.nil ?_
    refine FW.ret ?_
    obtain rfl := Option.some.inj hp
    exact ⟨.inr rfl, res1 rfl rfl ⟨rfl, S55.back⟩⟩
   ·
    exact x22.elim
theorem w_laws_markText {Ha : GH} {wa : World} (hs : Sl Ha wa) (a0 : Int) : Calls Tryz.prog 30 #[Value.int .i64 a0] wa (Sc Ha wa (Value.string (PF.laws_markText a0))) := w_laws_markTextO hs a0 (PF.laws_markText_eq a0)

theorem w_laws_markStringS {H0 Ha : GH} {w0 wa : World} {l : List MO} (S0 : St H0 w0 Ha wa l) (hs0 : Sl H0 w0) (v0 : Value) (a0 : List ByteArray) (p0 : RSl (up w0.heap.size Ha) eS 1 v0 a0) (a1 : Int) :
  Calls Tryz.prog 29 #[v0, Value.int .i64 a1] wa (M1 H0 w0 Ha l eS 1 v0 (PF.laws_markStringS a0 a1)) := by
 obtain ⟨c0, n0, hc0⟩ := p0.nest eS_flat (by decide)
 have hln := p0.ln
 have hle := p0.le
 refine calls_go (N := 20) (args := [v0, Value.int .i64 a1]) Tryz.func29 rfl rfl rfl ?_
 refine FW.seq (FW.region ?_)
 refine FL.v (E.assign (v := Value.int .i64 0) rfl) ?_
 refine FL.nil (FW.seq (FW.seq (FW.region ?_)))
 refine FL.v (E.assign (v := Value.int .i64 0) rfl) ?_
 refine FL.nil (FW.block ?_)
 refine FW.mono (FW.mark (F := fun y m => ((PF.laws_markText m), (wr (m + 1)))) (a0 := a0) (k0 := a1) (fun (i : Nat) (xs : List ByteArray) (k : Int) f w => ∃ (H : GH) (c : List Value), St H0 w0 H w l ∧ Nest (up w0.heap.size H) eS 1 v0 xs c ∧ bl c = bl c0 ∧ (∀ b, b ∉ bl [v0] → b ∉ bl c0 → H b = Ha b) ∧ f 0 = v0 ∧ f 1 = Value.int .i64 k ∧ f 5 = Value.int .i64 ((i : Nat) : Int)) (fun e f w => e = Exit.exit 0 ∧ ∃ (H : GH) (c : List Value), St H0 w0 H w l ∧ Nest (up w0.heap.size H) eS 1 v0 (markFrom (fun y m => ((PF.laws_markText m), (wr (m + 1)))) a0 a1).1 c ∧ bl c = bl c0 ∧ (∀ b, b ∉ bl [v0] → b ∉ bl c0 → H b = Ha b) ∧ f 0 = v0 ∧ f 1 = Value.int .i64 (markFrom (fun y m => ((PF.laws_markText m), (wr (m + 1)))) a0 a1).2) ⟨_, _, S0, n0, rfl, fun _ _ _ => rfl, rfl, rfl, rfl⟩ ?_ ?_) ?_
 ·
  rintro i y xs m f1 w1 ⟨H1, c1, S1, n1, hb, ho, kv, kk, kc⟩ hx hy
  obtain ⟨p, hpt, wr0, hB, hr, nd⟩ := n1.begin hy (by decide)
  have hci := eS_open hr
  have rd := wr0.opens hci
  refine FW.seq (FW.seq (FW.region ?_))
  refine FL.v (E.move kc) ?_
  refine FL.v (E.move kv) ?_
  refine FL.v (E.len te30 rfl hln) ?_
  refine FL.v (E.lssT rfl rfl (lss_len hx)) ?_
  refine FL.nil ?_
  refine FW.condT rfl rfl ?_
  refine FW.skip (FW.seq (FW.block (FW.seq (FW.region ?_))))
  refine FL.v (E.move kv) ?_
  refine FL.v (E.move kc) ?_
  refine FL.v (E.move kk) ?_
  refine FL.call rfl rfl rfl (E.call Tryz.call30 (A1 rfl)) (w_laws_markText S1.sl m) ?_
  rintro e w21 ⟨rfl, r22⟩
  refine ⟨_, rfl, ?_⟩
  have S23 := S1.call r22
  refine FL.v (E.indexAddr te30 rfl rfl hpt) ?_
  obtain ⟨w24, H25, run27, S26, wr28, o29⟩ := rd.poke0 (P := Tryz.prog) (t := 9) (u := Value.string (PF.laws_markText m)) S23 hs0 hB rfl rfl rfl Tryz.sizeOf9 rfl rfl (c2 := [Value.string (PF.laws_markText m)]) rfl
  refine FL.act rfl rfl (E.store rfl rfl run27) ?_
  refine FL.nil (FW.region ?_)
  refine FL.v (E.move kk) ?_
  refine FL.v (E.add rfl rfl) ?_
  refine FL.v (E.assign (v := Value.int .i64 (wr (m + 1))) rfl) ?_
  refine FL.nil (FW.region ?_)
  refine FL.v (E.move kc) ?_
  refine FL.v (E.add rfl rfl) ?_
  refine FL.v (E.assign (v := Value.int .i64 (wr (((i : Nat) : Int) + 1))) rfl) ?_
  refine FL.nil ?_
  obtain ⟨c2, n2, hb2, ho2⟩ := n1.round eS_flat.loc hy (by decide) hpt wr28 (y' := (PF.laws_markText m)) rfl
  exact ⟨rfl, _, _, S26, n2, hb2.trans hb, fun b q1 q2 => (ho2 b q1 (by rw [hb]; exact q2)).trans (ho b q1 q2), kv, rfl, nat_succ rfl (lt_of_get hx) hle⟩
 ·
  rintro f1 w1 ⟨H1, c1, S1, n1, hb, ho, kv, kk, kc⟩
  refine FW.seq (FW.seq (FW.region ?_))
  refine FL.v (E.move kc) ?_
  refine FL.v (E.move kv) ?_
  refine FL.v (E.len te30 rfl hln) ?_
  refine FL.v (E.lss rfl rfl) ?_
  refine FL.nil ?_
  refine FW.condF rfl dlt_len ?_
  refine FW.exit ?_
  exact ⟨nofun, rfl, _, _, S1, n1, hb, ho, kv, kk⟩
 ·
  rintro e f2 w2 ⟨rfl, H2, c2, S2, n2, hb, ho, kv, kk⟩
  refine FW.seq (FW.region ?_)
  refine FL.v (E.move kk) ?_
  refine FL.v (E.assign (v := Value.int .i64 ((markFrom (fun y m => ((PF.laws_markText m), (wr (m + 1)))) a0 a1).2)) rfl) ?_
  refine FL.nil ?_
  refine FW.ret ?_
  exact ⟨.inr rfl, res1 rfl rfl ⟨_, rfl, S2, n2.rsl, fun b q => ho b q (by rw [hc0]; simp)⟩⟩

theorem w_laws_markSeqStepS {H0 Ha : GH} {w0 wa : World} {l : List MO} (S0 : St H0 w0 Ha wa l) (hs0 : Sl H0 w0) (v0 : Value) (a0 : List SeqStep) (c0 : List Value) (n0 : Nest (up w0.heap.size Ha) eSeqStep 6 v0 a0 c0) (a1 : Int) :
  Calls Tryz.prog 8 #[v0, Value.int .i64 a1] wa (M2 H0 w0 Ha l eSeqStep 6 v0 c0 (PF.laws_markSeqStepS a0 a1)) := by
 have hln := n0.rsl.ln
 have hle := n0.rsl.le
 refine calls_go (N := 58) (args := [v0, Value.int .i64 a1]) Tryz.func8 rfl rfl rfl ?_
 refine FW.seq (FW.region ?_)
 refine FL.v (E.assign (v := Value.int .i64 0) rfl) ?_
 refine FL.nil (FW.seq (FW.seq (FW.region ?_)))
 refine FL.v (E.assign (v := Value.int .i64 0) rfl) ?_
 refine FL.nil (FW.block ?_)
 refine FW.mono (FW.mark (F := fun y m => ((SeqStep.mk (Sequent.mk ((PF.laws_markStringS y.seq.left m).1) ((PF.laws_markStringS y.seq.right ((PF.laws_markStringS y.seq.left m).2)).1)) ((PF.laws_markStringS y.seq.right ((PF.laws_markStringS y.seq.left m).2)).2) (PF.laws_markText (wr ((PF.laws_markStringS y.seq.right ((PF.laws_markStringS y.seq.left m).2)).2 + 1))) (wr ((wr ((PF.laws_markStringS y.seq.right ((PF.laws_markStringS y.seq.left m).2)).2 + 1)) + 1)) (wr ((wr ((wr ((PF.laws_markStringS y.seq.right ((PF.laws_markStringS y.seq.left m).2)).2 + 1)) + 1)) + 1))), (wr ((wr ((wr ((wr ((PF.laws_markStringS y.seq.right ((PF.laws_markStringS y.seq.left m).2)).2 + 1)) + 1)) + 1)) + 1)))) (a0 := a0) (k0 := a1) (fun (i : Nat) (xs : List SeqStep) (k : Int) f w => ∃ (H : GH) (c : List Value), St H0 w0 H w l ∧ Nest (up w0.heap.size H) eSeqStep 6 v0 xs c ∧ bl c = bl c0 ∧ (∀ b, b ∉ bl [v0] → b ∉ bl c0 → H b = Ha b) ∧ f 0 = v0 ∧ f 1 = Value.int .i64 k ∧ f 5 = Value.int .i64 ((i : Nat) : Int)) (fun e f w => e = Exit.exit 0 ∧ ∃ (H : GH) (c : List Value), St H0 w0 H w l ∧ Nest (up w0.heap.size H) eSeqStep 6 v0 (markFrom (fun y m => ((SeqStep.mk (Sequent.mk ((PF.laws_markStringS y.seq.left m).1) ((PF.laws_markStringS y.seq.right ((PF.laws_markStringS y.seq.left m).2)).1)) ((PF.laws_markStringS y.seq.right ((PF.laws_markStringS y.seq.left m).2)).2) (PF.laws_markText (wr ((PF.laws_markStringS y.seq.right ((PF.laws_markStringS y.seq.left m).2)).2 + 1))) (wr ((wr ((PF.laws_markStringS y.seq.right ((PF.laws_markStringS y.seq.left m).2)).2 + 1)) + 1)) (wr ((wr ((wr ((PF.laws_markStringS y.seq.right ((PF.laws_markStringS y.seq.left m).2)).2 + 1)) + 1)) + 1))), (wr ((wr ((wr ((wr ((PF.laws_markStringS y.seq.right ((PF.laws_markStringS y.seq.left m).2)).2 + 1)) + 1)) + 1)) + 1)))) a0 a1).1 c ∧ bl c = bl c0 ∧ (∀ b, b ∉ bl [v0] → b ∉ bl c0 → H b = Ha b) ∧ f 0 = v0 ∧ f 1 = Value.int .i64 (markFrom (fun y m => ((SeqStep.mk (Sequent.mk ((PF.laws_markStringS y.seq.left m).1) ((PF.laws_markStringS y.seq.right ((PF.laws_markStringS y.seq.left m).2)).1)) ((PF.laws_markStringS y.seq.right ((PF.laws_markStringS y.seq.left m).2)).2) (PF.laws_markText (wr ((PF.laws_markStringS y.seq.right ((PF.laws_markStringS y.seq.left m).2)).2 + 1))) (wr ((wr ((PF.laws_markStringS y.seq.right ((PF.laws_markStringS y.seq.left m).2)).2 + 1)) + 1)) (wr ((wr ((wr ((PF.laws_markStringS y.seq.right ((PF.laws_markStringS y.seq.left m).2)).2 + 1)) + 1)) + 1))), (wr ((wr ((wr ((wr ((PF.laws_markStringS y.seq.right ((PF.laws_markStringS y.seq.left m).2)).2 + 1)) + 1)) + 1)) + 1)))) a0 a1).2) ⟨_, _, S0, n0, rfl, fun _ _ _ => rfl, rfl, rfl, rfl⟩ ?_ ?_) ?_
 ·
  rintro i y xs m f1 w1 ⟨H1, c1, S1, n1, hb, ho, kv, kk, kc⟩ hx hy
  obtain ⟨p, hpt, wr0, hB, hr, nd⟩ := n1.begin hy (by decide)
  obtain ⟨u0, u1, hci, hu0, hu1⟩ := eSeqStep_open hr
  have rd := wr0.opens hci
  refine FW.seq (FW.seq (FW.region ?_))
  refine FL.v (E.move kc) ?_
  refine FL.v (E.move kv) ?_
  refine FL.v (E.len te22 rfl hln) ?_
  refine FL.v (E.lssT rfl rfl (lss_len hx)) ?_
  refine FL.nil ?_
  refine FW.condT rfl rfl ?_
  refine FW.skip (FW.seq (FW.block (FW.seq (FW.region ?_))))
  refine FL.v (E.move kv) ?_
  refine FL.v (E.move kc) ?_
  refine FL.v (E.indexAddr te22 rfl rfl hpt) ?_
  refine FL.v (E.fieldAddr tf55_0 rfl) ?_
  refine FL.v (E.fieldAddrN tf51_0 rfl rfl) ?_
  refine FL.v (E.load rfl (run_load1 Tryz.isAgg30 (rd.now S1.sl) rfl)) ?_
  refine FL.v (E.move kk) ?_
  refine FL.call rfl rfl rfl (E.call Tryz.call29 (A2 rfl rfl)) (w_laws_markStringS S1 hs0 u0 y.seq.left hu0 m) ?_
  rintro e w22 ⟨H21, rfl, S23, h24, o25⟩
  refine ⟨_, rfl, ?_⟩
  have h26 := rd.kept2 nd (i := 0) (j := 1) rfl rfl (by decide) hu1 eS_flat o25
  have wr27 := rd.inner (j := 0) rfl o25
  refine FL.v (E.assign (v := Value.int .i64 ((PF.laws_markStringS y.seq.left m).2)) rfl) ?_
  refine FL.nil (FW.seq (FW.region ?_))
  refine FL.v (E.move kv) ?_
  refine FL.v (E.move kc) ?_
  refine FL.v (E.indexAddr te22 rfl rfl hpt) ?_
  refine FL.v (E.fieldAddr tf55_0 rfl) ?_
  refine FL.v (E.fieldAddrN tf51_1 rfl rfl) ?_
  refine FL.v (E.load rfl (run_load1 Tryz.isAgg30 (wr27.now S23.sl) rfl)) ?_
  refine FL.v (E.move (v := Value.int .i64 ((PF.laws_markStringS y.seq.left m).2)) rfl) ?_
  refine FL.call rfl rfl rfl (E.call Tryz.call29 (A2 rfl rfl)) (w_laws_markStringS S23 hs0 u1 y.seq.right h26 ((PF.laws_markStringS y.seq.left m).2)) ?_
  rintro e w29 ⟨H28, rfl, S30, h31, o32⟩
  refine ⟨_, rfl, ?_⟩
  have h33 := wr27.kept2 nd (i := 1) (j := 0) rfl rfl (by decide) h24 eS_flat o32
  have wr34 := wr27.inner (j := 1) rfl o32
  refine FL.v (E.assign (v := Value.int .i64 ((PF.laws_markStringS y.seq.right ((PF.laws_markStringS y.seq.left m).2)).2)) rfl) ?_
  refine FL.nil (FW.seq (FW.region ?_))
  refine FL.v (E.move kv) ?_
  refine FL.v (E.move kc) ?_
  refine FL.v (E.move (v := Value.int .i64 ((PF.laws_markStringS y.seq.right ((PF.laws_markStringS y.seq.left m).2)).2)) rfl) ?_
  refine FL.v (E.indexAddr te22 rfl rfl hpt) ?_
  refine FL.v (E.fieldAddr tf55_1 rfl) ?_
  obtain ⟨w35, H36, run38, S37, wr39, o40⟩ := wr34.poke (P := Tryz.prog) (t := 3) (u := Value.int .i64 ((PF.laws_markStringS y.seq.right ((PF.laws_markStringS y.seq.left m).2)).2)) S30 hs0 hB (j := 2) rfl rfl rfl Tryz.sizeOf3 rfl rfl (c2 := [u0, u1, Value.int .i64 ((PF.laws_markStringS y.seq.right ((PF.laws_markStringS y.seq.left m).2)).2), Value.string y.main, Value.int .i64 y.a, Value.int .i64 y.b]) rfl
  have h41 := wr34.kept (j := 0) rfl h33 eS_flat o40
  have h42 := wr34.kept (j := 1) rfl h31 eS_flat o40
  refine FL.act rfl rfl (E.store rfl rfl run38) ?_
  refine FL.nil (FW.seq (FW.region ?_))
  refine FL.v (E.move (v := Value.int .i64 ((PF.laws_markStringS y.seq.right ((PF.laws_markStringS y.seq.left m).2)).2)) rfl) ?_
  refine FL.v (E.add rfl rfl) ?_
  refine FL.v (E.assign (v := Value.int .i64 (wr ((PF.laws_markStringS y.seq.right ((PF.laws_markStringS y.seq.left m).2)).2 + 1))) rfl) ?_
  refine FL.nil (FW.seq (FW.region ?_))
  refine FL.v (E.move kv) ?_
  refine FL.v (E.move kc) ?_
  refine FL.v (E.move (v := Value.int .i64 (wr ((PF.laws_markStringS y.seq.right ((PF.laws_markStringS y.seq.left m).2)).2 + 1))) rfl) ?_
  refine FL.call rfl rfl rfl (E.call Tryz.call30 (A1 rfl)) (w_laws_markText S37.sl (wr ((PF.laws_markStringS y.seq.right ((PF.laws_markStringS y.seq.left m).2)).2 + 1))) ?_
  rintro e w43 ⟨rfl, r44⟩
  refine ⟨_, rfl, ?_⟩
  have S45 := S37.call r44
  refine FL.v (E.indexAddr te22 rfl rfl hpt) ?_
  refine FL.v (E.fieldAddr tf55_2 rfl) ?_
  obtain ⟨w46, H47, run49, S48, wr50, o51⟩ := wr39.poke (P := Tryz.prog) (t := 9) (u := Value.string (PF.laws_markText (wr ((PF.laws_markStringS y.seq.right ((PF.laws_markStringS y.seq.left m).2)).2 + 1)))) S45 hs0 hB (j := 3) rfl rfl rfl Tryz.sizeOf9 rfl rfl (c2 := [u0, u1, Value.int .i64 ((PF.laws_markStringS y.seq.right ((PF.laws_markStringS y.seq.left m).2)).2), Value.string (PF.laws_markText (wr ((PF.laws_markStringS y.seq.right ((PF.laws_markStringS y.seq.left m).2)).2 + 1))), Value.int .i64 y.a, Value.int .i64 y.b]) rfl
  have h52 := wr39.kept (j := 0) rfl h41 eS_flat o51
  have h53 := wr39.kept (j := 1) rfl h42 eS_flat o51
  refine FL.act rfl rfl (E.store rfl rfl run49) ?_
  refine FL.nil (FW.seq (FW.region ?_))
  refine FL.v (E.move (v := Value.int .i64 (wr ((PF.laws_markStringS y.seq.right ((PF.laws_markStringS y.seq.left m).2)).2 + 1))) rfl) ?_
  refine FL.v (E.add rfl rfl) ?_
  refine FL.v (E.assign (v := Value.int .i64 (wr ((wr ((PF.laws_markStringS y.seq.right ((PF.laws_markStringS y.seq.left m).2)).2 + 1)) + 1))) rfl) ?_
  refine FL.nil (FW.seq (FW.region ?_))
  refine FL.v (E.move kv) ?_
  refine FL.v (E.move kc) ?_
  refine FL.v (E.move (v := Value.int .i64 (wr ((wr ((PF.laws_markStringS y.seq.right ((PF.laws_markStringS y.seq.left m).2)).2 + 1)) + 1))) rfl) ?_
  refine FL.v (E.indexAddr te22 rfl rfl hpt) ?_
  refine FL.v (E.fieldAddr tf55_3 rfl) ?_
  obtain ⟨w54, H55, run57, S56, wr58, o59⟩ := wr50.poke (P := Tryz.prog) (t := 3) (u := Value.int .i64 (wr ((wr ((PF.laws_markStringS y.seq.right ((PF.laws_markStringS y.seq.left m).2)).2 + 1)) + 1))) S48 hs0 hB (j := 4) rfl rfl rfl Tryz.sizeOf3 rfl rfl (c2 := [u0, u1, Value.int .i64 ((PF.laws_markStringS y.seq.right ((PF.laws_markStringS y.seq.left m).2)).2), Value.string (PF.laws_markText (wr ((PF.laws_markStringS y.seq.right ((PF.laws_markStringS y.seq.left m).2)).2 + 1))), Value.int .i64 (wr ((wr ((PF.laws_markStringS y.seq.right ((PF.laws_markStringS y.seq.left m).2)).2 + 1)) + 1)), Value.int .i64 y.b]) rfl
  have h60 := wr50.kept (j := 0) rfl h52 eS_flat o59
  have h61 := wr50.kept (j := 1) rfl h53 eS_flat o59
  refine FL.act rfl rfl (E.store rfl rfl run57) ?_
  refine FL.nil (FW.seq (FW.region ?_))
  refine FL.v (E.move (v := Value.int .i64 (wr ((wr ((PF.laws_markStringS y.seq.right ((PF.laws_markStringS y.seq.left m).2)).2 + 1)) + 1))) rfl) ?_
  refine FL.v (E.add rfl rfl) ?_
  refine FL.v (E.assign (v := Value.int .i64 (wr ((wr ((wr ((PF.laws_markStringS y.seq.right ((PF.laws_markStringS y.seq.left m).2)).2 + 1)) + 1)) + 1))) rfl) ?_
  refine FL.nil (FW.seq (FW.region ?_))
  refine FL.v (E.move kv) ?_
  refine FL.v (E.move kc) ?_
  refine FL.v (E.move (v := Value.int .i64 (wr ((wr ((wr ((PF.laws_markStringS y.seq.right ((PF.laws_markStringS y.seq.left m).2)).2 + 1)) + 1)) + 1))) rfl) ?_
  refine FL.v (E.indexAddr te22 rfl rfl hpt) ?_
  refine FL.v (E.fieldAddr tf55_4 rfl) ?_
  obtain ⟨w62, H63, run65, S64, wr66, o67⟩ := wr58.poke (P := Tryz.prog) (t := 3) (u := Value.int .i64 (wr ((wr ((wr ((PF.laws_markStringS y.seq.right ((PF.laws_markStringS y.seq.left m).2)).2 + 1)) + 1)) + 1))) S56 hs0 hB (j := 5) rfl rfl rfl Tryz.sizeOf3 rfl rfl (c2 := [u0, u1, Value.int .i64 ((PF.laws_markStringS y.seq.right ((PF.laws_markStringS y.seq.left m).2)).2), Value.string (PF.laws_markText (wr ((PF.laws_markStringS y.seq.right ((PF.laws_markStringS y.seq.left m).2)).2 + 1))), Value.int .i64 (wr ((wr ((PF.laws_markStringS y.seq.right ((PF.laws_markStringS y.seq.left m).2)).2 + 1)) + 1)), Value.int .i64 (wr ((wr ((wr ((PF.laws_markStringS y.seq.right ((PF.laws_markStringS y.seq.left m).2)).2 + 1)) + 1)) + 1))]) rfl
  have h68 := wr58.kept (j := 0) rfl h60 eS_flat o67
  have h69 := wr58.kept (j := 1) rfl h61 eS_flat o67
  refine FL.act rfl rfl (E.store rfl rfl run65) ?_
  refine FL.nil (FW.region ?_)
  refine FL.v (E.move (v := Value.int .i64 (wr ((wr ((wr ((PF.laws_markStringS y.seq.right ((PF.laws_markStringS y.seq.left m).2)).2 + 1)) + 1)) + 1))) rfl) ?_
  refine FL.v (E.add rfl rfl) ?_
  refine FL.v (E.assign (v := Value.int .i64 (wr ((wr ((wr ((wr ((PF.laws_markStringS y.seq.right ((PF.laws_markStringS y.seq.left m).2)).2 + 1)) + 1)) + 1)) + 1))) rfl) ?_
  refine FL.nil (FW.region ?_)
  refine FL.v (E.move kc) ?_
  refine FL.v (E.add rfl rfl) ?_
  refine FL.v (E.assign (v := Value.int .i64 (wr (((i : Nat) : Int) + 1))) rfl) ?_
  refine FL.nil ?_
  obtain ⟨c2, n2, hb2, ho2⟩ := n1.round eSeqStep_loc hy (by decide) hpt wr66 (y' := (SeqStep.mk (Sequent.mk ((PF.laws_markStringS y.seq.left m).1) ((PF.laws_markStringS y.seq.right ((PF.laws_markStringS y.seq.left m).2)).1)) ((PF.laws_markStringS y.seq.right ((PF.laws_markStringS y.seq.left m).2)).2) (PF.laws_markText (wr ((PF.laws_markStringS y.seq.right ((PF.laws_markStringS y.seq.left m).2)).2 + 1))) (wr ((wr ((PF.laws_markStringS y.seq.right ((PF.laws_markStringS y.seq.left m).2)).2 + 1)) + 1)) (wr ((wr ((wr ((PF.laws_markStringS y.seq.right ((PF.laws_markStringS y.seq.left m).2)).2 + 1)) + 1)) + 1)))) ⟨_, _, rfl, h68, h69⟩
  exact ⟨rfl, _, _, S64, n2, hb2.trans hb, fun b q1 q2 => (ho2 b q1 (by rw [hb]; exact q2)).trans (ho b q1 q2), kv, rfl, nat_succ rfl (lt_of_get hx) hle⟩
 ·
  rintro f1 w1 ⟨H1, c1, S1, n1, hb, ho, kv, kk, kc⟩
  refine FW.seq (FW.seq (FW.region ?_))
  refine FL.v (E.move kc) ?_
  refine FL.v (E.move kv) ?_
  refine FL.v (E.len te22 rfl hln) ?_
  refine FL.v (E.lss rfl rfl) ?_
  refine FL.nil ?_
  refine FW.condF rfl dlt_len ?_
  refine FW.exit ?_
  exact ⟨nofun, rfl, _, _, S1, n1, hb, ho, kv, kk⟩
 ·
  rintro e f2 w2 ⟨rfl, H2, c2, S2, n2, hb, ho, kv, kk⟩
  refine FW.seq (FW.region ?_)
  refine FL.v (E.move kk) ?_
  refine FL.v (E.assign (v := Value.int .i64 ((markFrom (fun y m => ((SeqStep.mk (Sequent.mk ((PF.laws_markStringS y.seq.left m).1) ((PF.laws_markStringS y.seq.right ((PF.laws_markStringS y.seq.left m).2)).1)) ((PF.laws_markStringS y.seq.right ((PF.laws_markStringS y.seq.left m).2)).2) (PF.laws_markText (wr ((PF.laws_markStringS y.seq.right ((PF.laws_markStringS y.seq.left m).2)).2 + 1))) (wr ((wr ((PF.laws_markStringS y.seq.right ((PF.laws_markStringS y.seq.left m).2)).2 + 1)) + 1)) (wr ((wr ((wr ((PF.laws_markStringS y.seq.right ((PF.laws_markStringS y.seq.left m).2)).2 + 1)) + 1)) + 1))), (wr ((wr ((wr ((wr ((PF.laws_markStringS y.seq.right ((PF.laws_markStringS y.seq.left m).2)).2 + 1)) + 1)) + 1)) + 1)))) a0 a1).2)) rfl) ?_
  refine FL.nil ?_
  refine FW.ret ?_
  exact ⟨.inr rfl, res1 rfl rfl ⟨_, _, rfl, S2, n2, hb, fun b q1 q2 => weak (F := fun b => b ∉ bl [v0] ∧ b ∉ bl c0) (fun b q => ho b q.1 q.2) b ⟨q1, q2⟩⟩⟩

set_option maxHeartbeats 4000000 in
theorem w_laws_heldStringS {Ha : GH} {wa : World} (hs : Sl Ha wa) (v0 : Value) (a0 : List ByteArray) (p0 : RSl Ha eS 1 v0 a0) (a1 : Int) {r : Int} (hp : (PF.laws_heldStringS a0 a1) = some r) :
  Calls Tryz.prog 31 #[v0, Value.int .i64 a1] wa (Sc Ha wa (Value.int .i64 r)) := by
 unfold PF.laws_heldStringS at hp
 have S0 := St.init hs
 refine calls_go (N := 22) (args := [v0, Value.int .i64 a1]) Tryz.func31 rfl rfl rfl ?_
 refine FW.seq (FW.region ?_)
 refine FL.v (E.assign (v := Value.int .i64 0) rfl) ?_
 refine FL.nil (FW.seq (FW.seq (FW.region ?_)))
 refine FL.v (E.assign (v := Value.int .i64 0) rfl) ?_
 refine FL.nil ?_
 obtain ⟨q22, hq, hp⟩ := bndR hp
 refine FW.block ?_
 refine FW.mono (FW.forL (S := Int) (X := Int) (fun (i22 : Nat) (s22 : Int) f w => ∃ H : GH, St Ha wa H w [] ∧ Inc Ha H ∧ f 5 = Value.int .i64 ((i22 : Nat) : Int) ∧ f 0 = v0 ∧ f 1 = Value.int .i64 s22) (fun q e f w => match q with | .go s22 => e = Exit.exit 0 ∧ (∃ H : GH, St Ha wa H w [] ∧ Inc Ha H ∧ f 1 = Value.int .i64 s22) | .rt x => ((e = Exit.ret) ∧ (fun e f w => (e = Exit.normal ∨ e = Exit.ret) ∧ ∀ a, Fr (δ := []) 22 a f → ∃ v, (results Tryz.f31 a.tmps).run Tryz.prog w = .ok v w ∧ (Sc Ha wa (Value.int .i64 x)) (.returned v) w) e f w)) hq ⟨_, S0, (Inc.rfl _), rfl, rfl, rfl⟩ ?_ ?_) ?_
 ·
  clear hp hq
  rintro i22 y21 s22 f46 w45 ⟨H42, S43, i44, k47, k48, k49⟩ hx22 o61 hp
  refine FW.seq (FW.seq (FW.region ?_))
  refine FL.v (E.move k47) ?_
  refine FL.v (E.move k48) ?_
  refine FL.v (E.lenP te30 rfl p0) ?_
  refine FL.v (E.lssT rfl rfl (lss_len hx22)) ?_
  refine FL.nil ?_
  refine FW.condT rfl rfl ?_
  refine FW.skip (FW.seq (FW.block (FW.seq (FW.seq ?_))))
  refine FW.draw (fun w' => Run w45.heap.size H42 w45 H42 w') (by kernel_rfl) (by kernel_rfl) (run_drew S43.sl) ?_
  refine FD.val rfl rfl rfl (fun w' hw' => (E.move k48)) ?_
  refine FD.val rfl rfl rfl (fun w' hw' => (E.move k47)) ?_
  obtain ⟨p51, cs52, pt53, l54, at55, rel56⟩ := p0.at (ix_nat hx22)
  obtain rfl := eS_open rel56
  refine FD.val rfl rfl rfl (fun w' hw' => (E.indexAddr te30 rfl rfl pt53)) ?_
  refine FD.val rfl rfl rfl (fun w' hw' => (E.load rfl (run_load0 Tryz.isAgg9 ((at55.mono i44).now (S43.call hw').sl) rfl))) ?_
  refine FD.val rfl rfl rfl (fun w' hw' => (E.move k49)) ?_
  refine FD.call rfl rfl rfl (fun w' hw' => (E.call Tryz.call30 (A1 rfl))) (fun w' hw' => Calls.cls hw' (w_laws_markText (S43.call hw').sl s22)) ?_
  refine FD.val rfl rfl rfl (fun w' hw' => (E.neqS rfl rfl)) ?_
  refine FD.nil ?_
  intro w57 r59
  have S58 := S43.call r59
  rcases ifB hp with ⟨c60, hp⟩ | ⟨c60, hp⟩
  ·
   refine FW.condT rfl c60 ?_
   refine FW.seq (FW.region ?_)
   refine FL.v (E.assign (v := Value.int .i64 (-1)) rfl) ?_
   refine FL.nil ?_
   refine FW.ret ?_
   obtain rfl := Option.some.inj hp
   exact ⟨nofun, rfl, ⟨.inr rfl, res1 rfl rfl ⟨rfl, S58.back⟩⟩⟩
  ·
   refine FW.condF rfl c60 ?_
   refine FW.skip (FW.region ?_)
   refine FL.v (E.move k49) ?_
   refine FL.v (E.add rfl rfl) ?_
   refine FL.v (E.assign (v := Value.int .i64 (wr (s22 + 1))) rfl) ?_
   refine FL.nil (FW.region ?_)
   refine FL.v (E.move k47) ?_
   refine FL.v (E.add rfl rfl) ?_
   refine FL.v (E.assign (v := Value.int .i64 (wr (((i22 : Nat) : Int) + 1))) rfl) ?_
   refine FL.nil ?_
   obtain rfl := Option.some.inj hp
   exact ⟨rfl, ⟨_, S58, i44, (nat_succ rfl (lt_of_get hx22) (p0.mono i44).le), k48, rfl⟩⟩
 ·
  clear hp hq
  rintro s22 f72 w71 ⟨H68, S69, i70, k73, k74, k75⟩
  refine FW.seq (FW.seq (FW.region ?_))
  refine FL.v (E.move k73) ?_
  refine FL.v (E.move k74) ?_
  refine FL.v (E.lenP te30 rfl p0) ?_
  refine FL.v (E.lss rfl rfl) ?_
  refine FL.nil ?_
  refine FW.condF rfl dlt_len ?_
  refine FW.exit ?_
  exact ⟨nofun, rfl, ⟨_, S69, i70, k75⟩⟩
 ·
  clear hq
  intro e f66 w65 hD
  rcases q22 with s22 | x22
  ·
   obtain ⟨rfl, hD⟩ := hD
   obtain ⟨H62, S63, i64, k67⟩ := hD
   replace hp := el_go hp
   refine FW.seq (FW.region ?_)
   refine FL.v (E.move k67) ?_
   refine FL.v (E.assign (v := Value.int .i64 s22) rfl) ?_
   refine FL.nil ?_
   refine FW.ret ?_
   obtain rfl := Option.some.inj hp
   exact ⟨.inr rfl, res1 rfl rfl ⟨rfl, S63.back⟩⟩
  ·
   obtain ⟨he, hL⟩ := hD
   replace hp := el_rt hp
   obtain rfl := Option.some.inj hp
   subst he
   exact hL

set_option maxHeartbeats 4000000 in
theorem w_laws_heldSeqStepS {Ha : GH} {wa : World} (hs : Sl Ha wa) (v0 : Value) (a0 : List SeqStep) (p0 : RSl Ha eSeqStep 6 v0 a0) (a1 : Int) {r : Int} (hp : (PF.laws_heldSeqStepS a0 a1) = some r) :
  Calls Tryz.prog 9 #[v0, Value.int .i64 a1] wa (Sc Ha wa (Value.int .i64 r)) := by
 unfold PF.laws_heldSeqStepS at hp
 have S0 := St.init hs
 refine calls_go (N := 70) (args := [v0, Value.int .i64 a1]) Tryz.func9 rfl rfl rfl ?_
 refine FW.seq (FW.region ?_)
 refine FL.v (E.assign (v := Value.int .i64 0) rfl) ?_
 refine FL.nil (FW.seq (FW.seq (FW.region ?_)))
 refine FL.v (E.assign (v := Value.int .i64 0) rfl) ?_
 refine FL.nil ?_
 obtain ⟨q22, hq, hp⟩ := bndR hp
 refine FW.block ?_
 refine FW.mono (FW.forL (S := Int) (X := Int) (fun (i22 : Nat) (s22 : Int) f w => ∃ H : GH, St Ha wa H w [] ∧ Inc Ha H ∧ f 5 = Value.int .i64 ((i22 : Nat) : Int) ∧ f 0 = v0 ∧ f 1 = Value.int .i64 s22) (fun q e f w => match q with | .go s22 => e = Exit.exit 0 ∧ (∃ H : GH, St Ha wa H w [] ∧ Inc Ha H ∧ f 1 = Value.int .i64 s22) | .rt x => ((e = Exit.ret) ∧ (fun e f w => (e = Exit.normal ∨ e = Exit.ret) ∧ ∀ a, Fr (δ := []) 70 a f → ∃ v, (results Tryz.f9 a.tmps).run Tryz.prog w = .ok v w ∧ (Sc Ha wa (Value.int .i64 x)) (.returned v) w) e f w)) hq ⟨_, S0, (Inc.rfl _), rfl, rfl, rfl⟩ ?_ ?_) ?_
 ·
  clear hp hq
  rintro i22 y21 s22 f115 w114 ⟨H111, S112, i113, k116, k117, k118⟩ hx22 o199 hp
  refine FW.seq (FW.seq (FW.region ?_))
  refine FL.v (E.move k116) ?_
  refine FL.v (E.move k117) ?_
  refine FL.v (E.lenP te22 rfl p0) ?_
  refine FL.v (E.lssT rfl rfl (lss_len hx22)) ?_
  refine FL.nil ?_
  refine FW.condT rfl rfl ?_
  refine FW.skip (FW.seq (FW.block (FW.seq (FW.region ?_))))
  refine FL.v (E.move k117) ?_
  refine FL.v (E.move k116) ?_
  obtain ⟨p119, cs120, pt121, l122, at123, rel124⟩ := p0.at (ix_nat hx22)
  obtain ⟨v125, v127, rfl, h126, h128⟩ := eSeqStep_open rel124
  refine FL.v (E.indexAddr te22 rfl rfl pt121) ?_
  refine FL.v (E.fieldAddr tf55_0 rfl) ?_
  refine FL.v (E.fieldAddrN tf51_0 rfl rfl) ?_
  refine FL.v (E.load rfl (run_load1 Tryz.isAgg30 ((at123.mono i113).now S112.sl) rfl)) ?_
  refine FL.v (E.move k118) ?_
  obtain ⟨r129, hr130, hp⟩ := bnd hp
  refine FL.call rfl rfl rfl (E.call Tryz.call31 (A2 rfl rfl)) (w_laws_heldStringS S112.sl v125 y21.seq.left (h126.mono i113) s22 hr130) ?_
  rintro e w131 ⟨rfl, r132⟩
  refine ⟨_, rfl, ?_⟩
  have S133 := S112.call r132
  refine FL.v (E.assign (v := Value.int .i64 r129) rfl) ?_
  refine FL.nil (FW.seq (FW.seq (FW.region ?_)))
  refine FL.v (E.move (v := Value.int .i64 r129) rfl) ?_
  refine FL.v (E.lss rfl rfl) ?_
  refine FL.nil ?_
  rcases ifB hp with ⟨c134, hp⟩ | ⟨c134, hp⟩
  ·
   refine FW.condT rfl c134 ?_
   refine FW.seq (FW.region ?_)
   refine FL.v (E.assign (v := Value.int .i64 (-1)) rfl) ?_
   refine FL.nil ?_
   refine FW.ret ?_
   obtain rfl := Option.some.inj hp
   exact ⟨nofun, rfl, ⟨.inr rfl, res1 rfl rfl ⟨rfl, S133.back⟩⟩⟩
  ·
   refine FW.condF rfl c134 ?_
   refine FW.skip (FW.seq (FW.region ?_))
   refine FL.v (E.move k117) ?_
   refine FL.v (E.move k116) ?_
   obtain ⟨p135, cs136, pt137, l138, at139, rel140⟩ := p0.at (ix_nat hx22)
   obtain ⟨v141, v143, rfl, h142, h144⟩ := eSeqStep_open rel140
   refine FL.v (E.indexAddr te22 rfl rfl pt137) ?_
   refine FL.v (E.fieldAddr tf55_0 rfl) ?_
   refine FL.v (E.fieldAddrN tf51_1 rfl rfl) ?_
   refine FL.v (E.load rfl (run_load1 Tryz.isAgg30 ((at139.mono i113).now S133.sl) rfl)) ?_
   refine FL.v (E.move (v := Value.int .i64 r129) rfl) ?_
   obtain ⟨r145, hr146, hp⟩ := bnd hp
   refine FL.call rfl rfl rfl (E.call Tryz.call31 (A2 rfl rfl)) (w_laws_heldStringS S133.sl v143 y21.seq.right (h144.mono i113) r129 hr146) ?_
   rintro e w147 ⟨rfl, r148⟩
   refine ⟨_, rfl, ?_⟩
   have S149 := S133.call r148
   refine FL.v (E.assign (v := Value.int .i64 r145) rfl) ?_
   refine FL.nil (FW.seq (FW.seq (FW.region ?_)))
   refine FL.v (E.move (v := Value.int .i64 r145) rfl) ?_
   refine FL.v (E.lss rfl rfl) ?_
   refine FL.nil ?_
   rcases ifB hp with ⟨c150, hp⟩ | ⟨c150, hp⟩
   ·
    refine FW.condT rfl c150 ?_
    refine FW.seq (FW.region ?_)
    refine FL.v (E.assign (v := Value.int .i64 (-1)) rfl) ?_
    refine FL.nil ?_
    refine FW.ret ?_
    obtain rfl := Option.some.inj hp
    exact ⟨nofun, rfl, ⟨.inr rfl, res1 rfl rfl ⟨rfl, S149.back⟩⟩⟩
   ·
    refine FW.condF rfl c150 ?_
    refine FW.skip (FW.seq (FW.seq (FW.region ?_)))
    refine FL.v (E.move k117) ?_
    refine FL.v (E.move k116) ?_
    obtain ⟨p151, cs152, pt153, l154, at155, rel156⟩ := p0.at (ix_nat hx22)
    obtain ⟨v157, v159, rfl, h158, h160⟩ := eSeqStep_open rel156
    refine FL.v (E.indexAddr te22 rfl rfl pt153) ?_
    refine FL.v (E.fieldAddr tf55_1 rfl) ?_
    refine FL.v (E.load rfl (run_load1 Tryz.isAgg3 ((at155.mono i113).now S149.sl) rfl)) ?_
    refine FL.v (E.move (v := Value.int .i64 r145) rfl) ?_
    refine FL.v (E.neq rfl rfl) ?_
    refine FL.nil ?_
    rcases ifB hp with ⟨c161, hp⟩ | ⟨c161, hp⟩
    ·
     refine FW.condT rfl c161 ?_
     refine FW.seq (FW.region ?_)
     refine FL.v (E.assign (v := Value.int .i64 (-1)) rfl) ?_
     refine FL.nil ?_
     refine FW.ret ?_
     obtain rfl := Option.some.inj hp
     exact ⟨nofun, rfl, ⟨.inr rfl, res1 rfl rfl ⟨rfl, S149.back⟩⟩⟩
    ·
     refine FW.condF rfl c161 ?_
     refine FW.skip (FW.seq (FW.region ?_))
     refine FL.v (E.move (v := Value.int .i64 r145) rfl) ?_
     refine FL.v (E.add rfl rfl) ?_
     refine FL.v (E.assign (v := Value.int .i64 (wr (r145 + 1))) rfl) ?_
     refine FL.nil (FW.seq (FW.seq ?_))
     refine FW.draw (fun w' => Run w147.heap.size H111 w147 H111 w') (by kernel_rfl) (by kernel_rfl) (run_drew S149.sl) ?_
     refine FD.val rfl rfl rfl (fun w' hw' => (E.move k117)) ?_
     refine FD.val rfl rfl rfl (fun w' hw' => (E.move k116)) ?_
     obtain ⟨p163, cs164, pt165, l166, at167, rel168⟩ := p0.at (ix_nat hx22)
     obtain ⟨v169, v171, rfl, h170, h172⟩ := eSeqStep_open rel168
     refine FD.val rfl rfl rfl (fun w' hw' => (E.indexAddr te22 rfl rfl pt165)) ?_
     refine FD.val rfl rfl rfl (fun w' hw' => (E.fieldAddr tf55_2 rfl)) ?_
     refine FD.val rfl rfl rfl (fun w' hw' => (E.load rfl (run_load1 Tryz.isAgg9 ((at167.mono i113).now (S149.call hw').sl) rfl))) ?_
     refine FD.val rfl rfl rfl (fun w' hw' => (E.move (v := Value.int .i64 (wr (r145 + 1))) rfl)) ?_
     refine FD.call rfl rfl rfl (fun w' hw' => (E.call Tryz.call30 (A1 rfl))) (fun w' hw' => Calls.cls hw' (w_laws_markText (S149.call hw').sl (wr (r145 + 1)))) ?_
     refine FD.val rfl rfl rfl (fun w' hw' => (E.neqS rfl rfl)) ?_
     refine FD.nil ?_
     intro w173 r175
     have S174 := S149.call r175
     rcases ifB hp with ⟨c176, hp⟩ | ⟨c176, hp⟩
     ·
      refine FW.condT rfl c176 ?_
      refine FW.seq (FW.region ?_)
      refine FL.v (E.assign (v := Value.int .i64 (-1)) rfl) ?_
      refine FL.nil ?_
      refine FW.ret ?_
      obtain rfl := Option.some.inj hp
      exact ⟨nofun, rfl, ⟨.inr rfl, res1 rfl rfl ⟨rfl, S174.back⟩⟩⟩
     ·
      refine FW.condF rfl c176 ?_
      refine FW.skip (FW.seq (FW.region ?_))
      refine FL.v (E.move (v := Value.int .i64 (wr (r145 + 1))) rfl) ?_
      refine FL.v (E.add rfl rfl) ?_
      refine FL.v (E.assign (v := Value.int .i64 (wr ((wr (r145 + 1)) + 1))) rfl) ?_
      refine FL.nil (FW.seq (FW.seq (FW.region ?_)))
      refine FL.v (E.move k117) ?_
      refine FL.v (E.move k116) ?_
      obtain ⟨p177, cs178, pt179, l180, at181, rel182⟩ := p0.at (ix_nat hx22)
      obtain ⟨v183, v185, rfl, h184, h186⟩ := eSeqStep_open rel182
      refine FL.v (E.indexAddr te22 rfl rfl pt179) ?_
      refine FL.v (E.fieldAddr tf55_3 rfl) ?_
      refine FL.v (E.load rfl (run_load1 Tryz.isAgg3 ((at181.mono i113).now S174.sl) rfl)) ?_
      refine FL.v (E.move (v := Value.int .i64 (wr ((wr (r145 + 1)) + 1))) rfl) ?_
      refine FL.v (E.neq rfl rfl) ?_
      refine FL.nil ?_
      rcases ifB hp with ⟨c187, hp⟩ | ⟨c187, hp⟩
      ·
       refine FW.condT rfl c187 ?_
       refine FW.seq (FW.region ?_)
       refine FL.v (E.assign (v := Value.int .i64 (-1)) rfl) ?_
       refine FL.nil ?_
       refine FW.ret ?_
       obtain rfl := Option.some.inj hp
       exact ⟨nofun, rfl, ⟨.inr rfl, res1 rfl rfl ⟨rfl, S174.back⟩⟩⟩
      ·
       refine FW.condF rfl c187 ?_
       refine FW.skip (FW.seq (FW.region ?_))
       refine FL.v (E.move (v := Value.int .i64 (wr ((wr (r145 + 1)) + 1))) rfl) ?_
       refine FL.v (E.add rfl rfl) ?_
       refine FL.v (E.assign (v := Value.int .i64 (wr ((wr ((wr (r145 + 1)) + 1)) + 1))) rfl) ?_
       refine FL.nil (FW.seq (FW.seq (FW.region ?_)))
       refine FL.v (E.move k117) ?_
       refine FL.v (E.move k116) ?_
       obtain ⟨p188, cs189, pt190, l191, at192, rel193⟩ := p0.at (ix_nat hx22)
       obtain ⟨v194, v196, rfl, h195, h197⟩ := eSeqStep_open rel193
       refine FL.v (E.indexAddr te22 rfl rfl pt190) ?_
       refine FL.v (E.fieldAddr tf55_4 rfl) ?_
       refine FL.v (E.load rfl (run_load1 Tryz.isAgg3 ((at192.mono i113).now S174.sl) rfl)) ?_
       refine FL.v (E.move (v := Value.int .i64 (wr ((wr ((wr (r145 + 1)) + 1)) + 1))) rfl) ?_
       refine FL.v (E.neq rfl rfl) ?_
       refine FL.nil ?_
       rcases ifB hp with ⟨c198, hp⟩ | ⟨c198, hp⟩
       ·
        refine FW.condT rfl c198 ?_
        refine FW.seq (FW.region ?_)
        refine FL.v (E.assign (v := Value.int .i64 (-1)) rfl) ?_
        refine FL.nil ?_
        refine FW.ret ?_
        obtain rfl := Option.some.inj hp
        exact ⟨nofun, rfl, ⟨.inr rfl, res1 rfl rfl ⟨rfl, S174.back⟩⟩⟩
       ·
        refine FW.condF rfl c198 ?_
        refine FW.skip (FW.region ?_)
        refine FL.v (E.move (v := Value.int .i64 (wr ((wr ((wr (r145 + 1)) + 1)) + 1))) rfl) ?_
        refine FL.v (E.add rfl rfl) ?_
        refine FL.v (E.assign (v := Value.int .i64 (wr ((wr ((wr ((wr (r145 + 1)) + 1)) + 1)) + 1))) rfl) ?_
        refine FL.nil (FW.region ?_)
        refine FL.v (E.move k116) ?_
        refine FL.v (E.add rfl rfl) ?_
        refine FL.v (E.assign (v := Value.int .i64 (wr (((i22 : Nat) : Int) + 1))) rfl) ?_
        refine FL.nil ?_
        obtain rfl := Option.some.inj hp
        exact ⟨rfl, ⟨_, S174, i113, (nat_succ rfl (lt_of_get hx22) (p0.mono i113).le), k117, rfl⟩⟩
 ·
  clear hp hq
  rintro s22 f210 w209 ⟨H206, S207, i208, k211, k212, k213⟩
  refine FW.seq (FW.seq (FW.region ?_))
  refine FL.v (E.move k211) ?_
  refine FL.v (E.move k212) ?_
  refine FL.v (E.lenP te22 rfl p0) ?_
  refine FL.v (E.lss rfl rfl) ?_
  refine FL.nil ?_
  refine FW.condF rfl dlt_len ?_
  refine FW.exit ?_
  exact ⟨nofun, rfl, ⟨_, S207, i208, k213⟩⟩
 ·
  clear hq
  intro e f204 w203 hD
  rcases q22 with s22 | x22
  ·
   obtain ⟨rfl, hD⟩ := hD
   obtain ⟨H200, S201, i202, k205⟩ := hD
   replace hp := el_go hp
   refine FW.seq (FW.region ?_)
   refine FL.v (E.move k205) ?_
   refine FL.v (E.assign (v := Value.int .i64 s22) rfl) ?_
   refine FL.nil ?_
   refine FW.ret ?_
   obtain rfl := Option.some.inj hp
   exact ⟨.inr rfl, res1 rfl rfl ⟨rfl, S201.back⟩⟩
  ·
   obtain ⟨he, hL⟩ := hD
   replace hp := el_rt hp
   obtain rfl := Option.some.inj hp
   subst he
   exact hL

set_option maxHeartbeats 4000000 in
theorem w_laws_FnExactSchemeSequents {Ha : GH} {wa : World} (hs : Sl Ha wa) (a0 : Int) (a1 : ByteArray) (a2 : ByteArray) (a3 : ByteArray) (hT : TabS 0 PF.glob0 Ha) {r : Bool} (hp : (PF.laws_FnExactSchemeSequents a0 a1 a2 a3) = some r) :
  Calls Tryz.prog 3 #[Value.int .i64 a0, Value.string a1, Value.string a2, Value.string a3] wa (Sc Ha wa (Value.bool r)) := by
 unfold PF.laws_FnExactSchemeSequents at hp
 have S0 := St.init hs
 refine calls_go (N := 87) (args := [Value.int .i64 a0, Value.string a1, Value.string a2, Value.string a3]) Tryz.func3 rfl rfl rfl ?_
 refine FW.seq (FW.region ?_)
 refine FL.v (E.assign (v := Value.bool false) rfl) ?_
 refine FL.nil (FW.seq (FW.seq (FW.region ?_)))
 refine FL.v (E.move (v := Value.string a1) rfl) ?_
 refine FL.v (E.lenS Tryz.runUnderlying9 rfl) ?_
 refine FL.v (E.gtr rfl rfl) ?_
 refine FL.nil ?_
 rcases ifB hp with ⟨c21, hp⟩ | ⟨c21, hp⟩
 ·
  refine FW.condT rfl c21 ?_
  refine FW.seq (FW.region ?_)
  refine FL.v (E.assign (v := Value.bool true) rfl) ?_
  refine FL.nil ?_
  refine FW.ret ?_
  obtain rfl := Option.some.inj hp
  exact ⟨.inr rfl, res1 rfl rfl ⟨rfl, S0.back⟩⟩
 ·
  refine FW.condF rfl c21 ?_
  refine FW.skip (FW.seq (FW.seq (FW.region ?_)))
  refine FL.v (E.move (v := Value.string a2) rfl) ?_
  refine FL.v (E.lenS Tryz.runUnderlying9 rfl) ?_
  refine FL.v (E.gtr rfl rfl) ?_
  refine FL.nil ?_
  rcases ifB hp with ⟨c22, hp⟩ | ⟨c22, hp⟩
  ·
   refine FW.condT rfl c22 ?_
   refine FW.seq (FW.region ?_)
   refine FL.v (E.assign (v := Value.bool true) rfl) ?_
   refine FL.nil ?_
   refine FW.ret ?_
   obtain rfl := Option.some.inj hp
   exact ⟨.inr rfl, res1 rfl rfl ⟨rfl, S0.back⟩⟩
  ·
   refine FW.condF rfl c22 ?_
   refine FW.skip (FW.seq (FW.seq (FW.region ?_)))
   refine FL.v (E.move (v := Value.string a3) rfl) ?_
   refine FL.v (E.lenS Tryz.runUnderlying9 rfl) ?_
   refine FL.v (E.gtr rfl rfl) ?_
   refine FL.nil ?_
   rcases ifB hp with ⟨c23, hp⟩ | ⟨c23, hp⟩
   ·
    refine FW.condT rfl c23 ?_
    refine FW.seq (FW.region ?_)
    refine FL.v (E.assign (v := Value.bool true) rfl) ?_
    refine FL.nil ?_
    refine FW.ret ?_
    obtain rfl := Option.some.inj hp
    exact ⟨.inr rfl, res1 rfl rfl ⟨rfl, S0.back⟩⟩
   ·
    refine FW.condF rfl c23 ?_
    refine FW.skip (FW.seq (FW.region ?_))
    refine FL.v (E.move (v := Value.int .i64 a0) rfl) ?_
    refine FL.v (E.move (v := Value.string a1) rfl) ?_
    refine FL.v (E.move (v := Value.string a2) rfl) ?_
    refine FL.v (E.move (v := Value.string a3) rfl) ?_
    obtain ⟨r24, hr25, hp⟩ := bnd hp
    refine FL.call rfl rfl rfl (E.call Tryz.call5 (A4 rfl rfl rfl rfl)) (w_spec_SchemeSequents S0.sl a0 a1 a2 a3 hr25) ?_
    rintro e w27 ⟨H26, v30, n31, cs32, rfl, r29, els33⟩
    refine ⟨_, rfl, ?_⟩
    obtain ⟨H34, r35, i36, h37⟩ := r29.sealRow (i := 0) (l' := []) rfl els33 (by decide) rfl
    have S28 := S0.call r35.run
    have z39 := r35.run.bel.size
    have h37 := h37.mono (bw_of S28.sl)
    refine FL.v (E.move (v := Value.tuple #[v30, Value.bool r24.2]) rfl) ?_
    refine FL.v (E.extract (i := 0) rfl rfl) ?_
    refine FL.v (E.extract (i := 1) rfl rfl) ?_
    refine FL.v (E.assign (v := v30) rfl) ?_
    refine FL.v (E.assign (v := Value.bool r24.2) rfl) ?_
    refine FL.nil (FW.seq (FW.region ?_))
    refine FL.v (E.move (v := Value.int .i64 a0) rfl) ?_
    refine FL.v (E.move (v := Value.string a1) rfl) ?_
    refine FL.v (E.move (v := Value.string a2) rfl) ?_
    refine FL.v (E.move (v := Value.string a3) rfl) ?_
    obtain ⟨r40, hr41, hp⟩ := bnd hp
    refine FL.call rfl rfl rfl (E.call Tryz.call6 (A4 rfl rfl rfl rfl)) (w_impl_SchemeSequents S28.sl a0 a1 a2 a3 (hT.mono r35.run.inc) hr41) ?_
    rintro e w43 ⟨H42, v46, n47, cs48, rfl, r45, els49, nd50⟩
    refine ⟨_, rfl, ?_⟩
    have nv51 : New H34 cs48 := New.of_up S28.sl els49.dom
    obtain ⟨H52, r53, i54, ns57, nv56⟩ := r45.sealRowN (i := 0) (l' := []) rfl els49 nd50 (by decide) rfl
    have h55 := ns57.rsl
    have S44 := S28.call r53.run
    have z58 := r53.run.bel.size
    have h55 := h55.mono (sg_of S44.sl)
    have ns57 := ns57.mono (sg_of S44.sl)
    refine FL.v (E.move (v := Value.tuple #[v46, Value.bool r40.2]) rfl) ?_
    refine FL.v (E.extract (i := 0) rfl rfl) ?_
    refine FL.v (E.extract (i := 1) rfl rfl) ?_
    refine FL.v (E.assign (v := v46) rfl) ?_
    refine FL.v (E.assign (v := Value.bool r40.2) rfl) ?_
    refine FL.nil (FW.seq (FW.seq (FW.region ?_)))
    refine FL.v (E.move (v := v46) rfl) ?_
    refine FL.v (E.move (v := v30) rfl) ?_
    obtain ⟨r59, hr60, hp⟩ := bnd hp
    refine FL.call rfl rfl rfl (E.call Tryz.call7 (A2 rfl rfl)) (w_laws_eqSeqStepS S44.sl v46 r40.1 (h55.mono sgI) v30 r24.1 (h37.mono (bwI.tr r53.run.inc)) hr60) ?_
    rintro e w61 ⟨rfl, r62⟩
    refine ⟨_, rfl, ?_⟩
    have S63 := S44.call r62
    have z64 := r62.bel.size
    refine FL.v (E.not rfl) ?_
    refine FL.v (E.move (v := Value.bool (!r59)) rfl) ?_
    refine FL.cut 4 (fun f w => ∃ H : GH, St Ha wa H w [] ∧ Inc H52 H ∧ f 0 = Value.int .i64 a0 ∧ f 1 = Value.string a1 ∧ f 2 = Value.string a2 ∧ f 3 = Value.string a3 ∧ f 9 = v30 ∧ f 10 = Value.bool r24.2 ∧ f 11 = v46 ∧ f 50 = Value.bool (bif (!r59) then true else (!(r40.2 == r24.2)))) ?_ ?_
    ·
     rcases bcase (!r59) with c71 | c71
     ·
      refine FL.skip (wF_no rfl rfl rfl c71) rfl ?_
      refine FL.skip (wF_no rfl rfl rfl c71) rfl ?_
      refine FL.skip (wF_no rfl rfl rfl c71) rfl ?_
      refine FL.v (E.pickT rfl c71 rfl) ?_
      exact FL.nil ⟨rfl, _, S63, (Inc.rfl _), rfl, rfl, rfl, rfl, rfl, rfl, rfl, (congrArg Value.bool (bifT c71).symm)⟩
     ·
      refine FL.val (wF_yes rfl rfl rfl c71) rfl rfl (E.move (v := Value.bool r40.2) rfl) ?_
      refine FL.val (wF_yes rfl rfl rfl c71) rfl rfl (E.move (v := Value.bool r24.2) rfl) ?_
      refine FL.val (wF_yes rfl rfl rfl c71) rfl rfl (E.neqB Tryz.runUnderlying4 rfl rfl) ?_
      refine FL.v (E.pickF rfl c71 rfl) ?_
      exact FL.nil ⟨rfl, _, S63, (Inc.rfl _), rfl, rfl, rfl, rfl, rfl, rfl, rfl, (congrArg Value.bool (bifF c71).symm)⟩
    rintro f70 w69 ⟨H66, S67, i68, k72, k73, k74, k75, k76, k77, k78, k79⟩
    refine FL.nil ?_
    rcases ifB hp with ⟨c80, hp⟩ | ⟨c80, hp⟩
    ·
     refine FW.condT k79 c80 ?_
     refine FW.seq (FW.region ?_)
     refine FL.v (E.assign (v := Value.bool false) rfl) ?_
     refine FL.nil ?_
     refine FW.ret ?_
     obtain rfl := Option.some.inj hp
     exact ⟨.inr rfl, res1 rfl rfl ⟨rfl, S67.back⟩⟩
    ·
     refine FW.condF k79 c80 ?_
     refine FW.skip (FW.seq (FW.region ?_))
     refine FL.v (E.assign (v := Value.int .i64 1) rfl) ?_
     refine FL.nil (FW.seq (FW.region ?_))
     refine FL.v (E.move k78) ?_
     refine FL.v (E.move (v := Value.int .i64 1) rfl) ?_
     refine FL.call rfl rfl rfl (E.call Tryz.call8 (A2 rfl rfl)) (w_laws_markSeqStepS S67 hs v46 r40.1 cs48 (ns57.mono (sg_up (by omega) i68)) 1) ?_
     rintro e w82 ⟨H81, c87, rfl, S83, ns89, hb88, o85⟩
     refine ⟨_, rfl, ?_⟩
     have o86 := (ns57.mono (sg_mono (hi := w43.heap.size) i68)).outside o85
     have ns89 := ns57.span eSeqStep_loc (by omega) ns89 hb88
     have h84 := ns89.rsl
     have f90 := h37.mono ((bw_mono (hi := w27.heap.size) (r53.run.inc.tr i68)).tr (bw_keep o86 (by omega)))
     refine FL.v (E.assign (v := Value.int .i64 ((PF.laws_markSeqStepS r40.1 1).2)) rfl) ?_
     refine FL.nil (FW.seq (FW.region ?_))
     refine FL.v (E.assign (v := Value.int .i64 1) rfl) ?_
     refine FL.nil (FW.seq (FW.region ?_))
     refine FL.v (E.move k78) ?_
     refine FL.v (E.move (v := Value.int .i64 1) rfl) ?_
     obtain ⟨r91, hr92, hp⟩ := bnd hp
     refine FL.call rfl rfl rfl (E.call Tryz.call9 (A2 rfl rfl)) (w_laws_heldSeqStepS S83.sl v46 ((PF.laws_markSeqStepS r40.1 1).1) (h84.mono sgI) 1 hr92) ?_
     rintro e w93 ⟨rfl, r94⟩
     refine ⟨_, rfl, ?_⟩
     have S95 := S83.call r94
     have z96 := r94.bel.size
     refine FL.v (E.assign (v := Value.int .i64 r91) rfl) ?_
     refine FL.nil (FW.seq (FW.seq (FW.region ?_)))
     refine FL.v (E.move (v := Value.int .i64 r91) rfl) ?_
     refine FL.v (E.lss rfl rfl) ?_
     refine FL.nil ?_
     rcases ifB hp with ⟨c97, hp⟩ | ⟨c97, hp⟩
     ·
      refine FW.condT rfl c97 ?_
      refine FW.seq (FW.region ?_)
      refine FL.v (E.assign (v := Value.bool false) rfl) ?_
      refine FL.nil ?_
      refine FW.ret ?_
      obtain rfl := Option.some.inj hp
      exact ⟨.inr rfl, res1 rfl rfl ⟨rfl, S95.back⟩⟩
     ·
      refine FW.condF rfl c97 ?_
      refine FW.skip (FW.seq (FW.seq (FW.region ?_)))
      refine FL.v (E.move (v := Value.int .i64 r91) rfl) ?_
      refine FL.v (E.move (v := Value.int .i64 ((PF.laws_markSeqStepS r40.1 1).2)) rfl) ?_
      refine FL.v (E.neq rfl rfl) ?_
      refine FL.nil ?_
      rcases ifB hp with ⟨c98, hp⟩ | ⟨c98, hp⟩
      ·
       refine FW.condT rfl c98 ?_
       refine FW.seq (FW.region ?_)
       refine FL.v (E.assign (v := Value.bool false) rfl) ?_
       refine FL.nil ?_
       refine FW.ret ?_
       obtain rfl := Option.some.inj hp
       exact ⟨.inr rfl, res1 rfl rfl ⟨rfl, S95.back⟩⟩
      ·
       refine FW.condF rfl c98 ?_
       refine FW.skip (FW.seq (FW.region ?_))
       refine FL.v (E.move k72) ?_
       refine FL.v (E.move k73) ?_
       refine FL.v (E.move k74) ?_
       refine FL.v (E.move k75) ?_
       obtain ⟨r99, hr100, hp⟩ := bnd hp
       refine FL.call rfl rfl rfl (E.call Tryz.call6 (A4 rfl rfl rfl rfl)) (w_impl_SchemeSequents S95.sl a0 a1 a2 a3 (hT.mono S83.inc) hr100) ?_
       rintro e w102 ⟨H101, v105, n106, cs107, rfl, r104, els108, nd109⟩
       refine ⟨_, rfl, ?_⟩
       have nv110 : New H81 cs107 := New.of_up S95.sl els108.dom
       obtain ⟨H111, r112, i113, ns116, nv115⟩ := r104.sealRowN (i := 0) (l' := []) rfl els108 nd109 (by decide) rfl
       have h114 := ns116.rsl
       have S103 := S95.call r112.run
       have z117 := r112.run.bel.size
       have h114 := h114.mono (sg_of S103.sl)
       have ns116 := ns116.mono (sg_of S103.sl)
       refine FL.v (E.move (v := Value.tuple #[v105, Value.bool r99.2]) rfl) ?_
       refine FL.v (E.extract (i := 0) rfl rfl) ?_
       refine FL.v (E.extract (i := 1) rfl rfl) ?_
       refine FL.v (E.assign (v := v105) rfl) ?_
       refine FL.v (E.assign (v := Value.bool r99.2) rfl) ?_
       refine FL.nil (FW.seq (FW.seq (FW.region ?_)))
       refine FL.v (E.move (v := v105) rfl) ?_
       refine FL.v (E.move k76) ?_
       obtain ⟨r118, hr119, hp⟩ := bnd hp
       refine FL.call rfl rfl rfl (E.call Tryz.call7 (A2 rfl rfl)) (w_laws_eqSeqStepS S103.sl v105 r99.1 (h114.mono sgI) v30 r24.1 (f90.mono (bwI.tr r112.run.inc)) hr119) ?_
       rintro e w120 ⟨rfl, r121⟩
       refine ⟨_, rfl, ?_⟩
       have S122 := S103.call r121
       have z123 := r121.bel.size
       refine FL.v (E.not rfl) ?_
       refine FL.v (E.move (v := Value.bool (!r118)) rfl) ?_
       refine FL.cut 4 (fun f w => ∃ H : GH, St Ha wa H w [] ∧ Inc H111 H ∧ f 11 = v46 ∧ f 13 = Value.int .i64 ((PF.laws_markSeqStepS r40.1 1).2) ∧ f 78 = Value.bool (bif (!r118) then true else (!(r99.2 == r24.2)))) ?_ ?_
       ·
        rcases bcase (!r118) with c130 | c130
        ·
         refine FL.skip (wF_no rfl rfl rfl c130) rfl ?_
         refine FL.skip (wF_no rfl rfl rfl c130) rfl ?_
         refine FL.skip (wF_no rfl rfl rfl c130) rfl ?_
         refine FL.v (E.pickT rfl c130 rfl) ?_
         exact FL.nil ⟨rfl, _, S122, (Inc.rfl _), k78, rfl, (congrArg Value.bool (bifT c130).symm)⟩
        ·
         refine FL.val (wF_yes rfl rfl rfl c130) rfl rfl (E.move (v := Value.bool r99.2) rfl) ?_
         refine FL.val (wF_yes rfl rfl rfl c130) rfl rfl (E.move k77) ?_
         refine FL.val (wF_yes rfl rfl rfl c130) rfl rfl (E.neqB Tryz.runUnderlying4 rfl rfl) ?_
         refine FL.v (E.pickF rfl c130 rfl) ?_
         exact FL.nil ⟨rfl, _, S122, (Inc.rfl _), k78, rfl, (congrArg Value.bool (bifF c130).symm)⟩
       rintro f129 w128 ⟨H125, S126, i127, k131, k132, k133⟩
       refine FL.nil ?_
       rcases ifB hp with ⟨c134, hp⟩ | ⟨c134, hp⟩
       ·
        refine FW.condT k133 c134 ?_
        refine FW.seq (FW.region ?_)
        refine FL.v (E.assign (v := Value.bool false) rfl) ?_
        refine FL.nil ?_
        refine FW.ret ?_
        obtain rfl := Option.some.inj hp
        exact ⟨.inr rfl, res1 rfl rfl ⟨rfl, S126.back⟩⟩
       ·
        refine FW.condF k133 c134 ?_
        refine FW.skip (FW.seq (FW.region ?_))
        refine FL.v (E.assign (v := Value.int .i64 1) rfl) ?_
        refine FL.nil (FW.seq (FW.region ?_))
        refine FL.v (E.move k131) ?_
        refine FL.v (E.move (v := Value.int .i64 1) rfl) ?_
        obtain ⟨r135, hr136, hp⟩ := bnd hp
        refine FL.call rfl rfl rfl (E.call Tryz.call9 (A2 rfl rfl)) (w_laws_heldSeqStepS S126.sl v46 ((PF.laws_markSeqStepS r40.1 1).1) (h84.mono (sgI.tr (r112.run.inc.tr i127))) 1 hr136) ?_
        rintro e w137 ⟨rfl, r138⟩
        refine ⟨_, rfl, ?_⟩
        have S139 := S126.call r138
        have z140 := r138.bel.size
        refine FL.v (E.assign (v := Value.int .i64 r135) rfl) ?_
        refine FL.nil (FW.seq (FW.seq (FW.region ?_)))
        refine FL.v (E.move (v := Value.int .i64 r135) rfl) ?_
        refine FL.v (E.lss rfl rfl) ?_
        refine FL.nil ?_
        rcases ifB hp with ⟨c141, hp⟩ | ⟨c141, hp⟩
        ·
         refine FW.condT rfl c141 ?_
         refine FW.seq (FW.region ?_)
         refine FL.v (E.assign (v := Value.bool false) rfl) ?_
         refine FL.nil ?_
         refine FW.ret ?_
         obtain rfl := Option.some.inj hp
         exact ⟨.inr rfl, res1 rfl rfl ⟨rfl, S139.back⟩⟩
        ·
         refine FW.condF rfl c141 ?_
         refine FW.skip (FW.seq (FW.seq (FW.region ?_)))
         refine FL.v (E.move (v := Value.int .i64 r135) rfl) ?_
         refine FL.v (E.move k132) ?_
         refine FL.v (E.neq rfl rfl) ?_
         refine FL.nil ?_
         rcases ifB hp with ⟨c142, hp⟩ | ⟨c142, hp⟩
         ·
          refine FW.condT rfl c142 ?_
          refine FW.seq (FW.region ?_)
          refine FL.v (E.assign (v := Value.bool false) rfl) ?_
          refine FL.nil ?_
          refine FW.ret ?_
          obtain rfl := Option.some.inj hp
          exact ⟨.inr rfl, res1 rfl rfl ⟨rfl, S139.back⟩⟩
         ·
          refine FW.condF rfl c142 ?_
          refine FW.skip (FW.seq (FW.region ?_))
          refine FL.v (E.assign (v := Value.bool true) rfl) ?_
          refine FL.nil ?_
          refine FW.ret ?_
          obtain rfl := Option.some.inj hp
          exact ⟨.inr rfl, res1 rfl rfl ⟨rfl, S139.back⟩⟩

end Go.Proofs
