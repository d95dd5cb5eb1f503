/- Part of the walks and plain laws behind the claim: it proves helpers, under no condition beyond their own. -/
import Derived.Test.YtdkfkiifbagnnaaGreatJcWk3
set_option linter.unusedVariables false
set_option maxRecDepth 100000
namespace Go.Proofs
open Go.Mr Go.Pu Go.PF Go.RowKit

@[reducible] def p_impl_JoinByCut (Ha : GH) (wa : World) (r : ((List SeqStep) × Bool)) : Ending → World → Prop :=
 fun e w' => ∃ H' : GH, ∃ v0 : Value, ∃ n0 : Nat, ∃ c0 : List Value, e = .returned (Value.tuple #[v0, Value.bool r.2]) ∧ St Ha wa H' w' [.row 74 6 v0 n0 c0] ∧ Els (up wa.heap.size H') eSeqStep 6 c0 r.1 ∧ (bl c0).Nodup
set_option maxHeartbeats 4000000 in
theorem w_impl_JoinByCut {Ha : GH} {wa : World} (hs : Sl Ha wa) (v0 : Value) (a0 : List SeqStep) (p0 : RSl Ha eSeqStep 6 v0 a0) (v1 : Value) (a1 : List SeqStep) (p1 : RSl Ha eSeqStep 6 v1 a1) (a2 : ByteArray) {r : ((List SeqStep) × Bool)} (hp : (PF.impl_JoinByCut a0 a1 a2) = some r) :
  Calls Tryz.prog 23 #[v0, v1, Value.string a2] wa (p_impl_JoinByCut Ha wa r) := by
 unfold PF.impl_JoinByCut at hp
 have S0 := St.init hs
 refine calls_go (N := 75) (args := [v0, v1, Value.string a2]) Tryz.func23 rfl rfl rfl ?_
 refine FW.seq (FW.region ?_)
 refine FL.v (E.assign (v := Value.slice none 0 0) rfl) ?_
 refine FL.v (E.assign (v := Value.bool false) rfl) ?_
 refine FL.nil (FW.seq (FW.seq (FW.region ?_)))
 refine FL.v (E.move (v := v0) rfl) ?_
 obtain ⟨r21, hr22, hp⟩ := bnd hp
 refine FL.call rfl rfl rfl (E.call Tryz.call62 (A1 rfl)) (w_impl_isSeqProof S0.sl v0 a0 p0 hr22) ?_
 rintro e w23 ⟨rfl, r24⟩
 refine ⟨_, rfl, ?_⟩
 have S25 := S0.call r24
 refine FL.v (E.not rfl) ?_
 refine FL.v (E.move (v := Value.bool (!r21)) rfl) ?_
 obtain ⟨t31, hqt31, hp⟩ := bnd hp
 refine FL.cut 4 (fun f w => ∃ H : GH, St Ha wa H w [] ∧ Inc Ha H ∧ f 0 = v0 ∧ f 1 = v1 ∧ f 2 = Value.string a2 ∧ f 20 = Value.bool t31) ?_ ?_
 ·
  clear hp; have hp := hqt31; clear hqt31
  rcases ifB hp with ⟨c37, hp⟩ | ⟨c37, hp⟩
  ·
   refine FL.skip (wF_no rfl rfl rfl c37) rfl ?_
   refine FL.skip (wF_no rfl rfl rfl c37) rfl ?_
   refine FL.skip (wF_no rfl rfl rfl c37) rfl ?_
   obtain rfl := Option.some.inj hp
   refine FL.v (E.pickT rfl c37 rfl) ?_
   exact FL.nil ⟨rfl, _, S25, (Inc.rfl _), rfl, rfl, rfl, rfl⟩
  ·
   refine FL.val (wF_yes rfl rfl rfl c37) rfl rfl (E.move (v := v1) rfl) ?_
   obtain ⟨r38, hr39, hp⟩ := bnd hp
   refine FL.call (wF_yes rfl rfl rfl c37) rfl rfl (E.call Tryz.call62 (A1 rfl)) (w_impl_isSeqProof S25.sl v1 a1 p1 hr39) ?_
   rintro e w40 ⟨rfl, r41⟩
   refine ⟨_, rfl, ?_⟩
   have S42 := S25.call r41
   refine FL.val (wF_yes rfl rfl rfl c37) rfl rfl (E.not rfl) ?_
   obtain rfl := Option.some.inj hp
   refine FL.v (E.pickF rfl c37 rfl) ?_
   exact FL.nil ⟨rfl, _, S42, (Inc.rfl _), rfl, rfl, rfl, rfl⟩
 rintro f36 w35 ⟨H32, S33, i34, k43, k44, k45, k46⟩
 refine FL.v (E.move k46) ?_
 obtain ⟨t52, hqt52, hp⟩ := bnd hp
 refine FL.cut 4 (fun f w => ∃ H : GH, St Ha wa H w [] ∧ Inc H32 H ∧ f 0 = v0 ∧ f 1 = v1 ∧ f 2 = Value.string a2 ∧ f 25 = Value.bool t52) ?_ ?_
 ·
  clear hp; have hp := hqt52; clear hqt52
  rcases ifB hp with ⟨c58, hp⟩ | ⟨c58, hp⟩
  ·
   refine FL.skip (wF_no rfl rfl rfl c58) rfl ?_
   refine FL.skip (wF_no rfl rfl rfl c58) rfl ?_
   refine FL.skip (wF_no rfl rfl rfl c58) rfl ?_
   obtain rfl := Option.some.inj hp
   refine FL.v (E.pickT rfl c58 rfl) ?_
   exact FL.nil ⟨rfl, _, S33, (Inc.rfl _), k43, k44, k45, rfl⟩
  ·
   refine FL.val (wF_yes rfl rfl rfl c58) rfl rfl (E.move k45) ?_
   obtain ⟨r59, hr60, hp⟩ := bnd hp
   refine FL.call (wF_yes rfl rfl rfl c58) rfl rfl (E.call Tryz.call35 (A1 rfl)) (w_impl_IsFormula S33.sl a2 hr60) ?_
   rintro e w61 ⟨rfl, r62⟩
   refine ⟨_, rfl, ?_⟩
   have S63 := S33.call r62
   refine FL.val (wF_yes rfl rfl rfl c58) rfl rfl (E.not rfl) ?_
   obtain rfl := Option.some.inj hp
   refine FL.v (E.pickF rfl c58 rfl) ?_
   exact FL.nil ⟨rfl, _, S63, (Inc.rfl _), k43, k44, k45, rfl⟩
 rintro f57 w56 ⟨H53, S54, i55, k64, k65, k66, k67⟩
 refine FL.nil ?_
 rcases ifB hp with ⟨c68, hp⟩ | ⟨c68, hp⟩
 ·
  refine FW.condT k67 c68 ?_
  refine FW.seq (FW.region ?_)
  refine FL.v (E.assign (v := Value.slice none 0 0) rfl) ?_
  refine FL.v (E.assign (v := Value.bool false) rfl) ?_
  refine FL.nil ?_
  refine FW.ret ?_
  obtain rfl := Option.some.inj hp
  exact ⟨.inr rfl, res2 rfl rfl rfl ⟨_, _, _, _, rfl, (S54.nil 74 6), Els.nil, List.nodup_nil⟩⟩
 ·
  refine FW.condF k67 c68 ?_
  refine FW.skip (FW.seq (FW.region ?_))
  refine FL.v (E.move k64) ?_
  obtain ⟨r69, hr70, hp⟩ := bnd hp
  refine FL.call rfl rfl rfl (E.call Tryz.call66 (A1 rfl)) (w_impl_last_impl_SeqStep S54.sl v0 a0 (p0.mono (i34.tr i55)) hr70) ?_
  rintro e w72 ⟨H71, v75, v77, rfl, r74, h76, h78⟩
  refine ⟨_, rfl, ?_⟩
  have S73 := S54.call r74
  refine FL.v (E.fieldA (fa74_0 rfl) rfl) ?_
  refine FL.v (E.move k65) ?_
  obtain ⟨r79, hr80, hp⟩ := bnd hp
  refine FL.call rfl rfl rfl (E.call Tryz.call66 (A1 rfl)) (w_impl_last_impl_SeqStep S73.sl v1 a1 (p1.mono ((i34.tr i55).tr r74.inc)) hr80) ?_
  rintro e w82 ⟨H81, v85, v87, rfl, r84, h86, h88⟩
  refine ⟨_, rfl, ?_⟩
  have S83 := S73.call r84
  refine FL.v (E.fieldA (fa74_0 rfl) rfl) ?_
  obtain ⟨b89, w90, run91, S92⟩ := S83.alloc (P := Tryz.prog) 68 [Value.slice none 0 0, Value.slice none 0 0] Tryz.zeroValue68 rfl (ones_cons rfl (ones_cons rfl ones_nil))
  refine FL.v (E.alloc run91) ?_
  obtain ⟨b93, w94, run95, S96⟩ := S92.alloc (P := Tryz.prog) 68 [Value.slice none 0 0, Value.slice none 0 0] Tryz.zeroValue68 rfl (ones_cons rfl (ones_cons rfl ones_nil))
  refine FL.v (E.alloc run95) ?_
  obtain ⟨w97, run98, S99⟩ := S96.store0 (P := Tryz.prog) (t := 68) (i := 1) (cs' := [v75, v77]) (l' := [.box b93 68 [Value.slice none 0 0, Value.slice none 0 0], .box b89 68 [v75, v77]]) (v := Value.agg #[v75, v77]) (c := [v75, v77]) rfl Tryz.sizeOf68 rfl rfl (ones_cons h76.one (ones_cons h78.one ones_nil)) (Nat.le_of_ble_eq_true rfl) rfl rfl
  refine FL.act rfl rfl (E.store rfl rfl run98) ?_
  obtain ⟨H100, S101, i102, at103⟩ := S99.sealBox (i := 1) (l' := [.box b93 68 [Value.slice none 0 0, Value.slice none 0 0]]) rfl rfl
  obtain ⟨w104, run105, S106⟩ := S101.store0 (P := Tryz.prog) (t := 68) (i := 0) (cs' := [v85, v87]) (l' := [.box b93 68 [v85, v87]]) (v := Value.agg #[v85, v87]) (c := [v85, v87]) rfl Tryz.sizeOf68 rfl rfl (ones_cons h86.one (ones_cons h88.one ones_nil)) (Nat.le_of_ble_eq_true rfl) rfl rfl
  refine FL.act rfl rfl (E.store rfl rfl run105) ?_
  obtain ⟨H107, S108, i109, at110⟩ := S106.sealBox (i := 0) (l' := []) rfl rfl
  refine FL.nil (FW.seq (FW.seq ?_))
  obtain ⟨r114, hr115, hp⟩ := bnd hp
  obtain ⟨r131, hr132, hp⟩ := bnd hp
  obtain ⟨t110_19, hqt110_19, hp⟩ := bnd hp
  refine FW.drawB (Sl H107) (fun f w => ∃ H : GH, St Ha wa H w [] ∧ Inc H107 H ∧ f 0 = v0 ∧ f 1 = v1 ∧ f 2 = Value.string a2 ∧ f 8 = Value.pointer (some ⟨b89, 0, none⟩) ∧ f 9 = Value.pointer (some ⟨b93, 0, none⟩) ∧ f 51 = Value.bool t110_19) (by kernel_rfl) S108.sl ?_ ?_
  ·
   intro w111 r112
   have S113 := S108.call r112
   refine FB.t (i := 0) (bs 20 1) rfl (SP.nil S113.sl) rfl (fun w' hw' => (E.fieldAddr tf68_1 rfl)) ?_
   refine FB.t (i := 1) (bs 20 3) rfl (SP.nil S113.sl) rfl (fun w' hw' => (E.load rfl (run_load1 Tryz.isAgg22 ((at103.mono i109).now hw') rfl))) ?_
   refine FB.t (i := 2) (bs 20 7) rfl (SP.nil S113.sl) rfl (fun w' hw' => (E.fieldAddr tf68_1 rfl)) ?_
   refine FB.t (i := 3) (bs 20 15) rfl (SP.nil S113.sl) rfl (fun w' hw' => (E.load rfl (run_load1 Tryz.isAgg22 (at110.now hw') rfl))) ?_
   refine FB.t (i := 4) (bs 20 31) rfl (SP.nil S113.sl) rfl (fun w' hw' => (E.move k66)) ?_
   refine FB.all1 (i := 5) (by kernel_rfl) ?_
   ·
    obtain ⟨v26, w27, run28, S29⟩ := S113.buildSlice (P := Tryz.prog) te22 [Value.string a2] (parts := #[(0, Value.string a2)]) (cells := [Value.string a2]) rfl (szs_cons rfl szs_nil) (fc_cons rfl fc_nil) (ones_cons rfl ones_nil) (Nat.le_of_ble_eq_true rfl)
    have els30 : Els (up wa.heap.size H107) eS 1 [Value.string a2] [a2] := (Els.snoc (H := (up wa.heap.size H107)) (E := eS) (k := 1) (c := [Value.string a2]) (x := a2) Els.nil rfl rfl)
    refine FC.val (l' := (bs 20 63)) rfl (by kernel_rfl) rfl rfl rfl (E.buildSlice (B1 rfl) run28) ?_
    refine ⟨(SP.nil S29.sl), ?_⟩
    refine FB.all1 (i := 6) (by kernel_rfl) ?_
    ·
     obtain ⟨H47, S48, i49, h50, nv51⟩ := S29.sealRowU (i := 0) (l' := []) rfl els30 (by decide) rfl
     refine FC.call (l' := (bs 20 127)) rfl (by kernel_rfl) rfl rfl rfl (E.call Tryz.call68 (A2 rfl rfl)) (w_impl_with S48.sl v87 r79.seq.right (h88.mono ((i102.tr i109).tr i49)) v26 [a2] (h50.mono upI) hr115) ?_
     rintro e w117 ⟨H116, v122, n123, cs124, rfl, r119, els125⟩
     refine ⟨_, rfl, ?_⟩
     obtain ⟨H120, r119, hU121⟩ := St.lendX i49 S29.sl r119
     have els125 := els125.mono (hU121.tr (up_le S29.size))
     have S118 := S29.join (l' := [.row 9 1 v122 n123 cs124, .row 9 1 v26 1 [Value.string a2]]) r119 rfl
     refine ⟨(SP.nil (Sl.of_inc r119.run.inc S118.sl)), ?_⟩
     refine FB.all1 (i := 7) (by kernel_rfl) ?_
     ·
      obtain ⟨H126, S127, i128, h129, nv130⟩ := S118.sealRowU (i := 0) (l' := [.row 9 1 v26 1 [Value.string a2]]) rfl els125 (by decide) rfl
      refine FC.call (l' := (bs 20 255)) rfl (by kernel_rfl) rfl rfl rfl (E.call Tryz.call67 (A2 rfl rfl)) (w_slices_Equal_string_string S127.sl v77 r69.seq.right (h78.mono ((((r84.inc.tr i102).tr i109).tr r119.run.inc).tr i128)) v122 r114 (h129.mono upI) hr132) ?_
      rintro e w133 ⟨rfl, r134⟩
      refine ⟨_, rfl, ?_⟩
      have r134 := Run.lend i128 S118.sl r134
      have S135 := S118.call r134
      refine ⟨(SP.nil (Sl.of_inc r119.run.inc S135.sl)), ?_⟩
      refine FB.t (i := 8) (bs 20 511) rfl (SP.nil (Sl.of_inc r119.run.inc S135.sl)) rfl (fun w' hw' => (E.not rfl)) ?_
      refine FB.t (i := 9) (bs 20 1023) rfl (SP.nil (Sl.of_inc r119.run.inc S135.sl)) rfl (fun w' hw' => (E.move (v := Value.bool (!r131)) rfl)) ?_
      rcases ifB hqt110_19 with ⟨hc110_9, hqt110_19⟩ | ⟨hc110_9, hqt110_19⟩
      ·
       refine FB.skip (i := 10) (l' := (bs 20 2047)) rfl (by kernel_rfl) (by kernel_rfl) (by kernel_rfl) (by kernel_rfl) (by kernel_rfl) (SP.nil (Sl.of_inc r119.run.inc S135.sl)) (wF_no rfl rfl rfl hc110_9) rfl rfl ?_
       refine FB.skip (i := 11) (l' := (bs 20 4095)) rfl (by kernel_rfl) (by kernel_rfl) (by kernel_rfl) (by kernel_rfl) (by kernel_rfl) (SP.nil (Sl.of_inc r119.run.inc S135.sl)) (wF_no rfl rfl rfl hc110_9) rfl rfl ?_
       refine FB.skip (i := 12) (l' := (bs 20 8191)) rfl (by kernel_rfl) (by kernel_rfl) (by kernel_rfl) (by kernel_rfl) (by kernel_rfl) (SP.nil (Sl.of_inc r119.run.inc S135.sl)) (wF_no rfl rfl rfl hc110_9) rfl rfl ?_
       refine FB.skip (i := 13) (l' := (bs 20 16383)) rfl (by kernel_rfl) (by kernel_rfl) (by kernel_rfl) (by kernel_rfl) (by kernel_rfl) (SP.nil (Sl.of_inc r119.run.inc S135.sl)) (wF_no rfl rfl rfl hc110_9) rfl rfl ?_
       refine FB.skip (i := 14) (l' := (bs 20 32767)) rfl (by kernel_rfl) (by kernel_rfl) (by kernel_rfl) (by kernel_rfl) (by kernel_rfl) (SP.nil (Sl.of_inc r119.run.inc S135.sl)) (wF_no rfl rfl rfl hc110_9) rfl rfl ?_
       refine FB.skip (i := 15) (l' := (bs 20 65535)) rfl (by kernel_rfl) (by kernel_rfl) (by kernel_rfl) (by kernel_rfl) (by kernel_rfl) (SP.nil (Sl.of_inc r119.run.inc S135.sl)) (wF_no rfl rfl rfl hc110_9) rfl rfl ?_
       refine FB.skip (i := 16) (l' := (bs 20 131071)) rfl (by kernel_rfl) (by kernel_rfl) (by kernel_rfl) (by kernel_rfl) (by kernel_rfl) (SP.nil (Sl.of_inc r119.run.inc S135.sl)) (wF_no rfl rfl rfl hc110_9) rfl rfl ?_
       refine FB.skip (i := 17) (l' := (bs 20 262143)) rfl (by kernel_rfl) (by kernel_rfl) (by kernel_rfl) (by kernel_rfl) (by kernel_rfl) (SP.nil (Sl.of_inc r119.run.inc S135.sl)) (wF_no rfl rfl rfl hc110_9) rfl rfl ?_
       refine FB.skip (i := 18) (l' := (bs 20 524287)) rfl (by kernel_rfl) (by kernel_rfl) (by kernel_rfl) (by kernel_rfl) (by kernel_rfl) (SP.nil (Sl.of_inc r119.run.inc S135.sl)) (wF_no rfl rfl rfl hc110_9) rfl rfl ?_
       refine FB.t (i := 19) (bs 20 1048575) rfl (SP.nil (Sl.of_inc r119.run.inc S135.sl)) rfl (fun w' hw' => (E.asB (E.pickT rfl hc110_9 rfl) (Option.some.inj hqt110_19))) ?_
       exact FB.done (by kernel_rfl) ⟨_, (S135.sel [] (by decide) rfl), r119.run.inc, k64, k65, k66, rfl, rfl, rfl⟩
      ·
       obtain ⟨r146, hr147, hqt110_19⟩ := bnd hqt110_19
       obtain ⟨r163, hr164, hqt110_19⟩ := bnd hqt110_19
       refine FB.t (i := 10) (bs 20 2047) rfl (SP.nil (Sl.of_inc r119.run.inc S135.sl)) (wF_yes rfl rfl rfl hc110_9) (fun w' hw' => (E.fieldAddr tf68_0 rfl)) ?_
       refine FB.t (i := 11) (bs 20 4095) rfl (SP.nil (Sl.of_inc r119.run.inc S135.sl)) (wF_yes rfl rfl rfl hc110_9) (fun w' hw' => (E.load rfl (run_load1 Tryz.isAgg22 (at110.now hw') rfl))) ?_
       refine FB.t (i := 12) (bs 20 8191) rfl (SP.nil (Sl.of_inc r119.run.inc S135.sl)) (wF_yes rfl rfl rfl hc110_9) (fun w' hw' => (E.fieldAddr tf68_0 rfl)) ?_
       refine FB.t (i := 13) (bs 20 16383) rfl (SP.nil (Sl.of_inc r119.run.inc S135.sl)) (wF_yes rfl rfl rfl hc110_9) (fun w' hw' => (E.load rfl (run_load1 Tryz.isAgg22 ((at103.mono i109).now hw') rfl))) ?_
       refine FB.t (i := 14) (bs 20 32767) rfl (SP.nil (Sl.of_inc r119.run.inc S135.sl)) (wF_yes rfl rfl rfl hc110_9) (fun w' hw' => (E.move k66)) ?_
       refine FB.all1 (i := 15) (by kernel_rfl) ?_
       ·
        obtain ⟨v136, w137, run138, S139⟩ := S135.buildSlice (P := Tryz.prog) te22 [Value.string a2] (parts := #[(0, Value.string a2)]) (cells := [Value.string a2]) rfl (szs_cons rfl szs_nil) (fc_cons rfl fc_nil) (ones_cons rfl ones_nil) (Nat.le_of_ble_eq_true rfl)
        have els140 : Els (up wa.heap.size H120) eS 1 [Value.string a2] [a2] := (Els.snoc (H := (up wa.heap.size H120)) (E := eS) (k := 1) (c := [Value.string a2]) (x := a2) Els.nil rfl rfl)
        refine FC.val (l' := (bs 20 65535)) rfl (by kernel_rfl) (wF_yes rfl rfl rfl hc110_9) rfl rfl (E.buildSlice (B1 rfl) run138) ?_
        refine ⟨(SP.nil (Sl.of_inc r119.run.inc S139.sl)), ?_⟩
        refine FB.all1 (i := 16) (by kernel_rfl) ?_
        ·
         obtain ⟨H141, S142, i143, h144, nv145⟩ := S139.sealRowU (i := 0) (l' := [.row 9 1 v122 n123 cs124, .row 9 1 v26 1 [Value.string a2]]) rfl els140 (by decide) rfl
         refine FC.call (l' := (bs 20 131071)) rfl (by kernel_rfl) (wF_yes rfl rfl rfl hc110_9) rfl rfl (E.call Tryz.call68 (A2 rfl rfl)) (w_impl_with S142.sl v75 r69.seq.left (h76.mono ((((r84.inc.tr i102).tr i109).tr r119.run.inc).tr i143)) v136 [a2] (h144.mono upI) hr147) ?_
         rintro e w149 ⟨H148, v154, n155, cs156, rfl, r151, els157⟩
         refine ⟨_, rfl, ?_⟩
         obtain ⟨H152, r151, hU153⟩ := St.lendX i143 S139.sl r151
         have els157 := els157.mono (hU153.tr (up_le S139.size))
         have S150 := S139.join (l' := [.row 9 1 v154 n155 cs156, .row 9 1 v136 1 [Value.string a2], .row 9 1 v122 n123 cs124, .row 9 1 v26 1 [Value.string a2]]) r151 rfl
         refine ⟨(SP.nil (Sl.of_inc (r119.run.inc.tr r151.run.inc) S150.sl)), ?_⟩
         refine FB.all1 (i := 17) (by kernel_rfl) ?_
         ·
          obtain ⟨H158, S159, i160, h161, nv162⟩ := S150.sealRowU (i := 0) (l' := [.row 9 1 v136 1 [Value.string a2], .row 9 1 v122 n123 cs124, .row 9 1 v26 1 [Value.string a2]]) rfl els157 (by decide) rfl
          refine FC.call (l' := (bs 20 262143)) rfl (by kernel_rfl) (wF_yes rfl rfl rfl hc110_9) rfl rfl (E.call Tryz.call67 (A2 rfl rfl)) (w_slices_Equal_string_string S159.sl v85 r79.seq.left (h86.mono ((((i102.tr i109).tr r119.run.inc).tr r151.run.inc).tr i160)) v154 r146 (h161.mono upI) hr164) ?_
          rintro e w165 ⟨rfl, r166⟩
          refine ⟨_, rfl, ?_⟩
          have r166 := Run.lend i160 S150.sl r166
          have S167 := S150.call r166
          refine ⟨(SP.nil (Sl.of_inc (r119.run.inc.tr r151.run.inc) S167.sl)), ?_⟩
          refine FB.t (i := 18) (bs 20 524287) rfl (SP.nil (Sl.of_inc (r119.run.inc.tr r151.run.inc) S167.sl)) (wF_yes rfl rfl rfl hc110_9) (fun w' hw' => (E.not rfl)) ?_
          refine FB.t (i := 19) (bs 20 1048575) rfl (SP.nil (Sl.of_inc (r119.run.inc.tr r151.run.inc) S167.sl)) rfl (fun w' hw' => (E.asB (E.pickF rfl hc110_9 rfl) (Option.some.inj hqt110_19))) ?_
          exact FB.done (by kernel_rfl) ⟨_, (S167.sel [] (by decide) rfl), (r119.run.inc.tr r151.run.inc), k64, k65, k66, rfl, rfl, rfl⟩
  ·
   rintro f172 w171 ⟨H168, S169, i170, k173, k174, k175, k176, k177, k178⟩
   rcases ifB hp with ⟨c179, hp⟩ | ⟨c179, hp⟩
   ·
    refine FW.condT k178 c179 ?_
    refine FW.seq (FW.region ?_)
    refine FL.v (E.assign (v := Value.slice none 0 0) rfl) ?_
    refine FL.v (E.assign (v := Value.bool false) rfl) ?_
    refine FL.nil ?_
    refine FW.ret ?_
    obtain rfl := Option.some.inj hp
    exact ⟨.inr rfl, res2 rfl rfl rfl ⟨_, _, _, _, rfl, (S169.nil 74 6), Els.nil, List.nodup_nil⟩⟩
   ·
    refine FW.condF k178 c179 ?_
    refine FW.skip (FW.seq (FW.region ?_))
    refine FL.v (E.build (B0) (run_build _ 92 #[] #[Value.slice none 0 0, Value.bool false] (by rfl))) ?_
    obtain ⟨b180, w181, run182, S183⟩ := S169.box (P := Tryz.prog) 92 [Value.slice none 0 0, Value.bool false] (v := Value.agg #[Value.slice none 0 0, Value.bool false]) rfl (ones_cons rfl (ones_cons rfl ones_nil))
    refine FL.v (E.box rfl run182) ?_
    refine FL.v (E.assign (v := Value.pointer (some (⟨b180, 0, none⟩ : Addr))) rfl) ?_
    refine FL.nil (FW.seq (FW.region ?_))
    refine FL.v (E.move (v := Value.pointer (some (⟨b180, 0, none⟩ : Addr))) rfl) ?_
    refine FL.v (E.move k173) ?_
    have S184 := S183.nil 74 6
    have els185 : Els (up wa.heap.size H168) eSeqStep 6 [] [] := Els.nil
    obtain ⟨r186, hr187, hp⟩ := bnd hp
    have S188 : St Ha wa H168 w181 [.box b180 92 [(Value.slice none 0 0), Value.bool false], .row 74 6 (Value.slice none 0 0) 0 []] := S184.front 1 rfl rfl
    refine FL.call rfl rfl rfl (E.call Tryz.call69 (A2 rfl rfl)) (w_impl_sequencer_append (L := []) S188 (a0 := (sequencer.mk [] false)) els185 (show (bl []).Nodup from List.nodup_nil) v0 a0 (p0.mono ((((((i34.tr i55).tr r74.inc).tr r84.inc).tr i102).tr i109).tr i170)) hr187) ?_
    rintro e w190 ⟨H189, v193, n194, cs195, rfl, ⟨S191, i192⟩, els196, nd197⟩
    refine ⟨_, rfl, ?_⟩
    have S191 : St Ha wa H189 w190 [.box b180 92 [v193, Value.bool r186.2.bad], .row 74 6 v193 n194 cs195] := S191
    refine FL.v (E.assign (v := Value.int .i64 r186.1) rfl) ?_
    refine FL.nil (FW.seq (FW.region ?_))
    refine FL.v (E.move (v := Value.pointer (some (⟨b180, 0, none⟩ : Addr))) rfl) ?_
    refine FL.v (E.move k174) ?_
    obtain ⟨r198, hr199, hp⟩ := bnd hp
    have S200 : St Ha wa H189 w190 [.row 74 6 v193 n194 cs195, .box b180 92 [v193, Value.bool r186.2.bad]] := S191.front 1 rfl rfl
    have S201 : St Ha wa H189 w190 [.box b180 92 [v193, Value.bool r186.2.bad], .row 74 6 v193 n194 cs195] := S200.front 1 rfl rfl
    refine FL.call rfl rfl rfl (E.call Tryz.call69 (A2 rfl rfl)) (w_impl_sequencer_append (L := []) S201 (a0 := r186.2) els196 nd197 v1 a1 (p1.mono (((((((i34.tr i55).tr r74.inc).tr r84.inc).tr i102).tr i109).tr i170).tr i192)) hr199) ?_
    rintro e w203 ⟨H202, v206, n207, cs208, rfl, ⟨S204, i205⟩, els209, nd210⟩
    refine ⟨_, rfl, ?_⟩
    have S204 : St Ha wa H202 w203 [.box b180 92 [v206, Value.bool r198.2.bad], .row 74 6 v206 n207 cs208] := S204
    refine FL.v (E.assign (v := Value.int .i64 r198.1) rfl) ?_
    refine FL.nil (FW.seq (FW.region ?_))
    refine FL.v (E.move (v := Value.pointer (some (⟨b180, 0, none⟩ : Addr))) rfl) ?_
    refine FL.v (E.fieldAddr tf68_0 k176) ?_
    refine FL.v (E.load rfl (run_load1 Tryz.isAgg22 ((at103.mono (((i109.tr i170).tr i192).tr i205)).now S204.sl) rfl)) ?_
    refine FL.v (E.fieldAddr tf68_1 k177) ?_
    refine FL.v (E.load rfl (run_load1 Tryz.isAgg22 ((at110.mono ((i170.tr i192).tr i205)).now S204.sl) rfl)) ?_
    refine FL.v (E.build (B2 rfl rfl) (run_build _ 68 #[(0, v75), (1, v87)] #[v75, v87] (by obtain ⟨_, _, rfl⟩ := RSl.ln (h76.mono (((((r84.inc.tr i102).tr i109).tr i170).tr i192).tr i205)); obtain ⟨_, _, rfl⟩ := RSl.ln (h88.mono ((((i102.tr i109).tr i170).tr i192).tr i205)); rfl))) ?_
    refine FL.v (E.move k175) ?_
    refine FL.v (E.move (v := Value.int .i64 r186.1) rfl) ?_
    refine FL.v (E.move (v := Value.int .i64 r198.1) rfl) ?_
    refine FL.v (E.build (B5 rfl rfl rfl rfl rfl) (run_build _ 74 #[(0, Value.agg #[v75, v87]), (1, Value.int .i64 11), (2, Value.string a2), (3, Value.int .i64 r186.1), (4, Value.int .i64 r198.1)] #[v75, v87, Value.int .i64 11, Value.string a2, Value.int .i64 r186.1, Value.int .i64 r198.1] (by obtain ⟨_, _, rfl⟩ := RSl.ln (h76.mono (((((r84.inc.tr i102).tr i109).tr i170).tr i192).tr i205)); obtain ⟨_, _, rfl⟩ := RSl.ln (h88.mono ((((i102.tr i109).tr i170).tr i192).tr i205)); rfl))) ?_
    obtain ⟨s211, hq211, hp⟩ := bnd hp
    obtain ⟨R211, hR211⟩ : ∃ R211 : ((List SeqStep) × Bool × Int) → Ending → World → Prop, R211 = (fun s211 e w => ∃ H : GH, ∃ v212 : Value, ∃ n213 : Nat, ∃ cs214 : List Value, e = Ending.returned (Value.int .i64 s211.2.2) ∧ St Ha wa H w [.box b180 92 [v212, Value.bool s211.2.1], .row 74 6 v212 n213 cs214] ∧ Inc H202 H ∧ Els (up wa.heap.size H) eSeqStep 6 cs214 s211.1 ∧ (bl cs214).Nodup) := ⟨_, rfl⟩
    have hc211 : Calls Tryz.prog 70 #[Value.pointer (some (⟨b180, 0, none⟩ : Addr)), Value.agg #[v75, v87, Value.int .i64 11, Value.string a2, Value.int .i64 r186.1, Value.int .i64 r198.1]] w203 (R211 s211) := by
     clear hp; have hp := hq211; clear hq211
     refine calls_go (N := 46) (args := [Value.pointer (some (⟨b180, 0, none⟩ : Addr)), Value.agg #[v75, v87, Value.int .i64 11, Value.string a2, Value.int .i64 r186.1, Value.int .i64 r198.1]]) Tryz.func70 rfl rfl rfl ?_
     refine FW.seq (FW.region ?_)
     obtain ⟨b217, w218, run219, S220⟩ := S204.box (P := Tryz.prog) 74 [v75, v87, Value.int .i64 11, Value.string a2, Value.int .i64 r186.1, Value.int .i64 r198.1] (v := Value.agg #[v75, v87, Value.int .i64 11, Value.string a2, Value.int .i64 r186.1, Value.int .i64 r198.1]) rfl (ones_cons h76.one (ones_cons h88.one (ones_cons rfl (ones_cons rfl (ones_cons rfl (ones_cons rfl ones_nil))))))
     refine FL.v (E.box rfl run219) ?_
     refine FL.v (E.assign (v := Value.int .i64 0) rfl) ?_
     refine FL.nil (FW.seq (FW.region ?_))
     refine FL.v (E.fieldAddr tf74_0 rfl) ?_
     refine FL.v (E.load rfl (run_loadA Tryz.isAgg68 Tryz.sizeOf68 ((S220.box_now (i := 0) rfl).sub (j := 0) (n := 2) (c := [v75, v87]) rfl) rfl)) ?_
     obtain ⟨r221, hr222, hp⟩ := bnd hp
     refine FL.call rfl rfl rfl (E.call Tryz.call114 (A1 rfl)) (w_impl_Sequent_clone S220.sl (Sequent.mk r69.seq.left r79.seq.right) v75 (h76.mono (((((r84.inc.tr i102).tr i109).tr i170).tr i192).tr i205)) v87 (h88.mono ((((i102.tr i109).tr i170).tr i192).tr i205)) hr222) ?_
     rintro e w224 ⟨H223, v227, v233, rfl, r226, ⟨c230, c236, ns229, ns235, ap239⟩⟩
     refine ⟨_, rfl, ?_⟩
     have h228 := ns229.rsl
     have nv231 : New H202 c230 := New.of_up S220.sl (fun b hb => ns229.dom b (.inr hb))
     have nv232 : New H202 [v227] := New.of_up S220.sl h228.dom
     have h228 := h228.mono (up_le S220.size)
     have ns229 := ns229.mono (up_le S220.size)
     have h234 := ns235.rsl
     have nv237 : New H202 c236 := New.of_up S220.sl (fun b hb => ns235.dom b (.inr hb))
     have nv238 : New H202 [v233] := New.of_up S220.sl h234.dom
     have h234 := h234.mono (up_le S220.size)
     have ns235 := ns235.mono (up_le S220.size)
     have S225 := S220.call r226
     refine FL.v (E.fieldAddr tf74_0 rfl) ?_
     obtain ⟨w240, run241, S242⟩ := S225.store (P := Tryz.prog) (t := 68) (i := 0) (j := 0) (cs' := [v227, v233, Value.int .i64 11, Value.string a2, Value.int .i64 r186.1, Value.int .i64 r198.1]) (l' := [.box b217 74 [v227, v233, Value.int .i64 11, Value.string a2, Value.int .i64 r186.1, Value.int .i64 r198.1], .box b180 92 [v206, Value.bool r198.2.bad], .row 74 6 v206 n207 cs208]) (v := Value.agg #[v227, v233]) (c := [v227, v233]) rfl Tryz.sizeOf68 rfl rfl (ones_cons h228.one (ones_cons h234.one ones_nil)) (Nat.le_of_ble_eq_true rfl) rfl rfl
     refine FL.act rfl rfl (E.store rfl rfl run241) ?_
     obtain ⟨H243, S244, i245, at246⟩ := S242.sealBox (i := 0) (l' := [.box b180 92 [v206, Value.bool r198.2.bad], .row 74 6 v206 n207 cs208]) rfl rfl
     refine FL.nil (FW.seq (FW.region ?_))
     refine FL.v (E.move (v := Value.pointer (some (⟨b180, 0, none⟩ : Addr))) rfl) ?_
     refine FL.v (E.move (v := Value.pointer (some (⟨b180, 0, none⟩ : Addr))) rfl) ?_
     refine FL.v (E.nilCheck rfl) ?_
     refine FL.v (E.fieldAddr tf92_1 rfl) ?_
     refine FL.v (E.load rfl (run_load1 Tryz.isAgg4 (S244.box_now (i := 0) rfl) rfl)) ?_
     refine FL.v (E.move (v := Value.bool r198.2.bad) rfl) ?_
     obtain ⟨t247, hqt247, hp⟩ := bnd hp
     refine FL.cut 5 (fun f w => ∃ H : GH, St Ha wa H w [.box b180 92 [v206, Value.bool r198.2.bad], .row 74 6 v206 n207 cs208] ∧ Inc H243 H ∧ f 0 = Value.pointer (some (⟨b180, 0, none⟩ : Addr)) ∧ f 3 = Value.pointer (some ⟨b217, 0, none⟩) ∧ f 9 = Value.pointer (some (⟨b180, 0, none⟩ : Addr)) ∧ f 19 = Value.bool t247) ?_ ?_
     ·
      clear hp; have hp := hqt247; clear hqt247
      rcases ifB hp with ⟨c253, hp⟩ | ⟨c253, hp⟩
      ·
       refine FL.skip (wF_no rfl rfl rfl c253) rfl ?_
       refine FL.skip (wF_no rfl rfl rfl c253) rfl ?_
       refine FL.skip (wF_no rfl rfl rfl c253) rfl ?_
       refine FL.skip (wF_no rfl rfl rfl c253) rfl ?_
       obtain rfl := Option.some.inj hp
       refine FL.v (E.pickT rfl c253 rfl) ?_
       exact FL.nil ⟨rfl, _, S244, (Inc.rfl _), rfl, rfl, rfl, rfl⟩
      ·
       refine FL.val (wF_yes rfl rfl rfl c253) rfl rfl (E.fieldAddr tf74_0 rfl) ?_
       refine FL.val (wF_yes rfl rfl rfl c253) rfl rfl (E.load rfl (run_loadA Tryz.isAgg68 Tryz.sizeOf68 ((at246.now S244.sl).sub (j := 0) (n := 2) (c := [v227, v233]) rfl) rfl)) ?_
       obtain ⟨r254, hr255, hp⟩ := bnd hp
       refine FL.call (wF_yes rfl rfl rfl c253) rfl rfl (E.call Tryz.call120 (A1 rfl)) (w_impl_IsSequent S244.sl r221 v227 (h228.mono (upI.tr i245)) v233 (h234.mono (upI.tr i245)) hr255) ?_
       rintro e w256 ⟨rfl, r257⟩
       refine ⟨_, rfl, ?_⟩
       have S258 := S244.call r257
       refine FL.val (wF_yes rfl rfl rfl c253) rfl rfl (E.not rfl) ?_
       obtain rfl := Option.some.inj hp
       refine FL.v (E.pickF rfl c253 rfl) ?_
       exact FL.nil ⟨rfl, _, S258, (Inc.rfl _), rfl, rfl, rfl, rfl⟩
     rintro f252 w251 ⟨H248, S249, i250, k259, k260, k261, k262⟩
     refine FL.v (E.move k262) ?_
     refine FL.cut 7 (fun f w => ∃ H : GH, St Ha wa H w [.box b180 92 [v206, Value.bool r198.2.bad], .row 74 6 v206 n207 cs208] ∧ Inc H248 H ∧ f 0 = Value.pointer (some (⟨b180, 0, none⟩ : Addr)) ∧ f 3 = Value.pointer (some ⟨b217, 0, none⟩) ∧ f 9 = Value.pointer (some (⟨b180, 0, none⟩ : Addr)) ∧ f 27 = Value.bool (bif t247 then true else (decide (200 ≤ (len r198.2.steps))))) ?_ ?_
     ·
      rcases bcase t247 with c268 | c268
      ·
       refine FL.skip (wF_no rfl rfl rfl c268) rfl ?_
       refine FL.skip (wF_no rfl rfl rfl c268) rfl ?_
       refine FL.skip (wF_no rfl rfl rfl c268) rfl ?_
       refine FL.skip (wF_no rfl rfl rfl c268) rfl ?_
       refine FL.skip (wF_no rfl rfl rfl c268) rfl ?_
       refine FL.skip (wF_no rfl rfl rfl c268) rfl ?_
       refine FL.v (E.pickT rfl c268 rfl) ?_
       exact FL.nil ⟨rfl, _, S249, (Inc.rfl _), k259, k260, k261, (congrArg Value.bool (bifT c268).symm)⟩
      ·
       refine FL.val (wF_yes rfl rfl rfl c268) rfl rfl (E.move k259) ?_
       refine FL.val (wF_yes rfl rfl rfl c268) rfl rfl (E.nilCheck rfl) ?_
       refine FL.val (wF_yes rfl rfl rfl c268) rfl rfl (E.fieldAddr tf92_0 rfl) ?_
       refine FL.val (wF_yes rfl rfl rfl c268) rfl rfl (E.load rfl (run_load1 Tryz.isAgg24 (S249.box_now (i := 0) rfl) rfl)) ?_
       refine FL.val (wF_yes rfl rfl rfl c268) rfl rfl (E.lenO te24 rfl S249 (i := 1) rfl els209 (by decide)) ?_
       refine FL.val (wF_yes rfl rfl rfl c268) rfl rfl (E.geq rfl rfl) ?_
       refine FL.v (E.pickF rfl c268 rfl) ?_
       exact FL.nil ⟨rfl, _, S249, (Inc.rfl _), k259, k260, k261, (congrArg Value.bool (bifF c268).symm)⟩
     rintro f267 w266 ⟨H263, S264, i265, k269, k270, k271, k272⟩
     refine FL.v (E.nilCheck k271) ?_
     refine FL.v (E.fieldAddr tf92_1 rfl) ?_
     obtain ⟨w273, run274, S275⟩ := S264.store (P := Tryz.prog) (t := 4) (i := 0) (j := 1) (cs' := [v206, Value.bool (bif t247 then true else (decide (200 ≤ (len r198.2.steps))))]) (l' := [.box b180 92 [v206, Value.bool (bif t247 then true else (decide (200 ≤ (len r198.2.steps))))], .row 74 6 v206 n207 cs208]) (v := Value.bool (bif t247 then true else (decide (200 ≤ (len r198.2.steps))))) (c := [Value.bool (bif t247 then true else (decide (200 ≤ (len r198.2.steps))))]) rfl Tryz.sizeOf4 rfl rfl (ones_cons rfl ones_nil) (Nat.le_of_ble_eq_true rfl) rfl rfl
     refine FL.act rfl rfl (E.store rfl k272 run274) ?_
     refine FL.nil (FW.seq ?_)
     obtain ⟨xs286, hz287, hp⟩ := bnd hp
     refine FW.drawB (Sl H263) (fun f w => ∃ H : GH, ∃ v301 : Value, ∃ n302 : Nat, ∃ cs303 : List Value, St Ha wa H w [.box b180 92 [v301, Value.bool (bif t247 then true else (decide (200 ≤ (len r198.2.steps))))], .row 74 6 v301 n302 cs303] ∧ Inc H263 H ∧ Els (up wa.heap.size H) eSeqStep 6 cs303 xs286 ∧ (bl cs303).Nodup ∧ f 0 = Value.pointer (some (⟨b180, 0, none⟩ : Addr))) (by kernel_rfl) S275.sl ?_ ?_
     ·
      intro w276 r277
      have S278 := S275.call r277
      refine FB.phase [10] (fun w => WAt w (Addr.add ⟨b180, 0, none⟩ 0) [v206]) ?_
      refine FB.t (i := 0) (bs 11 1) rfl (SP.on ((S278.box_now (i := 0) rfl).sub (j := 0) (n := 1) (c := [v206]) rfl) (SP.nil S278.sl)) rfl (fun w' hw' => (E.move k269)) ?_
      refine FB.t (i := 1) (bs 11 3) rfl (SP.on ((S278.box_now (i := 0) rfl).sub (j := 0) (n := 1) (c := [v206]) rfl) (SP.nil S278.sl)) rfl (fun w' hw' => (E.move k269)) ?_
      refine FB.t (i := 2) (bs 11 7) rfl (SP.on ((S278.box_now (i := 0) rfl).sub (j := 0) (n := 1) (c := [v206]) rfl) (SP.nil S278.sl)) rfl (fun w' hw' => (E.nilCheck rfl)) ?_
      refine FB.t (i := 3) (bs 11 15) rfl (SP.on ((S278.box_now (i := 0) rfl).sub (j := 0) (n := 1) (c := [v206]) rfl) (SP.nil S278.sl)) rfl (fun w' hw' => (E.fieldAddr tf92_0 rfl)) ?_
      refine FB.p (i := 4) (bs 11 31) 0 [7, 8, 9, 10] rfl (SP.on ((S278.box_now (i := 0) rfl).sub (j := 0) (n := 1) (c := [v206]) rfl) (SP.nil S278.sl)) rfl rfl (fun w' hw' => (E.load rfl (run_load0 Tryz.isAgg24 hw' rfl))) ?_
      refine FB.t (i := 5) (bs 11 63) rfl (SP.on ((S278.box_now (i := 0) rfl).sub (j := 0) (n := 1) (c := [v206]) rfl) (SP.nil S278.sl)) rfl (fun w' hw' => (E.load k270 (run_loadA Tryz.isAgg74 Tryz.sizeOf74 ((at246.mono (i250.tr i265)).now hw') rfl))) ?_
      refine FB.all1 (i := 6) (by kernel_rfl) ?_
      ·
       obtain ⟨v279, w280, run281, S282⟩ := S278.buildSlice (P := Tryz.prog) te24 [Value.agg #[v227, v233, Value.int .i64 11, Value.string a2, Value.int .i64 r186.1, Value.int .i64 r198.1]] (parts := #[(0, Value.agg #[v227, v233, Value.int .i64 11, Value.string a2, Value.int .i64 r186.1, Value.int .i64 r198.1])]) (cells := [v227, v233, Value.int .i64 11, Value.string a2, Value.int .i64 r186.1, Value.int .i64 r198.1]) rfl (szs_cons rfl szs_nil) (fc_cons rfl fc_nil) (ones_cons h228.one (ones_cons h234.one (ones_cons rfl (ones_cons rfl (ones_cons rfl (ones_cons rfl ones_nil)))))) (Nat.le_of_ble_eq_true rfl)
       have els283 : Els (up wa.heap.size H263) eSeqStep 6 [v227, v233, Value.int .i64 11, Value.string a2, Value.int .i64 r186.1, Value.int .i64 r198.1] [(SeqStep.mk r221 11 a2 r186.1 r198.1)] := (Els.snoc (H := (up wa.heap.size H263)) (E := eSeqStep) (k := 6) (c := [v227, v233, Value.int .i64 11, Value.string a2, Value.int .i64 r186.1, Value.int .i64 r198.1]) (x := (SeqStep.mk r221 11 a2 r186.1 r198.1)) Els.nil rfl ⟨_, _, rfl, (h228.mono (up_mono ((i245.tr i250).tr i265))), (h234.mono (up_mono ((i245.tr i250).tr i265)))⟩)
       have nd284 : (bl [v227, v233, Value.int .i64 11, Value.string a2, Value.int .i64 r186.1, Value.int .i64 r198.1]).Nodup := by exact nd_two ap239.dis
       have nv285 : New H202 [v227, v233, Value.int .i64 11, Value.string a2, Value.int .i64 r186.1, Value.int .i64 r198.1] := by exact (New.two nv232 nv238)
       refine FC.val (l' := (bs 11 127)) rfl (by kernel_rfl) rfl rfl rfl (E.buildSlice (B1 rfl) run281) ?_
       refine ⟨(SP.on ((S282.box_now (i := 1) rfl).sub (j := 0) (n := 1) (c := [v206]) rfl) (SP.nil S282.sl)), ?_⟩
       refine FB.all1 (i := 7) (by kernel_rfl) ?_
       ·
        obtain ⟨v288, w291, n289, cs290, run292, S293, els294, ce295⟩ := S282.appendO (P := Tryz.prog) te24 (i := 2) (j := 0) rfl (els209.mono (up_mono (((r226.inc.tr i245).tr i250).tr i265))) rfl els283 hz287
        have S293 : St Ha wa H263 w291 [.row 74 6 v279 1 [v227, v233, Value.int .i64 11, Value.string a2, Value.int .i64 r186.1, Value.int .i64 r198.1], .box b180 92 [v206, Value.bool (bif t247 then true else (decide (200 ≤ (len r198.2.steps))))], .row 74 6 v288 n289 cs290] := S293
        have nd296 : (bl cs290).Nodup := by rw [ce295]; exact nd_app nd210 nd284 (Els.dom (els209.mono (upI.tr (Inc.rfl _)))) (by exact nv285)
        have S297 : St Ha wa H263 w291 [.box b180 92 [v206, Value.bool (bif t247 then true else (decide (200 ≤ (len r198.2.steps))))], .row 74 6 v288 n289 cs290] := S293.drop 0
        refine FC.val (l' := (bs 11 255)) rfl (by kernel_rfl) rfl rfl rfl (E.append rfl rfl run292) ?_
        refine ⟨(SP.on ((S297.box_now (i := 0) rfl).sub (j := 0) (n := 1) (c := [v206]) rfl) (SP.nil S297.sl)), ?_⟩
        refine FB.t (i := 8) (bs 11 511) rfl (SP.on ((S297.box_now (i := 0) rfl).sub (j := 0) (n := 1) (c := [v206]) rfl) (SP.nil S297.sl)) rfl (fun w' hw' => (E.nilCheck rfl)) ?_
        refine FB.t (i := 9) (bs 11 1023) rfl (SP.on ((S297.box_now (i := 0) rfl).sub (j := 0) (n := 1) (c := [v206]) rfl) (SP.nil S297.sl)) rfl (fun w' hw' => (E.fieldAddr tf92_0 rfl)) ?_
        refine FB.all1 (i := 10) (by kernel_rfl) ?_
        ·
         obtain ⟨w298, run299, S300⟩ := S297.store (P := Tryz.prog) (t := 24) (i := 0) (j := 0) (cs' := [v288, Value.bool (bif t247 then true else (decide (200 ≤ (len r198.2.steps))))]) (l' := [.box b180 92 [v288, Value.bool (bif t247 then true else (decide (200 ≤ (len r198.2.steps))))], .row 74 6 v288 n289 cs290]) (v := v288) (c := [v288]) rfl Tryz.sizeOf24 (Ln.cells (S297.row_ln (i := 1) rfl)) rfl (ones_cons (Ln.one (S297.row_ln (i := 1) rfl)) ones_nil) (Nat.le_of_ble_eq_true rfl) rfl rfl
         refine FC.act (l' := (bs 11 2047)) rfl (by kernel_rfl) rfl rfl (E.store rfl rfl run299) ?_
         refine ⟨(SP.o (SP.nil S300.sl)), ?_⟩
         exact FB.done (by kernel_rfl) ⟨_, _, _, _, S300, (Inc.rfl _), els294, nd296, k269⟩
     ·
      rintro f310 w309 ⟨H306, v301, n302, cs303, S307, i308, els304, nd305, k311⟩
      refine FW.seq (FW.region ?_)
      refine FL.v (E.move k311) ?_
      refine FL.v (E.nilCheck rfl) ?_
      refine FL.v (E.fieldAddr tf92_0 rfl) ?_
      refine FL.v (E.load rfl (run_load1 Tryz.isAgg24 (S307.box_now (i := 0) rfl) rfl)) ?_
      refine FL.v (E.lenO te24 rfl S307 (i := 1) rfl els304 (by decide)) ?_
      refine FL.v (E.sub rfl rfl) ?_
      refine FL.v (E.assign (v := Value.int .i64 (wr ((len xs286) - 1))) rfl) ?_
      refine FL.nil ?_
      refine FW.ret ?_
      obtain rfl := Option.some.inj hp
      exact ⟨.inr rfl, res1 rfl rfl (by rw [hR211]; exact ⟨_, _, _, _, rfl, S307, ((((r226.inc.tr i245).tr i250).tr i265).tr i308), els304, nd305⟩)⟩
    clear hq211
    refine FL.call rfl rfl rfl (E.call Tryz.call70 (A2 rfl rfl)) hc211 ?_
    intro e w315 hQ211
    rw [hR211] at hQ211
    obtain ⟨H312, v212, n213, cs214, rfl, S313, i314, els215, nd216⟩ := hQ211
    refine ⟨_, rfl, ?_⟩
    refine FL.nil (FW.seq (FW.region ?_))
    refine FL.v (E.move (v := Value.pointer (some (⟨b180, 0, none⟩ : Addr))) rfl) ?_
    obtain ⟨s316, hq316, hp⟩ := bnd hp
    obtain ⟨R316, hR316⟩ : ∃ R316 : (Bool × (List SeqStep)) → Ending → World → Prop, R316 = (fun s316 e w => ∃ H : GH, ∃ v317 : Value, ∃ n318 : Nat, ∃ cs319 : List Value, e = Ending.returned (Value.tuple #[v317, Value.bool s316.1]) ∧ St Ha wa H w [.box b180 92 [v212, Value.bool s211.2.1], .row 74 6 v317 n318 cs319] ∧ Inc H312 H ∧ Els (up wa.heap.size H) eSeqStep 6 cs319 s316.2 ∧ (bl cs319).Nodup) := ⟨_, rfl⟩
    have hc316 : Calls Tryz.prog 71 #[Value.pointer (some (⟨b180, 0, none⟩ : Addr))] w315 (R316 s316) := by
     clear hp; have hp := hq316; clear hq316
     refine calls_go (N := 12) (args := [Value.pointer (some (⟨b180, 0, none⟩ : Addr))]) Tryz.func71 rfl rfl rfl ?_
     refine FW.seq (FW.region ?_)
     refine FL.v (E.assign (v := Value.slice none 0 0) rfl) ?_
     refine FL.v (E.assign (v := Value.bool false) rfl) ?_
     refine FL.nil (FW.seq (FW.seq (FW.region ?_)))
     refine FL.v (E.move (v := Value.pointer (some (⟨b180, 0, none⟩ : Addr))) rfl) ?_
     refine FL.v (E.nilCheck rfl) ?_
     refine FL.v (E.fieldAddr tf92_1 rfl) ?_
     refine FL.v (E.load rfl (run_load1 Tryz.isAgg4 (S313.box_now (i := 0) rfl) rfl)) ?_
     refine FL.nil ?_
     rcases ifB hp with ⟨c322, hp⟩ | ⟨c322, hp⟩
     ·
      refine FW.condT rfl c322 ?_
      refine FW.seq (FW.region ?_)
      refine FL.v (E.assign (v := Value.slice none 0 0) rfl) ?_
      refine FL.v (E.assign (v := Value.bool false) rfl) ?_
      refine FL.nil ?_
      refine FW.ret ?_
      obtain rfl := Option.some.inj hp
      exact ⟨.inr rfl, res2 rfl rfl rfl (by rw [hR316]; exact ⟨_, _, _, _, rfl, ((S313.nil 74 6).sel [1, 0] (by decide) rfl), (Inc.rfl _), Els.nil, List.nodup_nil⟩)⟩
     ·
      refine FW.condF rfl c322 ?_
      refine FW.skip (FW.seq (FW.region ?_))
      refine FL.v (E.move (v := Value.pointer (some (⟨b180, 0, none⟩ : Addr))) rfl) ?_
      refine FL.v (E.nilCheck rfl) ?_
      refine FL.v (E.fieldAddr tf92_0 rfl) ?_
      refine FL.v (E.load rfl (run_load1 Tryz.isAgg24 (S313.box_now (i := 0) rfl) rfl)) ?_
      refine FL.v (E.assign (v := v212) rfl) ?_
      refine FL.v (E.assign (v := Value.bool true) rfl) ?_
      refine FL.nil ?_
      refine FW.ret ?_
      obtain rfl := Option.some.inj hp
      exact ⟨.inr rfl, res2 rfl rfl rfl (by rw [hR316]; exact ⟨_, _, _, _, rfl, S313, (Inc.rfl _), els215, nd216⟩)⟩
    clear hq316
    refine FL.call rfl rfl rfl (E.call Tryz.call71 (A1 rfl)) hc316 ?_
    intro e w326 hQ316
    rw [hR316] at hQ316
    obtain ⟨H323, v317, n318, cs319, rfl, S324, i325, els320, nd321⟩ := hQ316
    refine ⟨_, rfl, ?_⟩
    refine FL.v (E.extract (i := 0) rfl rfl) ?_
    refine FL.v (E.extract (i := 1) rfl rfl) ?_
    refine FL.v (E.assign (v := v317) rfl) ?_
    refine FL.v (E.assign (v := Value.bool s316.1) rfl) ?_
    refine FL.nil ?_
    refine FW.ret ?_
    obtain rfl := Option.some.inj hp
    exact ⟨.inr rfl, res2 rfl rfl rfl ⟨_, _, _, _, rfl, (S324.sel [1] (by decide) rfl), els320, nd321⟩⟩

set_option maxHeartbeats 4000000 in
theorem w_laws_eqStringS {Ha : GH} {wa : World} (hs : Sl Ha wa) (v0 : Value) (a0 : List ByteArray) (p0 : RSl Ha eS 1 v0 a0) (v1 : Value) (a1 : List ByteArray) (p1 : RSl Ha eS 1 v1 a1) {r : Bool} (hp : (PF.laws_eqStringS a0 a1) = some r) :
  Calls Tryz.prog 14 #[v0, v1] wa (Sc Ha wa (Value.bool r)) := by
 unfold PF.laws_eqStringS at hp
 have S0 := St.init hs
 refine calls_go (N := 26) (args := [v0, v1]) Tryz.func14 rfl rfl rfl ?_
 refine FW.seq (FW.region ?_)
 refine FL.v (E.assign (v := Value.bool false) rfl) ?_
 refine FL.nil (FW.seq (FW.seq (FW.region ?_)))
 refine FL.v (E.move (v := v0) rfl) ?_
 refine FL.v (E.lenP te22 rfl p0) ?_
 refine FL.v (E.move (v := v1) rfl) ?_
 refine FL.v (E.lenP te22 rfl p1) ?_
 refine FL.v (E.neq rfl rfl) ?_
 refine FL.nil ?_
 rcases ifB hp with ⟨c21, hp⟩ | ⟨c21, hp⟩
 ·
  refine FW.condT rfl c21 ?_
  refine FW.seq (FW.region ?_)
  refine FL.v (E.assign (v := Value.bool false) rfl) ?_
  refine FL.nil ?_
  refine FW.ret ?_
  obtain rfl := Option.some.inj hp
  exact ⟨.inr rfl, res1 rfl rfl ⟨rfl, S0.back⟩⟩
 ·
  refine FW.condF rfl c21 ?_
  refine FW.skip (FW.seq (FW.seq (FW.region ?_)))
  refine FL.v (E.assign (v := Value.int .i64 0) rfl) ?_
  refine FL.nil ?_
  obtain ⟨q23, hq, hp⟩ := bndR hp
  refine FW.block ?_
  refine FW.mono (FW.forL (S := Unit) (X := Bool) (fun (i23 : Nat) (s23 : Unit) f w => ∃ H : GH, St Ha wa H w [] ∧ Inc Ha H ∧ f 5 = Value.int .i64 ((i23 : Nat) : Int) ∧ f 0 = v0 ∧ f 1 = v1) (fun q e f w => match q with | .go s23 => e = Exit.exit 0 ∧ (∃ H : GH, St Ha wa H w [] ∧ Inc Ha H) | .rt x => ((e = Exit.ret) ∧ (fun e f w => (e = Exit.normal ∨ e = Exit.ret) ∧ ∀ a, Fr (δ := []) 26 a f → ∃ v, (results Tryz.f14 a.tmps).run Tryz.prog w = .ok v w ∧ (Sc Ha wa (Value.bool x)) (.returned v) w) e f w)) hq ⟨_, S0, (Inc.rfl _), rfl, rfl, rfl⟩ ?_ ?_) ?_
  ·
   clear hp hq
   rintro i23 y22 s23 f55 w54 ⟨H51, S52, i53, k56, k57, k58⟩ hx23 o78 hp
   refine FW.seq (FW.seq (FW.region ?_))
   refine FL.v (E.move k56) ?_
   refine FL.v (E.move k57) ?_
   refine FL.v (E.lenP te22 rfl p0) ?_
   refine FL.v (E.lssT rfl rfl (lss_len hx23)) ?_
   refine FL.nil ?_
   refine FW.condT rfl rfl ?_
   refine FW.skip (FW.seq (FW.block (FW.seq ?_)))
   refine FW.draw (fun w' => Run w54.heap.size H51 w54 H51 w') (by kernel_rfl) (by kernel_rfl) (run_drew S52.sl) ?_
   refine FD.val rfl rfl rfl (fun w' hw' => (E.move k57)) ?_
   refine FD.val rfl rfl rfl (fun w' hw' => (E.move k56)) ?_
   obtain ⟨p60, cs61, pt62, l63, at64, rel65⟩ := p0.at (ix_nat hx23)
   obtain rfl := eS_open rel65
   refine FD.val rfl rfl rfl (fun w' hw' => (E.indexAddr te22 rfl rfl pt62)) ?_
   refine FD.val rfl rfl rfl (fun w' hw' => (E.load rfl (run_load0 Tryz.isAgg9 ((at64.mono i53).now (S52.call hw').sl) rfl))) ?_
   refine FD.val rfl rfl rfl (fun w' hw' => (E.move k58)) ?_
   refine FD.val rfl rfl rfl (fun w' hw' => (E.move k56)) ?_
   obtain ⟨x72, hx73, hp⟩ := bnd hp
   obtain ⟨p66, cs67, pt68, l69, at70, rel71⟩ := p1.at hx73
   obtain rfl := eS_open rel71
   refine FD.val rfl rfl rfl (fun w' hw' => (E.indexAddr te22 rfl rfl pt68)) ?_
   refine FD.val rfl rfl rfl (fun w' hw' => (E.load rfl (run_load0 Tryz.isAgg9 ((at70.mono i53).now (S52.call hw').sl) rfl))) ?_
   refine FD.val rfl rfl rfl (fun w' hw' => (E.neqS rfl rfl)) ?_
   refine FD.nil ?_
   intro w74 r76
   have S75 := S52.call r76
   rcases ifB hp with ⟨c77, hp⟩ | ⟨c77, hp⟩
   ·
    refine FW.condT rfl c77 ?_
    refine FW.seq (FW.region ?_)
    refine FL.v (E.assign (v := Value.bool false) rfl) ?_
    refine FL.nil ?_
    refine FW.ret ?_
    obtain rfl := Option.some.inj hp
    exact ⟨nofun, rfl, ⟨.inr rfl, res1 rfl rfl ⟨rfl, S75.back⟩⟩⟩
   ·
    refine FW.condF rfl c77 ?_
    refine FW.skip (FW.region ?_)
    refine FL.v (E.move k56) ?_
    refine FL.v (E.add rfl rfl) ?_
    refine FL.v (E.assign (v := Value.int .i64 (wr (((i23 : Nat) : Int) + 1))) rfl) ?_
    refine FL.nil ?_
    obtain rfl := Option.some.inj hp
    exact ⟨rfl, ⟨_, S75, i53, (nat_succ rfl (lt_of_get hx23) (p0.mono i53).le), k57, k58⟩⟩
  ·
   clear hp hq
   rintro s23 f88 w87 ⟨H84, S85, i86, k89, k90, k91⟩
   refine FW.seq (FW.seq (FW.region ?_))
   refine FL.v (E.move k89) ?_
   refine FL.v (E.move k90) ?_
   refine FL.v (E.lenP te22 rfl p0) ?_
   refine FL.v (E.lss rfl rfl) ?_
   refine FL.nil ?_
   refine FW.condF rfl dlt_len ?_
   refine FW.exit ?_
   exact ⟨nofun, rfl, ⟨_, S85, i86⟩⟩
  ·
   clear hq
   intro e f83 w82 hD
   rcases q23 with s23 | x23
   ·
    obtain ⟨rfl, hD⟩ := hD
    obtain ⟨H79, S80, i81⟩ := hD
    replace hp := el_go hp
    refine FW.seq (FW.region ?_)
    refine FL.v (E.assign (v := Value.bool true) rfl) ?_
    refine FL.nil ?_
    refine FW.ret ?_
    obtain rfl := Option.some.inj hp
    exact ⟨.inr rfl, res1 rfl rfl ⟨rfl, S80.back⟩⟩
   ·
    obtain ⟨he, hL⟩ := hD
    replace hp := el_rt hp
    obtain rfl := Option.some.inj hp
    subst he
    exact hL

theorem w_laws_eqSequent {Ha : GH} {wa : World} (hs : Sl Ha wa) (a0 : Sequent) (v0_0 : Value) (p0_0 : RSl Ha eS 1 v0_0 a0.left) (v0_1 : Value) (p0_1 : RSl Ha eS 1 v0_1 a0.right) (a1 : Sequent) (v1_0 : Value) (p1_0 : RSl Ha eS 1 v1_0 a1.left) (v1_1 : Value) (p1_1 : RSl Ha eS 1 v1_1 a1.right) {r : Bool} (hp : (PF.laws_eqSequent a0 a1) = some r) :
  Calls Tryz.prog 105 #[Value.agg #[v0_0, v0_1], Value.agg #[v1_0, v1_1]] wa (Sc Ha wa (Value.bool r)) := by
 unfold PF.laws_eqSequent at hp
 have S0 := St.init hs
 refine calls_go (N := 17) (args := [Value.agg #[v0_0, v0_1], Value.agg #[v1_0, v1_1]]) Tryz.func105 rfl rfl rfl ?_
 refine FW.seq (FW.region ?_)
 obtain ⟨b21, w22, run23, S24⟩ := S0.box (P := Tryz.prog) 68 [v0_0, v0_1] (v := Value.agg #[v0_0, v0_1]) rfl (ones_cons p0_0.one (ones_cons p0_1.one ones_nil))
 refine FL.v (E.box rfl run23) ?_
 obtain ⟨H25, S26, i27, at28⟩ := S24.sealBox (i := 0) (l' := []) rfl rfl
 obtain ⟨b29, w30, run31, S32⟩ := S26.box (P := Tryz.prog) 68 [v1_0, v1_1] (v := Value.agg #[v1_0, v1_1]) rfl (ones_cons p1_0.one (ones_cons p1_1.one ones_nil))
 refine FL.v (E.box rfl run31) ?_
 obtain ⟨H33, S34, i35, at36⟩ := S32.sealBox (i := 0) (l' := []) rfl rfl
 refine FL.v (E.assign (v := Value.bool false) rfl) ?_
 refine FL.nil (FW.seq (FW.seq (FW.region ?_)))
 refine FL.v (E.fieldAddr tf68_0 rfl) ?_
 refine FL.v (E.load rfl (run_load1 Tryz.isAgg22 ((at28.mono i35).now S34.sl) rfl)) ?_
 refine FL.v (E.fieldAddr tf68_0 rfl) ?_
 refine FL.v (E.load rfl (run_load1 Tryz.isAgg22 (at36.now S34.sl) rfl)) ?_
 obtain ⟨r37, hr38, hp⟩ := bnd hp
 refine FL.call rfl rfl rfl (E.call Tryz.call14 (A2 rfl rfl)) (w_laws_eqStringS S34.sl v0_0 a0.left (p0_0.mono (i27.tr i35)) v1_0 a1.left (p1_0.mono (i27.tr i35)) hr38) ?_
 rintro e w39 ⟨rfl, r40⟩
 refine ⟨_, rfl, ?_⟩
 have S41 := S34.call r40
 refine FL.v (E.not rfl) ?_
 refine FL.nil ?_
 rcases ifB hp with ⟨c42, hp⟩ | ⟨c42, hp⟩
 ·
  refine FW.condT rfl c42 ?_
  refine FW.seq (FW.region ?_)
  refine FL.v (E.assign (v := Value.bool false) rfl) ?_
  refine FL.nil ?_
  refine FW.ret ?_
  obtain rfl := Option.some.inj hp
  exact ⟨.inr rfl, res1 rfl rfl ⟨rfl, S41.back⟩⟩
 ·
  refine FW.condF rfl c42 ?_
  refine FW.skip (FW.seq (FW.seq (FW.region ?_)))
  refine FL.v (E.fieldAddr tf68_1 rfl) ?_
  refine FL.v (E.load rfl (run_load1 Tryz.isAgg22 ((at28.mono i35).now S41.sl) rfl)) ?_
  refine FL.v (E.fieldAddr tf68_1 rfl) ?_
  refine FL.v (E.load rfl (run_load1 Tryz.isAgg22 (at36.now S41.sl) rfl)) ?_
  obtain ⟨r43, hr44, hp⟩ := bnd hp
  refine FL.call rfl rfl rfl (E.call Tryz.call14 (A2 rfl rfl)) (w_laws_eqStringS S41.sl v0_1 a0.right (p0_1.mono (i27.tr i35)) v1_1 a1.right (p1_1.mono (i27.tr i35)) hr44) ?_
  rintro e w45 ⟨rfl, r46⟩
  refine ⟨_, rfl, ?_⟩
  have S47 := S41.call r46
  refine FL.v (E.not rfl) ?_
  refine FL.nil ?_
  rcases ifB hp with ⟨c48, hp⟩ | ⟨c48, hp⟩
  ·
   refine FW.condT rfl c48 ?_
   refine FW.seq (FW.region ?_)
   refine FL.v (E.assign (v := Value.bool false) rfl) ?_
   refine FL.nil ?_
   refine FW.ret ?_
   obtain rfl := Option.some.inj hp
   exact ⟨.inr rfl, res1 rfl rfl ⟨rfl, S47.back⟩⟩
  ·
   refine FW.condF rfl c48 ?_
   refine FW.skip (FW.seq (FW.region ?_))
   refine FL.v (E.assign (v := Value.bool true) rfl) ?_
   refine FL.nil ?_
   refine FW.ret ?_
   obtain rfl := Option.some.inj hp
   exact ⟨.inr rfl, res1 rfl rfl ⟨rfl, S47.back⟩⟩

set_option maxHeartbeats 4000000 in
theorem w_laws_eqSeqStep {Ha : GH} {wa : World} (hs : Sl Ha wa) (a0 : SeqStep) (v0_0 : Value) (p0_0 : RSl Ha eS 1 v0_0 a0.seq.left) (v0_1 : Value) (p0_1 : RSl Ha eS 1 v0_1 a0.seq.right) (a1 : SeqStep) (v1_0 : Value) (p1_0 : RSl Ha eS 1 v1_0 a1.seq.left) (v1_1 : Value) (p1_1 : RSl Ha eS 1 v1_1 a1.seq.right) {r : Bool} (hp : (PF.laws_eqSeqStep a0 a1) = some r) :
  Calls Tryz.prog 54 #[Value.agg #[v0_0, v0_1, Value.int .i64 a0.rule, Value.string a0.main, Value.int .i64 a0.a, Value.int .i64 a0.b], Value.agg #[v1_0, v1_1, Value.int .i64 a1.rule, Value.string a1.main, Value.int .i64 a1.a, Value.int .i64 a1.b]] wa (Sc Ha wa (Value.bool r)) := by
 unfold PF.laws_eqSeqStep at hp
 have S0 := St.init hs
 refine calls_go (N := 31) (args := [Value.agg #[v0_0, v0_1, Value.int .i64 a0.rule, Value.string a0.main, Value.int .i64 a0.a, Value.int .i64 a0.b], Value.agg #[v1_0, v1_1, Value.int .i64 a1.rule, Value.string a1.main, Value.int .i64 a1.a, Value.int .i64 a1.b]]) Tryz.func54 rfl rfl rfl ?_
 refine FW.seq (FW.region ?_)
 obtain ⟨b21, w22, run23, S24⟩ := S0.box (P := Tryz.prog) 74 [v0_0, v0_1, Value.int .i64 a0.rule, Value.string a0.main, Value.int .i64 a0.a, Value.int .i64 a0.b] (v := Value.agg #[v0_0, v0_1, Value.int .i64 a0.rule, Value.string a0.main, Value.int .i64 a0.a, Value.int .i64 a0.b]) rfl (ones_cons p0_0.one (ones_cons p0_1.one (ones_cons rfl (ones_cons rfl (ones_cons rfl (ones_cons rfl ones_nil))))))
 refine FL.v (E.box rfl run23) ?_
 obtain ⟨H25, S26, i27, at28⟩ := S24.sealBox (i := 0) (l' := []) rfl rfl
 obtain ⟨b29, w30, run31, S32⟩ := S26.box (P := Tryz.prog) 74 [v1_0, v1_1, Value.int .i64 a1.rule, Value.string a1.main, Value.int .i64 a1.a, Value.int .i64 a1.b] (v := Value.agg #[v1_0, v1_1, Value.int .i64 a1.rule, Value.string a1.main, Value.int .i64 a1.a, Value.int .i64 a1.b]) rfl (ones_cons p1_0.one (ones_cons p1_1.one (ones_cons rfl (ones_cons rfl (ones_cons rfl (ones_cons rfl ones_nil))))))
 refine FL.v (E.box rfl run31) ?_
 obtain ⟨H33, S34, i35, at36⟩ := S32.sealBox (i := 0) (l' := []) rfl rfl
 refine FL.v (E.assign (v := Value.bool false) rfl) ?_
 refine FL.nil (FW.seq (FW.seq (FW.region ?_)))
 refine FL.v (E.fieldAddr tf74_0 rfl) ?_
 refine FL.v (E.load rfl (run_loadA Tryz.isAgg68 Tryz.sizeOf68 (((at28.mono i35).now S34.sl).sub (j := 0) (n := 2) (c := [v0_0, v0_1]) rfl) rfl)) ?_
 refine FL.v (E.fieldAddr tf74_0 rfl) ?_
 refine FL.v (E.load rfl (run_loadA Tryz.isAgg68 Tryz.sizeOf68 ((at36.now S34.sl).sub (j := 0) (n := 2) (c := [v1_0, v1_1]) rfl) rfl)) ?_
 obtain ⟨r37, hr38, hp⟩ := bnd hp
 refine FL.call rfl rfl rfl (E.call Tryz.call105 (A2 rfl rfl)) (w_laws_eqSequent S34.sl a0.seq v0_0 (p0_0.mono (i27.tr i35)) v0_1 (p0_1.mono (i27.tr i35)) a1.seq v1_0 (p1_0.mono (i27.tr i35)) v1_1 (p1_1.mono (i27.tr i35)) hr38) ?_
 rintro e w39 ⟨rfl, r40⟩
 refine ⟨_, rfl, ?_⟩
 have S41 := S34.call r40
 refine FL.v (E.not rfl) ?_
 refine FL.nil ?_
 rcases ifB hp with ⟨c42, hp⟩ | ⟨c42, hp⟩
 ·
  refine FW.condT rfl c42 ?_
  refine FW.seq (FW.region ?_)
  refine FL.v (E.assign (v := Value.bool false) rfl) ?_
  refine FL.nil ?_
  refine FW.ret ?_
  obtain rfl := Option.some.inj hp
  exact ⟨.inr rfl, res1 rfl rfl ⟨rfl, S41.back⟩⟩
 ·
  refine FW.condF rfl c42 ?_
  refine FW.skip (FW.seq (FW.seq (FW.region ?_)))
  refine FL.v (E.fieldAddr tf74_1 rfl) ?_
  refine FL.v (E.load rfl (run_load1 Tryz.isAgg3 ((at28.mono i35).now S41.sl) rfl)) ?_
  refine FL.v (E.fieldAddr tf74_1 rfl) ?_
  refine FL.v (E.load rfl (run_load1 Tryz.isAgg3 (at36.now S41.sl) rfl)) ?_
  refine FL.v (E.neq rfl rfl) ?_
  refine FL.nil ?_
  rcases ifB hp with ⟨c43, hp⟩ | ⟨c43, hp⟩
  ·
   refine FW.condT rfl c43 ?_
   refine FW.seq (FW.region ?_)
   refine FL.v (E.assign (v := Value.bool false) rfl) ?_
   refine FL.nil ?_
   refine FW.ret ?_
   obtain rfl := Option.some.inj hp
   exact ⟨.inr rfl, res1 rfl rfl ⟨rfl, S41.back⟩⟩
  ·
   refine FW.condF rfl c43 ?_
   refine FW.skip (FW.seq (FW.seq (FW.region ?_)))
   refine FL.v (E.fieldAddr tf74_2 rfl) ?_
   refine FL.v (E.load rfl (run_load1 Tryz.isAgg9 ((at28.mono i35).now S41.sl) rfl)) ?_
   refine FL.v (E.fieldAddr tf74_2 rfl) ?_
   refine FL.v (E.load rfl (run_load1 Tryz.isAgg9 (at36.now S41.sl) rfl)) ?_
   refine FL.v (E.neqS rfl rfl) ?_
   refine FL.nil ?_
   rcases ifB hp with ⟨c44, hp⟩ | ⟨c44, hp⟩
   ·
    refine FW.condT rfl c44 ?_
    refine FW.seq (FW.region ?_)
    refine FL.v (E.assign (v := Value.bool false) rfl) ?_
    refine FL.nil ?_
    refine FW.ret ?_
    obtain rfl := Option.some.inj hp
    exact ⟨.inr rfl, res1 rfl rfl ⟨rfl, S41.back⟩⟩
   ·
    refine FW.condF rfl c44 ?_
    refine FW.skip (FW.seq (FW.seq (FW.region ?_)))
    refine FL.v (E.fieldAddr tf74_3 rfl) ?_
    refine FL.v (E.load rfl (run_load1 Tryz.isAgg3 ((at28.mono i35).now S41.sl) rfl)) ?_
    refine FL.v (E.fieldAddr tf74_3 rfl) ?_
    refine FL.v (E.load rfl (run_load1 Tryz.isAgg3 (at36.now S41.sl) rfl)) ?_
    refine FL.v (E.neq rfl rfl) ?_
    refine FL.nil ?_
    rcases ifB hp with ⟨c45, hp⟩ | ⟨c45, hp⟩
    ·
     refine FW.condT rfl c45 ?_
     refine FW.seq (FW.region ?_)
     refine FL.v (E.assign (v := Value.bool false) rfl) ?_
     refine FL.nil ?_
     refine FW.ret ?_
     obtain rfl := Option.some.inj hp
     exact ⟨.inr rfl, res1 rfl rfl ⟨rfl, S41.back⟩⟩
    ·
     refine FW.condF rfl c45 ?_
     refine FW.skip (FW.seq (FW.seq (FW.region ?_)))
     refine FL.v (E.fieldAddr tf74_4 rfl) ?_
     refine FL.v (E.load rfl (run_load1 Tryz.isAgg3 ((at28.mono i35).now S41.sl) rfl)) ?_
     refine FL.v (E.fieldAddr tf74_4 rfl) ?_
     refine FL.v (E.load rfl (run_load1 Tryz.isAgg3 (at36.now S41.sl) rfl)) ?_
     refine FL.v (E.neq rfl rfl) ?_
     refine FL.nil ?_
     rcases ifB hp with ⟨c46, hp⟩ | ⟨c46, hp⟩
     ·
      refine FW.condT rfl c46 ?_
      refine FW.seq (FW.region ?_)
      refine FL.v (E.assign (v := Value.bool false) rfl) ?_
      refine FL.nil ?_
      refine FW.ret ?_
      obtain rfl := Option.some.inj hp
      exact ⟨.inr rfl, res1 rfl rfl ⟨rfl, S41.back⟩⟩
     ·
      refine FW.condF rfl c46 ?_
      refine FW.skip (FW.seq (FW.region ?_))
      refine FL.v (E.assign (v := Value.bool true) rfl) ?_
      refine FL.nil ?_
      refine FW.ret ?_
      obtain rfl := Option.some.inj hp
      exact ⟨.inr rfl, res1 rfl rfl ⟨rfl, S41.back⟩⟩

set_option maxHeartbeats 4000000 in
theorem w_laws_eqSeqStepS {Ha : GH} {wa : World} (hs : Sl Ha wa) (v0 : Value) (a0 : List SeqStep) (p0 : RSl Ha eSeqStep 6 v0 a0) (v1 : Value) (a1 : List SeqStep) (p1 : RSl Ha eSeqStep 6 v1 a1) {r : Bool} (hp : (PF.laws_eqSeqStepS a0 a1) = some r) :
  Calls Tryz.prog 13 #[v0, v1] wa (Sc Ha wa (Value.bool r)) := by
 unfold PF.laws_eqSeqStepS at hp
 have S0 := St.init hs
 refine calls_go (N := 27) (args := [v0, v1]) Tryz.func13 rfl rfl rfl ?_
 refine FW.seq (FW.region ?_)
 refine FL.v (E.assign (v := Value.bool false) rfl) ?_
 refine FL.nil (FW.seq (FW.seq (FW.region ?_)))
 refine FL.v (E.move (v := v0) rfl) ?_
 refine FL.v (E.lenP te24 rfl p0) ?_
 refine FL.v (E.move (v := v1) rfl) ?_
 refine FL.v (E.lenP te24 rfl p1) ?_
 refine FL.v (E.neq rfl rfl) ?_
 refine FL.nil ?_
 rcases ifB hp with ⟨c21, hp⟩ | ⟨c21, hp⟩
 ·
  refine FW.condT rfl c21 ?_
  refine FW.seq (FW.region ?_)
  refine FL.v (E.assign (v := Value.bool false) rfl) ?_
  refine FL.nil ?_
  refine FW.ret ?_
  obtain rfl := Option.some.inj hp
  exact ⟨.inr rfl, res1 rfl rfl ⟨rfl, S0.back⟩⟩
 ·
  refine FW.condF rfl c21 ?_
  refine FW.skip (FW.seq (FW.seq (FW.region ?_)))
  refine FL.v (E.assign (v := Value.int .i64 0) rfl) ?_
  refine FL.nil ?_
  obtain ⟨q23, hq, hp⟩ := bndR hp
  refine FW.block ?_
  refine FW.mono (FW.forL (S := Unit) (X := Bool) (fun (i23 : Nat) (s23 : Unit) f w => ∃ H : GH, St Ha wa H w [] ∧ Inc Ha H ∧ f 5 = Value.int .i64 ((i23 : Nat) : Int) ∧ f 0 = v0 ∧ f 1 = v1) (fun q e f w => match q with | .go s23 => e = Exit.exit 0 ∧ (∃ H : GH, St Ha wa H w [] ∧ Inc Ha H) | .rt x => ((e = Exit.ret) ∧ (fun e f w => (e = Exit.normal ∨ e = Exit.ret) ∧ ∀ a, Fr (δ := []) 27 a f → ∃ v, (results Tryz.f13 a.tmps).run Tryz.prog w = .ok v w ∧ (Sc Ha wa (Value.bool x)) (.returned v) w) e f w)) hq ⟨_, S0, (Inc.rfl _), rfl, rfl, rfl⟩ ?_ ?_) ?_
  ·
   clear hp hq
   rintro i23 y22 s23 f65 w64 ⟨H61, S62, i63, k66, k67, k68⟩ hx23 o98 hp
   refine FW.seq (FW.seq (FW.region ?_))
   refine FL.v (E.move k66) ?_
   refine FL.v (E.move k67) ?_
   refine FL.v (E.lenP te24 rfl p0) ?_
   refine FL.v (E.lssT rfl rfl (lss_len hx23)) ?_
   refine FL.nil ?_
   refine FW.condT rfl rfl ?_
   refine FW.skip (FW.seq (FW.block (FW.seq ?_)))
   refine FW.draw (fun w' => Run w64.heap.size H61 w64 H61 w') (by kernel_rfl) (by kernel_rfl) (run_drew S62.sl) ?_
   refine FD.val rfl rfl rfl (fun w' hw' => (E.move k67)) ?_
   refine FD.val rfl rfl rfl (fun w' hw' => (E.move k66)) ?_
   obtain ⟨p70, cs71, pt72, l73, at74, rel75⟩ := p0.at (ix_nat hx23)
   obtain ⟨v76, v78, rfl, h77, h79⟩ := eSeqStep_open rel75
   refine FD.val rfl rfl rfl (fun w' hw' => (E.indexAddr te24 rfl rfl pt72)) ?_
   refine FD.val rfl rfl rfl (fun w' hw' => (E.load rfl (run_loadA Tryz.isAgg74 Tryz.sizeOf74 ((at74.mono i63).now (S62.call hw').sl) rfl))) ?_
   refine FD.val rfl rfl rfl (fun w' hw' => (E.move k68)) ?_
   refine FD.val rfl rfl rfl (fun w' hw' => (E.move k66)) ?_
   obtain ⟨x86, hx87, hp⟩ := bnd hp
   obtain ⟨p80, cs81, pt82, l83, at84, rel85⟩ := p1.at hx87
   obtain ⟨v88, v90, rfl, h89, h91⟩ := eSeqStep_open rel85
   refine FD.val rfl rfl rfl (fun w' hw' => (E.indexAddr te24 rfl rfl pt82)) ?_
   refine FD.val rfl rfl rfl (fun w' hw' => (E.load rfl (run_loadA Tryz.isAgg74 Tryz.sizeOf74 ((at84.mono i63).now (S62.call hw').sl) rfl))) ?_
   obtain ⟨r92, hr93, hp⟩ := bnd hp
   refine FD.call rfl rfl rfl (fun w' hw' => (E.call Tryz.call54 (A2 rfl rfl))) (fun w' hw' => Calls.cls hw' (w_laws_eqSeqStep (S62.call hw').sl y22 v76 (h77.mono i63) v78 (h79.mono i63) x86 v88 (h89.mono i63) v90 (h91.mono i63) hr93)) ?_
   refine FD.val rfl rfl rfl (fun w' hw' => (E.not rfl)) ?_
   refine FD.nil ?_
   intro w94 r96
   have S95 := S62.call r96
   rcases ifB hp with ⟨c97, hp⟩ | ⟨c97, hp⟩
   ·
    refine FW.condT rfl c97 ?_
    refine FW.seq (FW.region ?_)
    refine FL.v (E.assign (v := Value.bool false) rfl) ?_
    refine FL.nil ?_
    refine FW.ret ?_
    obtain rfl := Option.some.inj hp
    exact ⟨nofun, rfl, ⟨.inr rfl, res1 rfl rfl ⟨rfl, S95.back⟩⟩⟩
   ·
    refine FW.condF rfl c97 ?_
    refine FW.skip (FW.region ?_)
    refine FL.v (E.move k66) ?_
    refine FL.v (E.add rfl rfl) ?_
    refine FL.v (E.assign (v := Value.int .i64 (wr (((i23 : Nat) : Int) + 1))) rfl) ?_
    refine FL.nil ?_
    obtain rfl := Option.some.inj hp
    exact ⟨rfl, ⟨_, S95, i63, (nat_succ rfl (lt_of_get hx23) (p0.mono i63).le), k67, k68⟩⟩
  ·
   clear hp hq
   rintro s23 f108 w107 ⟨H104, S105, i106, k109, k110, k111⟩
   refine FW.seq (FW.seq (FW.region ?_))
   refine FL.v (E.move k109) ?_
   refine FL.v (E.move k110) ?_
   refine FL.v (E.lenP te24 rfl p0) ?_
   refine FL.v (E.lss rfl rfl) ?_
   refine FL.nil ?_
   refine FW.condF rfl dlt_len ?_
   refine FW.exit ?_
   exact ⟨nofun, rfl, ⟨_, S105, i106⟩⟩
  ·
   clear hq
   intro e f103 w102 hD
   rcases q23 with s23 | x23
   ·
    obtain ⟨rfl, hD⟩ := hD
    obtain ⟨H99, S100, i101⟩ := hD
    replace hp := el_go hp
    refine FW.seq (FW.region ?_)
    refine FL.v (E.assign (v := Value.bool true) rfl) ?_
    refine FL.nil ?_
    refine FW.ret ?_
    obtain rfl := Option.some.inj hp
    exact ⟨.inr rfl, res1 rfl rfl ⟨rfl, S100.back⟩⟩
   ·
    obtain ⟨he, hL⟩ := hD
    replace hp := el_rt hp
    obtain rfl := Option.some.inj hp
    subst he
    exact hL

theorem w_laws_markTextO {Ha : GH} {wa : World} (hs : Sl Ha wa) (a0 : Int) {r : ByteArray} (hp : (PF.laws_markTextO a0) = some r) :
  Calls Tryz.prog 55 #[Value.int .i64 a0] wa (Sc Ha wa (Value.string r)) := by
 unfold PF.laws_markTextO at hp
 have S0 := St.init hs
 refine calls_go (N := 20) (args := [Value.int .i64 a0]) Tryz.func55 rfl rfl rfl ?_
 refine FW.seq (FW.region ?_)
 refine FL.v (E.assign (v := Value.string (ByteArray.mk #[])) rfl) ?_
 refine FL.nil (FW.seq (FW.seq (FW.region ?_)))
 refine FL.v (E.move (v := Value.int .i64 a0) rfl) ?_
 refine FL.v (E.leq rfl rfl) ?_
 refine FL.nil ?_
 rcases ifB hp with ⟨c21, hp⟩ | ⟨c21, hp⟩
 ·
  refine FW.condT rfl c21 ?_
  refine FW.seq (FW.region ?_)
  refine FL.v (E.assign (v := Value.string (ByteArray.mk #[109, 48])) rfl) ?_
  refine FL.nil ?_
  refine FW.ret ?_
  obtain rfl := Option.some.inj hp
  exact ⟨.inr rfl, res1 rfl rfl ⟨rfl, S0.back⟩⟩
 ·
  refine FW.condF rfl c21 ?_
  refine FW.skip (FW.seq (FW.region ?_))
  refine FL.v (E.assign (v := Value.string (ByteArray.mk #[])) rfl) ?_
  refine FL.nil (FW.seq ?_)
  obtain ⟨q22, hq, hp⟩ := bndR hp
  refine FW.block ?_
  refine FW.mono (FW.iter (S := (Int × ByteArray)) (X := Empty) (fun (s22 : (Int × ByteArray)) f w => ∃ H : GH, St Ha wa H w [] ∧ Inc Ha H ∧ f 0 = Value.int .i64 s22.1 ∧ f 3 = Value.string s22.2) (fun (q : Rs (Int × ByteArray) Empty) e f w => match q with | .go s22 => e = Exit.exit 0 ∧ (∃ H : GH, St Ha wa H w [] ∧ Inc Ha H ∧ f 3 = Value.string s22.2) | .rt x => x.elim) hq ⟨_, S0, (Inc.rfl _), rfl, rfl⟩ ?_) ?_
  ·
   clear hp hq
   rintro s22 f42 w41 ⟨H38, S39, i40, k43, k44⟩ o53 hp
   refine FW.seq (FW.seq (FW.region ?_))
   refine FL.v (E.move k43) ?_
   refine FL.v (E.gtr rfl rfl) ?_
   refine FL.nil ?_
   rcases ifB hp with ⟨c45, hp⟩ | ⟨c45, hp⟩
   ·
    refine FW.condT rfl c45 ?_
    refine FW.skip (FW.block (FW.seq (FW.region ?_)))
    refine FL.v (E.move k43) ?_
    refine FL.v (E.rem rfl rfl (by decide)) ?_
    refine FL.v (E.add rfl rfl) ?_
    refine FL.v (E.conv Tryz.runUnderlying3 Tryz.runUnderlying5 rfl) ?_
    obtain ⟨v46, w47, run48, S49⟩ := S39.buildSlice (P := Tryz.prog) te41 [Value.int .u8 (wrk false 8 (wr (48 + (s22.1.tmod 10))))] (parts := #[(0, Value.int .u8 (wrk false 8 (wr (48 + (s22.1.tmod 10)))))]) (cells := [Value.int .u8 (wrk false 8 (wr (48 + (s22.1.tmod 10))))]) rfl (szs_cons rfl szs_nil) (fc_cons rfl fc_nil) (ones_cons rfl ones_nil) (Nat.le_of_ble_eq_true rfl)
    have els50 : Els (up wa.heap.size H38) (eN .u8) 1 [Value.int .u8 (wrk false 8 (wr (48 + (s22.1.tmod 10))))] [(wrk false 8 (wr (48 + (s22.1.tmod 10))))] := (Els.snoc (H := (up wa.heap.size H38)) (E := (eN .u8)) (k := 1) (c := [Value.int .u8 (wrk false 8 (wr (48 + (s22.1.tmod 10))))]) (x := (wrk false 8 (wr (48 + (s22.1.tmod 10))))) Els.nil rfl rfl)
    refine FL.v (E.buildSlice (B1 rfl) run48) ?_
    refine FL.v (E.bytes Tryz.underlying41 Tryz.underlying5 Tryz.underlying9 S49 (i := 0) rfl els50 rfl) ?_
    refine FL.v (E.move k44) ?_
    obtain ⟨z51, h52, hp⟩ := bnd hp
    refine FL.v (E.addT rfl rfl h52) ?_
    refine FL.v (E.assign (v := Value.string z51) rfl) ?_
    refine FL.nil (FW.region ?_)
    refine FL.v (E.move k43) ?_
    refine FL.v (E.quo rfl rfl (by decide)) ?_
    refine FL.v (E.assign (v := Value.int .i64 (wr (s22.1.tdiv 10))) rfl) ?_
    refine FL.nil ?_
    obtain rfl := Option.some.inj hp
    exact ⟨rfl, ⟨_, (S49.sel [] (by decide) rfl), i40, rfl, rfl⟩⟩
   ·
    refine FW.condF rfl c45 ?_
    refine FW.exit ?_
    obtain rfl := Option.some.inj hp
    exact ⟨nofun, rfl, ⟨_, S39, i40, k44⟩⟩
  ·
   clear hq
   intro e f58 w57 hD
   rcases q22 with s22 | x22
   ·
    obtain ⟨rfl, hD⟩ := hD
    obtain ⟨H54, S55, i56, k59⟩ := hD
    replace hp := el_go hp
    refine FW.seq (FW.region ?_)
    refine FL.v (E.move k59) ?_
    obtain ⟨z60, h61, hp⟩ := bnd hp
    refine FL.v (E.addT rfl rfl h61) ?_
    refine FL.v (E.assign (v := Value.string z60) rfl) ?_
    refine FL.nil ?_
    refine FW.ret ?_
    obtain rfl := Option.some.inj hp
    exact ⟨.inr rfl, res1 rfl rfl ⟨rfl, S55.back⟩⟩
   ·
    exact x22.elim
theorem w_laws_markText {Ha : GH} {wa : World} (hs : Sl Ha wa) (a0 : Int) : Calls Tryz.prog 55 #[Value.int .i64 a0] wa (Sc Ha wa (Value.string (PF.laws_markText a0))) := w_laws_markTextO hs a0 (PF.laws_markText_eq a0)

theorem w_laws_markStringS {H0 Ha : GH} {w0 wa : World} {l : List MO} (S0 : St H0 w0 Ha wa l) (hs0 : Sl H0 w0) (v0 : Value) (a0 : List ByteArray) (p0 : RSl (up w0.heap.size Ha) eS 1 v0 a0) (a1 : Int) :
  Calls Tryz.prog 15 #[v0, Value.int .i64 a1] wa (M1 H0 w0 Ha l eS 1 v0 (PF.laws_markStringS a0 a1)) := by
 obtain ⟨c0, n0, hc0⟩ := p0.nest eS_flat (by decide)
 have hln := p0.ln
 have hle := p0.le
 refine calls_go (N := 20) (args := [v0, Value.int .i64 a1]) Tryz.func15 rfl rfl rfl ?_
 refine FW.seq (FW.region ?_)
 refine FL.v (E.assign (v := Value.int .i64 0) rfl) ?_
 refine FL.nil (FW.seq (FW.seq (FW.region ?_)))
 refine FL.v (E.assign (v := Value.int .i64 0) rfl) ?_
 refine FL.nil (FW.block ?_)
 refine FW.mono (FW.mark (F := fun y m => ((PF.laws_markText m), (wr (m + 1)))) (a0 := a0) (k0 := a1) (fun (i : Nat) (xs : List ByteArray) (k : Int) f w => ∃ (H : GH) (c : List Value), St H0 w0 H w l ∧ Nest (up w0.heap.size H) eS 1 v0 xs c ∧ bl c = bl c0 ∧ (∀ b, b ∉ bl [v0] → b ∉ bl c0 → H b = Ha b) ∧ f 0 = v0 ∧ f 1 = Value.int .i64 k ∧ f 5 = Value.int .i64 ((i : Nat) : Int)) (fun e f w => e = Exit.exit 0 ∧ ∃ (H : GH) (c : List Value), St H0 w0 H w l ∧ Nest (up w0.heap.size H) eS 1 v0 (markFrom (fun y m => ((PF.laws_markText m), (wr (m + 1)))) a0 a1).1 c ∧ bl c = bl c0 ∧ (∀ b, b ∉ bl [v0] → b ∉ bl c0 → H b = Ha b) ∧ f 0 = v0 ∧ f 1 = Value.int .i64 (markFrom (fun y m => ((PF.laws_markText m), (wr (m + 1)))) a0 a1).2) ⟨_, _, S0, n0, rfl, fun _ _ _ => rfl, rfl, rfl, rfl⟩ ?_ ?_) ?_
 ·
  rintro i y xs m f1 w1 ⟨H1, c1, S1, n1, hb, ho, kv, kk, kc⟩ hx hy
  obtain ⟨p, hpt, wr0, hB, hr, nd⟩ := n1.begin hy (by decide)
  have hci := eS_open hr
  have rd := wr0.opens hci
  refine FW.seq (FW.seq (FW.region ?_))
  refine FL.v (E.move kc) ?_
  refine FL.v (E.move kv) ?_
  refine FL.v (E.len te22 rfl hln) ?_
  refine FL.v (E.lssT rfl rfl (lss_len hx)) ?_
  refine FL.nil ?_
  refine FW.condT rfl rfl ?_
  refine FW.skip (FW.seq (FW.block (FW.seq (FW.region ?_))))
  refine FL.v (E.move kv) ?_
  refine FL.v (E.move kc) ?_
  refine FL.v (E.move kk) ?_
  refine FL.call rfl rfl rfl (E.call Tryz.call55 (A1 rfl)) (w_laws_markText S1.sl m) ?_
  rintro e w21 ⟨rfl, r22⟩
  refine ⟨_, rfl, ?_⟩
  have S23 := S1.call r22
  refine FL.v (E.indexAddr te22 rfl rfl hpt) ?_
  obtain ⟨w24, H25, run27, S26, wr28, o29⟩ := rd.poke0 (P := Tryz.prog) (t := 9) (u := Value.string (PF.laws_markText m)) S23 hs0 hB rfl rfl rfl Tryz.sizeOf9 rfl rfl (c2 := [Value.string (PF.laws_markText m)]) rfl
  refine FL.act rfl rfl (E.store rfl rfl run27) ?_
  refine FL.nil (FW.region ?_)
  refine FL.v (E.move kk) ?_
  refine FL.v (E.add rfl rfl) ?_
  refine FL.v (E.assign (v := Value.int .i64 (wr (m + 1))) rfl) ?_
  refine FL.nil (FW.region ?_)
  refine FL.v (E.move kc) ?_
  refine FL.v (E.add rfl rfl) ?_
  refine FL.v (E.assign (v := Value.int .i64 (wr (((i : Nat) : Int) + 1))) rfl) ?_
  refine FL.nil ?_
  obtain ⟨c2, n2, hb2, ho2⟩ := n1.round eS_flat.loc hy (by decide) hpt wr28 (y' := (PF.laws_markText m)) rfl
  exact ⟨rfl, _, _, S26, n2, hb2.trans hb, fun b q1 q2 => (ho2 b q1 (by rw [hb]; exact q2)).trans (ho b q1 q2), kv, rfl, nat_succ rfl (lt_of_get hx) hle⟩
 ·
  rintro f1 w1 ⟨H1, c1, S1, n1, hb, ho, kv, kk, kc⟩
  refine FW.seq (FW.seq (FW.region ?_))
  refine FL.v (E.move kc) ?_
  refine FL.v (E.move kv) ?_
  refine FL.v (E.len te22 rfl hln) ?_
  refine FL.v (E.lss rfl rfl) ?_
  refine FL.nil ?_
  refine FW.condF rfl dlt_len ?_
  refine FW.exit ?_
  exact ⟨nofun, rfl, _, _, S1, n1, hb, ho, kv, kk⟩
 ·
  rintro e f2 w2 ⟨rfl, H2, c2, S2, n2, hb, ho, kv, kk⟩
  refine FW.seq (FW.region ?_)
  refine FL.v (E.move kk) ?_
  refine FL.v (E.assign (v := Value.int .i64 ((markFrom (fun y m => ((PF.laws_markText m), (wr (m + 1)))) a0 a1).2)) rfl) ?_
  refine FL.nil ?_
  refine FW.ret ?_
  exact ⟨.inr rfl, res1 rfl rfl ⟨_, rfl, S2, n2.rsl, fun b q => ho b q (by rw [hc0]; simp)⟩⟩

theorem w_laws_markSeqStepS {H0 Ha : GH} {w0 wa : World} {l : List MO} (S0 : St H0 w0 Ha wa l) (hs0 : Sl H0 w0) (v0 : Value) (a0 : List SeqStep) (c0 : List Value) (n0 : Nest (up w0.heap.size Ha) eSeqStep 6 v0 a0 c0) (a1 : Int) :
  Calls Tryz.prog 16 #[v0, Value.int .i64 a1] wa (M2 H0 w0 Ha l eSeqStep 6 v0 c0 (PF.laws_markSeqStepS a0 a1)) := by
 have hln := n0.rsl.ln
 have hle := n0.rsl.le
 refine calls_go (N := 58) (args := [v0, Value.int .i64 a1]) Tryz.func16 rfl rfl rfl ?_
 refine FW.seq (FW.region ?_)
 refine FL.v (E.assign (v := Value.int .i64 0) rfl) ?_
 refine FL.nil (FW.seq (FW.seq (FW.region ?_)))
 refine FL.v (E.assign (v := Value.int .i64 0) rfl) ?_
 refine FL.nil (FW.block ?_)
 refine FW.mono (FW.mark (F := fun y m => ((SeqStep.mk (Sequent.mk ((PF.laws_markStringS y.seq.left m).1) ((PF.laws_markStringS y.seq.right ((PF.laws_markStringS y.seq.left m).2)).1)) ((PF.laws_markStringS y.seq.right ((PF.laws_markStringS y.seq.left m).2)).2) (PF.laws_markText (wr ((PF.laws_markStringS y.seq.right ((PF.laws_markStringS y.seq.left m).2)).2 + 1))) (wr ((wr ((PF.laws_markStringS y.seq.right ((PF.laws_markStringS y.seq.left m).2)).2 + 1)) + 1)) (wr ((wr ((wr ((PF.laws_markStringS y.seq.right ((PF.laws_markStringS y.seq.left m).2)).2 + 1)) + 1)) + 1))), (wr ((wr ((wr ((wr ((PF.laws_markStringS y.seq.right ((PF.laws_markStringS y.seq.left m).2)).2 + 1)) + 1)) + 1)) + 1)))) (a0 := a0) (k0 := a1) (fun (i : Nat) (xs : List SeqStep) (k : Int) f w => ∃ (H : GH) (c : List Value), St H0 w0 H w l ∧ Nest (up w0.heap.size H) eSeqStep 6 v0 xs c ∧ bl c = bl c0 ∧ (∀ b, b ∉ bl [v0] → b ∉ bl c0 → H b = Ha b) ∧ f 0 = v0 ∧ f 1 = Value.int .i64 k ∧ f 5 = Value.int .i64 ((i : Nat) : Int)) (fun e f w => e = Exit.exit 0 ∧ ∃ (H : GH) (c : List Value), St H0 w0 H w l ∧ Nest (up w0.heap.size H) eSeqStep 6 v0 (markFrom (fun y m => ((SeqStep.mk (Sequent.mk ((PF.laws_markStringS y.seq.left m).1) ((PF.laws_markStringS y.seq.right ((PF.laws_markStringS y.seq.left m).2)).1)) ((PF.laws_markStringS y.seq.right ((PF.laws_markStringS y.seq.left m).2)).2) (PF.laws_markText (wr ((PF.laws_markStringS y.seq.right ((PF.laws_markStringS y.seq.left m).2)).2 + 1))) (wr ((wr ((PF.laws_markStringS y.seq.right ((PF.laws_markStringS y.seq.left m).2)).2 + 1)) + 1)) (wr ((wr ((wr ((PF.laws_markStringS y.seq.right ((PF.laws_markStringS y.seq.left m).2)).2 + 1)) + 1)) + 1))), (wr ((wr ((wr ((wr ((PF.laws_markStringS y.seq.right ((PF.laws_markStringS y.seq.left m).2)).2 + 1)) + 1)) + 1)) + 1)))) a0 a1).1 c ∧ bl c = bl c0 ∧ (∀ b, b ∉ bl [v0] → b ∉ bl c0 → H b = Ha b) ∧ f 0 = v0 ∧ f 1 = Value.int .i64 (markFrom (fun y m => ((SeqStep.mk (Sequent.mk ((PF.laws_markStringS y.seq.left m).1) ((PF.laws_markStringS y.seq.right ((PF.laws_markStringS y.seq.left m).2)).1)) ((PF.laws_markStringS y.seq.right ((PF.laws_markStringS y.seq.left m).2)).2) (PF.laws_markText (wr ((PF.laws_markStringS y.seq.right ((PF.laws_markStringS y.seq.left m).2)).2 + 1))) (wr ((wr ((PF.laws_markStringS y.seq.right ((PF.laws_markStringS y.seq.left m).2)).2 + 1)) + 1)) (wr ((wr ((wr ((PF.laws_markStringS y.seq.right ((PF.laws_markStringS y.seq.left m).2)).2 + 1)) + 1)) + 1))), (wr ((wr ((wr ((wr ((PF.laws_markStringS y.seq.right ((PF.laws_markStringS y.seq.left m).2)).2 + 1)) + 1)) + 1)) + 1)))) a0 a1).2) ⟨_, _, S0, n0, rfl, fun _ _ _ => rfl, rfl, rfl, rfl⟩ ?_ ?_) ?_
 ·
  rintro i y xs m f1 w1 ⟨H1, c1, S1, n1, hb, ho, kv, kk, kc⟩ hx hy
  obtain ⟨p, hpt, wr0, hB, hr, nd⟩ := n1.begin hy (by decide)
  obtain ⟨u0, u1, hci, hu0, hu1⟩ := eSeqStep_open hr
  have rd := wr0.opens hci
  refine FW.seq (FW.seq (FW.region ?_))
  refine FL.v (E.move kc) ?_
  refine FL.v (E.move kv) ?_
  refine FL.v (E.len te24 rfl hln) ?_
  refine FL.v (E.lssT rfl rfl (lss_len hx)) ?_
  refine FL.nil ?_
  refine FW.condT rfl rfl ?_
  refine FW.skip (FW.seq (FW.block (FW.seq (FW.region ?_))))
  refine FL.v (E.move kv) ?_
  refine FL.v (E.move kc) ?_
  refine FL.v (E.indexAddr te24 rfl rfl hpt) ?_
  refine FL.v (E.fieldAddr tf74_0 rfl) ?_
  refine FL.v (E.fieldAddrN tf68_0 rfl rfl) ?_
  refine FL.v (E.load rfl (run_load1 Tryz.isAgg22 (rd.now S1.sl) rfl)) ?_
  refine FL.v (E.move kk) ?_
  refine FL.call rfl rfl rfl (E.call Tryz.call15 (A2 rfl rfl)) (w_laws_markStringS S1 hs0 u0 y.seq.left hu0 m) ?_
  rintro e w22 ⟨H21, rfl, S23, h24, o25⟩
  refine ⟨_, rfl, ?_⟩
  have h26 := rd.kept2 nd (i := 0) (j := 1) rfl rfl (by decide) hu1 eS_flat o25
  have wr27 := rd.inner (j := 0) rfl o25
  refine FL.v (E.assign (v := Value.int .i64 ((PF.laws_markStringS y.seq.left m).2)) rfl) ?_
  refine FL.nil (FW.seq (FW.region ?_))
  refine FL.v (E.move kv) ?_
  refine FL.v (E.move kc) ?_
  refine FL.v (E.indexAddr te24 rfl rfl hpt) ?_
  refine FL.v (E.fieldAddr tf74_0 rfl) ?_
  refine FL.v (E.fieldAddrN tf68_1 rfl rfl) ?_
  refine FL.v (E.load rfl (run_load1 Tryz.isAgg22 (wr27.now S23.sl) rfl)) ?_
  refine FL.v (E.move (v := Value.int .i64 ((PF.laws_markStringS y.seq.left m).2)) rfl) ?_
  refine FL.call rfl rfl rfl (E.call Tryz.call15 (A2 rfl rfl)) (w_laws_markStringS S23 hs0 u1 y.seq.right h26 ((PF.laws_markStringS y.seq.left m).2)) ?_
  rintro e w29 ⟨H28, rfl, S30, h31, o32⟩
  refine ⟨_, rfl, ?_⟩
  have h33 := wr27.kept2 nd (i := 1) (j := 0) rfl rfl (by decide) h24 eS_flat o32
  have wr34 := wr27.inner (j := 1) rfl o32
  refine FL.v (E.assign (v := Value.int .i64 ((PF.laws_markStringS y.seq.right ((PF.laws_markStringS y.seq.left m).2)).2)) rfl) ?_
  refine FL.nil (FW.seq (FW.region ?_))
  refine FL.v (E.move kv) ?_
  refine FL.v (E.move kc) ?_
  refine FL.v (E.move (v := Value.int .i64 ((PF.laws_markStringS y.seq.right ((PF.laws_markStringS y.seq.left m).2)).2)) rfl) ?_
  refine FL.v (E.indexAddr te24 rfl rfl hpt) ?_
  refine FL.v (E.fieldAddr tf74_1 rfl) ?_
  obtain ⟨w35, H36, run38, S37, wr39, o40⟩ := wr34.poke (P := Tryz.prog) (t := 3) (u := Value.int .i64 ((PF.laws_markStringS y.seq.right ((PF.laws_markStringS y.seq.left m).2)).2)) S30 hs0 hB (j := 2) rfl rfl rfl Tryz.sizeOf3 rfl rfl (c2 := [u0, u1, Value.int .i64 ((PF.laws_markStringS y.seq.right ((PF.laws_markStringS y.seq.left m).2)).2), Value.string y.main, Value.int .i64 y.a, Value.int .i64 y.b]) rfl
  have h41 := wr34.kept (j := 0) rfl h33 eS_flat o40
  have h42 := wr34.kept (j := 1) rfl h31 eS_flat o40
  refine FL.act rfl rfl (E.store rfl rfl run38) ?_
  refine FL.nil (FW.seq (FW.region ?_))
  refine FL.v (E.move (v := Value.int .i64 ((PF.laws_markStringS y.seq.right ((PF.laws_markStringS y.seq.left m).2)).2)) rfl) ?_
  refine FL.v (E.add rfl rfl) ?_
  refine FL.v (E.assign (v := Value.int .i64 (wr ((PF.laws_markStringS y.seq.right ((PF.laws_markStringS y.seq.left m).2)).2 + 1))) rfl) ?_
  refine FL.nil (FW.seq (FW.region ?_))
  refine FL.v (E.move kv) ?_
  refine FL.v (E.move kc) ?_
  refine FL.v (E.move (v := Value.int .i64 (wr ((PF.laws_markStringS y.seq.right ((PF.laws_markStringS y.seq.left m).2)).2 + 1))) rfl) ?_
  refine FL.call rfl rfl rfl (E.call Tryz.call55 (A1 rfl)) (w_laws_markText S37.sl (wr ((PF.laws_markStringS y.seq.right ((PF.laws_markStringS y.seq.left m).2)).2 + 1))) ?_
  rintro e w43 ⟨rfl, r44⟩
  refine ⟨_, rfl, ?_⟩
  have S45 := S37.call r44
  refine FL.v (E.indexAddr te24 rfl rfl hpt) ?_
  refine FL.v (E.fieldAddr tf74_2 rfl) ?_
  obtain ⟨w46, H47, run49, S48, wr50, o51⟩ := wr39.poke (P := Tryz.prog) (t := 9) (u := Value.string (PF.laws_markText (wr ((PF.laws_markStringS y.seq.right ((PF.laws_markStringS y.seq.left m).2)).2 + 1)))) S45 hs0 hB (j := 3) rfl rfl rfl Tryz.sizeOf9 rfl rfl (c2 := [u0, u1, Value.int .i64 ((PF.laws_markStringS y.seq.right ((PF.laws_markStringS y.seq.left m).2)).2), Value.string (PF.laws_markText (wr ((PF.laws_markStringS y.seq.right ((PF.laws_markStringS y.seq.left m).2)).2 + 1))), Value.int .i64 y.a, Value.int .i64 y.b]) rfl
  have h52 := wr39.kept (j := 0) rfl h41 eS_flat o51
  have h53 := wr39.kept (j := 1) rfl h42 eS_flat o51
  refine FL.act rfl rfl (E.store rfl rfl run49) ?_
  refine FL.nil (FW.seq (FW.region ?_))
  refine FL.v (E.move (v := Value.int .i64 (wr ((PF.laws_markStringS y.seq.right ((PF.laws_markStringS y.seq.left m).2)).2 + 1))) rfl) ?_
  refine FL.v (E.add rfl rfl) ?_
  refine FL.v (E.assign (v := Value.int .i64 (wr ((wr ((PF.laws_markStringS y.seq.right ((PF.laws_markStringS y.seq.left m).2)).2 + 1)) + 1))) rfl) ?_
  refine FL.nil (FW.seq (FW.region ?_))
  refine FL.v (E.move kv) ?_
  refine FL.v (E.move kc) ?_
  refine FL.v (E.move (v := Value.int .i64 (wr ((wr ((PF.laws_markStringS y.seq.right ((PF.laws_markStringS y.seq.left m).2)).2 + 1)) + 1))) rfl) ?_
  refine FL.v (E.indexAddr te24 rfl rfl hpt) ?_
  refine FL.v (E.fieldAddr tf74_3 rfl) ?_
  obtain ⟨w54, H55, run57, S56, wr58, o59⟩ := wr50.poke (P := Tryz.prog) (t := 3) (u := Value.int .i64 (wr ((wr ((PF.laws_markStringS y.seq.right ((PF.laws_markStringS y.seq.left m).2)).2 + 1)) + 1))) S48 hs0 hB (j := 4) rfl rfl rfl Tryz.sizeOf3 rfl rfl (c2 := [u0, u1, Value.int .i64 ((PF.laws_markStringS y.seq.right ((PF.laws_markStringS y.seq.left m).2)).2), Value.string (PF.laws_markText (wr ((PF.laws_markStringS y.seq.right ((PF.laws_markStringS y.seq.left m).2)).2 + 1))), Value.int .i64 (wr ((wr ((PF.laws_markStringS y.seq.right ((PF.laws_markStringS y.seq.left m).2)).2 + 1)) + 1)), Value.int .i64 y.b]) rfl
  have h60 := wr50.kept (j := 0) rfl h52 eS_flat o59
  have h61 := wr50.kept (j := 1) rfl h53 eS_flat o59
  refine FL.act rfl rfl (E.store rfl rfl run57) ?_
  refine FL.nil (FW.seq (FW.region ?_))
  refine FL.v (E.move (v := Value.int .i64 (wr ((wr ((PF.laws_markStringS y.seq.right ((PF.laws_markStringS y.seq.left m).2)).2 + 1)) + 1))) rfl) ?_
  refine FL.v (E.add rfl rfl) ?_
  refine FL.v (E.assign (v := Value.int .i64 (wr ((wr ((wr ((PF.laws_markStringS y.seq.right ((PF.laws_markStringS y.seq.left m).2)).2 + 1)) + 1)) + 1))) rfl) ?_
  refine FL.nil (FW.seq (FW.region ?_))
  refine FL.v (E.move kv) ?_
  refine FL.v (E.move kc) ?_
  refine FL.v (E.move (v := Value.int .i64 (wr ((wr ((wr ((PF.laws_markStringS y.seq.right ((PF.laws_markStringS y.seq.left m).2)).2 + 1)) + 1)) + 1))) rfl) ?_
  refine FL.v (E.indexAddr te24 rfl rfl hpt) ?_
  refine FL.v (E.fieldAddr tf74_4 rfl) ?_
  obtain ⟨w62, H63, run65, S64, wr66, o67⟩ := wr58.poke (P := Tryz.prog) (t := 3) (u := Value.int .i64 (wr ((wr ((wr ((PF.laws_markStringS y.seq.right ((PF.laws_markStringS y.seq.left m).2)).2 + 1)) + 1)) + 1))) S56 hs0 hB (j := 5) rfl rfl rfl Tryz.sizeOf3 rfl rfl (c2 := [u0, u1, Value.int .i64 ((PF.laws_markStringS y.seq.right ((PF.laws_markStringS y.seq.left m).2)).2), Value.string (PF.laws_markText (wr ((PF.laws_markStringS y.seq.right ((PF.laws_markStringS y.seq.left m).2)).2 + 1))), Value.int .i64 (wr ((wr ((PF.laws_markStringS y.seq.right ((PF.laws_markStringS y.seq.left m).2)).2 + 1)) + 1)), Value.int .i64 (wr ((wr ((wr ((PF.laws_markStringS y.seq.right ((PF.laws_markStringS y.seq.left m).2)).2 + 1)) + 1)) + 1))]) rfl
  have h68 := wr58.kept (j := 0) rfl h60 eS_flat o67
  have h69 := wr58.kept (j := 1) rfl h61 eS_flat o67
  refine FL.act rfl rfl (E.store rfl rfl run65) ?_
  refine FL.nil (FW.region ?_)
  refine FL.v (E.move (v := Value.int .i64 (wr ((wr ((wr ((PF.laws_markStringS y.seq.right ((PF.laws_markStringS y.seq.left m).2)).2 + 1)) + 1)) + 1))) rfl) ?_
  refine FL.v (E.add rfl rfl) ?_
  refine FL.v (E.assign (v := Value.int .i64 (wr ((wr ((wr ((wr ((PF.laws_markStringS y.seq.right ((PF.laws_markStringS y.seq.left m).2)).2 + 1)) + 1)) + 1)) + 1))) rfl) ?_
  refine FL.nil (FW.region ?_)
  refine FL.v (E.move kc) ?_
  refine FL.v (E.add rfl rfl) ?_
  refine FL.v (E.assign (v := Value.int .i64 (wr (((i : Nat) : Int) + 1))) rfl) ?_
  refine FL.nil ?_
  obtain ⟨c2, n2, hb2, ho2⟩ := n1.round eSeqStep_loc hy (by decide) hpt wr66 (y' := (SeqStep.mk (Sequent.mk ((PF.laws_markStringS y.seq.left m).1) ((PF.laws_markStringS y.seq.right ((PF.laws_markStringS y.seq.left m).2)).1)) ((PF.laws_markStringS y.seq.right ((PF.laws_markStringS y.seq.left m).2)).2) (PF.laws_markText (wr ((PF.laws_markStringS y.seq.right ((PF.laws_markStringS y.seq.left m).2)).2 + 1))) (wr ((wr ((PF.laws_markStringS y.seq.right ((PF.laws_markStringS y.seq.left m).2)).2 + 1)) + 1)) (wr ((wr ((wr ((PF.laws_markStringS y.seq.right ((PF.laws_markStringS y.seq.left m).2)).2 + 1)) + 1)) + 1)))) ⟨_, _, rfl, h68, h69⟩
  exact ⟨rfl, _, _, S64, n2, hb2.trans hb, fun b q1 q2 => (ho2 b q1 (by rw [hb]; exact q2)).trans (ho b q1 q2), kv, rfl, nat_succ rfl (lt_of_get hx) hle⟩
 ·
  rintro f1 w1 ⟨H1, c1, S1, n1, hb, ho, kv, kk, kc⟩
  refine FW.seq (FW.seq (FW.region ?_))
  refine FL.v (E.move kc) ?_
  refine FL.v (E.move kv) ?_
  refine FL.v (E.len te24 rfl hln) ?_
  refine FL.v (E.lss rfl rfl) ?_
  refine FL.nil ?_
  refine FW.condF rfl dlt_len ?_
  refine FW.exit ?_
  exact ⟨nofun, rfl, _, _, S1, n1, hb, ho, kv, kk⟩
 ·
  rintro e f2 w2 ⟨rfl, H2, c2, S2, n2, hb, ho, kv, kk⟩
  refine FW.seq (FW.region ?_)
  refine FL.v (E.move kk) ?_
  refine FL.v (E.assign (v := Value.int .i64 ((markFrom (fun y m => ((SeqStep.mk (Sequent.mk ((PF.laws_markStringS y.seq.left m).1) ((PF.laws_markStringS y.seq.right ((PF.laws_markStringS y.seq.left m).2)).1)) ((PF.laws_markStringS y.seq.right ((PF.laws_markStringS y.seq.left m).2)).2) (PF.laws_markText (wr ((PF.laws_markStringS y.seq.right ((PF.laws_markStringS y.seq.left m).2)).2 + 1))) (wr ((wr ((PF.laws_markStringS y.seq.right ((PF.laws_markStringS y.seq.left m).2)).2 + 1)) + 1)) (wr ((wr ((wr ((PF.laws_markStringS y.seq.right ((PF.laws_markStringS y.seq.left m).2)).2 + 1)) + 1)) + 1))), (wr ((wr ((wr ((wr ((PF.laws_markStringS y.seq.right ((PF.laws_markStringS y.seq.left m).2)).2 + 1)) + 1)) + 1)) + 1)))) a0 a1).2)) rfl) ?_
  refine FL.nil ?_
  refine FW.ret ?_
  exact ⟨.inr rfl, res1 rfl rfl ⟨_, _, rfl, S2, n2, hb, fun b q1 q2 => weak (F := fun b => b ∉ bl [v0] ∧ b ∉ bl c0) (fun b q => ho b q.1 q.2) b ⟨q1, q2⟩⟩⟩

set_option maxHeartbeats 4000000 in
theorem w_laws_heldStringS {Ha : GH} {wa : World} (hs : Sl Ha wa) (v0 : Value) (a0 : List ByteArray) (p0 : RSl Ha eS 1 v0 a0) (a1 : Int) {r : Int} (hp : (PF.laws_heldStringS a0 a1) = some r) :
  Calls Tryz.prog 56 #[v0, Value.int .i64 a1] wa (Sc Ha wa (Value.int .i64 r)) := by
 unfold PF.laws_heldStringS at hp
 have S0 := St.init hs
 refine calls_go (N := 22) (args := [v0, Value.int .i64 a1]) Tryz.func56 rfl rfl rfl ?_
 refine FW.seq (FW.region ?_)
 refine FL.v (E.assign (v := Value.int .i64 0) rfl) ?_
 refine FL.nil (FW.seq (FW.seq (FW.region ?_)))
 refine FL.v (E.assign (v := Value.int .i64 0) rfl) ?_
 refine FL.nil ?_
 obtain ⟨q22, hq, hp⟩ := bndR hp
 refine FW.block ?_
 refine FW.mono (FW.forL (S := Int) (X := Int) (fun (i22 : Nat) (s22 : Int) f w => ∃ H : GH, St Ha wa H w [] ∧ Inc Ha H ∧ f 5 = Value.int .i64 ((i22 : Nat) : Int) ∧ f 0 = v0 ∧ f 1 = Value.int .i64 s22) (fun q e f w => match q with | .go s22 => e = Exit.exit 0 ∧ (∃ H : GH, St Ha wa H w [] ∧ Inc Ha H ∧ f 1 = Value.int .i64 s22) | .rt x => ((e = Exit.ret) ∧ (fun e f w => (e = Exit.normal ∨ e = Exit.ret) ∧ ∀ a, Fr (δ := []) 22 a f → ∃ v, (results Tryz.f56 a.tmps).run Tryz.prog w = .ok v w ∧ (Sc Ha wa (Value.int .i64 x)) (.returned v) w) e f w)) hq ⟨_, S0, (Inc.rfl _), rfl, rfl, rfl⟩ ?_ ?_) ?_
 ·
  clear hp hq
  rintro i22 y21 s22 f46 w45 ⟨H42, S43, i44, k47, k48, k49⟩ hx22 o61 hp
  refine FW.seq (FW.seq (FW.region ?_))
  refine FL.v (E.move k47) ?_
  refine FL.v (E.move k48) ?_
  refine FL.v (E.lenP te22 rfl p0) ?_
  refine FL.v (E.lssT rfl rfl (lss_len hx22)) ?_
  refine FL.nil ?_
  refine FW.condT rfl rfl ?_
  refine FW.skip (FW.seq (FW.block (FW.seq (FW.seq ?_))))
  refine FW.draw (fun w' => Run w45.heap.size H42 w45 H42 w') (by kernel_rfl) (by kernel_rfl) (run_drew S43.sl) ?_
  refine FD.val rfl rfl rfl (fun w' hw' => (E.move k48)) ?_
  refine FD.val rfl rfl rfl (fun w' hw' => (E.move k47)) ?_
  obtain ⟨p51, cs52, pt53, l54, at55, rel56⟩ := p0.at (ix_nat hx22)
  obtain rfl := eS_open rel56
  refine FD.val rfl rfl rfl (fun w' hw' => (E.indexAddr te22 rfl rfl pt53)) ?_
  refine FD.val rfl rfl rfl (fun w' hw' => (E.load rfl (run_load0 Tryz.isAgg9 ((at55.mono i44).now (S43.call hw').sl) rfl))) ?_
  refine FD.val rfl rfl rfl (fun w' hw' => (E.move k49)) ?_
  refine FD.call rfl rfl rfl (fun w' hw' => (E.call Tryz.call55 (A1 rfl))) (fun w' hw' => Calls.cls hw' (w_laws_markText (S43.call hw').sl s22)) ?_
  refine FD.val rfl rfl rfl (fun w' hw' => (E.neqS rfl rfl)) ?_
  refine FD.nil ?_
  intro w57 r59
  have S58 := S43.call r59
  rcases ifB hp with ⟨c60, hp⟩ | ⟨c60, hp⟩
  ·
   refine FW.condT rfl c60 ?_
   refine FW.seq (FW.region ?_)
   refine FL.v (E.assign (v := Value.int .i64 (-1)) rfl) ?_
   refine FL.nil ?_
   refine FW.ret ?_
   obtain rfl := Option.some.inj hp
   exact ⟨nofun, rfl, ⟨.inr rfl, res1 rfl rfl ⟨rfl, S58.back⟩⟩⟩
  ·
   refine FW.condF rfl c60 ?_
   refine FW.skip (FW.region ?_)
   refine FL.v (E.move k49) ?_
   refine FL.v (E.add rfl rfl) ?_
   refine FL.v (E.assign (v := Value.int .i64 (wr (s22 + 1))) rfl) ?_
   refine FL.nil (FW.region ?_)
   refine FL.v (E.move k47) ?_
   refine FL.v (E.add rfl rfl) ?_
   refine FL.v (E.assign (v := Value.int .i64 (wr (((i22 : Nat) : Int) + 1))) rfl) ?_
   refine FL.nil ?_
   obtain rfl := Option.some.inj hp
   exact ⟨rfl, ⟨_, S58, i44, (nat_succ rfl (lt_of_get hx22) (p0.mono i44).le), k48, rfl⟩⟩
 ·
  clear hp hq
  rintro s22 f72 w71 ⟨H68, S69, i70, k73, k74, k75⟩
  refine FW.seq (FW.seq (FW.region ?_))
  refine FL.v (E.move k73) ?_
  refine FL.v (E.move k74) ?_
  refine FL.v (E.lenP te22 rfl p0) ?_
  refine FL.v (E.lss rfl rfl) ?_
  refine FL.nil ?_
  refine FW.condF rfl dlt_len ?_
  refine FW.exit ?_
  exact ⟨nofun, rfl, ⟨_, S69, i70, k75⟩⟩
 ·
  clear hq
  intro e f66 w65 hD
  rcases q22 with s22 | x22
  ·
   obtain ⟨rfl, hD⟩ := hD
   obtain ⟨H62, S63, i64, k67⟩ := hD
   replace hp := el_go hp
   refine FW.seq (FW.region ?_)
   refine FL.v (E.move k67) ?_
   refine FL.v (E.assign (v := Value.int .i64 s22) rfl) ?_
   refine FL.nil ?_
   refine FW.ret ?_
   obtain rfl := Option.some.inj hp
   exact ⟨.inr rfl, res1 rfl rfl ⟨rfl, S63.back⟩⟩
  ·
   obtain ⟨he, hL⟩ := hD
   replace hp := el_rt hp
   obtain rfl := Option.some.inj hp
   subst he
   exact hL

set_option maxHeartbeats 4000000 in
theorem w_laws_heldSeqStepS {Ha : GH} {wa : World} (hs : Sl Ha wa) (v0 : Value) (a0 : List SeqStep) (p0 : RSl Ha eSeqStep 6 v0 a0) (a1 : Int) {r : Int} (hp : (PF.laws_heldSeqStepS a0 a1) = some r) :
  Calls Tryz.prog 17 #[v0, Value.int .i64 a1] wa (Sc Ha wa (Value.int .i64 r)) := by
 unfold PF.laws_heldSeqStepS at hp
 have S0 := St.init hs
 refine calls_go (N := 70) (args := [v0, Value.int .i64 a1]) Tryz.func17 rfl rfl rfl ?_
 refine FW.seq (FW.region ?_)
 refine FL.v (E.assign (v := Value.int .i64 0) rfl) ?_
 refine FL.nil (FW.seq (FW.seq (FW.region ?_)))
 refine FL.v (E.assign (v := Value.int .i64 0) rfl) ?_
 refine FL.nil ?_
 obtain ⟨q22, hq, hp⟩ := bndR hp
 refine FW.block ?_
 refine FW.mono (FW.forL (S := Int) (X := Int) (fun (i22 : Nat) (s22 : Int) f w => ∃ H : GH, St Ha wa H w [] ∧ Inc Ha H ∧ f 5 = Value.int .i64 ((i22 : Nat) : Int) ∧ f 0 = v0 ∧ f 1 = Value.int .i64 s22) (fun q e f w => match q with | .go s22 => e = Exit.exit 0 ∧ (∃ H : GH, St Ha wa H w [] ∧ Inc Ha H ∧ f 1 = Value.int .i64 s22) | .rt x => ((e = Exit.ret) ∧ (fun e f w => (e = Exit.normal ∨ e = Exit.ret) ∧ ∀ a, Fr (δ := []) 70 a f → ∃ v, (results Tryz.f17 a.tmps).run Tryz.prog w = .ok v w ∧ (Sc Ha wa (Value.int .i64 x)) (.returned v) w) e f w)) hq ⟨_, S0, (Inc.rfl _), rfl, rfl, rfl⟩ ?_ ?_) ?_
 ·
  clear hp hq
  rintro i22 y21 s22 f115 w114 ⟨H111, S112, i113, k116, k117, k118⟩ hx22 o199 hp
  refine FW.seq (FW.seq (FW.region ?_))
  refine FL.v (E.move k116) ?_
  refine FL.v (E.move k117) ?_
  refine FL.v (E.lenP te24 rfl p0) ?_
  refine FL.v (E.lssT rfl rfl (lss_len hx22)) ?_
  refine FL.nil ?_
  refine FW.condT rfl rfl ?_
  refine FW.skip (FW.seq (FW.block (FW.seq (FW.region ?_))))
  refine FL.v (E.move k117) ?_
  refine FL.v (E.move k116) ?_
  obtain ⟨p119, cs120, pt121, l122, at123, rel124⟩ := p0.at (ix_nat hx22)
  obtain ⟨v125, v127, rfl, h126, h128⟩ := eSeqStep_open rel124
  refine FL.v (E.indexAddr te24 rfl rfl pt121) ?_
  refine FL.v (E.fieldAddr tf74_0 rfl) ?_
  refine FL.v (E.fieldAddrN tf68_0 rfl rfl) ?_
  refine FL.v (E.load rfl (run_load1 Tryz.isAgg22 ((at123.mono i113).now S112.sl) rfl)) ?_
  refine FL.v (E.move k118) ?_
  obtain ⟨r129, hr130, hp⟩ := bnd hp
  refine FL.call rfl rfl rfl (E.call Tryz.call56 (A2 rfl rfl)) (w_laws_heldStringS S112.sl v125 y21.seq.left (h126.mono i113) s22 hr130) ?_
  rintro e w131 ⟨rfl, r132⟩
  refine ⟨_, rfl, ?_⟩
  have S133 := S112.call r132
  refine FL.v (E.assign (v := Value.int .i64 r129) rfl) ?_
  refine FL.nil (FW.seq (FW.seq (FW.region ?_)))
  refine FL.v (E.move (v := Value.int .i64 r129) rfl) ?_
  refine FL.v (E.lss rfl rfl) ?_
  refine FL.nil ?_
  rcases ifB hp with ⟨c134, hp⟩ | ⟨c134, hp⟩
  ·
   refine FW.condT rfl c134 ?_
   refine FW.seq (FW.region ?_)
   refine FL.v (E.assign (v := Value.int .i64 (-1)) rfl) ?_
   refine FL.nil ?_
   refine FW.ret ?_
   obtain rfl := Option.some.inj hp
   exact ⟨nofun, rfl, ⟨.inr rfl, res1 rfl rfl ⟨rfl, S133.back⟩⟩⟩
  ·
   refine FW.condF rfl c134 ?_
   refine FW.skip (FW.seq (FW.region ?_))
   refine FL.v (E.move k117) ?_
   refine FL.v (E.move k116) ?_
   obtain ⟨p135, cs136, pt137, l138, at139, rel140⟩ := p0.at (ix_nat hx22)
   obtain ⟨v141, v143, rfl, h142, h144⟩ := eSeqStep_open rel140
   refine FL.v (E.indexAddr te24 rfl rfl pt137) ?_
   refine FL.v (E.fieldAddr tf74_0 rfl) ?_
   refine FL.v (E.fieldAddrN tf68_1 rfl rfl) ?_
   refine FL.v (E.load rfl (run_load1 Tryz.isAgg22 ((at139.mono i113).now S133.sl) rfl)) ?_
   refine FL.v (E.move (v := Value.int .i64 r129) rfl) ?_
   obtain ⟨r145, hr146, hp⟩ := bnd hp
   refine FL.call rfl rfl rfl (E.call Tryz.call56 (A2 rfl rfl)) (w_laws_heldStringS S133.sl v143 y21.seq.right (h144.mono i113) r129 hr146) ?_
   rintro e w147 ⟨rfl, r148⟩
   refine ⟨_, rfl, ?_⟩
   have S149 := S133.call r148
   refine FL.v (E.assign (v := Value.int .i64 r145) rfl) ?_
   refine FL.nil (FW.seq (FW.seq (FW.region ?_)))
   refine FL.v (E.move (v := Value.int .i64 r145) rfl) ?_
   refine FL.v (E.lss rfl rfl) ?_
   refine FL.nil ?_
   rcases ifB hp with ⟨c150, hp⟩ | ⟨c150, hp⟩
   ·
    refine FW.condT rfl c150 ?_
    refine FW.seq (FW.region ?_)
    refine FL.v (E.assign (v := Value.int .i64 (-1)) rfl) ?_
    refine FL.nil ?_
    refine FW.ret ?_
    obtain rfl := Option.some.inj hp
    exact ⟨nofun, rfl, ⟨.inr rfl, res1 rfl rfl ⟨rfl, S149.back⟩⟩⟩
   ·
    refine FW.condF rfl c150 ?_
    refine FW.skip (FW.seq (FW.seq (FW.region ?_)))
    refine FL.v (E.move k117) ?_
    refine FL.v (E.move k116) ?_
    obtain ⟨p151, cs152, pt153, l154, at155, rel156⟩ := p0.at (ix_nat hx22)
    obtain ⟨v157, v159, rfl, h158, h160⟩ := eSeqStep_open rel156
    refine FL.v (E.indexAddr te24 rfl rfl pt153) ?_
    refine FL.v (E.fieldAddr tf74_1 rfl) ?_
    refine FL.v (E.load rfl (run_load1 Tryz.isAgg3 ((at155.mono i113).now S149.sl) rfl)) ?_
    refine FL.v (E.move (v := Value.int .i64 r145) rfl) ?_
    refine FL.v (E.neq rfl rfl) ?_
    refine FL.nil ?_
    rcases ifB hp with ⟨c161, hp⟩ | ⟨c161, hp⟩
    ·
     refine FW.condT rfl c161 ?_
     refine FW.seq (FW.region ?_)
     refine FL.v (E.assign (v := Value.int .i64 (-1)) rfl) ?_
     refine FL.nil ?_
     refine FW.ret ?_
     obtain rfl := Option.some.inj hp
     exact ⟨nofun, rfl, ⟨.inr rfl, res1 rfl rfl ⟨rfl, S149.back⟩⟩⟩
    ·
     refine FW.condF rfl c161 ?_
     refine FW.skip (FW.seq (FW.region ?_))
     refine FL.v (E.move (v := Value.int .i64 r145) rfl) ?_
     refine FL.v (E.add rfl rfl) ?_
     refine FL.v (E.assign (v := Value.int .i64 (wr (r145 + 1))) rfl) ?_
     refine FL.nil (FW.seq (FW.seq ?_))
     refine FW.draw (fun w' => Run w147.heap.size H111 w147 H111 w') (by kernel_rfl) (by kernel_rfl) (run_drew S149.sl) ?_
     refine FD.val rfl rfl rfl (fun w' hw' => (E.move k117)) ?_
     refine FD.val rfl rfl rfl (fun w' hw' => (E.move k116)) ?_
     obtain ⟨p163, cs164, pt165, l166, at167, rel168⟩ := p0.at (ix_nat hx22)
     obtain ⟨v169, v171, rfl, h170, h172⟩ := eSeqStep_open rel168
     refine FD.val rfl rfl rfl (fun w' hw' => (E.indexAddr te24 rfl rfl pt165)) ?_
     refine FD.val rfl rfl rfl (fun w' hw' => (E.fieldAddr tf74_2 rfl)) ?_
     refine FD.val rfl rfl rfl (fun w' hw' => (E.load rfl (run_load1 Tryz.isAgg9 ((at167.mono i113).now (S149.call hw').sl) rfl))) ?_
     refine FD.val rfl rfl rfl (fun w' hw' => (E.move (v := Value.int .i64 (wr (r145 + 1))) rfl)) ?_
     refine FD.call rfl rfl rfl (fun w' hw' => (E.call Tryz.call55 (A1 rfl))) (fun w' hw' => Calls.cls hw' (w_laws_markText (S149.call hw').sl (wr (r145 + 1)))) ?_
     refine FD.val rfl rfl rfl (fun w' hw' => (E.neqS rfl rfl)) ?_
     refine FD.nil ?_
     intro w173 r175
     have S174 := S149.call r175
     rcases ifB hp with ⟨c176, hp⟩ | ⟨c176, hp⟩
     ·
      refine FW.condT rfl c176 ?_
      refine FW.seq (FW.region ?_)
      refine FL.v (E.assign (v := Value.int .i64 (-1)) rfl) ?_
      refine FL.nil ?_
      refine FW.ret ?_
      obtain rfl := Option.some.inj hp
      exact ⟨nofun, rfl, ⟨.inr rfl, res1 rfl rfl ⟨rfl, S174.back⟩⟩⟩
     ·
      refine FW.condF rfl c176 ?_
      refine FW.skip (FW.seq (FW.region ?_))
      refine FL.v (E.move (v := Value.int .i64 (wr (r145 + 1))) rfl) ?_
      refine FL.v (E.add rfl rfl) ?_
      refine FL.v (E.assign (v := Value.int .i64 (wr ((wr (r145 + 1)) + 1))) rfl) ?_
      refine FL.nil (FW.seq (FW.seq (FW.region ?_)))
      refine FL.v (E.move k117) ?_
      refine FL.v (E.move k116) ?_
      obtain ⟨p177, cs178, pt179, l180, at181, rel182⟩ := p0.at (ix_nat hx22)
      obtain ⟨v183, v185, rfl, h184, h186⟩ := eSeqStep_open rel182
      refine FL.v (E.indexAddr te24 rfl rfl pt179) ?_
      refine FL.v (E.fieldAddr tf74_3 rfl) ?_
      refine FL.v (E.load rfl (run_load1 Tryz.isAgg3 ((at181.mono i113).now S174.sl) rfl)) ?_
      refine FL.v (E.move (v := Value.int .i64 (wr ((wr (r145 + 1)) + 1))) rfl) ?_
      refine FL.v (E.neq rfl rfl) ?_
      refine FL.nil ?_
      rcases ifB hp with ⟨c187, hp⟩ | ⟨c187, hp⟩
      ·
       refine FW.condT rfl c187 ?_
       refine FW.seq (FW.region ?_)
       refine FL.v (E.assign (v := Value.int .i64 (-1)) rfl) ?_
       refine FL.nil ?_
       refine FW.ret ?_
       obtain rfl := Option.some.inj hp
       exact ⟨nofun, rfl, ⟨.inr rfl, res1 rfl rfl ⟨rfl, S174.back⟩⟩⟩
      ·
       refine FW.condF rfl c187 ?_
       refine FW.skip (FW.seq (FW.region ?_))
       refine FL.v (E.move (v := Value.int .i64 (wr ((wr (r145 + 1)) + 1))) rfl) ?_
       refine FL.v (E.add rfl rfl) ?_
       refine FL.v (E.assign (v := Value.int .i64 (wr ((wr ((wr (r145 + 1)) + 1)) + 1))) rfl) ?_
       refine FL.nil (FW.seq (FW.seq (FW.region ?_)))
       refine FL.v (E.move k117) ?_
       refine FL.v (E.move k116) ?_
       obtain ⟨p188, cs189, pt190, l191, at192, rel193⟩ := p0.at (ix_nat hx22)
       obtain ⟨v194, v196, rfl, h195, h197⟩ := eSeqStep_open rel193
       refine FL.v (E.indexAddr te24 rfl rfl pt190) ?_
       refine FL.v (E.fieldAddr tf74_4 rfl) ?_
       refine FL.v (E.load rfl (run_load1 Tryz.isAgg3 ((at192.mono i113).now S174.sl) rfl)) ?_
       refine FL.v (E.move (v := Value.int .i64 (wr ((wr ((wr (r145 + 1)) + 1)) + 1))) rfl) ?_
       refine FL.v (E.neq rfl rfl) ?_
       refine FL.nil ?_
       rcases ifB hp with ⟨c198, hp⟩ | ⟨c198, hp⟩
       ·
        refine FW.condT rfl c198 ?_
        refine FW.seq (FW.region ?_)
        refine FL.v (E.assign (v := Value.int .i64 (-1)) rfl) ?_
        refine FL.nil ?_
        refine FW.ret ?_
        obtain rfl := Option.some.inj hp
        exact ⟨nofun, rfl, ⟨.inr rfl, res1 rfl rfl ⟨rfl, S174.back⟩⟩⟩
       ·
        refine FW.condF rfl c198 ?_
        refine FW.skip (FW.region ?_)
        refine FL.v (E.move (v := Value.int .i64 (wr ((wr ((wr (r145 + 1)) + 1)) + 1))) rfl) ?_
        refine FL.v (E.add rfl rfl) ?_
        refine FL.v (E.assign (v := Value.int .i64 (wr ((wr ((wr ((wr (r145 + 1)) + 1)) + 1)) + 1))) rfl) ?_
        refine FL.nil (FW.region ?_)
        refine FL.v (E.move k116) ?_
        refine FL.v (E.add rfl rfl) ?_
        refine FL.v (E.assign (v := Value.int .i64 (wr (((i22 : Nat) : Int) + 1))) rfl) ?_
        refine FL.nil ?_
        obtain rfl := Option.some.inj hp
        exact ⟨rfl, ⟨_, S174, i113, (nat_succ rfl (lt_of_get hx22) (p0.mono i113).le), k117, rfl⟩⟩
 ·
  clear hp hq
  rintro s22 f210 w209 ⟨H206, S207, i208, k211, k212, k213⟩
  refine FW.seq (FW.seq (FW.region ?_))
  refine FL.v (E.move k211) ?_
  refine FL.v (E.move k212) ?_
  refine FL.v (E.lenP te24 rfl p0) ?_
  refine FL.v (E.lss rfl rfl) ?_
  refine FL.nil ?_
  refine FW.condF rfl dlt_len ?_
  refine FW.exit ?_
  exact ⟨nofun, rfl, ⟨_, S207, i208, k213⟩⟩
 ·
  clear hq
  intro e f204 w203 hD
  rcases q22 with s22 | x22
  ·
   obtain ⟨rfl, hD⟩ := hD
   obtain ⟨H200, S201, i202, k205⟩ := hD
   replace hp := el_go hp
   refine FW.seq (FW.region ?_)
   refine FL.v (E.move k205) ?_
   refine FL.v (E.assign (v := Value.int .i64 s22) rfl) ?_
   refine FL.nil ?_
   refine FW.ret ?_
   obtain rfl := Option.some.inj hp
   exact ⟨.inr rfl, res1 rfl rfl ⟨rfl, S201.back⟩⟩
  ·
   obtain ⟨he, hL⟩ := hD
   replace hp := el_rt hp
   obtain rfl := Option.some.inj hp
   subst he
   exact hL

set_option maxHeartbeats 4000000 in
theorem w_laws_FnExactJoinByCut {Ha : GH} {wa : World} (hs : Sl Ha wa) (v0 : Value) (a0 : List SeqStep) (p0 : RSl Ha eSeqStep 6 v0 a0) (v1 : Value) (a1 : List SeqStep) (p1 : RSl Ha eSeqStep 6 v1 a1) (a2 : ByteArray) {r : Bool} (hp : (PF.laws_FnExactJoinByCut a0 a1 a2) = some r) :
  Calls Tryz.prog 5 #[v0, v1, Value.string a2] wa (Sc Ha wa (Value.bool r)) := by
 unfold PF.laws_FnExactJoinByCut at hp
 have S0 := St.init hs
 refine calls_go (N := 127) (args := [v0, v1, Value.string a2]) Tryz.func5 rfl rfl rfl ?_
 refine FW.seq (FW.region ?_)
 refine FL.v (E.assign (v := Value.bool false) rfl) ?_
 refine FL.nil (FW.seq (FW.seq (FW.region ?_)))
 refine FL.v (E.move (v := Value.string a2) rfl) ?_
 refine FL.v (E.lenS Tryz.runUnderlying9 rfl) ?_
 refine FL.v (E.gtr rfl rfl) ?_
 refine FL.nil ?_
 rcases ifB hp with ⟨c21, hp⟩ | ⟨c21, hp⟩
 ·
  refine FW.condT rfl c21 ?_
  refine FW.seq (FW.region ?_)
  refine FL.v (E.assign (v := Value.bool true) rfl) ?_
  refine FL.nil ?_
  refine FW.ret ?_
  obtain rfl := Option.some.inj hp
  exact ⟨.inr rfl, res1 rfl rfl ⟨rfl, S0.back⟩⟩
 ·
  refine FW.condF rfl c21 ?_
  refine FW.skip (FW.seq (FW.region ?_))
  refine FL.v (E.assign (v := Value.int .i64 1048576) rfl) ?_
  refine FL.nil (FW.seq (FW.region ?_))
  refine FL.v (E.move (v := v0) rfl) ?_
  refine FL.v (E.move (v := Value.int .i64 1048576) rfl) ?_
  obtain ⟨r22, hr23, hp⟩ := bnd hp
  refine FL.call rfl rfl rfl (E.call Tryz.call18 (A2 rfl rfl)) (w_laws_szSeqStepS S0.sl v0 a0 p0 1048576 hr23) ?_
  rintro e w24 ⟨rfl, r25⟩
  refine ⟨_, rfl, ?_⟩
  have S26 := S0.call r25
  have z27 := r25.bel.size
  refine FL.v (E.assign (v := Value.int .i64 r22) rfl) ?_
  refine FL.nil (FW.seq (FW.seq (FW.region ?_)))
  refine FL.v (E.move (v := Value.int .i64 r22) rfl) ?_
  refine FL.v (E.lss rfl rfl) ?_
  refine FL.nil ?_
  rcases ifB hp with ⟨c28, hp⟩ | ⟨c28, hp⟩
  ·
   refine FW.condT rfl c28 ?_
   refine FW.seq (FW.region ?_)
   refine FL.v (E.assign (v := Value.bool true) rfl) ?_
   refine FL.nil ?_
   refine FW.ret ?_
   obtain rfl := Option.some.inj hp
   exact ⟨.inr rfl, res1 rfl rfl ⟨rfl, S26.back⟩⟩
  ·
   refine FW.condF rfl c28 ?_
   refine FW.skip (FW.seq (FW.region ?_))
   refine FL.v (E.move (v := v1) rfl) ?_
   refine FL.v (E.move (v := Value.int .i64 r22) rfl) ?_
   obtain ⟨r29, hr30, hp⟩ := bnd hp
   refine FL.call rfl rfl rfl (E.call Tryz.call18 (A2 rfl rfl)) (w_laws_szSeqStepS S26.sl v1 a1 p1 r22 hr30) ?_
   rintro e w31 ⟨rfl, r32⟩
   refine ⟨_, rfl, ?_⟩
   have S33 := S26.call r32
   have z34 := r32.bel.size
   refine FL.v (E.assign (v := Value.int .i64 r29) rfl) ?_
   refine FL.nil (FW.seq (FW.seq (FW.region ?_)))
   refine FL.v (E.move (v := Value.int .i64 r29) rfl) ?_
   refine FL.v (E.lss rfl rfl) ?_
   refine FL.nil ?_
   rcases ifB hp with ⟨c35, hp⟩ | ⟨c35, hp⟩
   ·
    refine FW.condT rfl c35 ?_
    refine FW.seq (FW.region ?_)
    refine FL.v (E.assign (v := Value.bool true) rfl) ?_
    refine FL.nil ?_
    refine FW.ret ?_
    obtain rfl := Option.some.inj hp
    exact ⟨.inr rfl, res1 rfl rfl ⟨rfl, S33.back⟩⟩
   ·
    refine FW.condF rfl c35 ?_
    refine FW.skip (FW.seq (FW.region ?_))
    refine FL.v (E.move (v := v0) rfl) ?_
    obtain ⟨r36, hr37, hp⟩ := bnd hp
    refine FL.call rfl rfl rfl (E.call Tryz.call20 (A1 rfl)) (w_laws_toSeqStepS S33.sl v0 a0 p0 hr37) ?_
    rintro e w39 ⟨H38, v42, n43, cs44, rfl, r41, els45, nd46⟩
    refine ⟨_, rfl, ?_⟩
    have nv47 : New Ha cs44 := New.of_up S33.sl els45.dom
    obtain ⟨H48, r49, i50, ns53, nv52⟩ := r41.sealRowN (i := 0) (l' := []) rfl els45 nd46 (by decide) rfl
    have h51 := ns53.rsl
    have S40 := S33.call r49.run
    have z54 := r49.run.bel.size
    have h51 := h51.mono (sg_of S40.sl)
    have ns53 := ns53.mono (sg_of S40.sl)
    refine FL.v (E.move (v := v1) rfl) ?_
    obtain ⟨r55, hr56, hp⟩ := bnd hp
    refine FL.call rfl rfl rfl (E.call Tryz.call20 (A1 rfl)) (w_laws_toSeqStepS S40.sl v1 a1 (p1.mono r49.run.inc) hr56) ?_
    rintro e w58 ⟨H57, v61, n62, cs63, rfl, r60, els64, nd65⟩
    refine ⟨_, rfl, ?_⟩
    have nv66 : New H48 cs63 := New.of_up S40.sl els64.dom
    obtain ⟨H67, r68, i69, ns72, nv71⟩ := r60.sealRowN (i := 0) (l' := []) rfl els64 nd65 (by decide) rfl
    have h70 := ns72.rsl
    have S59 := S40.call r68.run
    have z73 := r68.run.bel.size
    have h70 := h70.mono (sg_of S59.sl)
    have ns72 := ns72.mono (sg_of S59.sl)
    refine FL.v (E.move (v := Value.string a2) rfl) ?_
    obtain ⟨r74, hr75, hp⟩ := bnd hp
    refine FL.call rfl rfl rfl (E.call Tryz.call22 (A3 rfl rfl rfl)) (w_spec_JoinByCut S59.sl v42 r36 (h51.mono (sgI.tr r68.run.inc)) v61 r55 (h70.mono sgI) a2 hr75) ?_
    rintro e w77 ⟨H76, v80, n81, cs82, rfl, r79, els83⟩
    refine ⟨_, rfl, ?_⟩
    obtain ⟨H84, r85, i86, h87⟩ := r79.sealRow (i := 0) (l' := []) rfl els83 (by decide) rfl
    have S78 := S59.call r85.run
    have z89 := r85.run.bel.size
    have h87 := h87.mono (bw_of S78.sl)
    refine FL.v (E.move (v := Value.tuple #[v80, Value.bool r74.2]) rfl) ?_
    refine FL.v (E.extract (i := 0) rfl rfl) ?_
    refine FL.v (E.extract (i := 1) rfl rfl) ?_
    refine FL.v (E.assign (v := v80) rfl) ?_
    refine FL.v (E.assign (v := Value.bool r74.2) rfl) ?_
    refine FL.nil (FW.seq (FW.region ?_))
    refine FL.v (E.move (v := v0) rfl) ?_
    obtain ⟨r90, hr91, hp⟩ := bnd hp
    refine FL.call rfl rfl rfl (E.call Tryz.call20 (A1 rfl)) (w_laws_toSeqStepS S78.sl v0 a0 (p0.mono ((r49.run.inc.tr r68.run.inc).tr r85.run.inc)) hr91) ?_
    rintro e w93 ⟨H92, v96, n97, cs98, rfl, r95, els99, nd100⟩
    refine ⟨_, rfl, ?_⟩
    have nv101 : New H84 cs98 := New.of_up S78.sl els99.dom
    obtain ⟨H102, r103, i104, ns107, nv106⟩ := r95.sealRowN (i := 0) (l' := []) rfl els99 nd100 (by decide) rfl
    have h105 := ns107.rsl
    have S94 := S78.call r103.run
    have z108 := r103.run.bel.size
    have h105 := h105.mono (sg_of S94.sl)
    have ns107 := ns107.mono (sg_of S94.sl)
    refine FL.v (E.assign (v := v96) rfl) ?_
    refine FL.nil (FW.seq (FW.region ?_))
    refine FL.v (E.move (v := v1) rfl) ?_
    obtain ⟨r109, hr110, hp⟩ := bnd hp
    refine FL.call rfl rfl rfl (E.call Tryz.call20 (A1 rfl)) (w_laws_toSeqStepS S94.sl v1 a1 (p1.mono (((r49.run.inc.tr r68.run.inc).tr r85.run.inc).tr r103.run.inc)) hr110) ?_
    rintro e w112 ⟨H111, v115, n116, cs117, rfl, r114, els118, nd119⟩
    refine ⟨_, rfl, ?_⟩
    have nv120 : New H102 cs117 := New.of_up S94.sl els118.dom
    obtain ⟨H121, r122, i123, ns126, nv125⟩ := r114.sealRowN (i := 0) (l' := []) rfl els118 nd119 (by decide) rfl
    have h124 := ns126.rsl
    have S113 := S94.call r122.run
    have z127 := r122.run.bel.size
    have h124 := h124.mono (sg_of S113.sl)
    have ns126 := ns126.mono (sg_of S113.sl)
    refine FL.v (E.assign (v := v115) rfl) ?_
    refine FL.nil (FW.seq (FW.region ?_))
    refine FL.v (E.move (v := v96) rfl) ?_
    refine FL.v (E.move (v := v115) rfl) ?_
    refine FL.v (E.move (v := Value.string a2) rfl) ?_
    obtain ⟨r128, hr129, hp⟩ := bnd hp
    refine FL.call rfl rfl rfl (E.call Tryz.call23 (A3 rfl rfl rfl)) (w_impl_JoinByCut S113.sl v96 r90 (h105.mono (sgI.tr r122.run.inc)) v115 r109 (h124.mono sgI) a2 hr129) ?_
    rintro e w131 ⟨H130, v134, n135, cs136, rfl, r133, els137, nd138⟩
    refine ⟨_, rfl, ?_⟩
    have nv139 : New H121 cs136 := New.of_up S113.sl els137.dom
    obtain ⟨H140, r141, i142, ns145, nv144⟩ := r133.sealRowN (i := 0) (l' := []) rfl els137 nd138 (by decide) rfl
    have h143 := ns145.rsl
    have S132 := S113.call r141.run
    have z146 := r141.run.bel.size
    have h143 := h143.mono (sg_of S132.sl)
    have ns145 := ns145.mono (sg_of S132.sl)
    refine FL.v (E.move (v := Value.tuple #[v134, Value.bool r128.2]) rfl) ?_
    refine FL.v (E.extract (i := 0) rfl rfl) ?_
    refine FL.v (E.extract (i := 1) rfl rfl) ?_
    refine FL.v (E.assign (v := v134) rfl) ?_
    refine FL.v (E.assign (v := Value.bool r128.2) rfl) ?_
    refine FL.nil (FW.seq (FW.seq (FW.region ?_)))
    refine FL.v (E.move (v := v134) rfl) ?_
    refine FL.v (E.move (v := v80) rfl) ?_
    obtain ⟨r147, hr148, hp⟩ := bnd hp
    refine FL.call rfl rfl rfl (E.call Tryz.call13 (A2 rfl rfl)) (w_laws_eqSeqStepS S132.sl v134 r128.1 (h143.mono sgI) v80 r74.1 (h87.mono (bwI.tr ((r103.run.inc.tr r122.run.inc).tr r141.run.inc))) hr148) ?_
    rintro e w149 ⟨rfl, r150⟩
    refine ⟨_, rfl, ?_⟩
    have S151 := S132.call r150
    have z152 := r150.bel.size
    refine FL.v (E.not rfl) ?_
    refine FL.v (E.move (v := Value.bool (!r147)) rfl) ?_
    refine FL.cut 4 (fun f w => ∃ H : GH, St Ha wa H w [] ∧ Inc H140 H ∧ f 0 = v0 ∧ f 1 = v1 ∧ f 2 = Value.string a2 ∧ f 8 = v80 ∧ f 9 = Value.bool r74.2 ∧ f 10 = v96 ∧ f 11 = v115 ∧ f 12 = v134 ∧ f 13 = Value.bool r128.2 ∧ f 60 = Value.bool (bif (!r147) then true else (!(r128.2 == r74.2)))) ?_ ?_
    ·
     rcases bcase (!r147) with c159 | c159
     ·
      refine FL.skip (wF_no rfl rfl rfl c159) rfl ?_
      refine FL.skip (wF_no rfl rfl rfl c159) rfl ?_
      refine FL.skip (wF_no rfl rfl rfl c159) rfl ?_
      refine FL.v (E.pickT rfl c159 rfl) ?_
      exact FL.nil ⟨rfl, _, S151, (Inc.rfl _), rfl, rfl, rfl, rfl, rfl, rfl, rfl, rfl, rfl, (congrArg Value.bool (bifT c159).symm)⟩
     ·
      refine FL.val (wF_yes rfl rfl rfl c159) rfl rfl (E.move (v := Value.bool r128.2) rfl) ?_
      refine FL.val (wF_yes rfl rfl rfl c159) rfl rfl (E.move (v := Value.bool r74.2) rfl) ?_
      refine FL.val (wF_yes rfl rfl rfl c159) rfl rfl (E.neqB Tryz.runUnderlying4 rfl rfl) ?_
      refine FL.v (E.pickF rfl c159 rfl) ?_
      exact FL.nil ⟨rfl, _, S151, (Inc.rfl _), rfl, rfl, rfl, rfl, rfl, rfl, rfl, rfl, rfl, (congrArg Value.bool (bifF c159).symm)⟩
    rintro f158 w157 ⟨H154, S155, i156, k160, k161, k162, k163, k164, k165, k166, k167, k168, k169⟩
    refine FL.nil ?_
    rcases ifB hp with ⟨c170, hp⟩ | ⟨c170, hp⟩
    ·
     refine FW.condT k169 c170 ?_
     refine FW.seq (FW.region ?_)
     refine FL.v (E.assign (v := Value.bool false) rfl) ?_
     refine FL.nil ?_
     refine FW.ret ?_
     obtain rfl := Option.some.inj hp
     exact ⟨.inr rfl, res1 rfl rfl ⟨rfl, S155.back⟩⟩
    ·
     refine FW.condF k169 c170 ?_
     refine FW.skip (FW.seq (FW.seq (FW.region ?_)))
     refine FL.v (E.move k165) ?_
     refine FL.v (E.move k160) ?_
     obtain ⟨r171, hr172, hp⟩ := bnd hp
     refine FL.call rfl rfl rfl (E.call Tryz.call20 (A1 rfl)) (w_laws_toSeqStepS S155.sl v0 a0 (p0.mono ((((((r49.run.inc.tr r68.run.inc).tr r85.run.inc).tr r103.run.inc).tr r122.run.inc).tr r141.run.inc).tr i156)) hr172) ?_
     rintro e w174 ⟨H173, v177, n178, cs179, rfl, r176, els180, nd181⟩
     refine ⟨_, rfl, ?_⟩
     have nv182 : New H154 cs179 := New.of_up S155.sl els180.dom
     obtain ⟨H183, r184, i185, ns188, nv187⟩ := r176.sealRowN (i := 0) (l' := []) rfl els180 nd181 (by decide) rfl
     have h186 := ns188.rsl
     have S175 := S155.call r184.run
     have z189 := r184.run.bel.size
     have h186 := h186.mono (sg_of S175.sl)
     have ns188 := ns188.mono (sg_of S175.sl)
     obtain ⟨r190, hr191, hp⟩ := bnd hp
     refine FL.call rfl rfl rfl (E.call Tryz.call13 (A2 rfl rfl)) (w_laws_eqSeqStepS S175.sl v96 r90 (h105.mono (sgI.tr (((r122.run.inc.tr r141.run.inc).tr i156).tr r184.run.inc))) v177 r171 (h186.mono sgI) hr191) ?_
     rintro e w192 ⟨rfl, r193⟩
     refine ⟨_, rfl, ?_⟩
     have S194 := S175.call r193
     have z195 := r193.bel.size
     refine FL.v (E.not rfl) ?_
     refine FL.nil ?_
     rcases ifB hp with ⟨c196, hp⟩ | ⟨c196, hp⟩
     ·
      refine FW.condT rfl c196 ?_
      refine FW.seq (FW.region ?_)
      refine FL.v (E.assign (v := Value.bool false) rfl) ?_
      refine FL.nil ?_
      refine FW.ret ?_
      obtain rfl := Option.some.inj hp
      exact ⟨.inr rfl, res1 rfl rfl ⟨rfl, S194.back⟩⟩
     ·
      refine FW.condF rfl c196 ?_
      refine FW.skip (FW.seq (FW.seq (FW.region ?_)))
      refine FL.v (E.move k166) ?_
      refine FL.v (E.move k161) ?_
      obtain ⟨r197, hr198, hp⟩ := bnd hp
      refine FL.call rfl rfl rfl (E.call Tryz.call20 (A1 rfl)) (w_laws_toSeqStepS S194.sl v1 a1 (p1.mono (((((((r49.run.inc.tr r68.run.inc).tr r85.run.inc).tr r103.run.inc).tr r122.run.inc).tr r141.run.inc).tr i156).tr r184.run.inc)) hr198) ?_
      rintro e w200 ⟨H199, v203, n204, cs205, rfl, r202, els206, nd207⟩
      refine ⟨_, rfl, ?_⟩
      have nv208 : New H183 cs205 := New.of_up S194.sl els206.dom
      obtain ⟨H209, r210, i211, ns214, nv213⟩ := r202.sealRowN (i := 0) (l' := []) rfl els206 nd207 (by decide) rfl
      have h212 := ns214.rsl
      have S201 := S194.call r210.run
      have z215 := r210.run.bel.size
      have h212 := h212.mono (sg_of S201.sl)
      have ns214 := ns214.mono (sg_of S201.sl)
      obtain ⟨r216, hr217, hp⟩ := bnd hp
      refine FL.call rfl rfl rfl (E.call Tryz.call13 (A2 rfl rfl)) (w_laws_eqSeqStepS S201.sl v115 r109 (h124.mono (sgI.tr (((r141.run.inc.tr i156).tr r184.run.inc).tr r210.run.inc))) v203 r197 (h212.mono sgI) hr217) ?_
      rintro e w218 ⟨rfl, r219⟩
      refine ⟨_, rfl, ?_⟩
      have S220 := S201.call r219
      have z221 := r219.bel.size
      refine FL.v (E.not rfl) ?_
      refine FL.nil ?_
      rcases ifB hp with ⟨c222, hp⟩ | ⟨c222, hp⟩
      ·
       refine FW.condT rfl c222 ?_
       refine FW.seq (FW.region ?_)
       refine FL.v (E.assign (v := Value.bool false) rfl) ?_
       refine FL.nil ?_
       refine FW.ret ?_
       obtain rfl := Option.some.inj hp
       exact ⟨.inr rfl, res1 rfl rfl ⟨rfl, S220.back⟩⟩
      ·
       refine FW.condF rfl c222 ?_
       refine FW.skip (FW.seq (FW.region ?_))
       refine FL.v (E.assign (v := Value.int .i64 1) rfl) ?_
       refine FL.nil (FW.seq (FW.region ?_))
       refine FL.v (E.move k165) ?_
       refine FL.v (E.move (v := Value.int .i64 1) rfl) ?_
       refine FL.call rfl rfl rfl (E.call Tryz.call16 (A2 rfl rfl)) (w_laws_markSeqStepS S220 hs v96 r90 cs98 (ns107.mono (sg_up (by omega) ((((r122.run.inc.tr r141.run.inc).tr i156).tr r184.run.inc).tr r210.run.inc))) 1) ?_
       rintro e w224 ⟨H223, c229, rfl, S225, ns231, hb230, o227⟩
       refine ⟨_, rfl, ?_⟩
       have o228 := (ns107.mono (sg_mono (hi := w93.heap.size) ((((r122.run.inc.tr r141.run.inc).tr i156).tr r184.run.inc).tr r210.run.inc))).outside o227
       have ns231 := ns107.span eSeqStep_loc (by omega) ns231 hb230
       have h226 := ns231.rsl
       have f232 := h87.mono ((bw_mono (hi := w77.heap.size) (((((r103.run.inc.tr r122.run.inc).tr r141.run.inc).tr i156).tr r184.run.inc).tr r210.run.inc)).tr (bw_keep o228 (by omega)))
       have f233 := h124.mono ((sg_mono (lo := w93.heap.size) (hi := w112.heap.size) (((r141.run.inc.tr i156).tr r184.run.inc).tr r210.run.inc)).tr (sg_keep o228 (by omega)))
       have f234 := ns126.mono ((sg_mono (lo := w93.heap.size) (hi := w112.heap.size) (((r141.run.inc.tr i156).tr r184.run.inc).tr r210.run.inc)).tr (sg_keep o228 (by omega)))
       have f235 := h143.mono ((sg_mono (lo := w112.heap.size) (hi := w131.heap.size) ((i156.tr r184.run.inc).tr r210.run.inc)).tr (sg_keep o228 (by omega)))
       have f236 := ns145.mono ((sg_mono (lo := w112.heap.size) (hi := w131.heap.size) ((i156.tr r184.run.inc).tr r210.run.inc)).tr (sg_keep o228 (by omega)))
       refine FL.v (E.assign (v := Value.int .i64 ((PF.laws_markSeqStepS r90 1).2)) rfl) ?_
       refine FL.nil (FW.seq (FW.region ?_))
       refine FL.v (E.move k166) ?_
       refine FL.v (E.move (v := Value.int .i64 ((PF.laws_markSeqStepS r90 1).2)) rfl) ?_
       refine FL.call rfl rfl rfl (E.call Tryz.call16 (A2 rfl rfl)) (w_laws_markSeqStepS S225 hs v115 r109 cs117 (f234.mono (sg_up (by omega) (Inc.rfl _))) ((PF.laws_markSeqStepS r90 1).2)) ?_
       rintro e w238 ⟨H237, c243, rfl, S239, ns245, hb244, o241⟩
       refine ⟨_, rfl, ?_⟩
       have o242 := (f234.mono (sg_mono (hi := w112.heap.size) (Inc.rfl _))).outside o241
       have ns245 := f234.span eSeqStep_loc (by omega) ns245 hb244
       have h240 := ns245.rsl
       have f246 := f232.mono ((bw_mono (hi := w77.heap.size) (Inc.rfl _)).tr (bw_keep o242 (by omega)))
       have f247 := h226.mono ((sg_mono (lo := w77.heap.size) (hi := w93.heap.size) (Inc.rfl _)).tr (sg_keep o242 (by omega)))
       have f248 := ns231.mono ((sg_mono (lo := w77.heap.size) (hi := w93.heap.size) (Inc.rfl _)).tr (sg_keep o242 (by omega)))
       have f249 := f235.mono ((sg_mono (lo := w112.heap.size) (hi := w131.heap.size) (Inc.rfl _)).tr (sg_keep o242 (by omega)))
       have f250 := f236.mono ((sg_mono (lo := w112.heap.size) (hi := w131.heap.size) (Inc.rfl _)).tr (sg_keep o242 (by omega)))
       refine FL.v (E.assign (v := Value.int .i64 ((PF.laws_markSeqStepS r109 ((PF.laws_markSeqStepS r90 1).2)).2)) rfl) ?_
       refine FL.nil (FW.seq (FW.seq (FW.region ?_)))
       refine FL.v (E.move (v := Value.int .i64 ((PF.laws_markSeqStepS r109 ((PF.laws_markSeqStepS r90 1).2)).2)) rfl) ?_
       refine FL.v (E.lss rfl rfl) ?_
       refine FL.v (E.move (v := Value.bool (decide ((PF.laws_markSeqStepS r109 ((PF.laws_markSeqStepS r90 1).2)).2 < 0))) rfl) ?_
       obtain ⟨t257, hqt257, hp⟩ := bnd hp
       refine FL.cut 5 (fun f w => ∃ H : GH, St Ha wa H w [] ∧ Inc H237 H ∧ f 0 = v0 ∧ f 1 = v1 ∧ f 2 = Value.string a2 ∧ f 8 = v80 ∧ f 9 = Value.bool r74.2 ∧ f 12 = v134 ∧ f 13 = Value.bool r128.2 ∧ f 84 = Value.bool t257) ?_ ?_
       ·
        clear hp; have hp := hqt257; clear hqt257
        rcases ifB hp with ⟨c263, hp⟩ | ⟨c263, hp⟩
        ·
         refine FL.skip (wF_no rfl rfl rfl c263) rfl ?_
         refine FL.skip (wF_no rfl rfl rfl c263) rfl ?_
         refine FL.skip (wF_no rfl rfl rfl c263) rfl ?_
         refine FL.skip (wF_no rfl rfl rfl c263) rfl ?_
         obtain rfl := Option.some.inj hp
         refine FL.v (E.pickT rfl c263 rfl) ?_
         exact FL.nil ⟨rfl, _, S239, (Inc.rfl _), k160, k161, k162, k163, k164, k167, k168, rfl⟩
        ·
         refine FL.val (wF_yes rfl rfl rfl c263) rfl rfl (E.move k167) ?_
         refine FL.val (wF_yes rfl rfl rfl c263) rfl rfl (E.move k163) ?_
         obtain ⟨r264, hr265, hp⟩ := bnd hp
         refine FL.call (wF_yes rfl rfl rfl c263) rfl rfl (E.call Tryz.call13 (A2 rfl rfl)) (w_laws_eqSeqStepS S239.sl v134 r128.1 (f249.mono sgI) v80 r74.1 (f246.mono bwI) hr265) ?_
         rintro e w266 ⟨rfl, r267⟩
         refine ⟨_, rfl, ?_⟩
         have S268 := S239.call r267
         have z269 := r267.bel.size
         refine FL.val (wF_yes rfl rfl rfl c263) rfl rfl (E.not rfl) ?_
         obtain rfl := Option.some.inj hp
         refine FL.v (E.pickF rfl c263 rfl) ?_
         exact FL.nil ⟨rfl, _, S268, (Inc.rfl _), k160, k161, k162, k163, k164, k167, k168, rfl⟩
       rintro f262 w261 ⟨H258, S259, i260, k270, k271, k272, k273, k274, k275, k276, k277⟩
       refine FL.v (E.move k277) ?_
       refine FL.cut 4 (fun f w => ∃ H : GH, St Ha wa H w [] ∧ Inc H258 H ∧ f 0 = v0 ∧ f 1 = v1 ∧ f 2 = Value.string a2 ∧ f 8 = v80 ∧ f 9 = Value.bool r74.2 ∧ f 12 = v134 ∧ f 89 = Value.bool (bif t257 then true else (!(r128.2 == r74.2)))) ?_ ?_
       ·
        rcases bcase t257 with c284 | c284
        ·
         refine FL.skip (wF_no rfl rfl rfl c284) rfl ?_
         refine FL.skip (wF_no rfl rfl rfl c284) rfl ?_
         refine FL.skip (wF_no rfl rfl rfl c284) rfl ?_
         refine FL.v (E.pickT rfl c284 rfl) ?_
         exact FL.nil ⟨rfl, _, S259, (Inc.rfl _), k270, k271, k272, k273, k274, k275, (congrArg Value.bool (bifT c284).symm)⟩
        ·
         refine FL.val (wF_yes rfl rfl rfl c284) rfl rfl (E.move k276) ?_
         refine FL.val (wF_yes rfl rfl rfl c284) rfl rfl (E.move k274) ?_
         refine FL.val (wF_yes rfl rfl rfl c284) rfl rfl (E.neqB Tryz.runUnderlying4 rfl rfl) ?_
         refine FL.v (E.pickF rfl c284 rfl) ?_
         exact FL.nil ⟨rfl, _, S259, (Inc.rfl _), k270, k271, k272, k273, k274, k275, (congrArg Value.bool (bifF c284).symm)⟩
       rintro f283 w282 ⟨H279, S280, i281, k285, k286, k287, k288, k289, k290, k291⟩
       refine FL.nil ?_
       rcases ifB hp with ⟨c292, hp⟩ | ⟨c292, hp⟩
       ·
        refine FW.condT k291 c292 ?_
        refine FW.seq (FW.region ?_)
        refine FL.v (E.assign (v := Value.bool false) rfl) ?_
        refine FL.nil ?_
        refine FW.ret ?_
        obtain rfl := Option.some.inj hp
        exact ⟨.inr rfl, res1 rfl rfl ⟨rfl, S280.back⟩⟩
       ·
        refine FW.condF k291 c292 ?_
        refine FW.skip (FW.seq (FW.region ?_))
        refine FL.v (E.assign (v := Value.int .i64 1) rfl) ?_
        refine FL.nil (FW.seq (FW.region ?_))
        refine FL.v (E.move k290) ?_
        refine FL.v (E.move (v := Value.int .i64 1) rfl) ?_
        refine FL.call rfl rfl rfl (E.call Tryz.call16 (A2 rfl rfl)) (w_laws_markSeqStepS S280 hs v134 r128.1 cs136 (f250.mono (sg_up (by omega) (i260.tr i281))) 1) ?_
        rintro e w294 ⟨H293, c299, rfl, S295, ns301, hb300, o297⟩
        refine ⟨_, rfl, ?_⟩
        have o298 := (f250.mono (sg_mono (hi := w131.heap.size) (i260.tr i281))).outside o297
        have ns301 := f250.span eSeqStep_loc (by omega) ns301 hb300
        have h296 := ns301.rsl
        have f302 := f246.mono ((bw_mono (hi := w77.heap.size) (i260.tr i281)).tr (bw_keep o298 (by omega)))
        refine FL.v (E.assign (v := Value.int .i64 ((PF.laws_markSeqStepS r128.1 1).2)) rfl) ?_
        refine FL.nil (FW.seq (FW.region ?_))
        refine FL.v (E.assign (v := Value.int .i64 1) rfl) ?_
        refine FL.nil (FW.seq (FW.region ?_))
        refine FL.v (E.move k290) ?_
        refine FL.v (E.move (v := Value.int .i64 1) rfl) ?_
        obtain ⟨r303, hr304, hp⟩ := bnd hp
        refine FL.call rfl rfl rfl (E.call Tryz.call17 (A2 rfl rfl)) (w_laws_heldSeqStepS S295.sl v134 ((PF.laws_markSeqStepS r128.1 1).1) (h296.mono sgI) 1 hr304) ?_
        rintro e w305 ⟨rfl, r306⟩
        refine ⟨_, rfl, ?_⟩
        have S307 := S295.call r306
        have z308 := r306.bel.size
        refine FL.v (E.assign (v := Value.int .i64 r303) rfl) ?_
        refine FL.nil (FW.seq (FW.seq (FW.region ?_)))
        refine FL.v (E.move (v := Value.int .i64 r303) rfl) ?_
        refine FL.v (E.lss rfl rfl) ?_
        refine FL.nil ?_
        rcases ifB hp with ⟨c309, hp⟩ | ⟨c309, hp⟩
        ·
         refine FW.condT rfl c309 ?_
         refine FW.seq (FW.region ?_)
         refine FL.v (E.assign (v := Value.bool false) rfl) ?_
         refine FL.nil ?_
         refine FW.ret ?_
         obtain rfl := Option.some.inj hp
         exact ⟨.inr rfl, res1 rfl rfl ⟨rfl, S307.back⟩⟩
        ·
         refine FW.condF rfl c309 ?_
         refine FW.skip (FW.seq (FW.seq (FW.region ?_)))
         refine FL.v (E.move (v := Value.int .i64 r303) rfl) ?_
         refine FL.v (E.move (v := Value.int .i64 ((PF.laws_markSeqStepS r128.1 1).2)) rfl) ?_
         refine FL.v (E.neq rfl rfl) ?_
         refine FL.nil ?_
         rcases ifB hp with ⟨c310, hp⟩ | ⟨c310, hp⟩
         ·
          refine FW.condT rfl c310 ?_
          refine FW.seq (FW.region ?_)
          refine FL.v (E.assign (v := Value.bool false) rfl) ?_
          refine FL.nil ?_
          refine FW.ret ?_
          obtain rfl := Option.some.inj hp
          exact ⟨.inr rfl, res1 rfl rfl ⟨rfl, S307.back⟩⟩
         ·
          refine FW.condF rfl c310 ?_
          refine FW.skip (FW.seq (FW.region ?_))
          refine FL.v (E.move k285) ?_
          obtain ⟨r311, hr312, hp⟩ := bnd hp
          refine FL.call rfl rfl rfl (E.call Tryz.call20 (A1 rfl)) (w_laws_toSeqStepS S307.sl v0 a0 (p0.mono S295.inc) hr312) ?_
          rintro e w314 ⟨H313, v317, n318, cs319, rfl, r316, els320, nd321⟩
          refine ⟨_, rfl, ?_⟩
          have nv322 : New H293 cs319 := New.of_up S307.sl els320.dom
          obtain ⟨H323, r324, i325, ns328, nv327⟩ := r316.sealRowN (i := 0) (l' := []) rfl els320 nd321 (by decide) rfl
          have h326 := ns328.rsl
          have S315 := S307.call r324.run
          have z329 := r324.run.bel.size
          have h326 := h326.mono (sg_of S315.sl)
          have ns328 := ns328.mono (sg_of S315.sl)
          refine FL.v (E.move k286) ?_
          obtain ⟨r330, hr331, hp⟩ := bnd hp
          refine FL.call rfl rfl rfl (E.call Tryz.call20 (A1 rfl)) (w_laws_toSeqStepS S315.sl v1 a1 (p1.mono (S295.inc.tr r324.run.inc)) hr331) ?_
          rintro e w333 ⟨H332, v336, n337, cs338, rfl, r335, els339, nd340⟩
          refine ⟨_, rfl, ?_⟩
          have nv341 : New H323 cs338 := New.of_up S315.sl els339.dom
          obtain ⟨H342, r343, i344, ns347, nv346⟩ := r335.sealRowN (i := 0) (l' := []) rfl els339 nd340 (by decide) rfl
          have h345 := ns347.rsl
          have S334 := S315.call r343.run
          have z348 := r343.run.bel.size
          have h345 := h345.mono (sg_of S334.sl)
          have ns347 := ns347.mono (sg_of S334.sl)
          refine FL.v (E.move k287) ?_
          obtain ⟨r349, hr350, hp⟩ := bnd hp
          refine FL.call rfl rfl rfl (E.call Tryz.call23 (A3 rfl rfl rfl)) (w_impl_JoinByCut S334.sl v317 r311 (h326.mono (sgI.tr r343.run.inc)) v336 r330 (h345.mono sgI) a2 hr350) ?_
          rintro e w352 ⟨H351, v355, n356, cs357, rfl, r354, els358, nd359⟩
          refine ⟨_, rfl, ?_⟩
          have nv360 : New H342 cs357 := New.of_up S334.sl els358.dom
          obtain ⟨H361, r362, i363, ns366, nv365⟩ := r354.sealRowN (i := 0) (l' := []) rfl els358 nd359 (by decide) rfl
          have h364 := ns366.rsl
          have S353 := S334.call r362.run
          have z367 := r362.run.bel.size
          have h364 := h364.mono (sg_of S353.sl)
          have ns366 := ns366.mono (sg_of S353.sl)
          refine FL.v (E.move (v := Value.tuple #[v355, Value.bool r349.2]) rfl) ?_
          refine FL.v (E.extract (i := 0) rfl rfl) ?_
          refine FL.v (E.extract (i := 1) rfl rfl) ?_
          refine FL.v (E.assign (v := v355) rfl) ?_
          refine FL.v (E.assign (v := Value.bool r349.2) rfl) ?_
          refine FL.nil (FW.seq (FW.seq (FW.region ?_)))
          refine FL.v (E.move (v := v355) rfl) ?_
          refine FL.v (E.move k288) ?_
          obtain ⟨r368, hr369, hp⟩ := bnd hp
          refine FL.call rfl rfl rfl (E.call Tryz.call13 (A2 rfl rfl)) (w_laws_eqSeqStepS S353.sl v355 r349.1 (h364.mono sgI) v80 r74.1 (f302.mono (bwI.tr ((r324.run.inc.tr r343.run.inc).tr r362.run.inc))) hr369) ?_
          rintro e w370 ⟨rfl, r371⟩
          refine ⟨_, rfl, ?_⟩
          have S372 := S353.call r371
          have z373 := r371.bel.size
          refine FL.v (E.not rfl) ?_
          refine FL.v (E.move (v := Value.bool (!r368)) rfl) ?_
          refine FL.cut 4 (fun f w => ∃ H : GH, St Ha wa H w [] ∧ Inc H361 H ∧ f 12 = v134 ∧ f 15 = Value.int .i64 ((PF.laws_markSeqStepS r128.1 1).2) ∧ f 118 = Value.bool (bif (!r368) then true else (!(r349.2 == r74.2)))) ?_ ?_
          ·
           rcases bcase (!r368) with c380 | c380
           ·
            refine FL.skip (wF_no rfl rfl rfl c380) rfl ?_
            refine FL.skip (wF_no rfl rfl rfl c380) rfl ?_
            refine FL.skip (wF_no rfl rfl rfl c380) rfl ?_
            refine FL.v (E.pickT rfl c380 rfl) ?_
            exact FL.nil ⟨rfl, _, S372, (Inc.rfl _), k290, rfl, (congrArg Value.bool (bifT c380).symm)⟩
           ·
            refine FL.val (wF_yes rfl rfl rfl c380) rfl rfl (E.move (v := Value.bool r349.2) rfl) ?_
            refine FL.val (wF_yes rfl rfl rfl c380) rfl rfl (E.move k289) ?_
            refine FL.val (wF_yes rfl rfl rfl c380) rfl rfl (E.neqB Tryz.runUnderlying4 rfl rfl) ?_
            refine FL.v (E.pickF rfl c380 rfl) ?_
            exact FL.nil ⟨rfl, _, S372, (Inc.rfl _), k290, rfl, (congrArg Value.bool (bifF c380).symm)⟩
          rintro f379 w378 ⟨H375, S376, i377, k381, k382, k383⟩
          refine FL.nil ?_
          rcases ifB hp with ⟨c384, hp⟩ | ⟨c384, hp⟩
          ·
           refine FW.condT k383 c384 ?_
           refine FW.seq (FW.region ?_)
           refine FL.v (E.assign (v := Value.bool false) rfl) ?_
           refine FL.nil ?_
           refine FW.ret ?_
           obtain rfl := Option.some.inj hp
           exact ⟨.inr rfl, res1 rfl rfl ⟨rfl, S376.back⟩⟩
          ·
           refine FW.condF k383 c384 ?_
           refine FW.skip (FW.seq (FW.region ?_))
           refine FL.v (E.assign (v := Value.int .i64 1) rfl) ?_
           refine FL.nil (FW.seq (FW.region ?_))
           refine FL.v (E.move k381) ?_
           refine FL.v (E.move (v := Value.int .i64 1) rfl) ?_
           obtain ⟨r385, hr386, hp⟩ := bnd hp
           refine FL.call rfl rfl rfl (E.call Tryz.call17 (A2 rfl rfl)) (w_laws_heldSeqStepS S376.sl v134 ((PF.laws_markSeqStepS r128.1 1).1) (h296.mono (sgI.tr (((r324.run.inc.tr r343.run.inc).tr r362.run.inc).tr i377))) 1 hr386) ?_
           rintro e w387 ⟨rfl, r388⟩
           refine ⟨_, rfl, ?_⟩
           have S389 := S376.call r388
           have z390 := r388.bel.size
           refine FL.v (E.assign (v := Value.int .i64 r385) rfl) ?_
           refine FL.nil (FW.seq (FW.seq (FW.region ?_)))
           refine FL.v (E.move (v := Value.int .i64 r385) rfl) ?_
           refine FL.v (E.lss rfl rfl) ?_
           refine FL.nil ?_
           rcases ifB hp with ⟨c391, hp⟩ | ⟨c391, hp⟩
           ·
            refine FW.condT rfl c391 ?_
            refine FW.seq (FW.region ?_)
            refine FL.v (E.assign (v := Value.bool false) rfl) ?_
            refine FL.nil ?_
            refine FW.ret ?_
            obtain rfl := Option.some.inj hp
            exact ⟨.inr rfl, res1 rfl rfl ⟨rfl, S389.back⟩⟩
           ·
            refine FW.condF rfl c391 ?_
            refine FW.skip (FW.seq (FW.seq (FW.region ?_)))
            refine FL.v (E.move (v := Value.int .i64 r385) rfl) ?_
            refine FL.v (E.move k382) ?_
            refine FL.v (E.neq rfl rfl) ?_
            refine FL.nil ?_
            rcases ifB hp with ⟨c392, hp⟩ | ⟨c392, hp⟩
            ·
             refine FW.condT rfl c392 ?_
             refine FW.seq (FW.region ?_)
             refine FL.v (E.assign (v := Value.bool false) rfl) ?_
             refine FL.nil ?_
             refine FW.ret ?_
             obtain rfl := Option.some.inj hp
             exact ⟨.inr rfl, res1 rfl rfl ⟨rfl, S389.back⟩⟩
            ·
             refine FW.condF rfl c392 ?_
             refine FW.skip (FW.seq (FW.region ?_))
             refine FL.v (E.assign (v := Value.bool true) rfl) ?_
             refine FL.nil ?_
             refine FW.ret ?_
             obtain rfl := Option.some.inj hp
             exact ⟨.inr rfl, res1 rfl rfl ⟨rfl, S389.back⟩⟩

end Go.Proofs
