/- Part of the walks and plain laws behind the claim: it proves helpers, under no condition beyond their own. -/
import Derived.Test.YtdkfkiifbagnnaaGreatTsWk1
set_option linter.unusedVariables false
set_option maxRecDepth 100000
namespace Go.Proofs
open Go.Mr Go.Pu Go.PF Go.RowKit

@[reducible] def p_spec_l23Own (Ha : GH) (wa : World) (r : Sequent) : Ending → World → Prop :=
 fun e w' => ∃ H' : GH, ∃ v0_0 : Value, ∃ v0_1 : Value, e = .returned (Value.agg #[v0_0, v0_1]) ∧ Run wa.heap.size Ha wa H' w' ∧ (∃ c0 c1, Nest (up wa.heap.size H') eS 1 v0_0 r.left c0 ∧ Nest (up wa.heap.size H') eS 1 v0_1 r.right c1 ∧ Ap v0_0 c0 v0_1 c1)
set_option maxHeartbeats 4000000 in
theorem w_spec_l23Own {Ha : GH} {wa : World} (hs : Sl Ha wa) (a0 : Sequent) (v0_0 : Value) (p0_0 : RSl Ha eS 1 v0_0 a0.left) (v0_1 : Value) (p0_1 : RSl Ha eS 1 v0_1 a0.right) {r : Sequent} (hp : (PF.spec_l23Own a0) = some r) :
  Calls Tryz.prog 60 #[Value.agg #[v0_0, v0_1]] wa (p_spec_l23Own Ha wa r) := by
 unfold PF.spec_l23Own at hp
 have S0 := St.init hs
 refine calls_go (N := 12) (args := [Value.agg #[v0_0, v0_1]]) Tryz.func60 rfl rfl rfl ?_
 refine FW.seq (FW.region ?_)
 obtain ⟨b21, w22, run23, S24⟩ := S0.box (P := Tryz.prog) 68 [v0_0, v0_1] (v := Value.agg #[v0_0, v0_1]) rfl (ones_cons p0_0.one (ones_cons p0_1.one ones_nil))
 refine FL.v (E.box rfl run23) ?_
 obtain ⟨H25, S26, i27, at28⟩ := S24.sealBox (i := 0) (l' := []) rfl rfl
 obtain ⟨b29, w30, run31, S32⟩ := S26.alloc (P := Tryz.prog) 68 [Value.slice none 0 0, Value.slice none 0 0] Tryz.zeroValue68 rfl (ones_cons rfl (ones_cons rfl ones_nil))
 refine FL.v (E.alloc run31) ?_
 refine FL.nil (FW.seq ?_)
 obtain ⟨xs41, hz42, hp⟩ := bnd hp
 obtain ⟨xs55, hz56, hp⟩ := bnd hp
 refine FW.drawB (Sl H25) (fun f w => ∃ H : GH, ∃ v78 : Value, ∃ v81 : Value, St Ha wa H w [.box b29 68 [v78, v81]] ∧ Inc H25 H ∧ RSl (up wa.heap.size H) eS 1 v78 xs41 ∧ RSl (up wa.heap.size H) eS 1 v81 xs55 ∧ New H25 [v78] ∧ New H25 [v81] ∧ (∀ b ∈ bl [v78], b ∉ bl [v81]) ∧ f 2 = Value.pointer (some (⟨b29, 0, none⟩ : Addr))) (by kernel_rfl) S32.sl ?_ ?_
 ·
  intro w33 r34
  have S35 := S32.call r34
  refine FB.t (i := 1) (bs 10 2) rfl (SP.nil S35.sl) rfl (fun w' hw' => (E.fieldAddr tf68_0 rfl)) ?_
  refine FB.t (i := 2) (bs 10 6) rfl (SP.nil S35.sl) rfl (fun w' hw' => (E.load rfl (run_load1 Tryz.isAgg22 (at28.now hw') rfl))) ?_
  refine FB.t (i := 5) (bs 10 38) rfl (SP.nil S35.sl) rfl (fun w' hw' => (E.fieldAddr tf68_1 rfl)) ?_
  refine FB.t (i := 6) (bs 10 102) rfl (SP.nil S35.sl) rfl (fun w' hw' => (E.load rfl (run_load1 Tryz.isAgg22 (at28.now hw') rfl))) ?_
  refine FB.all2 (i := 0) (j := 4) (by kernel_rfl) ?_ ?_
  ·
   obtain ⟨v36, w37, run38, S39⟩ := S35.buildSlice (P := Tryz.prog) te22 [] (parts := #[]) (cells := []) rfl szs_nil fc_nil ones_nil (Nat.le_of_ble_eq_true rfl)
   have els40 : Els (up wa.heap.size H25) eS 1 [] [] := Els.nil
   refine FC.val (l' := (bs 10 103)) rfl (by kernel_rfl) rfl rfl rfl (E.buildSlice (B0) run38) ?_
   refine ⟨(SP.nil S39.sl), ?_⟩
   refine FB.all2 (i := 3) (j := 4) (by kernel_rfl) ?_ ?_
   ·
    obtain ⟨v43, w46, n44, cs45, run47, S48, els49⟩ := S39.appendP (P := Tryz.prog) (Inc.rfl _) te22 (i := 0) rfl (els40.mono upI) (p0_0.mono i27) hz42
    have S48 : St Ha wa H25 w46 [.row 9 1 v43 n44 cs45, .box b29 68 [Value.slice none 0 0, Value.slice none 0 0]] := S48
    have els49 : Els (up wa.heap.size H25) eS 1 cs45 xs41 := els49.any (fun _ _ _ _ h => h)
    refine FC.val (l' := (bs 10 111)) rfl (by kernel_rfl) rfl rfl rfl (E.append rfl rfl run47) ?_
    refine ⟨(SP.nil S48.sl), ?_⟩
    refine FB.all1 (i := 4) (by kernel_rfl) ?_
    ·
     obtain ⟨v50, w51, run52, S53⟩ := S48.buildSlice (P := Tryz.prog) te22 [] (parts := #[]) (cells := []) rfl szs_nil fc_nil ones_nil (Nat.le_of_ble_eq_true rfl)
     have els54 : Els (up wa.heap.size H25) eS 1 [] [] := Els.nil
     refine FC.val (l' := (bs 10 127)) rfl (by kernel_rfl) rfl rfl rfl (E.buildSlice (B0) run52) ?_
     refine ⟨(SP.nil S53.sl), ?_⟩
     refine FB.all1 (i := 7) (by kernel_rfl) ?_
     ·
      obtain ⟨v57, w60, n58, cs59, run61, S62, els63⟩ := S53.appendP (P := Tryz.prog) (Inc.rfl _) te22 (i := 0) rfl (els54.mono upI) (p0_1.mono i27) hz56
      have S62 : St Ha wa H25 w60 [.row 9 1 v57 n58 cs59, .row 9 1 v43 n44 cs45, .box b29 68 [Value.slice none 0 0, Value.slice none 0 0]] := S62
      have els63 : Els (up wa.heap.size H25) eS 1 cs59 xs55 := els63.any (fun _ _ _ _ h => h)
      refine FC.val (l' := (bs 10 255)) rfl (by kernel_rfl) rfl rfl rfl (E.append rfl rfl run61) ?_
      refine ⟨(SP.nil S62.sl), ?_⟩
      obtain ⟨H64, S65, i66, h67, nv69⟩ := S62.sealRowU (i := 1) (l' := [.row 9 1 v57 n58 cs59, .box b29 68 [Value.slice none 0 0, Value.slice none 0 0]]) rfl els49 (by decide) rfl
      obtain ⟨H70, S71, i72, h73, nv74⟩ := S65.sealRowU (i := 0) (l' := [.box b29 68 [Value.slice none 0 0, Value.slice none 0 0]]) rfl (els63.mono (up_mono i66)) (by decide) rfl
      refine FB.t (i := 8) (bs 10 511) rfl (SP.nil S62.sl) rfl (fun w' hw' => (E.build (B2 rfl rfl) (run_build _ 68 #[(0, v43), (1, v57)] #[v43, v57] (by obtain ⟨_, _, rfl⟩ := RSl.ln (h67.mono (upI.tr i72)); obtain ⟨_, _, rfl⟩ := RSl.ln (h73.mono upI); rfl)))) ?_
      refine FB.all1 (i := 9) (by kernel_rfl) ?_
      ·
       obtain ⟨w75, run76, S77⟩ := S71.store0 (P := Tryz.prog) (t := 68) (i := 0) (cs' := [v43, v57]) (l' := [.box b29 68 [v43, v57]]) (v := Value.agg #[v43, v57]) (c := [v43, v57]) rfl Tryz.sizeOf68 rfl rfl (ones_cons h67.one (ones_cons h73.one ones_nil)) (Nat.le_of_ble_eq_true rfl) rfl rfl
       refine FC.act (l' := (bs 10 1023)) rfl (by kernel_rfl) rfl rfl (E.store rfl rfl run76) ?_
       refine ⟨(SP.nil (Sl.of_inc (i66.tr i72) S77.sl)), ?_⟩
       exact FB.done (by kernel_rfl) ⟨_, _, _, S77, (i66.tr i72), (h67.mono (up_mono i72)), h73, (nv69.anti (Inc.rfl _)), (nv74.anti i66), (New.apart (h67.mono (up_mono (Inc.rfl _))) nv74), rfl⟩
   ·
    obtain ⟨v50, w51, run52, S53⟩ := S39.buildSlice (P := Tryz.prog) te22 [] (parts := #[]) (cells := []) rfl szs_nil fc_nil ones_nil (Nat.le_of_ble_eq_true rfl)
    have els54 : Els (up wa.heap.size H25) eS 1 [] [] := Els.nil
    refine FC.val (l' := (bs 10 119)) rfl (by kernel_rfl) rfl rfl rfl (E.buildSlice (B0) run52) ?_
    refine ⟨(SP.nil S53.sl), ?_⟩
    refine FB.all1 (i := 3) (by kernel_rfl) ?_
    ·
     obtain ⟨v43, w46, n44, cs45, run47, S48, els49⟩ := S53.appendP (P := Tryz.prog) (Inc.rfl _) te22 (i := 1) rfl (els40.mono upI) (p0_0.mono i27) hz42
     have S48 : St Ha wa H25 w46 [.row 9 1 v50 0 [], .row 9 1 v43 n44 cs45, .box b29 68 [Value.slice none 0 0, Value.slice none 0 0]] := S48
     have els49 : Els (up wa.heap.size H25) eS 1 cs45 xs41 := els49.any (fun _ _ _ _ h => h)
     refine FC.val (l' := (bs 10 127)) rfl (by kernel_rfl) rfl rfl rfl (E.append rfl rfl run47) ?_
     refine ⟨(SP.nil S48.sl), ?_⟩
     refine FB.all1 (i := 7) (by kernel_rfl) ?_
     ·
      obtain ⟨v57, w60, n58, cs59, run61, S62, els63⟩ := S48.appendP (P := Tryz.prog) (Inc.rfl _) te22 (i := 0) rfl (els54.mono upI) (p0_1.mono i27) hz56
      have S62 : St Ha wa H25 w60 [.row 9 1 v57 n58 cs59, .row 9 1 v43 n44 cs45, .box b29 68 [Value.slice none 0 0, Value.slice none 0 0]] := S62
      have els63 : Els (up wa.heap.size H25) eS 1 cs59 xs55 := els63.any (fun _ _ _ _ h => h)
      refine FC.val (l' := (bs 10 255)) rfl (by kernel_rfl) rfl rfl rfl (E.append rfl rfl run61) ?_
      refine ⟨(SP.nil S62.sl), ?_⟩
      obtain ⟨H64, S65, i66, h67, nv69⟩ := S62.sealRowU (i := 1) (l' := [.row 9 1 v57 n58 cs59, .box b29 68 [Value.slice none 0 0, Value.slice none 0 0]]) rfl els49 (by decide) rfl
      obtain ⟨H70, S71, i72, h73, nv74⟩ := S65.sealRowU (i := 0) (l' := [.box b29 68 [Value.slice none 0 0, Value.slice none 0 0]]) rfl (els63.mono (up_mono i66)) (by decide) rfl
      refine FB.t (i := 8) (bs 10 511) rfl (SP.nil S62.sl) rfl (fun w' hw' => (E.build (B2 rfl rfl) (run_build _ 68 #[(0, v43), (1, v57)] #[v43, v57] (by obtain ⟨_, _, rfl⟩ := RSl.ln (h67.mono (upI.tr i72)); obtain ⟨_, _, rfl⟩ := RSl.ln (h73.mono upI); rfl)))) ?_
      refine FB.all1 (i := 9) (by kernel_rfl) ?_
      ·
       obtain ⟨w75, run76, S77⟩ := S71.store0 (P := Tryz.prog) (t := 68) (i := 0) (cs' := [v43, v57]) (l' := [.box b29 68 [v43, v57]]) (v := Value.agg #[v43, v57]) (c := [v43, v57]) rfl Tryz.sizeOf68 rfl rfl (ones_cons h67.one (ones_cons h73.one ones_nil)) (Nat.le_of_ble_eq_true rfl) rfl rfl
       refine FC.act (l' := (bs 10 1023)) rfl (by kernel_rfl) rfl rfl (E.store rfl rfl run76) ?_
       refine ⟨(SP.nil (Sl.of_inc (i66.tr i72) S77.sl)), ?_⟩
       exact FB.done (by kernel_rfl) ⟨_, _, _, S77, (i66.tr i72), (h67.mono (up_mono i72)), h73, (nv69.anti (Inc.rfl _)), (nv74.anti i66), (New.apart (h67.mono (up_mono (Inc.rfl _))) nv74), rfl⟩
  ·
   obtain ⟨v50, w51, run52, S53⟩ := S35.buildSlice (P := Tryz.prog) te22 [] (parts := #[]) (cells := []) rfl szs_nil fc_nil ones_nil (Nat.le_of_ble_eq_true rfl)
   have els54 : Els (up wa.heap.size H25) eS 1 [] [] := Els.nil
   refine FC.val (l' := (bs 10 118)) rfl (by kernel_rfl) rfl rfl rfl (E.buildSlice (B0) run52) ?_
   refine ⟨(SP.nil S53.sl), ?_⟩
   refine FB.all1 (i := 0) (by kernel_rfl) ?_
   ·
    obtain ⟨v36, w37, run38, S39⟩ := S53.buildSlice (P := Tryz.prog) te22 [] (parts := #[]) (cells := []) rfl szs_nil fc_nil ones_nil (Nat.le_of_ble_eq_true rfl)
    have els40 : Els (up wa.heap.size H25) eS 1 [] [] := Els.nil
    refine FC.val (l' := (bs 10 119)) rfl (by kernel_rfl) rfl rfl rfl (E.buildSlice (B0) run38) ?_
    refine ⟨(SP.nil S39.sl), ?_⟩
    refine FB.all1 (i := 3) (by kernel_rfl) ?_
    ·
     obtain ⟨v43, w46, n44, cs45, run47, S48, els49⟩ := S39.appendP (P := Tryz.prog) (Inc.rfl _) te22 (i := 0) rfl (els40.mono upI) (p0_0.mono i27) hz42
     have S48 : St Ha wa H25 w46 [.row 9 1 v43 n44 cs45, .row 9 1 v50 0 [], .box b29 68 [Value.slice none 0 0, Value.slice none 0 0]] := S48
     have els49 : Els (up wa.heap.size H25) eS 1 cs45 xs41 := els49.any (fun _ _ _ _ h => h)
     refine FC.val (l' := (bs 10 127)) rfl (by kernel_rfl) rfl rfl rfl (E.append rfl rfl run47) ?_
     refine ⟨(SP.nil S48.sl), ?_⟩
     refine FB.all1 (i := 7) (by kernel_rfl) ?_
     ·
      obtain ⟨v57, w60, n58, cs59, run61, S62, els63⟩ := S48.appendP (P := Tryz.prog) (Inc.rfl _) te22 (i := 1) rfl (els54.mono upI) (p0_1.mono i27) hz56
      have S62 : St Ha wa H25 w60 [.row 9 1 v43 n44 cs45, .row 9 1 v57 n58 cs59, .box b29 68 [Value.slice none 0 0, Value.slice none 0 0]] := S62
      have els63 : Els (up wa.heap.size H25) eS 1 cs59 xs55 := els63.any (fun _ _ _ _ h => h)
      refine FC.val (l' := (bs 10 255)) rfl (by kernel_rfl) rfl rfl rfl (E.append rfl rfl run61) ?_
      refine ⟨(SP.nil S62.sl), ?_⟩
      obtain ⟨H64, S65, i66, h67, nv69⟩ := S62.sealRowU (i := 0) (l' := [.row 9 1 v57 n58 cs59, .box b29 68 [Value.slice none 0 0, Value.slice none 0 0]]) rfl els49 (by decide) rfl
      obtain ⟨H70, S71, i72, h73, nv74⟩ := S65.sealRowU (i := 0) (l' := [.box b29 68 [Value.slice none 0 0, Value.slice none 0 0]]) rfl (els63.mono (up_mono i66)) (by decide) rfl
      refine FB.t (i := 8) (bs 10 511) rfl (SP.nil S62.sl) rfl (fun w' hw' => (E.build (B2 rfl rfl) (run_build _ 68 #[(0, v43), (1, v57)] #[v43, v57] (by obtain ⟨_, _, rfl⟩ := RSl.ln (h67.mono (upI.tr i72)); obtain ⟨_, _, rfl⟩ := RSl.ln (h73.mono upI); rfl)))) ?_
      refine FB.all1 (i := 9) (by kernel_rfl) ?_
      ·
       obtain ⟨w75, run76, S77⟩ := S71.store0 (P := Tryz.prog) (t := 68) (i := 0) (cs' := [v43, v57]) (l' := [.box b29 68 [v43, v57]]) (v := Value.agg #[v43, v57]) (c := [v43, v57]) rfl Tryz.sizeOf68 rfl rfl (ones_cons h67.one (ones_cons h73.one ones_nil)) (Nat.le_of_ble_eq_true rfl) rfl rfl
       refine FC.act (l' := (bs 10 1023)) rfl (by kernel_rfl) rfl rfl (E.store rfl rfl run76) ?_
       refine ⟨(SP.nil (Sl.of_inc (i66.tr i72) S77.sl)), ?_⟩
       exact FB.done (by kernel_rfl) ⟨_, _, _, S77, (i66.tr i72), (h67.mono (up_mono i72)), h73, (nv69.anti (Inc.rfl _)), (nv74.anti i66), (New.apart (h67.mono (up_mono (Inc.rfl _))) nv74), rfl⟩
 ·
  rintro f89 w88 ⟨H85, v78, v81, S86, i87, h79, h82, nv80, nv83, hd84, k90⟩
  refine FW.ret ?_
  obtain rfl := Option.some.inj hp
  exact ⟨.inr rfl, resC rfl k90 (loadVar_A Tryz.isAgg68 Tryz.sizeOf68 (S86.box_now (i := 0) rfl) rfl) ⟨_, _, _, rfl, S86.run, (Ap.flat2 h79 eS_flat (by decide) h82 eS_flat (by decide) hd84)⟩⟩

@[reducible] def p_spec_TrimSeq (Ha : GH) (wa : World) (r : ((List SeqStep) × Bool)) : Ending → World → Prop :=
 fun e w' => ∃ H' : GH, ∃ v0 : Value, ∃ n0 : Nat, ∃ c0 : List Value, e = .returned (Value.tuple #[v0, Value.bool r.2]) ∧ St Ha wa H' w' [.row 74 6 v0 n0 c0] ∧ Els (up wa.heap.size H') eSeqStep 6 c0 r.1 ∧ (bl c0).Nodup
set_option maxHeartbeats 4000000 in
theorem w_spec_TrimSeq {Ha : GH} {wa : World} (hs : Sl Ha wa) (v0 : Value) (a0 : List SeqStep) (p0 : RSl Ha eSeqStep 6 v0 a0) {r : ((List SeqStep) × Bool)} (hp : (PF.spec_TrimSeq a0) = some r) :
  Calls Tryz.prog 19 #[v0] wa (p_spec_TrimSeq Ha wa r) := by
 unfold PF.spec_TrimSeq at hp
 have S0 := St.init hs
 refine calls_go (N := 108) (args := [v0]) Tryz.func19 rfl rfl rfl ?_
 refine FW.seq (FW.region ?_)
 refine FL.v (E.assign (v := Value.slice none 0 0) rfl) ?_
 refine FL.v (E.assign (v := Value.bool false) rfl) ?_
 refine FL.nil (FW.seq (FW.region ?_))
 obtain ⟨v21, w22, run23, S24⟩ := S0.buildSlice (P := Tryz.prog) te24 [] (parts := #[]) (cells := []) rfl szs_nil fc_nil ones_nil (Nat.le_of_ble_eq_true rfl)
 have els25 : Els (up wa.heap.size Ha) eSeqStep 6 [] [] := Els.nil
 refine FL.v (E.buildSlice (B0) run23) ?_
 refine FL.v (E.assign (v := v21) rfl) ?_
 refine FL.nil (FW.seq (FW.seq (FW.region ?_)))
 refine FL.v (E.move (v := v0) rfl) ?_
 obtain ⟨r26, hr27, hp⟩ := bnd hp
 refine FL.call rfl rfl rfl (E.call Tryz.call58 (A1 rfl)) (w_spec_l23Proof S24.sl v0 a0 p0 hr27) ?_
 rintro e w28 ⟨rfl, r29⟩
 refine ⟨_, rfl, ?_⟩
 have S30 := S24.call r29
 refine FL.v (E.not rfl) ?_
 refine FL.nil ?_
 rcases ifB hp with ⟨c31, hp⟩ | ⟨c31, hp⟩
 ·
  refine FW.condT rfl c31 ?_
  refine FW.seq (FW.region ?_)
  refine FL.v (E.move (v := v21) rfl) ?_
  refine FL.v (E.assign (v := v21) rfl) ?_
  refine FL.v (E.assign (v := Value.bool false) rfl) ?_
  refine FL.nil ?_
  refine FW.ret ?_
  obtain rfl := Option.some.inj hp
  exact ⟨.inr rfl, res2 rfl rfl rfl ⟨_, _, _, _, rfl, S30, els25, (show (bl []).Nodup from List.nodup_nil)⟩⟩
 ·
  refine FW.condF rfl c31 ?_
  refine FW.skip (FW.seq ?_)
  obtain ⟨xs35, hm36, hp⟩ := bnd hp
  obtain ⟨xs45, hm46, hp⟩ := bnd hp
  refine FW.drawB (Sl Ha) (fun f w => ∃ H : GH, ∃ v55 : Value, ∃ n56 : Nat, ∃ cs57 : List Value, ∃ v59 : Value, ∃ n60 : Nat, ∃ cs61 : List Value, St Ha wa H w [.row 74 6 v21 0 [], .row 4 1 v55 n56 cs57, .row 3 1 v59 n60 cs61] ∧ Inc Ha H ∧ Els (up wa.heap.size H) eB 1 cs57 xs35 ∧ Els (up wa.heap.size H) eI 1 cs61 xs45 ∧ f 0 = v0 ∧ f 4 = v21 ∧ f 5 = v55 ∧ f 6 = v59) (by kernel_rfl) S30.sl ?_ ?_
  ·
   intro w32 r33
   have S34 := S30.call r33
   refine FB.t (i := 0) (bs 8 1) rfl (SP.nil S34.sl) rfl (fun w' hw' => (E.move (v := v0) rfl)) ?_
   refine FB.t (i := 1) (bs 8 3) rfl (SP.nil S34.sl) rfl (fun w' hw' => (E.lenP te24 rfl p0)) ?_
   refine FB.t (i := 3) (bs 8 11) rfl (SP.nil S34.sl) rfl (fun w' hw' => (E.move (v := v0) rfl)) ?_
   refine FB.t (i := 4) (bs 8 27) rfl (SP.nil S34.sl) rfl (fun w' hw' => (E.lenP te24 rfl p0)) ?_
   refine FB.all2 (i := 2) (j := 5) (by kernel_rfl) ?_ ?_
   ·
    obtain ⟨v37, w38, n42, cs43, run39, S40, els41, hbl44⟩ := S34.makeEls (P := Tryz.prog) te81 (G := (up wa.heap.size Ha)) (En := eB) (x0 := (false : Bool)) hm36 rfl (ones_cons rfl ones_nil) .i64 .i64
    refine FC.val (l' := (bs 8 31)) rfl (by kernel_rfl) rfl rfl rfl (E.makeSlice rfl rfl run39) ?_
    refine ⟨(SP.nil S40.sl), ?_⟩
    refine FB.t (i := 6) (bs 8 95) rfl (SP.nil S40.sl) rfl (fun w' hw' => (E.assign (v := v37) rfl)) ?_
    refine FB.all1 (i := 5) (by kernel_rfl) ?_
    ·
     obtain ⟨v47, w48, n52, cs53, run49, S50, els51, hbl54⟩ := S40.makeEls (P := Tryz.prog) te82 (G := (up wa.heap.size Ha)) (En := eI) (x0 := (0 : Int)) hm46 rfl (ones_cons rfl ones_nil) .i64 .i64
     refine FC.val (l' := (bs 8 127)) rfl (by kernel_rfl) rfl rfl rfl (E.makeSlice rfl rfl run49) ?_
     refine ⟨(SP.nil S50.sl), ?_⟩
     refine FB.t (i := 7) (bs 8 255) rfl (SP.nil S50.sl) rfl (fun w' hw' => (E.assign (v := v47) rfl)) ?_
     exact FB.done (by kernel_rfl) ⟨_, _, _, _, _, _, _, (S50.sel [2, 1, 0] (by decide) rfl), (Inc.rfl _), els41, els51, rfl, rfl, rfl, rfl⟩
   ·
    obtain ⟨v47, w48, n52, cs53, run49, S50, els51, hbl54⟩ := S34.makeEls (P := Tryz.prog) te82 (G := (up wa.heap.size Ha)) (En := eI) (x0 := (0 : Int)) hm46 rfl (ones_cons rfl ones_nil) .i64 .i64
    refine FC.val (l' := (bs 8 59)) rfl (by kernel_rfl) rfl rfl rfl (E.makeSlice rfl rfl run49) ?_
    refine ⟨(SP.nil S50.sl), ?_⟩
    refine FB.all1 (i := 2) (by kernel_rfl) ?_
    ·
     obtain ⟨v37, w38, n42, cs43, run39, S40, els41, hbl44⟩ := S50.makeEls (P := Tryz.prog) te81 (G := (up wa.heap.size Ha)) (En := eB) (x0 := (false : Bool)) hm36 rfl (ones_cons rfl ones_nil) .i64 .i64
     refine FC.val (l' := (bs 8 63)) rfl (by kernel_rfl) rfl rfl rfl (E.makeSlice rfl rfl run39) ?_
     refine ⟨(SP.nil S40.sl), ?_⟩
     refine FB.t (i := 6) (bs 8 127) rfl (SP.nil S40.sl) rfl (fun w' hw' => (E.assign (v := v37) rfl)) ?_
     refine FB.t (i := 7) (bs 8 255) rfl (SP.nil S40.sl) rfl (fun w' hw' => (E.assign (v := v47) rfl)) ?_
     exact FB.done (by kernel_rfl) ⟨_, _, _, _, _, _, _, (S40.sel [2, 0, 1] (by decide) rfl), (Inc.rfl _), els41, els51, rfl, rfl, rfl, rfl⟩
  ·
   rintro f67 w66 ⟨H63, v55, n56, cs57, v59, n60, cs61, S64, i65, els58, els62, k68, k69, k70, k71⟩
   refine FW.seq (FW.region ?_)
   refine FL.v (E.move k70) ?_
   refine FL.v (E.move k68) ?_
   refine FL.v (E.lenP te24 rfl p0) ?_
   refine FL.v (E.sub rfl rfl) ?_
   obtain ⟨x79, hx80, hp⟩ := bnd hp
   obtain ⟨p72, cs73, pt75, l76, at77, rel78⟩ := S64.row_at (i := 1) rfl els58 (by decide) hx80
   obtain rfl := eB_open rel78
   refine FL.v (E.indexAddr te81 rfl rfl pt75) ?_
   obtain ⟨xs86, hput87, hp⟩ := bnd hp
   obtain ⟨w83, cs89, run84, S85, els88, ce90⟩ := S64.putEls (P := Tryz.prog) (t := 4) (i := 1) rfl els58 hput87 pt75 Tryz.sizeOf4 (u := Value.bool true) (c := [Value.bool true]) rfl rfl (ones_cons rfl ones_nil) rfl
   have S85 : St Ha wa H63 w83 [.row 74 6 v21 0 [], .row 4 1 v55 n56 cs89, .row 3 1 v59 n60 cs61] := S85
   refine FL.act rfl rfl (E.store rfl rfl run84) ?_
   refine FL.nil (FW.seq (FW.seq (FW.region ?_)))
   refine FL.v (E.move k68) ?_
   refine FL.v (E.lenP te24 rfl p0) ?_
   refine FL.v (E.sub rfl rfl) ?_
   refine FL.v (E.assign (v := Value.int .i64 (wr ((len a0) - 1))) rfl) ?_
   refine FL.nil ?_
   obtain ⟨q91, hq, hp⟩ := bndR hp
   refine FW.block ?_
   refine FW.mono (FW.iter (S := ((List Bool) × Int)) (X := Empty) (fun (s91 : ((List Bool) × Int)) f w => ∃ H : GH, ∃ v92 : Value, ∃ n93 : Nat, ∃ cs94 : List Value, St Ha wa H w [.row 74 6 v21 0 [], .row 4 1 v92 n93 cs94, .row 3 1 v59 n60 cs61] ∧ Inc H63 H ∧ Els (up wa.heap.size H) eB 1 cs94 s91.1 ∧ f 0 = v0 ∧ f 4 = v21 ∧ f 5 = v92 ∧ f 6 = v59 ∧ f 7 = Value.int .i64 s91.2) (fun (q : Rs ((List Bool) × Int) Empty) e f w => match q with | .go s91 => e = Exit.exit 0 ∧ (∃ H : GH, ∃ v92 : Value, ∃ n93 : Nat, ∃ cs94 : List Value, St Ha wa H w [.row 74 6 v21 0 [], .row 4 1 v92 n93 cs94, .row 3 1 v59 n60 cs61] ∧ Inc H63 H ∧ Els (up wa.heap.size H) eB 1 cs94 s91.1 ∧ f 0 = v0 ∧ f 4 = v21 ∧ f 5 = v92 ∧ f 6 = v59) | .rt x => x.elim) hq ⟨_, _, _, _, S85, (Inc.rfl _), els88, k68, k69, k70, k71, rfl⟩ ?_) ?_
   ·
    clear hp hq
    rintro s91 f100 w99 ⟨H96, v92, n93, cs94, S97, i98, els95, k101, k102, k103, k104, k105⟩ o203 hp
    refine FW.seq (FW.seq (FW.region ?_))
    refine FL.v (E.move k105) ?_
    refine FL.v (E.geq rfl rfl) ?_
    refine FL.nil ?_
    rcases ifB hp with ⟨c106, hp⟩ | ⟨c106, hp⟩
    ·
     refine FW.condT rfl c106 ?_
     refine FW.skip (FW.seq (FW.block (FW.seq (FW.region ?_))))
     refine FL.v (E.move k101) ?_
     refine FL.v (E.move k105) ?_
     obtain ⟨x113, hx114, hp⟩ := bnd hp
     obtain ⟨p107, cs108, pt109, l110, at111, rel112⟩ := p0.at hx114
     obtain ⟨v115, v117, rfl, h116, h118⟩ := eSeqStep_open rel112
     refine FL.v (E.indexAddr te24 rfl rfl pt109) ?_
     refine FL.v (E.load rfl (run_loadA Tryz.isAgg74 Tryz.sizeOf74 ((at111.mono (i65.tr i98)).now S97.sl) rfl)) ?_
     refine FL.call rfl rfl rfl (E.call Tryz.call59 (A1 rfl)) (w_spec_l23Uses S97.sl x113 v115 (h116.mono (i65.tr i98)) v117 (h118.mono (i65.tr i98))) ?_
     rintro e w120 ⟨H119, v123, n124, cs125, rfl, r122, els126⟩
     refine ⟨_, rfl, ?_⟩
     have els126 := els126.mono (up_le S97.size)
     have S121 := S97.join (l' := [.row 3 1 v123 n124 cs125, .row 74 6 v21 0 [], .row 4 1 v92 n93 cs94, .row 3 1 v59 n60 cs61]) r122 rfl
     refine FL.v (E.assign (v := v123) rfl) ?_
     refine FL.nil (FW.seq (FW.region ?_))
     refine FL.v (E.assign (v := Value.int .i64 0) rfl) ?_
     refine FL.nil ?_
     obtain ⟨q127, hq, hp⟩ := bndR hp
     refine FW.block ?_
     refine FW.mono (FW.iter (S := ((List Bool) × Int)) (X := Empty) (fun (s127 : ((List Bool) × Int)) f w => ∃ H : GH, ∃ v128 : Value, ∃ n129 : Nat, ∃ cs130 : List Value, St Ha wa H w [.row 3 1 v123 n124 cs125, .row 74 6 v21 0 [], .row 4 1 v128 n129 cs130, .row 3 1 v59 n60 cs61] ∧ Inc H119 H ∧ Els (up wa.heap.size H) eB 1 cs130 s127.1 ∧ f 0 = v0 ∧ f 4 = v21 ∧ f 5 = v128 ∧ f 6 = v59 ∧ f 7 = Value.int .i64 s91.2 ∧ f 8 = v123 ∧ f 9 = Value.int .i64 s127.2) (fun (q : Rs ((List Bool) × Int) Empty) e f w => match q with | .go s127 => e = Exit.exit 2 ∧ (∃ H : GH, ∃ v128 : Value, ∃ n129 : Nat, ∃ cs130 : List Value, St Ha wa H w [.row 3 1 v123 n124 cs125, .row 74 6 v21 0 [], .row 4 1 v128 n129 cs130, .row 3 1 v59 n60 cs61] ∧ Inc H119 H ∧ Els (up wa.heap.size H) eB 1 cs130 s127.1 ∧ f 0 = v0 ∧ f 4 = v21 ∧ f 5 = v128 ∧ f 6 = v59 ∧ f 7 = Value.int .i64 s91.2) | .rt x => x.elim) hq ⟨_, _, _, _, S121, (Inc.rfl _), (els95.mono (up_mono r122.run.inc)), k101, k102, k103, k104, k105, rfl, rfl⟩ ?_) ?_
     ·
      clear hp hq
      rintro s127 f136 w135 ⟨H132, v128, n129, cs130, S133, i134, els131, k137, k138, k139, k140, k141, k142, k143⟩ o192 hp
      refine FW.seq (FW.seq (FW.region ?_))
      refine FL.v (E.move k143) ?_
      refine FL.v (E.move k142) ?_
      refine FL.v (E.lenO te82 rfl S133 (i := 0) rfl els126 (by decide)) ?_
      refine FL.v (E.lss rfl rfl) ?_
      refine FL.v (E.move (v := Value.bool (decide (s127.2 < (len (PF.spec_l23Uses x113))))) rfl) ?_
      obtain ⟨t144, hqt144, hp⟩ := bnd hp
      refine FL.cut 5 (fun f w => ∃ H : GH, St Ha wa H w [.row 3 1 v123 n124 cs125, .row 74 6 v21 0 [], .row 4 1 v128 n129 cs130, .row 3 1 v59 n60 cs61] ∧ Inc H132 H ∧ f 0 = v0 ∧ f 4 = v21 ∧ f 5 = v128 ∧ f 6 = v59 ∧ f 7 = Value.int .i64 s91.2 ∧ f 8 = v123 ∧ f 9 = Value.int .i64 s127.2 ∧ f 50 = Value.bool t144) ?_ ?_
      ·
       clear hp; have hp := hqt144; clear hqt144
       rcases ifB hp with ⟨c150, hp⟩ | ⟨c150, hp⟩
       ·
        refine FL.val (wF_yes rfl rfl rfl c150) rfl rfl (E.move k139) ?_
        refine FL.val (wF_yes rfl rfl rfl c150) rfl rfl (E.move k141) ?_
        obtain ⟨x157, hx158, hp⟩ := bnd hp
        obtain ⟨p151, cs152, pt153, l154, at155, rel156⟩ := S133.row_at (i := 2) rfl els131 (by decide) hx158
        obtain rfl := eB_open rel156
        refine FL.val (wF_yes rfl rfl rfl c150) rfl rfl (E.indexAddr te81 rfl rfl pt153) ?_
        refine FL.val (wF_yes rfl rfl rfl c150) rfl rfl (E.load rfl (run_load0 Tryz.isAgg4 at155 rfl)) ?_
        obtain rfl := Option.some.inj hp
        refine FL.v (E.pickT rfl c150 rfl) ?_
        exact FL.nil ⟨rfl, _, S133, (Inc.rfl _), k137, k138, k139, k140, k141, k142, k143, rfl⟩
       ·
        refine FL.skip (wF_no rfl rfl rfl c150) rfl ?_
        refine FL.skip (wF_no rfl rfl rfl c150) rfl ?_
        refine FL.skip (wF_no rfl rfl rfl c150) rfl ?_
        refine FL.skip (wF_no rfl rfl rfl c150) rfl ?_
        obtain rfl := Option.some.inj hp
        refine FL.v (E.pickF rfl c150 rfl) ?_
        exact FL.nil ⟨rfl, _, S133, (Inc.rfl _), k137, k138, k139, k140, k141, k142, k143, rfl⟩
      rintro f149 w148 ⟨H145, S146, i147, k159, k160, k161, k162, k163, k164, k165, k166⟩
      refine FL.nil ?_
      rcases ifB hp with ⟨c167, hp⟩ | ⟨c167, hp⟩
      ·
       refine FW.condT k166 c167 ?_
       refine FW.skip (FW.seq (FW.block (FW.region ?_)))
       refine FL.v (E.move k161) ?_
       refine FL.v (E.move k164) ?_
       refine FL.v (E.move k165) ?_
       obtain ⟨x174, hx175, hp⟩ := bnd hp
       obtain ⟨p168, cs169, pt170, l171, at172, rel173⟩ := S146.row_at (i := 0) rfl els126 (by decide) hx175
       obtain rfl := eI_open rel173
       refine FL.v (E.indexAddr te82 rfl rfl pt170) ?_
       refine FL.v (E.load rfl (run_load0 Tryz.isAgg3 at172 rfl)) ?_
       obtain ⟨x182, hx183, hp⟩ := bnd hp
       obtain ⟨p176, cs177, pt178, l179, at180, rel181⟩ := S146.row_at (i := 2) rfl els131 (by decide) hx183
       obtain rfl := eB_open rel181
       refine FL.v (E.indexAddr te81 rfl rfl pt178) ?_
       obtain ⟨xs187, hput188, hp⟩ := bnd hp
       obtain ⟨w184, cs190, run185, S186, els189, ce191⟩ := S146.putEls (P := Tryz.prog) (t := 4) (i := 2) rfl (els131.mono (up_mono i147)) hput188 pt178 Tryz.sizeOf4 (u := Value.bool true) (c := [Value.bool true]) rfl rfl (ones_cons rfl ones_nil) rfl
       have S186 : St Ha wa H145 w184 [.row 3 1 v123 n124 cs125, .row 74 6 v21 0 [], .row 4 1 v128 n129 cs190, .row 3 1 v59 n60 cs61] := S186
       refine FL.act rfl rfl (E.store rfl rfl run185) ?_
       refine FL.nil (FW.region ?_)
       refine FL.v (E.move k165) ?_
       refine FL.v (E.add rfl rfl) ?_
       refine FL.v (E.assign (v := Value.int .i64 (wr (s127.2 + 1))) rfl) ?_
       refine FL.nil ?_
       obtain rfl := Option.some.inj hp
       exact ⟨rfl, ⟨_, _, _, _, S186, (i134.tr i147), els189, k159, k160, k161, k162, k163, k164, rfl⟩⟩
      ·
       refine FW.condF k166 c167 ?_
       refine FW.exit ?_
       obtain rfl := Option.some.inj hp
       exact ⟨nofun, rfl, ⟨_, _, _, _, S146, (i134.tr i147), (els131.mono (up_mono i147)), k159, k160, k161, k162, k163⟩⟩
     ·
      clear hq
      intro e f197 w196 hD
      rcases q127 with s127 | x127
      ·
       obtain ⟨rfl, hD⟩ := hD
       obtain ⟨H193, v128, n129, cs130, S194, i195, els131, k198, k199, k200, k201, k202⟩ := hD
       replace hp := el_go hp
       refine FW.region ?_
       refine FL.v (E.move k202) ?_
       refine FL.v (E.sub rfl rfl) ?_
       refine FL.v (E.assign (v := Value.int .i64 (wr (s91.2 - 1))) rfl) ?_
       refine FL.nil ?_
       obtain rfl := Option.some.inj hp
       exact ⟨rfl, ⟨_, _, _, _, (S194.sel [1, 2, 3] (by decide) rfl), ((i98.tr r122.run.inc).tr i195), els131, k198, k199, k200, k201, rfl⟩⟩
      ·
       exact x127.elim
    ·
     refine FW.condF rfl c106 ?_
     refine FW.exit ?_
     obtain rfl := Option.some.inj hp
     exact ⟨nofun, rfl, ⟨_, _, _, _, S97, i98, els95, k101, k102, k103, k104⟩⟩
   ·
    clear hq
    intro e f208 w207 hD
    rcases q91 with s91 | x91
    ·
     obtain ⟨rfl, hD⟩ := hD
     obtain ⟨H204, v92, n93, cs94, S205, i206, els95, k209, k210, k211, k212⟩ := hD
     replace hp := el_go hp
     refine FW.seq (FW.seq (FW.region ?_))
     refine FL.v (E.assign (v := Value.int .i64 0) rfl) ?_
     refine FL.nil ?_
     obtain ⟨q214, hq, hp⟩ := bndR hp
     refine FW.block ?_
     refine FW.mono (FW.forL (S := ((List SeqStep) × (List Int))) (X := Empty) (fun (i214 : Nat) (s214 : ((List SeqStep) × (List Int))) f w => ∃ H : GH, ∃ v215 : Value, ∃ n216 : Nat, ∃ cs217 : List Value, ∃ v220 : Value, ∃ n221 : Nat, ∃ cs222 : List Value, St Ha wa H w [.row 74 6 v215 n216 cs217, .row 4 1 v92 n93 cs94, .row 3 1 v220 n221 cs222] ∧ Inc H204 H ∧ Els (up wa.heap.size H) eSeqStep 6 cs217 s214.1 ∧ Els (up wa.heap.size H) eI 1 cs222 s214.2 ∧ (bl cs217).Nodup ∧ f 10 = Value.int .i64 ((i214 : Nat) : Int) ∧ f 0 = v0 ∧ f 4 = v215 ∧ f 5 = v92 ∧ f 6 = v220) (fun (q : Rs ((List SeqStep) × (List Int)) Empty) e f w => match q with | .go s214 => e = Exit.exit 4 ∧ (∃ H : GH, ∃ v215 : Value, ∃ n216 : Nat, ∃ cs217 : List Value, ∃ v220 : Value, ∃ n221 : Nat, ∃ cs222 : List Value, St Ha wa H w [.row 74 6 v215 n216 cs217, .row 4 1 v92 n93 cs94, .row 3 1 v220 n221 cs222] ∧ Inc H204 H ∧ Els (up wa.heap.size H) eSeqStep 6 cs217 s214.1 ∧ Els (up wa.heap.size H) eI 1 cs222 s214.2 ∧ (bl cs217).Nodup ∧ f 4 = v215) | .rt x => x.elim) hq ⟨_, _, _, _, _, _, _, S205, (Inc.rfl _), (els25.mono (up_mono (i65.tr i206))), (els62.mono (up_mono i206)), (show (bl []).Nodup from List.nodup_nil), rfl, k209, k210, k211, k212⟩ ?_ ?_) ?_
     ·
      clear hp hq
      rintro i214 y213 s214 f228 w227 ⟨H224, v215, n216, cs217, v220, n221, cs222, S225, i226, els218, els223, nd219, k229, k230, k231, k232, k233⟩ hx214 o378 hp
      refine FW.seq (FW.seq (FW.region ?_))
      refine FL.v (E.move k229) ?_
      refine FL.v (E.move k230) ?_
      refine FL.v (E.lenP te24 rfl p0) ?_
      refine FL.v (E.lssT rfl rfl (lss_len hx214)) ?_
      refine FL.nil ?_
      refine FW.condT rfl rfl ?_
      refine FW.skip (FW.seq (FW.block (FW.seq (FW.seq (FW.region ?_)))))
      refine FL.v (E.move k232) ?_
      refine FL.v (E.move k229) ?_
      obtain ⟨x240, hx241, hp⟩ := bnd hp
      obtain ⟨p234, cs235, pt236, l237, at238, rel239⟩ := S225.row_at (i := 1) rfl els95 (by decide) hx241
      obtain rfl := eB_open rel239
      refine FL.v (E.indexAddr te81 rfl rfl pt236) ?_
      refine FL.v (E.load rfl (run_load0 Tryz.isAgg4 at238 rfl)) ?_
      refine FL.v (E.not rfl) ?_
      refine FL.nil ?_
      rcases ifB hp with ⟨c242, hp⟩ | ⟨c242, hp⟩
      ·
       refine FW.condT rfl c242 ?_
       refine FW.exit ?_
       refine FW.region ?_
       refine FL.v (E.move k229) ?_
       refine FL.v (E.add rfl rfl) ?_
       refine FL.v (E.assign (v := Value.int .i64 (wr (((i214 : Nat) : Int) + 1))) rfl) ?_
       refine FL.nil ?_
       obtain rfl := Option.some.inj hp
       exact ⟨rfl, ⟨_, _, _, _, _, _, _, S225, i226, els218, els223, nd219, (nat_succ rfl (lt_of_get hx214) (p0.mono ((i65.tr i206).tr i226)).le), k230, k231, k232, k233⟩⟩
      ·
       refine FW.condF rfl c242 ?_
       refine FW.skip (FW.seq (FW.region ?_))
       refine FL.v (E.move k230) ?_
       refine FL.v (E.move k229) ?_
       obtain ⟨p243, cs244, pt245, l246, at247, rel248⟩ := p0.at (ix_nat hx214)
       obtain ⟨v249, v251, rfl, h250, h252⟩ := eSeqStep_open rel248
       refine FL.v (E.indexAddr te24 rfl rfl pt245) ?_
       refine FL.v (E.load rfl (run_loadA Tryz.isAgg74 Tryz.sizeOf74 ((at247.mono ((i65.tr i206).tr i226)).now S225.sl) rfl)) ?_
       obtain ⟨b253, w254, run255, S256⟩ := S225.alloc (P := Tryz.prog) 74 [Value.slice none 0 0, Value.slice none 0 0, Value.int .i64 0, Value.string ByteArray.empty, Value.int .i64 0, Value.int .i64 0] Tryz.zeroValue74 rfl (ones_cons rfl (ones_cons rfl (ones_cons rfl (ones_cons rfl (ones_cons rfl (ones_cons rfl ones_nil))))))
       refine FL.v (E.alloc run255) ?_
       obtain ⟨w257, run258, S259⟩ := S256.store0 (P := Tryz.prog) (t := 74) (i := 0) (cs' := [v249, v251, Value.int .i64 y213.rule, Value.string y213.main, Value.int .i64 y213.a, Value.int .i64 y213.b]) (l' := [.box b253 74 [v249, v251, Value.int .i64 y213.rule, Value.string y213.main, Value.int .i64 y213.a, Value.int .i64 y213.b], .row 74 6 v215 n216 cs217, .row 4 1 v92 n93 cs94, .row 3 1 v220 n221 cs222]) (v := Value.agg #[v249, v251, Value.int .i64 y213.rule, Value.string y213.main, Value.int .i64 y213.a, Value.int .i64 y213.b]) (c := [v249, v251, Value.int .i64 y213.rule, Value.string y213.main, Value.int .i64 y213.a, Value.int .i64 y213.b]) rfl Tryz.sizeOf74 rfl rfl (ones_cons h250.one (ones_cons h252.one (ones_cons rfl (ones_cons rfl (ones_cons rfl (ones_cons rfl ones_nil)))))) (Nat.le_of_ble_eq_true rfl) rfl rfl
       refine FL.act rfl rfl (E.store rfl rfl run258) ?_
       refine FL.nil (FW.seq (FW.region ?_))
       refine FL.v (E.fieldAddr tf74_0 rfl) ?_
       refine FL.v (E.load rfl (run_loadA Tryz.isAgg68 Tryz.sizeOf68 ((S259.box_now (i := 0) rfl).sub (j := 0) (n := 2) (c := [v249, v251]) rfl) rfl)) ?_
       obtain ⟨r260, hr261, hp⟩ := bnd hp
       refine FL.call rfl rfl rfl (E.call Tryz.call60 (A1 rfl)) (w_spec_l23Own S259.sl y213.seq v249 (h250.mono ((i65.tr i206).tr i226)) v251 (h252.mono ((i65.tr i206).tr i226)) hr261) ?_
       rintro e w263 ⟨H262, v266, v272, rfl, r265, ⟨c269, c275, ns268, ns274, ap278⟩⟩
       refine ⟨_, rfl, ?_⟩
       have h267 := ns268.rsl
       have nv270 : New H224 c269 := New.of_up S259.sl (fun b hb => ns268.dom b (.inr hb))
       have nv271 : New H224 [v266] := New.of_up S259.sl h267.dom
       have h267 := h267.mono (up_le S259.size)
       have ns268 := ns268.mono (up_le S259.size)
       have h273 := ns274.rsl
       have nv276 : New H224 c275 := New.of_up S259.sl (fun b hb => ns274.dom b (.inr hb))
       have nv277 : New H224 [v272] := New.of_up S259.sl h273.dom
       have h273 := h273.mono (up_le S259.size)
       have ns274 := ns274.mono (up_le S259.size)
       have S264 := S259.call r265
       refine FL.v (E.fieldAddr tf74_0 rfl) ?_
       obtain ⟨w279, run280, S281⟩ := S264.store (P := Tryz.prog) (t := 68) (i := 0) (j := 0) (cs' := [v266, v272, Value.int .i64 y213.rule, Value.string y213.main, Value.int .i64 y213.a, Value.int .i64 y213.b]) (l' := [.box b253 74 [v266, v272, Value.int .i64 y213.rule, Value.string y213.main, Value.int .i64 y213.a, Value.int .i64 y213.b], .row 74 6 v215 n216 cs217, .row 4 1 v92 n93 cs94, .row 3 1 v220 n221 cs222]) (v := Value.agg #[v266, v272]) (c := [v266, v272]) rfl Tryz.sizeOf68 rfl rfl (ones_cons h267.one (ones_cons h273.one ones_nil)) (Nat.le_of_ble_eq_true rfl) rfl rfl
       refine FL.act rfl rfl (E.store rfl rfl run280) ?_
       refine FL.nil (FW.seq (FW.region ?_))
       refine FL.v (E.load rfl (run_loadA Tryz.isAgg74 Tryz.sizeOf74 (S281.box_now (i := 0) rfl) rfl)) ?_
       refine FL.call rfl rfl rfl (E.call Tryz.call59 (A1 rfl)) (w_spec_l23Uses S281.sl (SeqStep.mk r260 y213.rule y213.main y213.a y213.b) v266 (h267.mono upI) v272 (h273.mono upI)) ?_
       rintro e w283 ⟨H282, v286, n287, cs288, rfl, r285, els289⟩
       refine ⟨_, rfl, ?_⟩
       have els289 := els289.mono (up_le S281.size)
       have S284 := S281.join (l' := [.row 3 1 v286 n287 cs288, .box b253 74 [v266, v272, Value.int .i64 y213.rule, Value.string y213.main, Value.int .i64 y213.a, Value.int .i64 y213.b], .row 74 6 v215 n216 cs217, .row 4 1 v92 n93 cs94, .row 3 1 v220 n221 cs222]) r285 rfl
       refine FL.v (E.assign (v := v286) rfl) ?_
       refine FL.nil (FW.seq (FW.seq (FW.region ?_)))
       refine FL.v (E.move (v := v286) rfl) ?_
       refine FL.v (E.lenO te82 rfl S284 (i := 0) rfl els289 (by decide)) ?_
       refine FL.v (E.gtr rfl rfl) ?_
       refine FL.nil ?_
       obtain ⟨q291, hq, hp⟩ := bndR hp
       refine FW.joinE (S := Int) (X := Empty) (q := q291) (fun s290 f w => ∃ H : GH, St Ha wa H w [.row 3 1 v286 n287 cs288, .box b253 74 [v266, v272, Value.int .i64 y213.rule, Value.string y213.main, Value.int .i64 s290, Value.int .i64 y213.b], .row 74 6 v215 n216 cs217, .row 4 1 v92 n93 cs94, .row 3 1 v220 n221 cs222] ∧ Inc H282 H ∧ f 0 = v0 ∧ f 4 = v215 ∧ f 5 = v92 ∧ f 6 = v220 ∧ f 10 = Value.int .i64 ((i214 : Nat) : Int) ∧ f 11 = Value.pointer (some (⟨b253, 0, none⟩ : Addr)) ∧ f 12 = v286) (fun (_ : Empty) _ _ _ => False) ?_ ?_ ?_
       ·
        clear hp; have hp := hq; clear hq
        rcases ifB hp with ⟨c293, hp⟩ | ⟨c293, hp⟩
        ·
         refine FW.condT rfl c293 ?_
         refine FW.region ?_
         refine FL.v (E.move k233) ?_
         refine FL.v (E.fieldAddr tf74_3 rfl) ?_
         refine FL.v (E.load rfl (run_load1 Tryz.isAgg3 (S284.box_now (i := 1) rfl) rfl)) ?_
         obtain ⟨x300, hx301, hp⟩ := bnd hp
         obtain ⟨p294, cs295, pt296, l297, at298, rel299⟩ := S284.row_at (i := 4) rfl els223 (by decide) hx301
         obtain rfl := eI_open rel299
         refine FL.v (E.indexAddr te82 rfl rfl pt296) ?_
         refine FL.v (E.load rfl (run_load0 Tryz.isAgg3 at298 rfl)) ?_
         refine FL.v (E.fieldAddr tf74_3 rfl) ?_
         obtain ⟨w302, run303, S304⟩ := S284.store (P := Tryz.prog) (t := 3) (i := 1) (j := 4) (cs' := [v266, v272, Value.int .i64 y213.rule, Value.string y213.main, Value.int .i64 x300, Value.int .i64 y213.b]) (l' := [.row 3 1 v286 n287 cs288, .box b253 74 [v266, v272, Value.int .i64 y213.rule, Value.string y213.main, Value.int .i64 x300, Value.int .i64 y213.b], .row 74 6 v215 n216 cs217, .row 4 1 v92 n93 cs94, .row 3 1 v220 n221 cs222]) (v := Value.int .i64 x300) (c := [Value.int .i64 x300]) rfl Tryz.sizeOf3 rfl rfl (ones_cons rfl ones_nil) (Nat.le_of_ble_eq_true rfl) rfl rfl
         refine FL.act rfl rfl (E.store rfl rfl run303) ?_
         refine FL.nil ?_
         obtain rfl := Option.some.inj hp
         exact ⟨rfl, ⟨_, S304, (Inc.rfl _), k230, k231, k232, k233, k229, rfl, rfl⟩⟩
        ·
         refine FW.condF rfl c293 ?_
         refine FW.skip ?_
         obtain rfl := Option.some.inj hp
         exact ⟨rfl, ⟨_, S284, (Inc.rfl _), k230, k231, k232, k233, k229, rfl, rfl⟩⟩
       ·
        rintro s290 rfl f309 w308 ⟨H305, S306, i307, k310, k311, k312, k313, k314, k315, k316⟩
        replace hp := el_go hp
        refine FW.seq (FW.seq (FW.region ?_))
        refine FL.v (E.move k316) ?_
        refine FL.v (E.lenO te82 rfl S306 (i := 0) rfl els289 (by decide)) ?_
        refine FL.v (E.gtr rfl rfl) ?_
        refine FL.nil ?_
        obtain ⟨q318, hq, hp⟩ := bndR hp
        refine FW.joinE (S := Int) (X := Empty) (q := q318) (fun s317 f w => ∃ H : GH, St Ha wa H w [.box b253 74 [v266, v272, Value.int .i64 y213.rule, Value.string y213.main, Value.int .i64 s290, Value.int .i64 s317], .row 74 6 v215 n216 cs217, .row 4 1 v92 n93 cs94, .row 3 1 v220 n221 cs222] ∧ Inc H305 H ∧ f 0 = v0 ∧ f 4 = v215 ∧ f 5 = v92 ∧ f 6 = v220 ∧ f 10 = Value.int .i64 ((i214 : Nat) : Int) ∧ f 11 = Value.pointer (some (⟨b253, 0, none⟩ : Addr))) (fun (_ : Empty) _ _ _ => False) ?_ ?_ ?_
        ·
         clear hp; have hp := hq; clear hq
         rcases ifB hp with ⟨c320, hp⟩ | ⟨c320, hp⟩
         ·
          refine FW.condT rfl c320 ?_
          refine FW.region ?_
          refine FL.v (E.move k313) ?_
          refine FL.v (E.fieldAddr tf74_4 k315) ?_
          refine FL.v (E.load rfl (run_load1 Tryz.isAgg3 (S306.box_now (i := 1) rfl) rfl)) ?_
          obtain ⟨x327, hx328, hp⟩ := bnd hp
          obtain ⟨p321, cs322, pt323, l324, at325, rel326⟩ := S306.row_at (i := 4) rfl els223 (by decide) hx328
          obtain rfl := eI_open rel326
          refine FL.v (E.indexAddr te82 rfl rfl pt323) ?_
          refine FL.v (E.load rfl (run_load0 Tryz.isAgg3 at325 rfl)) ?_
          refine FL.v (E.fieldAddr tf74_4 k315) ?_
          obtain ⟨w329, run330, S331⟩ := S306.store (P := Tryz.prog) (t := 3) (i := 1) (j := 5) (cs' := [v266, v272, Value.int .i64 y213.rule, Value.string y213.main, Value.int .i64 s290, Value.int .i64 x327]) (l' := [.row 3 1 v286 n287 cs288, .box b253 74 [v266, v272, Value.int .i64 y213.rule, Value.string y213.main, Value.int .i64 s290, Value.int .i64 x327], .row 74 6 v215 n216 cs217, .row 4 1 v92 n93 cs94, .row 3 1 v220 n221 cs222]) (v := Value.int .i64 x327) (c := [Value.int .i64 x327]) rfl Tryz.sizeOf3 rfl rfl (ones_cons rfl ones_nil) (Nat.le_of_ble_eq_true rfl) rfl rfl
          refine FL.act rfl rfl (E.store rfl rfl run330) ?_
          refine FL.nil ?_
          obtain rfl := Option.some.inj hp
          exact ⟨rfl, ⟨_, (S331.sel [1, 2, 3, 4] (by decide) rfl), (Inc.rfl _), k310, k311, k312, k313, k314, k315⟩⟩
         ·
          refine FW.condF rfl c320 ?_
          refine FW.skip ?_
          obtain rfl := Option.some.inj hp
          exact ⟨rfl, ⟨_, (S306.sel [1, 2, 3, 4] (by decide) rfl), (Inc.rfl _), k310, k311, k312, k313, k314, k315⟩⟩
        ·
         rintro s317 rfl f336 w335 ⟨H332, S333, i334, k337, k338, k339, k340, k341, k342⟩
         replace hp := el_go hp
         refine FW.seq (FW.region ?_)
         refine FL.v (E.move k340) ?_
         refine FL.v (E.move k341) ?_
         refine FL.v (E.move k338) ?_
         refine FL.v (E.lenO te24 rfl S333 (i := 1) rfl els218 (by decide)) ?_
         obtain ⟨x349, hx350, hp⟩ := bnd hp
         obtain ⟨p343, cs344, pt345, l346, at347, rel348⟩ := S333.row_at (i := 3) rfl els223 (by decide) hx350
         obtain rfl := eI_open rel348
         refine FL.v (E.indexAddr te82 rfl rfl pt345) ?_
         obtain ⟨xs354, hput355, hp⟩ := bnd hp
         obtain ⟨w351, cs357, run352, S353, els356, ce358⟩ := S333.putEls (P := Tryz.prog) (t := 3) (i := 3) rfl (els223.mono (up_mono (((r265.inc.tr r285.run.inc).tr i307).tr i334))) hput355 pt345 Tryz.sizeOf3 (u := Value.int .i64 (len s214.1)) (c := [Value.int .i64 (len s214.1)]) rfl rfl (ones_cons rfl ones_nil) rfl
         have S353 : St Ha wa H332 w351 [.box b253 74 [v266, v272, Value.int .i64 y213.rule, Value.string y213.main, Value.int .i64 s290, Value.int .i64 s317], .row 74 6 v215 n216 cs217, .row 4 1 v92 n93 cs94, .row 3 1 v220 n221 cs357] := S353
         refine FL.act rfl rfl (E.store rfl rfl run352) ?_
         refine FL.nil (FW.region ?_)
         refine FL.v (E.move k338) ?_
         refine FL.v (E.load k342 (run_loadA Tryz.isAgg74 Tryz.sizeOf74 (S353.box_now (i := 0) rfl) rfl)) ?_
         obtain ⟨v359, w360, run361, S362⟩ := S353.buildSlice (P := Tryz.prog) te24 [Value.agg #[v266, v272, Value.int .i64 y213.rule, Value.string y213.main, Value.int .i64 s290, Value.int .i64 s317]] (parts := #[(0, Value.agg #[v266, v272, Value.int .i64 y213.rule, Value.string y213.main, Value.int .i64 s290, Value.int .i64 s317])]) (cells := [v266, v272, Value.int .i64 y213.rule, Value.string y213.main, Value.int .i64 s290, Value.int .i64 s317]) rfl (szs_cons rfl szs_nil) (fc_cons rfl fc_nil) (ones_cons h267.one (ones_cons h273.one (ones_cons rfl (ones_cons rfl (ones_cons rfl (ones_cons rfl ones_nil)))))) (Nat.le_of_ble_eq_true rfl)
         have els363 : Els (up wa.heap.size H332) eSeqStep 6 [v266, v272, Value.int .i64 y213.rule, Value.string y213.main, Value.int .i64 s290, Value.int .i64 s317] [(SeqStep.mk r260 y213.rule y213.main s290 s317)] := (Els.snoc (H := (up wa.heap.size H332)) (E := eSeqStep) (k := 6) (c := [v266, v272, Value.int .i64 y213.rule, Value.string y213.main, Value.int .i64 s290, Value.int .i64 s317]) (x := (SeqStep.mk r260 y213.rule y213.main s290 s317)) Els.nil rfl ⟨_, _, rfl, (h267.mono (up_mono ((r285.run.inc.tr i307).tr i334))), (h273.mono (up_mono ((r285.run.inc.tr i307).tr i334)))⟩)
         have nd364 : (bl [v266, v272, Value.int .i64 y213.rule, Value.string y213.main, Value.int .i64 s290, Value.int .i64 s317]).Nodup := by exact nd_two ap278.dis
         have nv365 : New H224 [v266, v272, Value.int .i64 y213.rule, Value.string y213.main, Value.int .i64 s290, Value.int .i64 s317] := by exact (New.two nv271 nv277)
         refine FL.v (E.buildSlice (B1 rfl) run361) ?_
         obtain ⟨xs366, hz367, hp⟩ := bnd hp
         obtain ⟨v368, w371, n369, cs370, run372, S373, els374, ce375⟩ := S362.appendO (P := Tryz.prog) te24 (i := 2) (j := 0) rfl (els218.mono (up_mono (((r265.inc.tr r285.run.inc).tr i307).tr i334))) rfl els363 hz367
         have S373 : St Ha wa H332 w371 [.row 74 6 v359 1 [v266, v272, Value.int .i64 y213.rule, Value.string y213.main, Value.int .i64 s290, Value.int .i64 s317], .box b253 74 [v266, v272, Value.int .i64 y213.rule, Value.string y213.main, Value.int .i64 s290, Value.int .i64 s317], .row 74 6 v368 n369 cs370, .row 4 1 v92 n93 cs94, .row 3 1 v220 n221 cs357] := S373
         have nd376 : (bl cs370).Nodup := by rw [ce375]; exact nd_app nd219 nd364 (Els.dom (els218.mono (upI.tr (Inc.rfl _)))) (by exact nv365)
         have S377 : St Ha wa H332 w371 [.box b253 74 [v266, v272, Value.int .i64 y213.rule, Value.string y213.main, Value.int .i64 s290, Value.int .i64 s317], .row 74 6 v368 n369 cs370, .row 4 1 v92 n93 cs94, .row 3 1 v220 n221 cs357] := S373.drop 0
         refine FL.v (E.append rfl rfl run372) ?_
         refine FL.v (E.assign (v := v368) rfl) ?_
         refine FL.nil (FW.region ?_)
         refine FL.v (E.move k341) ?_
         refine FL.v (E.add rfl rfl) ?_
         refine FL.v (E.assign (v := Value.int .i64 (wr (((i214 : Nat) : Int) + 1))) rfl) ?_
         refine FL.nil ?_
         obtain rfl := Option.some.inj hp
         exact ⟨rfl, ⟨_, _, _, _, _, _, _, (S377.sel [1, 2, 3] (by decide) rfl), ((((i226.tr r265.inc).tr r285.run.inc).tr i307).tr i334), els374, els356, nd376, (nat_succ rfl (lt_of_get hx214) (p0.mono ((((((i65.tr i206).tr i226).tr r265.inc).tr r285.run.inc).tr i307).tr i334)).le), k337, rfl, k339, k340⟩⟩
        ·
         intro x319; exact x319.elim
       ·
        intro x292; exact x292.elim
     ·
      clear hp hq
      rintro s214 f389 w388 ⟨H385, v215, n216, cs217, v220, n221, cs222, S386, i387, els218, els223, nd219, k390, k391, k392, k393, k394⟩
      refine FW.seq (FW.seq (FW.region ?_))
      refine FL.v (E.move k390) ?_
      refine FL.v (E.move k391) ?_
      refine FL.v (E.lenP te24 rfl p0) ?_
      refine FL.v (E.lss rfl rfl) ?_
      refine FL.nil ?_
      refine FW.condF rfl dlt_len ?_
      refine FW.exit ?_
      exact ⟨nofun, rfl, ⟨_, _, _, _, _, _, _, S386, i387, els218, els223, nd219, k392⟩⟩
     ·
      clear hq
      intro e f383 w382 hD
      rcases q214 with s214 | x214
      ·
       obtain ⟨rfl, hD⟩ := hD
       obtain ⟨H379, v215, n216, cs217, v220, n221, cs222, S380, i381, els218, els223, nd219, k384⟩ := hD
       replace hp := el_go hp
       refine FW.seq (FW.region ?_)
       refine FL.v (E.move k384) ?_
       refine FL.v (E.assign (v := v215) rfl) ?_
       refine FL.v (E.assign (v := Value.bool true) rfl) ?_
       refine FL.nil ?_
       refine FW.ret ?_
       obtain rfl := Option.some.inj hp
       exact ⟨.inr rfl, res2 rfl rfl rfl ⟨_, _, _, _, rfl, (S380.sel [0] (by decide) rfl), els218, nd219⟩⟩
      ·
       exact x214.elim
    ·
     exact x91.elim

theorem w_impl_within {Ha : GH} {wa : World} (hs : Sl Ha wa) (a0 : Int) (a1 : Int) (a2 : Int) :
  Calls Tryz.prog 91 #[Value.int .i64 a0, Value.int .i64 a1, Value.int .i64 a2] wa (Sc Ha wa (Value.bool (PF.impl_within a0 a1 a2))) := by
 obtain ⟨r, hp⟩ : ∃ r, (PF.impl_within a0 a1 a2) = r := ⟨_, rfl⟩
 rw [hp]
 unfold PF.impl_within at hp
 have S0 := St.init hs
 refine calls_go (N := 15) (args := [Value.int .i64 a0, Value.int .i64 a1, Value.int .i64 a2]) Tryz.func91 rfl rfl rfl ?_
 refine FW.seq (FW.region ?_)
 refine FL.v (E.assign (v := Value.bool false) rfl) ?_
 refine FL.nil (FW.seq (FW.region ?_))
 refine FL.v (E.move (v := Value.int .i64 a0) rfl) ?_
 refine FL.v (E.move (v := Value.int .i64 a1) rfl) ?_
 refine FL.v (E.geq rfl rfl) ?_
 refine FL.v (E.move (v := Value.bool (decide (a1 ≤ a0))) rfl) ?_
 refine FL.cut 4 (fun f w => ∃ H : GH, St Ha wa H w [] ∧ Inc Ha H ∧ f 14 = Value.bool (bif (decide (a1 ≤ a0)) then (decide (a0 ≤ a2)) else false)) ?_ ?_
 ·
  rcases bcase (decide (a1 ≤ a0)) with c27 | c27
  ·
   refine FL.val (wF_yes rfl rfl rfl c27) rfl rfl (E.move (v := Value.int .i64 a0) rfl) ?_
   refine FL.val (wF_yes rfl rfl rfl c27) rfl rfl (E.move (v := Value.int .i64 a2) rfl) ?_
   refine FL.val (wF_yes rfl rfl rfl c27) rfl rfl (E.leq rfl rfl) ?_
   refine FL.v (E.pickT rfl c27 rfl) ?_
   exact FL.nil ⟨rfl, _, S0, (Inc.rfl _), (congrArg Value.bool (bifT c27).symm)⟩
  ·
   refine FL.skip (wF_no rfl rfl rfl c27) rfl ?_
   refine FL.skip (wF_no rfl rfl rfl c27) rfl ?_
   refine FL.skip (wF_no rfl rfl rfl c27) rfl ?_
   refine FL.v (E.pickF rfl c27 rfl) ?_
   exact FL.nil ⟨rfl, _, S0, (Inc.rfl _), (congrArg Value.bool (bifF c27).symm)⟩
 rintro f26 w25 ⟨H22, S23, i24, k28⟩
 refine FL.v (E.assign k28) ?_
 refine FL.nil ?_
 refine FW.ret ?_
 obtain rfl := hp
 exact ⟨.inr rfl, res1 rfl rfl ⟨rfl, S23.back⟩⟩

theorem w_impl_isLetter {Ha : GH} {wa : World} (hs : Sl Ha wa) (a0 : Int) :
  Calls Tryz.prog 79 #[Value.int .u8 a0] wa (Sc Ha wa (Value.bool (PF.impl_isLetter a0))) := by
 obtain ⟨r, hp⟩ : ∃ r, (PF.impl_isLetter a0) = r := ⟨_, rfl⟩
 rw [hp]
 unfold PF.impl_isLetter at hp
 have S0 := St.init hs
 refine calls_go (N := 9) (args := [Value.int .u8 a0]) Tryz.func79 rfl rfl rfl ?_
 refine FW.seq (FW.region ?_)
 refine FL.v (E.assign (v := Value.bool false) rfl) ?_
 refine FL.nil (FW.seq (FW.region ?_))
 refine FL.v (E.move (v := Value.int .u8 a0) rfl) ?_
 refine FL.v (E.geq rfl rfl) ?_
 refine FL.v (E.move (v := Value.bool (decide (97 ≤ a0))) rfl) ?_
 refine FL.cut 3 (fun f w => ∃ H : GH, St Ha wa H w [] ∧ Inc Ha H ∧ f 8 = Value.bool (bif (decide (97 ≤ a0)) then (decide (a0 < 103)) else false)) ?_ ?_
 ·
  rcases bcase (decide (97 ≤ a0)) with c27 | c27
  ·
   refine FL.val (wF_yes rfl rfl rfl c27) rfl rfl (E.move (v := Value.int .u8 a0) rfl) ?_
   refine FL.val (wF_yes rfl rfl rfl c27) rfl rfl (E.lss rfl rfl) ?_
   refine FL.v (E.pickT rfl c27 rfl) ?_
   exact FL.nil ⟨rfl, _, S0, (Inc.rfl _), (congrArg Value.bool (bifT c27).symm)⟩
  ·
   refine FL.skip (wF_no rfl rfl rfl c27) rfl ?_
   refine FL.skip (wF_no rfl rfl rfl c27) rfl ?_
   refine FL.v (E.pickF rfl c27 rfl) ?_
   exact FL.nil ⟨rfl, _, S0, (Inc.rfl _), (congrArg Value.bool (bifF c27).symm)⟩
 rintro f26 w25 ⟨H22, S23, i24, k28⟩
 refine FL.v (E.assign k28) ?_
 refine FL.nil ?_
 refine FW.ret ?_
 obtain rfl := hp
 exact ⟨.inr rfl, res1 rfl rfl ⟨rfl, S23.back⟩⟩

@[reducible] def p_impl_leaf (Ha : GH) (wa : World) (r : Fo) : Ending → World → Prop :=
 fun e w' => ∃ H' : GH, ∃ v0 : Value, e = .returned (v0) ∧ Run wa.heap.size Ha wa H' w' ∧ FAt H' v0 r
theorem w_impl_leaf {Ha : GH} {wa : World} (hs : Sl Ha wa) (a0 : Int) {r : Fo} (hp : (PF.impl_leaf a0) = some r) :
  Calls Tryz.prog 174 #[Value.int .u8 a0] wa (p_impl_leaf Ha wa r) := by
 unfold PF.impl_leaf at hp
 have S0 := St.init hs
 refine calls_go (N := 8) (args := [Value.int .u8 a0]) Tryz.func174 rfl rfl rfl ?_
 refine FW.seq (FW.region ?_)
 refine FL.v (E.assign (v := Value.pointer none) rfl) ?_
 refine FL.nil (FW.seq (FW.region ?_))
 refine FL.v (E.move (v := Value.int .u8 a0) rfl) ?_
 refine FL.v (E.move (v := Value.int .u8 a0) rfl) ?_
 obtain ⟨z21, h22, hp⟩ := bnd hp
 refine FL.v (E.chr Tryz.runUnderlying5 Tryz.runUnderlying9 rfl h22) ?_
 refine FL.v (E.build (B2 rfl rfl) (run_build _ 109 #[(0, Value.int .u8 a0), (3, Value.string z21)] #[Value.int .u8 a0, Value.pointer none, Value.pointer none, Value.string z21] (by rfl))) ?_
 obtain ⟨b23, w24, run25, S26⟩ := S0.box (P := Tryz.prog) 109 [Value.int .u8 a0, Value.pointer none, Value.pointer none, Value.string z21] (v := Value.agg #[Value.int .u8 a0, Value.pointer none, Value.pointer none, Value.string z21]) rfl (ones_cons rfl (ones_cons rfl (ones_cons rfl (ones_cons rfl ones_nil))))
 refine FL.v (E.box rfl run25) ?_
 obtain ⟨H27, S28, i29, at30⟩ := S26.sealBox (i := 0) (l' := []) rfl rfl
 refine FL.v (E.assign (v := Value.pointer (some ⟨b23, 0, none⟩)) rfl) ?_
 refine FL.nil ?_
 refine FW.ret ?_
 obtain rfl := Option.some.inj hp
 exact ⟨.inr rfl, res1 rfl rfl ⟨_, _, rfl, S28.run, (FAt.mk at30 FAt.nil FAt.nil)⟩⟩

@[reducible] def p_impl_not (Ha : GH) (wa : World) (r : Fo) : Ending → World → Prop :=
 fun e w' => ∃ H' : GH, ∃ v0 : Value, e = .returned (v0) ∧ Run wa.heap.size Ha wa H' w' ∧ FAt H' v0 r
theorem w_impl_not {Ha : GH} {wa : World} (hs : Sl Ha wa) (v0 : Value) (a0 : Fo) (p0 : FAt Ha v0 a0) {r : Fo} (hp : (PF.impl_not a0) = some r) :
  Calls Tryz.prog 175 #[v0] wa (p_impl_not Ha wa r) := by
 unfold PF.impl_not at hp
 have S0 := St.init hs
 refine calls_go (N := 11) (args := [v0]) Tryz.func175 rfl rfl rfl ?_
 refine FW.seq (FW.region ?_)
 refine FL.v (E.assign (v := Value.pointer none) rfl) ?_
 refine FL.nil (FW.seq (FW.region ?_))
 refine FL.v (E.move (v := v0) rfl) ?_
 refine FL.v (E.move (v := v0) rfl) ?_
 obtain ⟨y21, hy22, hp⟩ := bnd hp
 obtain ⟨q23, v25, v26, rfl, at24, h27, h28⟩ := FAt.open p0 hy22
 refine FL.v (E.nilCheck rfl) ?_
 refine FL.v (E.fieldAddr tf109_3 rfl) ?_
 refine FL.v (E.load rfl (run_load1 Tryz.isAgg9 (at24.now S0.sl) rfl)) ?_
 obtain ⟨z29, h30, hp⟩ := bnd hp
 refine FL.v (E.addT rfl rfl h30) ?_
 refine FL.v (E.build (B3 rfl rfl rfl) (run_build _ 109 #[(0, Value.int .u8 126), (1, Value.pointer (some q23)), (3, Value.string z29)] #[Value.int .u8 126, Value.pointer (some q23), Value.pointer none, Value.string z29] (by rfl))) ?_
 obtain ⟨b31, w32, run33, S34⟩ := S0.box (P := Tryz.prog) 109 [Value.int .u8 126, Value.pointer (some q23), Value.pointer none, Value.string z29] (v := Value.agg #[Value.int .u8 126, Value.pointer (some q23), Value.pointer none, Value.string z29]) rfl (ones_cons rfl (ones_cons rfl (ones_cons rfl (ones_cons rfl ones_nil))))
 refine FL.v (E.box rfl run33) ?_
 obtain ⟨H35, S36, i37, at38⟩ := S34.sealBox (i := 0) (l' := []) rfl rfl
 refine FL.v (E.assign (v := Value.pointer (some ⟨b31, 0, none⟩)) rfl) ?_
 refine FL.nil ?_
 refine FW.ret ?_
 obtain rfl := Option.some.inj hp
 exact ⟨.inr rfl, res1 rfl rfl ⟨_, _, rfl, S36.run, (FAt.mk at38 (p0.mono i37) FAt.nil)⟩⟩

theorem w_strings_Contains {Ha : GH} {wa : World} (hs : Sl Ha wa) (a0 a1 : ByteArray) {r : Bool} (hp : (PF.strings_Contains a0 a1) = some r) : Calls Tryz.prog 176 #[Value.string a0, Value.string a1] wa (Sc Ha wa (Value.bool r)) := by
 unfold PF.strings_Contains at hp
 obtain ⟨c, rfl, rfl⟩ := hasS_some hp
 refine (Go.Proofs.Any.strings_Contains_one Tryz.cont176 a0 c wa).mono ?_
 rintro e w' ⟨rfl, rfl⟩
 exact ⟨rfl, Run.refl _ hs⟩

@[reducible] def p_impl_join (Ha : GH) (wa : World) (r : Fo) : Ending → World → Prop :=
 fun e w' => ∃ H' : GH, ∃ v0 : Value, e = .returned (v0) ∧ Run wa.heap.size Ha wa H' w' ∧ FAt H' v0 r
theorem w_impl_join {Ha : GH} {wa : World} (hs : Sl Ha wa) (a0 : Int) (v1 : Value) (a1 : Fo) (p1 : FAt Ha v1 a1) (v2 : Value) (a2 : Fo) (p2 : FAt Ha v2 a2) {r : Fo} (hp : (PF.impl_join a0 a1 a2) = some r) :
  Calls Tryz.prog 177 #[Value.int .u8 a0, v1, v2] wa (p_impl_join Ha wa r) := by
 unfold PF.impl_join at hp
 have S0 := St.init hs
 refine calls_go (N := 26) (args := [Value.int .u8 a0, v1, v2]) Tryz.func177 rfl rfl rfl ?_
 refine FW.seq (FW.region ?_)
 refine FL.v (E.assign (v := Value.pointer none) rfl) ?_
 refine FL.nil (FW.seq ?_)
 obtain ⟨y24, hy25, hp⟩ := bnd hp
 obtain ⟨z32, h33, hp⟩ := bnd hp
 obtain ⟨z34, h35, hp⟩ := bnd hp
 obtain ⟨z36, h37, hp⟩ := bnd hp
 obtain ⟨y38, hy39, hp⟩ := bnd hp
 obtain ⟨z46, h47, hp⟩ := bnd hp
 obtain ⟨z48, h49, hp⟩ := bnd hp
 refine FW.drawB (Sl Ha) (fun f w => ∃ H : GH, ∃ v58 : Value, St Ha wa H w [] ∧ Inc Ha H ∧ FAt H v58 (Fo.node a0 a1 a2 z48) ∧ f 6 = v58) (by kernel_rfl) S0.sl ?_ ?_
 ·
  intro w21 r22
  have S23 := S0.call r22
  refine FB.t (i := 0) (bs 20 1) rfl (SP.nil S23.sl) rfl (fun w' hw' => (E.move (v := Value.int .u8 a0) rfl)) ?_
  refine FB.t (i := 1) (bs 20 3) rfl (SP.nil S23.sl) rfl (fun w' hw' => (E.move (v := v1) rfl)) ?_
  refine FB.t (i := 2) (bs 20 7) rfl (SP.nil S23.sl) rfl (fun w' hw' => (E.move (v := v2) rfl)) ?_
  refine FB.t (i := 3) (bs 20 15) rfl (SP.nil S23.sl) rfl (fun w' hw' => (E.move (v := v1) rfl)) ?_
  obtain ⟨q26, v28, v29, rfl, at27, h30, h31⟩ := FAt.open p1 hy25
  refine FB.t (i := 4) (bs 20 31) rfl (SP.nil S23.sl) rfl (fun w' hw' => (E.nilCheck rfl)) ?_
  refine FB.t (i := 5) (bs 20 63) rfl (SP.nil S23.sl) rfl (fun w' hw' => (E.fieldAddr tf109_3 rfl)) ?_
  refine FB.t (i := 6) (bs 20 127) rfl (SP.nil S23.sl) rfl (fun w' hw' => (E.load rfl (run_load1 Tryz.isAgg9 (at27.now hw') rfl))) ?_
  refine FB.t (i := 7) (bs 20 255) rfl (SP.nil S23.sl) rfl (fun w' hw' => (E.addT rfl rfl h33)) ?_
  refine FB.t (i := 8) (bs 20 511) rfl (SP.nil S23.sl) rfl (fun w' hw' => (E.move (v := Value.int .u8 a0) rfl)) ?_
  refine FB.t (i := 9) (bs 20 1023) rfl (SP.nil S23.sl) rfl (fun w' hw' => (E.chr Tryz.runUnderlying5 Tryz.runUnderlying9 rfl h35)) ?_
  refine FB.t (i := 10) (bs 20 2047) rfl (SP.nil S23.sl) rfl (fun w' hw' => (E.addT rfl rfl h37)) ?_
  refine FB.t (i := 11) (bs 20 4095) rfl (SP.nil S23.sl) rfl (fun w' hw' => (E.move (v := v2) rfl)) ?_
  obtain ⟨q40, v42, v43, rfl, at41, h44, h45⟩ := FAt.open p2 hy39
  refine FB.t (i := 12) (bs 20 8191) rfl (SP.nil S23.sl) rfl (fun w' hw' => (E.nilCheck rfl)) ?_
  refine FB.t (i := 13) (bs 20 16383) rfl (SP.nil S23.sl) rfl (fun w' hw' => (E.fieldAddr tf109_3 rfl)) ?_
  refine FB.t (i := 14) (bs 20 32767) rfl (SP.nil S23.sl) rfl (fun w' hw' => (E.load rfl (run_load1 Tryz.isAgg9 (at41.now hw') rfl))) ?_
  refine FB.t (i := 15) (bs 20 65535) rfl (SP.nil S23.sl) rfl (fun w' hw' => (E.addT rfl rfl h47)) ?_
  refine FB.t (i := 16) (bs 20 131071) rfl (SP.nil S23.sl) rfl (fun w' hw' => (E.addT rfl rfl h49)) ?_
  refine FB.t (i := 17) (bs 20 262143) rfl (SP.nil S23.sl) rfl (fun w' hw' => (E.build (B4 rfl rfl rfl rfl) (run_build _ 109 #[(0, Value.int .u8 a0), (1, Value.pointer (some q26)), (2, Value.pointer (some q40)), (3, Value.string z48)] #[Value.int .u8 a0, Value.pointer (some q26), Value.pointer (some q40), Value.string z48] (by rfl)))) ?_
  refine FB.all1 (i := 18) (by kernel_rfl) ?_
  ·
   obtain ⟨b50, w51, run52, S53⟩ := S23.box (P := Tryz.prog) 109 [Value.int .u8 a0, Value.pointer (some q26), Value.pointer (some q40), Value.string z48] (v := Value.agg #[Value.int .u8 a0, Value.pointer (some q26), Value.pointer (some q40), Value.string z48]) rfl (ones_cons rfl (ones_cons rfl (ones_cons rfl (ones_cons rfl ones_nil))))
   refine FC.val (l' := (bs 20 524287)) rfl (by kernel_rfl) rfl rfl rfl (E.box rfl run52) ?_
   obtain ⟨H54, S55, i56, at57⟩ := S53.sealBox (i := 0) (l' := []) rfl rfl
   refine ⟨(SP.nil (Sl.of_inc i56 S55.sl)), ?_⟩
   refine FB.t (i := 19) (bs 20 1048575) rfl (SP.nil (Sl.of_inc i56 S55.sl)) rfl (fun w' hw' => (E.assign (v := Value.pointer (some ⟨b50, 0, none⟩)) rfl)) ?_
   exact FB.done (by kernel_rfl) ⟨_, _, S55, i56, (FAt.mk at57 (p1.mono i56) (p2.mono i56)), rfl⟩
 ·
  rintro f64 w63 ⟨H60, v58, S61, i62, h59, k65⟩
  refine FW.ret ?_
  obtain rfl := Option.some.inj hp
  exact ⟨.inr rfl, res1 rfl k65 ⟨_, _, rfl, S61.run, h59⟩⟩

@[reducible] def p_impl_parseFrom (Ha : GH) (wa : World) (r : (Fo × ByteArray × Bool)) : Ending → World → Prop :=
 fun e w' => ∃ H' : GH, ∃ v0 : Value, e = .returned (Value.tuple #[v0, Value.string r.2.1, Value.bool r.2.2]) ∧ Run wa.heap.size Ha wa H' w' ∧ FAt H' v0 r.1
set_option maxHeartbeats 4000000 in
theorem w_impl_parseFrom_B {rec_impl_parseFrom : ByteArray → Option (Fo × ByteArray × Bool)} (hrec_impl_parseFrom : ∀ {Ha : GH} {wa : World} (hs : Sl Ha wa) (a0 : ByteArray) {r : (Fo × ByteArray × Bool)} (hp : rec_impl_parseFrom a0 = some r), Calls Tryz.prog 127 #[Value.string a0] wa (p_impl_parseFrom Ha wa r)) {Ha : GH} {wa : World} (hs : Sl Ha wa) (a0 : ByteArray) {r : (Fo × ByteArray × Bool)} (hp : PF.impl_parseFrom_B rec_impl_parseFrom a0 = some r) :
  Calls Tryz.prog 127 #[Value.string a0] wa (p_impl_parseFrom Ha wa r) := by
 unfold PF.impl_parseFrom_B at hp
 have S0 := St.init hs
 refine calls_go (N := 95) (args := [Value.string a0]) Tryz.func127 rfl rfl rfl ?_
 refine FW.seq (FW.region ?_)
 refine FL.v (E.assign (v := Value.pointer none) rfl) ?_
 refine FL.v (E.assign (v := Value.string (ByteArray.mk #[])) rfl) ?_
 refine FL.v (E.assign (v := Value.bool false) rfl) ?_
 refine FL.nil (FW.seq (FW.seq (FW.region ?_)))
 refine FL.v (E.move (v := Value.string a0) rfl) ?_
 refine FL.v (E.eqlS rfl rfl) ?_
 refine FL.nil ?_
 rcases ifB hp with ⟨c21, hp⟩ | ⟨c21, hp⟩
 ·
  refine FW.condT rfl c21 ?_
  refine FW.seq (FW.region ?_)
  refine FL.v (E.assign (v := Value.pointer none) rfl) ?_
  refine FL.v (E.assign (v := Value.string (ByteArray.mk #[])) rfl) ?_
  refine FL.v (E.assign (v := Value.bool false) rfl) ?_
  refine FL.nil ?_
  refine FW.ret ?_
  obtain rfl := Option.some.inj hp
  exact ⟨.inr rfl, res3 rfl rfl rfl rfl ⟨_, _, rfl, S0.run, FAt.nil⟩⟩
 ·
  refine FW.condF rfl c21 ?_
  refine FW.skip (FW.seq ?_)
  refine FW.draw (fun w' => Run wa.heap.size Ha wa Ha w') (by kernel_rfl) (by kernel_rfl) (run_drew S0.sl) ?_
  refine FD.val rfl rfl rfl (fun w' hw' => (E.move (v := Value.string a0) rfl)) ?_
  obtain ⟨z23, h24, hp⟩ := bnd hp
  refine FD.val rfl rfl rfl (fun w' hw' => (E.ixS Tryz.runUnderlying9 rfl rfl h24)) ?_
  refine FD.val rfl rfl rfl (fun w' hw' => (E.move (v := Value.string a0) rfl)) ?_
  obtain ⟨z25, h26, hp⟩ := bnd hp
  refine FD.val rfl rfl rfl (fun w' hw' => (E.cutS (kl := .i64) (kh := .i64) Tryz.underlying9 rfl (.inr ⟨_, rfl, rfl⟩) (.inl ⟨rfl, rfl⟩) h26)) ?_
  refine FD.val rfl rfl rfl (fun w' hw' => (E.assign (v := Value.int .u8 z23) rfl)) ?_
  refine FD.val rfl rfl rfl (fun w' hw' => (E.assign (v := Value.string z25) rfl)) ?_
  refine FD.nil ?_
  intro w27 r29
  have S28 := S0.call r29
  refine FW.seq (FW.block (FW.seq (FW.region ?_)))
  refine FL.v (E.move (v := Value.int .u8 z23) rfl) ?_
  refine FL.call rfl rfl rfl (E.call Tryz.call79 (A1 rfl)) (w_impl_isLetter S28.sl z23) ?_
  rintro e w30 ⟨rfl, r31⟩
  refine ⟨_, rfl, ?_⟩
  have S32 := S28.call r31
  refine FL.v (E.move (v := Value.bool (PF.impl_isLetter z23)) rfl) ?_
  refine FL.cut 3 (fun f w => ∃ H : GH, St Ha wa H w [] ∧ Inc Ha H ∧ f 5 = Value.int .u8 z23 ∧ f 6 = Value.string z25 ∧ f 26 = Value.bool (bif (PF.impl_isLetter z23) then true else (z23 == 48))) ?_ ?_
  ·
   rcases bcase (PF.impl_isLetter z23) with c39 | c39
   ·
    refine FL.skip (wF_no rfl rfl rfl c39) rfl ?_
    refine FL.skip (wF_no rfl rfl rfl c39) rfl ?_
    refine FL.v (E.pickT rfl c39 rfl) ?_
    exact FL.nil ⟨rfl, _, S32, (Inc.rfl _), rfl, rfl, (congrArg Value.bool (bifT c39).symm)⟩
   ·
    refine FL.val (wF_yes rfl rfl rfl c39) rfl rfl (E.move (v := Value.int .u8 z23) rfl) ?_
    refine FL.val (wF_yes rfl rfl rfl c39) rfl rfl (E.eql rfl rfl) ?_
    refine FL.v (E.pickF rfl c39 rfl) ?_
    exact FL.nil ⟨rfl, _, S32, (Inc.rfl _), rfl, rfl, (congrArg Value.bool (bifF c39).symm)⟩
  rintro f38 w37 ⟨H34, S35, i36, k40, k41, k42⟩
  refine FL.v (E.move k42) ?_
  refine FL.cut 3 (fun f w => ∃ H : GH, St Ha wa H w [] ∧ Inc H34 H ∧ f 5 = Value.int .u8 z23 ∧ f 6 = Value.string z25 ∧ f 30 = Value.bool (bif (bif (PF.impl_isLetter z23) then true else (z23 == 48)) then true else (z23 == 49))) ?_ ?_
  ·
   rcases bcase (bif (PF.impl_isLetter z23) then true else (z23 == 48)) with c49 | c49
   ·
    refine FL.skip (wF_no rfl rfl rfl c49) rfl ?_
    refine FL.skip (wF_no rfl rfl rfl c49) rfl ?_
    refine FL.v (E.pickT rfl c49 rfl) ?_
    exact FL.nil ⟨rfl, _, S35, (Inc.rfl _), k40, k41, (congrArg Value.bool (bifT c49).symm)⟩
   ·
    refine FL.val (wF_yes rfl rfl rfl c49) rfl rfl (E.move k40) ?_
    refine FL.val (wF_yes rfl rfl rfl c49) rfl rfl (E.eql rfl rfl) ?_
    refine FL.v (E.pickF rfl c49 rfl) ?_
    exact FL.nil ⟨rfl, _, S35, (Inc.rfl _), k40, k41, (congrArg Value.bool (bifF c49).symm)⟩
  rintro f48 w47 ⟨H44, S45, i46, k50, k51, k52⟩
  refine FL.v (E.assign k52) ?_
  refine FL.nil ?_
  rcases ifB hp with ⟨c53, hp⟩ | ⟨c53, hp⟩
  ·
   refine FW.condT rfl c53 ?_
   refine FW.seq (FW.region ?_)
   refine FL.v (E.move k50) ?_
   obtain ⟨r54, hr55, hp⟩ := bnd hp
   refine FL.call rfl rfl rfl (E.call Tryz.call174 (A1 rfl)) (w_impl_leaf S45.sl z23 hr55) ?_
   rintro e w57 ⟨H56, v60, rfl, r59, h61⟩
   refine ⟨_, rfl, ?_⟩
   have S58 := S45.call r59
   refine FL.v (E.move k51) ?_
   refine FL.v (E.assign (v := v60) rfl) ?_
   refine FL.v (E.assign (v := Value.string z25) rfl) ?_
   refine FL.v (E.assign (v := Value.bool true) rfl) ?_
   refine FL.nil ?_
   refine FW.ret ?_
   obtain rfl := Option.some.inj hp
   exact ⟨.inr rfl, res3 rfl rfl rfl rfl ⟨_, _, rfl, S58.run, h61⟩⟩
  ·
   refine FW.condF rfl c53 ?_
   refine FW.seq (FW.region ?_)
   refine FL.v (E.move k50) ?_
   refine FL.v (E.eql rfl rfl) ?_
   refine FL.v (E.assign (v := Value.bool (z23 == 126)) rfl) ?_
   refine FL.nil ?_
   rcases ifB hp with ⟨c62, hp⟩ | ⟨c62, hp⟩
   ·
    refine FW.condT rfl c62 ?_
    refine FW.seq (FW.region ?_)
    refine FL.v (E.move k51) ?_
    obtain ⟨r63, hr64, hp⟩ := bnd hp
    refine FL.call rfl rfl rfl (E.call Tryz.call127 (A1 rfl)) (hrec_impl_parseFrom S45.sl z25 hr64) ?_
    rintro e w66 ⟨H65, v69, rfl, r68, h70⟩
    refine ⟨_, rfl, ?_⟩
    have S67 := S45.call r68
    refine FL.v (E.move (v := Value.tuple #[v69, Value.string r63.2.1, Value.bool r63.2.2]) rfl) ?_
    refine FL.v (E.extract (i := 0) rfl rfl) ?_
    refine FL.v (E.extract (i := 1) rfl rfl) ?_
    refine FL.v (E.extract (i := 2) rfl rfl) ?_
    refine FL.v (E.assign (v := v69) rfl) ?_
    refine FL.v (E.assign (v := Value.string r63.2.1) rfl) ?_
    refine FL.v (E.assign (v := Value.bool r63.2.2) rfl) ?_
    refine FL.nil (FW.seq (FW.seq (FW.region ?_)))
    refine FL.v (E.move (v := Value.bool r63.2.2) rfl) ?_
    refine FL.v (E.not rfl) ?_
    refine FL.nil ?_
    rcases ifB hp with ⟨c71, hp⟩ | ⟨c71, hp⟩
    ·
     refine FW.condT rfl c71 ?_
     refine FW.seq (FW.region ?_)
     refine FL.v (E.assign (v := Value.pointer none) rfl) ?_
     refine FL.v (E.assign (v := Value.string (ByteArray.mk #[])) rfl) ?_
     refine FL.v (E.assign (v := Value.bool false) rfl) ?_
     refine FL.nil ?_
     refine FW.ret ?_
     obtain rfl := Option.some.inj hp
     exact ⟨.inr rfl, res3 rfl rfl rfl rfl ⟨_, _, rfl, S67.run, FAt.nil⟩⟩
    ·
     refine FW.condF rfl c71 ?_
     refine FW.skip (FW.seq (FW.region ?_))
     refine FL.v (E.move (v := v69) rfl) ?_
     obtain ⟨r72, hr73, hp⟩ := bnd hp
     refine FL.call rfl rfl rfl (E.call Tryz.call175 (A1 rfl)) (w_impl_not S67.sl v69 r63.1 h70 hr73) ?_
     rintro e w75 ⟨H74, v78, rfl, r77, h79⟩
     refine ⟨_, rfl, ?_⟩
     have S76 := S67.call r77
     refine FL.v (E.move (v := Value.string r63.2.1) rfl) ?_
     refine FL.v (E.assign (v := v78) rfl) ?_
     refine FL.v (E.assign (v := Value.string r63.2.1) rfl) ?_
     refine FL.v (E.assign (v := Value.bool true) rfl) ?_
     refine FL.nil ?_
     refine FW.ret ?_
     obtain rfl := Option.some.inj hp
     exact ⟨.inr rfl, res3 rfl rfl rfl rfl ⟨_, _, rfl, S76.run, h79⟩⟩
   ·
    refine FW.condF rfl c62 ?_
    refine FW.seq (FW.region ?_)
    refine FL.v (E.move k50) ?_
    refine FL.v (E.neq rfl rfl) ?_
    refine FL.v (E.assign (v := Value.bool (!(z23 == 40))) rfl) ?_
    refine FL.nil ?_
    rcases ifB hp with ⟨c80, hp⟩ | ⟨c80, hp⟩
    ·
     refine FW.condT rfl c80 ?_
     refine FW.seq (FW.region ?_)
     refine FL.v (E.assign (v := Value.pointer none) rfl) ?_
     refine FL.v (E.assign (v := Value.string (ByteArray.mk #[])) rfl) ?_
     refine FL.v (E.assign (v := Value.bool false) rfl) ?_
     refine FL.nil ?_
     refine FW.ret ?_
     obtain rfl := Option.some.inj hp
     exact ⟨.inr rfl, res3 rfl rfl rfl rfl ⟨_, _, rfl, S45.run, FAt.nil⟩⟩
    ·
     refine FW.condF rfl c80 ?_
     refine FW.skip (FW.seq (FW.region ?_))
     refine FL.v (E.move k51) ?_
     obtain ⟨r81, hr82, hp⟩ := bnd hp
     refine FL.call rfl rfl rfl (E.call Tryz.call127 (A1 rfl)) (hrec_impl_parseFrom S45.sl z25 hr82) ?_
     rintro e w84 ⟨H83, v87, rfl, r86, h88⟩
     refine ⟨_, rfl, ?_⟩
     have S85 := S45.call r86
     refine FL.v (E.move (v := Value.tuple #[v87, Value.string r81.2.1, Value.bool r81.2.2]) rfl) ?_
     refine FL.v (E.extract (i := 0) rfl rfl) ?_
     refine FL.v (E.extract (i := 1) rfl rfl) ?_
     refine FL.v (E.extract (i := 2) rfl rfl) ?_
     refine FL.v (E.assign (v := v87) rfl) ?_
     refine FL.v (E.assign (v := Value.string r81.2.1) rfl) ?_
     refine FL.v (E.assign (v := Value.bool r81.2.2) rfl) ?_
     refine FL.nil (FW.seq (FW.seq (FW.region ?_)))
     refine FL.v (E.move (v := Value.bool r81.2.2) rfl) ?_
     refine FL.v (E.not rfl) ?_
     refine FL.v (E.move (v := Value.bool (!r81.2.2)) rfl) ?_
     refine FL.cut 3 (fun f w => ∃ H : GH, St Ha wa H w [] ∧ Inc H83 H ∧ f 6 = Value.string r81.2.1 ∧ f 10 = v87 ∧ f 62 = Value.bool (bif (!r81.2.2) then true else (r81.2.1.toList == (ByteArray.mk #[]).toList))) ?_ ?_
     ·
      rcases bcase (!r81.2.2) with c95 | c95
      ·
       refine FL.skip (wF_no rfl rfl rfl c95) rfl ?_
       refine FL.skip (wF_no rfl rfl rfl c95) rfl ?_
       refine FL.v (E.pickT rfl c95 rfl) ?_
       exact FL.nil ⟨rfl, _, S85, (Inc.rfl _), rfl, rfl, (congrArg Value.bool (bifT c95).symm)⟩
      ·
       refine FL.val (wF_yes rfl rfl rfl c95) rfl rfl (E.move (v := Value.string r81.2.1) rfl) ?_
       refine FL.val (wF_yes rfl rfl rfl c95) rfl rfl (E.eqlS rfl rfl) ?_
       refine FL.v (E.pickF rfl c95 rfl) ?_
       exact FL.nil ⟨rfl, _, S85, (Inc.rfl _), rfl, rfl, (congrArg Value.bool (bifF c95).symm)⟩
     rintro f94 w93 ⟨H90, S91, i92, k96, k97, k98⟩
     refine FL.v (E.move k98) ?_
     obtain ⟨t106, hqt106, hp⟩ := bnd hp
     refine FL.cut 5 (fun f w => ∃ H : GH, St Ha wa H w [] ∧ Inc H90 H ∧ f 6 = Value.string r81.2.1 ∧ f 10 = v87 ∧ f 68 = Value.bool t106) ?_ ?_
     ·
      clear hp; have hp := hqt106; clear hqt106
      rcases ifB hp with ⟨c112, hp⟩ | ⟨c112, hp⟩
      ·
       refine FL.skip (wF_no rfl rfl rfl c112) rfl ?_
       refine FL.skip (wF_no rfl rfl rfl c112) rfl ?_
       refine FL.skip (wF_no rfl rfl rfl c112) rfl ?_
       refine FL.skip (wF_no rfl rfl rfl c112) rfl ?_
       obtain rfl := Option.some.inj hp
       refine FL.v (E.pickT rfl c112 rfl) ?_
       exact FL.nil ⟨rfl, _, S91, (Inc.rfl _), k96, k97, rfl⟩
      ·
       refine FL.val (wF_yes rfl rfl rfl c112) rfl rfl (E.move k96) ?_
       obtain ⟨z113, h114, hp⟩ := bnd hp
       refine FL.val (wF_yes rfl rfl rfl c112) rfl rfl (E.cutS (kl := .i64) (kh := .i64) Tryz.underlying9 rfl (.inl ⟨rfl, rfl⟩) (.inr ⟨_, rfl, rfl⟩) h114) ?_
       obtain ⟨r115, hr116, hp⟩ := bnd hp
       refine FL.call (wF_yes rfl rfl rfl c112) rfl rfl (E.call Tryz.call176 (A2 rfl rfl)) (w_strings_Contains S91.sl (ByteArray.mk #[38, 124, 62]) z113 hr116) ?_
       rintro e w117 ⟨rfl, r118⟩
       refine ⟨_, rfl, ?_⟩
       have S119 := S91.call r118
       refine FL.val (wF_yes rfl rfl rfl c112) rfl rfl (E.not rfl) ?_
       obtain rfl := Option.some.inj hp
       refine FL.v (E.pickF rfl c112 rfl) ?_
       exact FL.nil ⟨rfl, _, S119, (Inc.rfl _), k96, k97, rfl⟩
     rintro f111 w110 ⟨H107, S108, i109, k120, k121, k122⟩
     refine FL.nil ?_
     rcases ifB hp with ⟨c123, hp⟩ | ⟨c123, hp⟩
     ·
      refine FW.condT k122 c123 ?_
      refine FW.seq (FW.region ?_)
      refine FL.v (E.assign (v := Value.pointer none) rfl) ?_
      refine FL.v (E.assign (v := Value.string (ByteArray.mk #[])) rfl) ?_
      refine FL.v (E.assign (v := Value.bool false) rfl) ?_
      refine FL.nil ?_
      refine FW.ret ?_
      obtain rfl := Option.some.inj hp
      exact ⟨.inr rfl, res3 rfl rfl rfl rfl ⟨_, _, rfl, S108.run, FAt.nil⟩⟩
     ·
      refine FW.condF k122 c123 ?_
      refine FW.skip (FW.seq (FW.region ?_))
      refine FL.v (E.move k120) ?_
      obtain ⟨z124, h125, hp⟩ := bnd hp
      refine FL.v (E.ixS Tryz.runUnderlying9 rfl rfl h125) ?_
      refine FL.v (E.assign (v := Value.int .u8 z124) rfl) ?_
      refine FL.nil (FW.seq (FW.region ?_))
      refine FL.v (E.move k120) ?_
      obtain ⟨z126, h127, hp⟩ := bnd hp
      refine FL.v (E.cutS (kl := .i64) (kh := .i64) Tryz.underlying9 rfl (.inr ⟨_, rfl, rfl⟩) (.inl ⟨rfl, rfl⟩) h127) ?_
      obtain ⟨r128, hr129, hp⟩ := bnd hp
      refine FL.call rfl rfl rfl (E.call Tryz.call127 (A1 rfl)) (hrec_impl_parseFrom S108.sl z126 hr129) ?_
      rintro e w131 ⟨H130, v134, rfl, r133, h135⟩
      refine ⟨_, rfl, ?_⟩
      have S132 := S108.call r133
      refine FL.v (E.move (v := Value.tuple #[v134, Value.string r128.2.1, Value.bool r128.2.2]) rfl) ?_
      refine FL.v (E.extract (i := 0) rfl rfl) ?_
      refine FL.v (E.extract (i := 1) rfl rfl) ?_
      refine FL.v (E.extract (i := 2) rfl rfl) ?_
      refine FL.v (E.assign (v := v134) rfl) ?_
      refine FL.v (E.assign (v := Value.string r128.2.1) rfl) ?_
      refine FL.v (E.assign (v := Value.bool r128.2.2) rfl) ?_
      refine FL.nil (FW.seq (FW.seq (FW.region ?_)))
      refine FL.v (E.move (v := Value.bool r128.2.2) rfl) ?_
      refine FL.v (E.not rfl) ?_
      refine FL.v (E.move (v := Value.bool (!r128.2.2)) rfl) ?_
      refine FL.cut 3 (fun f w => ∃ H : GH, St Ha wa H w [] ∧ Inc H130 H ∧ f 6 = Value.string r128.2.1 ∧ f 10 = v87 ∧ f 12 = Value.int .u8 z124 ∧ f 13 = v134 ∧ f 83 = Value.bool (bif (!r128.2.2) then true else (r128.2.1.toList == (ByteArray.mk #[]).toList))) ?_ ?_
      ·
       rcases bcase (!r128.2.2) with c142 | c142
       ·
        refine FL.skip (wF_no rfl rfl rfl c142) rfl ?_
        refine FL.skip (wF_no rfl rfl rfl c142) rfl ?_
        refine FL.v (E.pickT rfl c142 rfl) ?_
        exact FL.nil ⟨rfl, _, S132, (Inc.rfl _), rfl, k121, rfl, rfl, (congrArg Value.bool (bifT c142).symm)⟩
       ·
        refine FL.val (wF_yes rfl rfl rfl c142) rfl rfl (E.move (v := Value.string r128.2.1) rfl) ?_
        refine FL.val (wF_yes rfl rfl rfl c142) rfl rfl (E.eqlS rfl rfl) ?_
        refine FL.v (E.pickF rfl c142 rfl) ?_
        exact FL.nil ⟨rfl, _, S132, (Inc.rfl _), rfl, k121, rfl, rfl, (congrArg Value.bool (bifF c142).symm)⟩
      rintro f141 w140 ⟨H137, S138, i139, k143, k144, k145, k146, k147⟩
      refine FL.v (E.move k147) ?_
      obtain ⟨t150, hqt150, hp⟩ := bnd hp
      refine FL.cut 4 (fun f w => ∃ H : GH, St Ha wa H w [] ∧ Inc H137 H ∧ f 6 = Value.string r128.2.1 ∧ f 10 = v87 ∧ f 12 = Value.int .u8 z124 ∧ f 13 = v134 ∧ f 88 = Value.bool t150) ?_ ?_
      ·
       clear hp; have hp := hqt150; clear hqt150
       rcases ifB hp with ⟨c156, hp⟩ | ⟨c156, hp⟩
       ·
        refine FL.skip (wF_no rfl rfl rfl c156) rfl ?_
        refine FL.skip (wF_no rfl rfl rfl c156) rfl ?_
        refine FL.skip (wF_no rfl rfl rfl c156) rfl ?_
        obtain rfl := Option.some.inj hp
        refine FL.v (E.pickT rfl c156 rfl) ?_
        exact FL.nil ⟨rfl, _, S138, (Inc.rfl _), k143, k144, k145, k146, rfl⟩
       ·
        refine FL.val (wF_yes rfl rfl rfl c156) rfl rfl (E.move k143) ?_
        obtain ⟨z157, h158, hp⟩ := bnd hp
        refine FL.val (wF_yes rfl rfl rfl c156) rfl rfl (E.ixS Tryz.runUnderlying9 rfl rfl h158) ?_
        refine FL.val (wF_yes rfl rfl rfl c156) rfl rfl (E.neq rfl rfl) ?_
        obtain rfl := Option.some.inj hp
        refine FL.v (E.pickF rfl c156 rfl) ?_
        exact FL.nil ⟨rfl, _, S138, (Inc.rfl _), k143, k144, k145, k146, rfl⟩
      rintro f155 w154 ⟨H151, S152, i153, k159, k160, k161, k162, k163⟩
      refine FL.nil ?_
      rcases ifB hp with ⟨c164, hp⟩ | ⟨c164, hp⟩
      ·
       refine FW.condT k163 c164 ?_
       refine FW.seq (FW.region ?_)
       refine FL.v (E.assign (v := Value.pointer none) rfl) ?_
       refine FL.v (E.assign (v := Value.string (ByteArray.mk #[])) rfl) ?_
       refine FL.v (E.assign (v := Value.bool false) rfl) ?_
       refine FL.nil ?_
       refine FW.ret ?_
       obtain rfl := Option.some.inj hp
       exact ⟨.inr rfl, res3 rfl rfl rfl rfl ⟨_, _, rfl, S152.run, FAt.nil⟩⟩
      ·
       refine FW.condF k163 c164 ?_
       refine FW.skip (FW.seq ?_)
       obtain ⟨r22, hr33, hp⟩ := bnd hp
       obtain ⟨z103, h104, hp⟩ := bnd hp
       refine FW.drawB (Sl H151) (fun f w => ∃ H : GH, ∃ v105 : Value, St Ha wa H w [] ∧ Inc H151 H ∧ FAt H v105 r22 ∧ f 2 = v105 ∧ f 3 = Value.string z103 ∧ f 4 = Value.bool true) (by kernel_rfl) S152.sl ?_ ?_
       ·
        intro w165 r166
        have S167 := S152.call r166
        refine FB.t (i := 0) (bs 9 1) rfl (SP.nil S167.sl) rfl (fun w' hw' => (E.move k161)) ?_
        refine FB.t (i := 1) (bs 9 3) rfl (SP.nil S167.sl) rfl (fun w' hw' => (E.move k160)) ?_
        refine FB.t (i := 2) (bs 9 7) rfl (SP.nil S167.sl) rfl (fun w' hw' => (E.move k162)) ?_
        refine FB.t (i := 4) (bs 9 23) rfl (SP.nil S167.sl) rfl (fun w' hw' => (E.move k159)) ?_
        refine FB.t (i := 5) (bs 9 55) rfl (SP.nil S167.sl) rfl (fun w' hw' => (E.cutS (kl := .i64) (kh := .i64) Tryz.underlying9 rfl (.inr ⟨_, rfl, rfl⟩) (.inl ⟨rfl, rfl⟩) h104)) ?_
        refine FB.all1 (i := 3) (by kernel_rfl) ?_
        ·
         refine FC.call (l' := (bs 9 63)) rfl (by kernel_rfl) rfl rfl rfl (E.call Tryz.call177 (A3 rfl rfl rfl)) (w_impl_join S167.sl z124 v87 r81.1 (h88.mono ((((i92.tr i109).tr r133.inc).tr i139).tr i153)) v134 r128.1 (h135.mono (i139.tr i153)) hr33) ?_
         rintro e w89 ⟨H43, v101, rfl, r100, h102⟩
         refine ⟨_, rfl, ?_⟩
         have S99 := S167.call r100
         refine ⟨(SP.nil (Sl.of_inc r100.inc S99.sl)), ?_⟩
         refine FB.t (i := 6) (bs 9 127) rfl (SP.nil (Sl.of_inc r100.inc S99.sl)) rfl (fun w' hw' => (E.assign (v := v101) rfl)) ?_
         refine FB.t (i := 7) (bs 9 255) rfl (SP.nil (Sl.of_inc r100.inc S99.sl)) rfl (fun w' hw' => (E.assign (v := Value.string z103) rfl)) ?_
         refine FB.t (i := 8) (bs 9 511) rfl (SP.nil (Sl.of_inc r100.inc S99.sl)) rfl (fun w' hw' => (E.assign (v := Value.bool true) rfl)) ?_
         exact FB.done (by kernel_rfl) ⟨_, _, S99, r100.inc, h102, rfl, rfl, rfl⟩
       ·
        rintro f170 w169 ⟨H148, v105, S149, i168, h136, k171, k172, k173⟩
        refine FW.ret ?_
        obtain rfl := Option.some.inj hp
        exact ⟨.inr rfl, res3 rfl k171 k172 k173 ⟨_, _, rfl, S149.run, h136⟩⟩
theorem w_impl_parseFrom_F (n : Nat) : ∀ {Ha : GH} {wa : World} (hs : Sl Ha wa) (a0 : ByteArray) {r : (Fo × ByteArray × Bool)} (hp : PF.impl_parseFrom_F n a0 = some r), Calls Tryz.prog 127 #[Value.string a0] wa (p_impl_parseFrom Ha wa r) := by
 induction n with
 | zero => intros; rename_i hp; exact nomatch hp
 | succ n ih => exact w_impl_parseFrom_B (rec_impl_parseFrom := PF.impl_parseFrom_F n) ih
theorem w_impl_parseFrom {Ha : GH} {wa : World} (hs : Sl Ha wa) (a0 : ByteArray) {r : (Fo × ByteArray × Bool)} (hp : PF.impl_parseFrom a0 = some r) :
  Calls Tryz.prog 127 #[Value.string a0] wa (p_impl_parseFrom Ha wa r) := w_impl_parseFrom_F deep hs a0 hp

@[reducible] def p_impl_parse (Ha : GH) (wa : World) (r : (Fo × Bool)) : Ending → World → Prop :=
 fun e w' => ∃ H' : GH, ∃ v0 : Value, e = .returned (Value.tuple #[v0, Value.bool r.2]) ∧ Run wa.heap.size Ha wa H' w' ∧ FAt H' v0 r.1
theorem w_impl_parse {Ha : GH} {wa : World} (hs : Sl Ha wa) (a0 : ByteArray) {r : (Fo × Bool)} (hp : (PF.impl_parse a0) = some r) :
  Calls Tryz.prog 78 #[Value.string a0] wa (p_impl_parse Ha wa r) := by
 unfold PF.impl_parse at hp
 have S0 := St.init hs
 refine calls_go (N := 23) (args := [Value.string a0]) Tryz.func78 rfl rfl rfl ?_
 refine FW.seq (FW.region ?_)
 refine FL.v (E.assign (v := Value.pointer none) rfl) ?_
 refine FL.v (E.assign (v := Value.bool false) rfl) ?_
 refine FL.nil (FW.seq (FW.seq (FW.region ?_)))
 refine FL.v (E.move (v := Value.string a0) rfl) ?_
 refine FL.v (E.lenS Tryz.runUnderlying9 rfl) ?_
 refine FL.v (E.gtr rfl rfl) ?_
 refine FL.nil ?_
 rcases ifB hp with ⟨c21, hp⟩ | ⟨c21, hp⟩
 ·
  refine FW.condT rfl c21 ?_
  refine FW.seq (FW.region ?_)
  refine FL.v (E.assign (v := Value.pointer none) rfl) ?_
  refine FL.v (E.assign (v := Value.bool false) rfl) ?_
  refine FL.nil ?_
  refine FW.ret ?_
  obtain rfl := Option.some.inj hp
  exact ⟨.inr rfl, res2 rfl rfl rfl ⟨_, _, rfl, S0.run, FAt.nil⟩⟩
 ·
  refine FW.condF rfl c21 ?_
  refine FW.skip (FW.seq (FW.region ?_))
  refine FL.v (E.move (v := Value.string a0) rfl) ?_
  obtain ⟨r22, hr23, hp⟩ := bnd hp
  refine FL.call rfl rfl rfl (E.call Tryz.call127 (A1 rfl)) (w_impl_parseFrom S0.sl a0 hr23) ?_
  rintro e w25 ⟨H24, v28, rfl, r27, h29⟩
  refine ⟨_, rfl, ?_⟩
  have S26 := S0.call r27
  refine FL.v (E.move (v := Value.tuple #[v28, Value.string r22.2.1, Value.bool r22.2.2]) rfl) ?_
  refine FL.v (E.extract (i := 0) rfl rfl) ?_
  refine FL.v (E.extract (i := 1) rfl rfl) ?_
  refine FL.v (E.extract (i := 2) rfl rfl) ?_
  refine FL.v (E.assign (v := v28) rfl) ?_
  refine FL.v (E.assign (v := Value.string r22.2.1) rfl) ?_
  refine FL.v (E.assign (v := Value.bool r22.2.2) rfl) ?_
  refine FL.nil (FW.seq (FW.seq (FW.region ?_)))
  refine FL.v (E.move (v := Value.bool r22.2.2) rfl) ?_
  refine FL.v (E.not rfl) ?_
  refine FL.v (E.move (v := Value.bool (!r22.2.2)) rfl) ?_
  refine FL.cut 3 (fun f w => ∃ H : GH, St Ha wa H w [] ∧ Inc H24 H ∧ f 4 = v28 ∧ f 21 = Value.bool (bif (!r22.2.2) then true else (!(r22.2.1.toList == (ByteArray.mk #[]).toList)))) ?_ ?_
  ·
   rcases bcase (!r22.2.2) with c36 | c36
   ·
    refine FL.skip (wF_no rfl rfl rfl c36) rfl ?_
    refine FL.skip (wF_no rfl rfl rfl c36) rfl ?_
    refine FL.v (E.pickT rfl c36 rfl) ?_
    exact FL.nil ⟨rfl, _, S26, (Inc.rfl _), rfl, (congrArg Value.bool (bifT c36).symm)⟩
   ·
    refine FL.val (wF_yes rfl rfl rfl c36) rfl rfl (E.move (v := Value.string r22.2.1) rfl) ?_
    refine FL.val (wF_yes rfl rfl rfl c36) rfl rfl (E.neqS rfl rfl) ?_
    refine FL.v (E.pickF rfl c36 rfl) ?_
    exact FL.nil ⟨rfl, _, S26, (Inc.rfl _), rfl, (congrArg Value.bool (bifF c36).symm)⟩
  rintro f35 w34 ⟨H31, S32, i33, k37, k38⟩
  refine FL.nil ?_
  rcases ifB hp with ⟨c39, hp⟩ | ⟨c39, hp⟩
  ·
   refine FW.condT k38 c39 ?_
   refine FW.seq (FW.region ?_)
   refine FL.v (E.assign (v := Value.pointer none) rfl) ?_
   refine FL.v (E.assign (v := Value.bool false) rfl) ?_
   refine FL.nil ?_
   refine FW.ret ?_
   obtain rfl := Option.some.inj hp
   exact ⟨.inr rfl, res2 rfl rfl rfl ⟨_, _, rfl, S32.run, FAt.nil⟩⟩
  ·
   refine FW.condF k38 c39 ?_
   refine FW.skip (FW.seq (FW.region ?_))
   refine FL.v (E.move k37) ?_
   refine FL.v (E.assign (v := v28) rfl) ?_
   refine FL.v (E.assign (v := Value.bool true) rfl) ?_
   refine FL.nil ?_
   refine FW.ret ?_
   obtain rfl := Option.some.inj hp
   exact ⟨.inr rfl, res2 rfl rfl rfl ⟨_, _, rfl, S32.run, (h29.mono i33)⟩⟩

theorem w_impl_IsFormula {Ha : GH} {wa : World} (hs : Sl Ha wa) (a0 : ByteArray) {r : Bool} (hp : (PF.impl_IsFormula a0) = some r) :
  Calls Tryz.prog 35 #[Value.string a0] wa (Sc Ha wa (Value.bool r)) := by
 unfold PF.impl_IsFormula at hp
 have S0 := St.init hs
 refine calls_go (N := 11) (args := [Value.string a0]) Tryz.func35 rfl rfl rfl ?_
 refine FW.seq (FW.region ?_)
 refine FL.v (E.assign (v := Value.bool false) rfl) ?_
 refine FL.nil (FW.seq (FW.region ?_))
 refine FL.v (E.move (v := Value.string a0) rfl) ?_
 obtain ⟨r21, hr22, hp⟩ := bnd hp
 refine FL.call rfl rfl rfl (E.call Tryz.call78 (A1 rfl)) (w_impl_parse S0.sl a0 hr22) ?_
 rintro e w24 ⟨H23, v27, rfl, r26, h28⟩
 refine ⟨_, rfl, ?_⟩
 have S25 := S0.call r26
 refine FL.v (E.move (v := Value.tuple #[v27, Value.bool r21.2]) rfl) ?_
 refine FL.v (E.extract (i := 0) rfl rfl) ?_
 refine FL.v (E.extract (i := 1) rfl rfl) ?_
 refine FL.v (E.assign (v := v27) rfl) ?_
 refine FL.v (E.assign (v := Value.bool r21.2) rfl) ?_
 refine FL.nil (FW.seq (FW.region ?_))
 refine FL.v (E.move (v := Value.bool r21.2) rfl) ?_
 refine FL.v (E.assign (v := Value.bool r21.2) rfl) ?_
 refine FL.nil ?_
 refine FW.ret ?_
 obtain rfl := Option.some.inj hp
 exact ⟨.inr rfl, res1 rfl rfl ⟨rfl, S25.back⟩⟩

theorem w_cmp_isNaN_int {Ha : GH} {wa : World} (hs : Sl Ha wa) (a0 : Int) :
  Calls Tryz.prog 210 #[Value.int .i64 a0] wa (Sc Ha wa (Value.bool (PF.cmp_isNaN_int a0))) := by
 obtain ⟨r, hp⟩ : ∃ r, (PF.cmp_isNaN_int a0) = r := ⟨_, rfl⟩
 rw [hp]
 unfold PF.cmp_isNaN_int at hp
 have S0 := St.init hs
 refine calls_go (N := 6) (args := [Value.int .i64 a0]) Tryz.func210 rfl rfl rfl ?_
 refine FW.seq (FW.region ?_)
 refine FL.v (E.assign (v := Value.bool false) rfl) ?_
 refine FL.nil (FW.seq (FW.region ?_))
 refine FL.v (E.move (v := Value.int .i64 a0) rfl) ?_
 refine FL.v (E.move (v := Value.int .i64 a0) rfl) ?_
 refine FL.v (E.neq rfl rfl) ?_
 refine FL.v (E.assign (v := Value.bool (!(a0 == a0))) rfl) ?_
 refine FL.nil ?_
 refine FW.ret ?_
 obtain rfl := hp
 exact ⟨.inr rfl, res1 rfl rfl ⟨rfl, S0.back⟩⟩

set_option maxHeartbeats 4000000 in
theorem w_cmp_Compare_int {Ha : GH} {wa : World} (hs : Sl Ha wa) (a0 : Int) (a1 : Int) :
  Calls Tryz.prog 165 #[Value.int .i64 a0, Value.int .i64 a1] wa (Sc Ha wa (Value.int .i64 (PF.cmp_Compare_int a0 a1))) := by
 obtain ⟨r, hp⟩ : ∃ r, (PF.cmp_Compare_int a0 a1) = r := ⟨_, rfl⟩
 rw [hp]
 unfold PF.cmp_Compare_int at hp
 have S0 := St.init hs
 refine calls_go (N := 20) (args := [Value.int .i64 a0, Value.int .i64 a1]) Tryz.func165 rfl rfl rfl ?_
 refine FW.seq (FW.region ?_)
 refine FL.v (E.assign (v := Value.int .i64 0) rfl) ?_
 refine FL.nil (FW.seq (FW.region ?_))
 refine FL.v (E.move (v := Value.int .i64 a0) rfl) ?_
 refine FL.call rfl rfl rfl (E.call Tryz.call210 (A1 rfl)) (w_cmp_isNaN_int S0.sl a0) ?_
 rintro e w21 ⟨rfl, r22⟩
 refine ⟨_, rfl, ?_⟩
 have S23 := S0.call r22
 refine FL.v (E.assign (v := Value.bool (PF.cmp_isNaN_int a0)) rfl) ?_
 refine FL.nil (FW.seq (FW.region ?_))
 refine FL.v (E.move (v := Value.int .i64 a1) rfl) ?_
 refine FL.call rfl rfl rfl (E.call Tryz.call210 (A1 rfl)) (w_cmp_isNaN_int S23.sl a1) ?_
 rintro e w24 ⟨rfl, r25⟩
 refine ⟨_, rfl, ?_⟩
 have S26 := S23.call r25
 refine FL.v (E.assign (v := Value.bool (PF.cmp_isNaN_int a1)) rfl) ?_
 refine FL.nil (FW.seq (FW.seq (FW.region ?_)))
 refine FL.v (E.move (v := Value.bool (PF.cmp_isNaN_int a0)) rfl) ?_
 refine FL.nil ?_
 rcases ifT hp with ⟨c27, hp⟩ | ⟨c27, hp⟩
 ·
  refine FW.condT rfl c27 ?_
  refine FW.seq (FW.seq (FW.region ?_))
  refine FL.v (E.move (v := Value.bool (PF.cmp_isNaN_int a1)) rfl) ?_
  refine FL.nil ?_
  rcases ifT hp with ⟨c28, hp⟩ | ⟨c28, hp⟩
  ·
   refine FW.condT rfl c28 ?_
   refine FW.seq (FW.region ?_)
   refine FL.v (E.assign (v := Value.int .i64 0) rfl) ?_
   refine FL.nil ?_
   refine FW.ret ?_
   obtain rfl := hp
   exact ⟨.inr rfl, res1 rfl rfl ⟨rfl, S26.back⟩⟩
  ·
   refine FW.condF rfl c28 ?_
   refine FW.skip (FW.seq (FW.region ?_))
   refine FL.v (E.assign (v := Value.int .i64 (-1)) rfl) ?_
   refine FL.nil ?_
   refine FW.ret ?_
   obtain rfl := hp
   exact ⟨.inr rfl, res1 rfl rfl ⟨rfl, S26.back⟩⟩
 ·
  refine FW.condF rfl c27 ?_
  refine FW.skip (FW.seq (FW.seq (FW.region ?_)))
  refine FL.v (E.move (v := Value.bool (PF.cmp_isNaN_int a1)) rfl) ?_
  refine FL.nil ?_
  rcases ifT hp with ⟨c29, hp⟩ | ⟨c29, hp⟩
  ·
   refine FW.condT rfl c29 ?_
   refine FW.seq (FW.region ?_)
   refine FL.v (E.assign (v := Value.int .i64 1) rfl) ?_
   refine FL.nil ?_
   refine FW.ret ?_
   obtain rfl := hp
   exact ⟨.inr rfl, res1 rfl rfl ⟨rfl, S26.back⟩⟩
  ·
   refine FW.condF rfl c29 ?_
   refine FW.skip (FW.seq (FW.seq (FW.region ?_)))
   refine FL.v (E.move (v := Value.int .i64 a0) rfl) ?_
   refine FL.v (E.move (v := Value.int .i64 a1) rfl) ?_
   refine FL.v (E.lss rfl rfl) ?_
   refine FL.nil ?_
   rcases ifT hp with ⟨c30, hp⟩ | ⟨c30, hp⟩
   ·
    refine FW.condT rfl c30 ?_
    refine FW.seq (FW.region ?_)
    refine FL.v (E.assign (v := Value.int .i64 (-1)) rfl) ?_
    refine FL.nil ?_
    refine FW.ret ?_
    obtain rfl := hp
    exact ⟨.inr rfl, res1 rfl rfl ⟨rfl, S26.back⟩⟩
   ·
    refine FW.condF rfl c30 ?_
    refine FW.skip (FW.seq (FW.seq (FW.region ?_)))
    refine FL.v (E.move (v := Value.int .i64 a0) rfl) ?_
    refine FL.v (E.move (v := Value.int .i64 a1) rfl) ?_
    refine FL.v (E.gtr rfl rfl) ?_
    refine FL.nil ?_
    rcases ifT hp with ⟨c31, hp⟩ | ⟨c31, hp⟩
    ·
     refine FW.condT rfl c31 ?_
     refine FW.seq (FW.region ?_)
     refine FL.v (E.assign (v := Value.int .i64 1) rfl) ?_
     refine FL.nil ?_
     refine FW.ret ?_
     obtain rfl := hp
     exact ⟨.inr rfl, res1 rfl rfl ⟨rfl, S26.back⟩⟩
    ·
     refine FW.condF rfl c31 ?_
     refine FW.skip (FW.seq (FW.region ?_))
     refine FL.v (E.assign (v := Value.int .i64 0) rfl) ?_
     refine FL.nil ?_
     refine FW.ret ?_
     obtain rfl := hp
     exact ⟨.inr rfl, res1 rfl rfl ⟨rfl, S26.back⟩⟩

theorem w_strings_Compare {Ha : GH} {wa : World} (hs : Sl Ha wa) (a0 a1 : ByteArray) : Calls Tryz.prog 166 #[Value.string a0, Value.string a1] wa (Sc Ha wa (Value.int .i64 (PF.strings_Compare a0 a1))) := by
 refine (Go.Proofs.Any.strings_Compare Tryz.comp166 a0 a1 wa).mono ?_
 rintro e w' ⟨rfl, rfl⟩
 exact ⟨rfl, Run.refl _ hs⟩

theorem w_cmp_Or_int {Ha : GH} {wa : World} (hs : Sl Ha wa) (v0 : Value) (a0 : List Int) (p0 : RSl Ha eI 1 v0 a0) {r : Int} (hp : (PF.cmp_Or_int a0) = some r) :
  Calls Tryz.prog 164 #[v0] wa (Sc Ha wa (Value.int .i64 r)) := by
 unfold PF.cmp_Or_int at hp
 have S0 := St.init hs
 refine calls_go (N := 18) (args := [v0]) Tryz.func164 rfl rfl rfl ?_
 refine FW.seq (FW.region ?_)
 refine FL.v (E.assign (v := Value.int .i64 0) rfl) ?_
 refine FL.nil (FW.seq (FW.region ?_))
 refine FL.v (E.assign (v := Value.int .i64 0) rfl) ?_
 refine FL.nil (FW.seq (FW.seq (FW.region ?_)))
 refine FL.v (E.move (v := v0) rfl) ?_
 refine FL.v (E.lenP te82 rfl p0) ?_
 refine FL.v (E.move (v := Value.int .i64 0) rfl) ?_
 refine FL.nil ?_
 obtain ⟨q22, hq, hp⟩ := bndR hp
 refine FW.block ?_
 refine FW.mono (FW.forL (S := Unit) (X := Int) (fun (i22 : Nat) (s22 : Unit) f w => ∃ H : GH, St Ha wa H w [] ∧ Inc Ha H ∧ f 8 = Value.int .i64 ((i22 : Nat) : Int) ∧ f 3 = Value.int .i64 0 ∧ f 6 = v0 ∧ f 7 = Value.int .i64 (len a0)) (fun q e f w => match q with | .go s22 => e = Exit.exit 0 ∧ (∃ H : GH, St Ha wa H w [] ∧ Inc Ha H ∧ f 3 = Value.int .i64 0) | .rt x => ((e = Exit.ret) ∧ (fun e f w => (e = Exit.normal ∨ e = Exit.ret) ∧ ∀ a, Fr (δ := []) 18 a f → ∃ v, (results Tryz.f164 a.tmps).run Tryz.prog w = .ok v w ∧ (Sc Ha wa (Value.int .i64 x)) (.returned v) w) e f w)) hq ⟨_, S0, (Inc.rfl _), rfl, rfl, rfl, rfl⟩ ?_ ?_) ?_
 ·
  clear hp hq
  rintro i22 y21 s22 f43 w42 ⟨H39, S40, i41, k44, k45, k46, k47⟩ hx22 o55 hp
  refine FW.seq (FW.region ?_)
  refine FL.v (E.lssT k44 k47 (lss_len hx22)) ?_
  refine FL.nil (FW.seq ?_)
  refine FW.condT rfl rfl ?_
  refine FW.skip (FW.seq (FW.block (FW.seq (FW.region ?_))))
  obtain ⟨p48, cs49, pt50, l51, at52, rel53⟩ := p0.at (ix_nat hx22)
  obtain rfl := eI_open rel53
  refine FL.v (E.indexAddr te82 k46 k44 pt50) ?_
  refine FL.v (E.load rfl (run_load0 Tryz.isAgg3 ((at52.mono i41).now S40.sl) rfl)) ?_
  refine FL.v (E.assign (v := Value.int .i64 y21) rfl) ?_
  refine FL.nil (FW.seq (FW.region ?_))
  refine FL.v (E.move (v := Value.int .i64 y21) rfl) ?_
  refine FL.v (E.move k45) ?_
  refine FL.v (E.neq rfl rfl) ?_
  refine FL.nil ?_
  rcases ifB hp with ⟨c54, hp⟩ | ⟨c54, hp⟩
  ·
   refine FW.condT rfl c54 ?_
   refine FW.seq (FW.region ?_)
   refine FL.v (E.move (v := Value.int .i64 y21) rfl) ?_
   refine FL.v (E.assign (v := Value.int .i64 y21) rfl) ?_
   refine FL.nil ?_
   refine FW.ret ?_
   obtain rfl := Option.some.inj hp
   exact ⟨nofun, rfl, ⟨.inr rfl, res1 rfl rfl ⟨rfl, S40.back⟩⟩⟩
  ·
   refine FW.condF rfl c54 ?_
   refine FW.skip (FW.region ?_)
   refine FL.v (E.add k44 rfl) ?_
   refine FL.v (E.move (v := Value.int .i64 (wr (((i22 : Nat) : Int) + 1))) rfl) ?_
   refine FL.nil ?_
   obtain rfl := Option.some.inj hp
   exact ⟨rfl, ⟨_, S40, i41, (nat_succ rfl (lt_of_get hx22) (p0.mono i41).le), k45, k46, k47⟩⟩
 ·
  clear hp hq
  rintro s22 f66 w65 ⟨H62, S63, i64, k67, k68, k69, k70⟩
  refine FW.seq (FW.region ?_)
  refine FL.v (E.lss k67 k70) ?_
  refine FL.nil (FW.seq ?_)
  refine FW.condF rfl dlt_len ?_
  refine FW.exit ?_
  exact ⟨nofun, rfl, ⟨_, S63, i64, k68⟩⟩
 ·
  clear hq
  intro e f60 w59 hD
  rcases q22 with s22 | x22
  ·
   obtain ⟨rfl, hD⟩ := hD
   obtain ⟨H56, S57, i58, k61⟩ := hD
   replace hp := el_go hp
   refine FW.seq (FW.region ?_)
   refine FL.v (E.move k61) ?_
   refine FL.v (E.assign (v := Value.int .i64 0) rfl) ?_
   refine FL.nil ?_
   refine FW.ret ?_
   obtain rfl := Option.some.inj hp
   exact ⟨.inr rfl, res1 rfl rfl ⟨rfl, S57.back⟩⟩
  ·
   obtain ⟨he, hL⟩ := hD
   replace hp := el_rt hp
   obtain rfl := Option.some.inj hp
   subst he
   exact hL

theorem w_impl_compareFormulas {Ha : GH} {wa : World} (hs : Sl Ha wa) (a0 : ByteArray) (a1 : ByteArray) {r : Int} (hp : (PF.impl_compareFormulas a0 a1) = some r) :
  Calls Tryz.prog 118 #[Value.string a0, Value.string a1] wa (Sc Ha wa (Value.int .i64 r)) := by
 unfold PF.impl_compareFormulas at hp
 have S0 := St.init hs
 refine calls_go (N := 15) (args := [Value.string a0, Value.string a1]) Tryz.func118 rfl rfl rfl ?_
 refine FW.seq (FW.region ?_)
 refine FL.v (E.assign (v := Value.int .i64 0) rfl) ?_
 refine FL.nil (FW.seq (FW.region ?_))
 refine FL.v (E.move (v := Value.string a0) rfl) ?_
 refine FL.v (E.lenS Tryz.runUnderlying9 rfl) ?_
 refine FL.v (E.move (v := Value.string a1) rfl) ?_
 refine FL.v (E.lenS Tryz.runUnderlying9 rfl) ?_
 refine FL.call rfl rfl rfl (E.call Tryz.call165 (A2 rfl rfl)) (w_cmp_Compare_int S0.sl (a0.size : Int) (a1.size : Int)) ?_
 rintro e w21 ⟨rfl, r22⟩
 refine ⟨_, rfl, ?_⟩
 have S23 := S0.call r22
 refine FL.v (E.move (v := Value.string a0) rfl) ?_
 refine FL.v (E.move (v := Value.string a1) rfl) ?_
 refine FL.call rfl rfl rfl (E.call Tryz.call166 (A2 rfl rfl)) (w_strings_Compare S23.sl a0 a1) ?_
 rintro e w24 ⟨rfl, r25⟩
 refine ⟨_, rfl, ?_⟩
 have S26 := S23.call r25
 obtain ⟨v27, w28, run29, S30, els31⟩ := S26.ints (P := Tryz.prog) te82 (up wa.heap.size Ha) 2 [(PF.cmp_Compare_int (a0.size : Int) (a1.size : Int)), (PF.strings_Compare a0 a1)]
 refine FL.v (E.buildSlice (B2 rfl rfl) run29) ?_
 obtain ⟨H32, S33, i34, h35, nv36⟩ := S30.sealRowU (i := 0) (l' := []) rfl els31 (by decide) rfl
 obtain ⟨r37, hr38, hp⟩ := bnd hp
 refine FL.call rfl rfl rfl (E.call Tryz.call164 (A1 rfl)) (w_cmp_Or_int S33.sl v27 [(PF.cmp_Compare_int (a0.size : Int) (a1.size : Int)), (PF.strings_Compare a0 a1)] (h35.mono upI) hr38) ?_
 rintro e w39 ⟨rfl, r40⟩
 refine ⟨_, rfl, ?_⟩
 have r40 := Run.lend i34 S30.sl r40
 have S41 := S30.call r40
 refine FL.v (E.assign (v := Value.int .i64 r37) rfl) ?_
 refine FL.nil ?_
 refine FW.ret ?_
 obtain rfl := Option.some.inj hp
 exact ⟨.inr rfl, res1 rfl rfl ⟨rfl, S41.back⟩⟩

set_option maxHeartbeats 4000000 in
theorem w_impl_sideOk {Ha : GH} {wa : World} (hs : Sl Ha wa) (v0 : Value) (a0 : List ByteArray) (p0 : RSl Ha eS 1 v0 a0) {r : Bool} (hp : (PF.impl_sideOk a0) = some r) :
  Calls Tryz.prog 167 #[v0] wa (Sc Ha wa (Value.bool r)) := by
 unfold PF.impl_sideOk at hp
 have S0 := St.init hs
 refine calls_go (N := 33) (args := [v0]) Tryz.func167 rfl rfl rfl ?_
 refine FW.seq (FW.region ?_)
 refine FL.v (E.assign (v := Value.bool false) rfl) ?_
 refine FL.nil (FW.seq (FW.seq (FW.region ?_)))
 refine FL.v (E.move (v := v0) rfl) ?_
 refine FL.v (E.lenP te22 rfl p0) ?_
 refine FL.v (E.move (v := Value.int .i64 0) rfl) ?_
 refine FL.nil ?_
 obtain ⟨q22, hq, hp⟩ := bndR hp
 refine FW.block ?_
 refine FW.mono (FW.forL (S := Unit) (X := Bool) (fun (i22 : Nat) (s22 : Unit) f w => ∃ H : GH, St Ha wa H w [] ∧ Inc Ha H ∧ f 7 = Value.int .i64 ((i22 : Nat) : Int) ∧ f 0 = v0 ∧ f 5 = v0 ∧ f 6 = Value.int .i64 (len a0)) (fun q e f w => match q with | .go s22 => e = Exit.exit 0 ∧ (∃ H : GH, St Ha wa H w [] ∧ Inc Ha H ∧ f 0 = v0) | .rt x => ((e = Exit.ret) ∧ (fun e f w => (e = Exit.normal ∨ e = Exit.ret) ∧ ∀ a, Fr (δ := []) 33 a f → ∃ v, (results Tryz.f167 a.tmps).run Tryz.prog w = .ok v w ∧ (Sc Ha wa (Value.bool x)) (.returned v) w) e f w)) hq ⟨_, S0, (Inc.rfl _), rfl, rfl, rfl, rfl⟩ ?_ ?_) ?_
 ·
  clear hp hq
  rintro i22 y21 s22 f138 w137 ⟨H134, S135, i136, k139, k140, k141, k142⟩ hx22 o245 hp
  refine FW.seq (FW.region ?_)
  refine FL.v (E.lssT k139 k142 (lss_len hx22)) ?_
  refine FL.nil (FW.seq ?_)
  refine FW.condT rfl rfl ?_
  refine FW.skip (FW.seq (FW.block (FW.seq (FW.region ?_))))
  refine FL.v (E.move k139) ?_
  obtain ⟨p143, cs144, pt145, l146, at147, rel148⟩ := p0.at (ix_nat hx22)
  obtain rfl := eS_open rel148
  refine FL.v (E.indexAddr te22 k141 k139 pt145) ?_
  refine FL.v (E.load rfl (run_load0 Tryz.isAgg9 ((at147.mono i136).now S135.sl) rfl)) ?_
  refine FL.v (E.assign (v := Value.int .i64 ((i22 : Nat) : Int)) rfl) ?_
  refine FL.v (E.assign (v := Value.string y21) rfl) ?_
  refine FL.nil (FW.seq (FW.region ?_))
  refine FL.v (E.move (v := Value.string y21) rfl) ?_
  obtain ⟨r149, hr150, hp⟩ := bnd hp
  refine FL.call rfl rfl rfl (E.call Tryz.call35 (A1 rfl)) (w_impl_IsFormula S135.sl y21 hr150) ?_
  rintro e w151 ⟨rfl, r152⟩
  refine ⟨_, rfl, ?_⟩
  have S153 := S135.call r152
  refine FL.v (E.not rfl) ?_
  refine FL.v (E.move (v := Value.bool (!r149)) rfl) ?_
  obtain ⟨t193, hqt193, hp⟩ := bnd hp
  refine FL.cut 13 (fun f w => ∃ H : GH, St Ha wa H w [] ∧ Inc H134 H ∧ f 0 = v0 ∧ f 5 = v0 ∧ f 6 = Value.int .i64 (len a0) ∧ f 7 = Value.int .i64 ((i22 : Nat) : Int) ∧ f 28 = Value.bool t193) ?_ ?_
  ·
   clear hp; have hp := hqt193; clear hqt193
   rcases ifB hp with ⟨c199, hp⟩ | ⟨c199, hp⟩
   ·
    refine FL.skip (wF_no rfl rfl rfl c199) rfl ?_
    refine FL.skip (wF_no rfl rfl rfl c199) rfl ?_
    refine FL.skip (wF_no rfl rfl rfl c199) rfl ?_
    refine FL.skip (wF_undef rfl rfl rfl) rfl ?_
    refine FL.skip (wF_undef rfl rfl rfl) rfl ?_
    refine FL.skip (wF_undef rfl rfl rfl) rfl ?_
    refine FL.skip (wF_undef rfl rfl rfl) rfl ?_
    refine FL.skip (wF_undef rfl rfl rfl) rfl ?_
    refine FL.skip (wF_undef rfl rfl rfl) rfl ?_
    refine FL.skip (wF_undef rfl rfl rfl) rfl ?_
    refine FL.skip (wF_undef rfl rfl rfl) rfl ?_
    refine FL.skip (wF_no rfl rfl rfl c199) rfl ?_
    obtain rfl := Option.some.inj hp
    refine FL.v (E.pickT rfl c199 rfl) ?_
    exact FL.nil ⟨rfl, _, S153, (Inc.rfl _), k140, k141, k142, k139, rfl⟩
   ·
    refine FL.val (wF_yes rfl rfl rfl c199) rfl rfl (E.move (v := Value.int .i64 ((i22 : Nat) : Int)) rfl) ?_
    refine FL.val (wF_yes rfl rfl rfl c199) rfl rfl (E.gtr rfl rfl) ?_
    refine FL.val (wF_yes rfl rfl rfl c199) rfl rfl (E.move (v := Value.bool (decide (0 < ((i22 : Nat) : Int)))) rfl) ?_
    obtain ⟨t213, hqt213, hp⟩ := bnd hp
    refine FL.cut 9 (fun f w => ∃ H : GH, St Ha wa H w [] ∧ Inc H134 H ∧ f 0 = v0 ∧ f 5 = v0 ∧ f 6 = Value.int .i64 (len a0) ∧ f 7 = Value.int .i64 ((i22 : Nat) : Int) ∧ f 15 = Value.bool (!r149) ∧ f 27 = Value.bool t213) ?_ ?_
    ·
     clear hp; have hp := hqt213; clear hqt213
     rcases ifB hp with ⟨c219, hp⟩ | ⟨c219, hp⟩
     ·
      refine FL.val (wF_yes rfl rfl rfl c219) rfl rfl (E.move k140) ?_
      refine FL.val (wF_yes rfl rfl rfl c219) rfl rfl (E.move (v := Value.int .i64 ((i22 : Nat) : Int)) rfl) ?_
      refine FL.val (wF_yes rfl rfl rfl c219) rfl rfl (E.sub rfl rfl) ?_
      obtain ⟨x226, hx227, hp⟩ := bnd hp
      obtain ⟨p220, cs221, pt222, l223, at224, rel225⟩ := p0.at hx227
      obtain rfl := eS_open rel225
      refine FL.val (wF_yes rfl rfl rfl c219) rfl rfl (E.indexAddr te22 rfl rfl pt222) ?_
      refine FL.val (wF_yes rfl rfl rfl c219) rfl rfl (E.load rfl (run_load0 Tryz.isAgg9 ((at224.mono i136).now S153.sl) rfl)) ?_
      refine FL.val (wF_yes rfl rfl rfl c219) rfl rfl (E.move (v := Value.string y21) rfl) ?_
      obtain ⟨r228, hr229, hp⟩ := bnd hp
      refine FL.call (wF_yes rfl rfl rfl c219) rfl rfl (E.call Tryz.call118 (A2 rfl rfl)) (w_impl_compareFormulas S153.sl x226 y21 hr229) ?_
      rintro e w230 ⟨rfl, r231⟩
      refine ⟨_, rfl, ?_⟩
      have S232 := S153.call r231
      refine FL.val (wF_yes rfl rfl rfl c219) rfl rfl (E.geq rfl rfl) ?_
      obtain rfl := Option.some.inj hp
      refine FL.val (wF_yes rfl rfl rfl c199) rfl rfl (E.pickT rfl c219 rfl) ?_
      exact FL.nil ⟨rfl, _, S232, (Inc.rfl _), k140, k141, k142, k139, rfl, rfl⟩
     ·
      refine FL.skip (wF_no rfl rfl rfl c219) rfl ?_
      refine FL.skip (wF_no rfl rfl rfl c219) rfl ?_
      refine FL.skip (wF_no rfl rfl rfl c219) rfl ?_
      refine FL.skip (wF_no rfl rfl rfl c219) rfl ?_
      refine FL.skip (wF_no rfl rfl rfl c219) rfl ?_
      refine FL.skip (wF_no rfl rfl rfl c219) rfl ?_
      refine FL.skip (wF_no rfl rfl rfl c219) rfl ?_
      refine FL.skip (wF_no rfl rfl rfl c219) rfl ?_
      obtain rfl := Option.some.inj hp
      refine FL.val (wF_yes rfl rfl rfl c199) rfl rfl (E.pickF rfl c219 rfl) ?_
      exact FL.nil ⟨rfl, _, S153, (Inc.rfl _), k140, k141, k142, k139, rfl, rfl⟩
    rintro f218 w217 ⟨H214, S215, i216, k233, k234, k235, k236, k237, k238⟩
    obtain rfl := Option.some.inj hp
    refine FL.v (E.pickF k237 c199 k238) ?_
    exact FL.nil ⟨rfl, _, S215, i216, k233, k234, k235, k236, rfl⟩
  rintro f198 w197 ⟨H194, S195, i196, k239, k240, k241, k242, k243⟩
  refine FL.nil ?_
  rcases ifB hp with ⟨c244, hp⟩ | ⟨c244, hp⟩
  ·
   refine FW.condT k243 c244 ?_
   refine FW.seq (FW.region ?_)
   refine FL.v (E.assign (v := Value.bool false) rfl) ?_
   refine FL.nil ?_
   refine FW.ret ?_
   obtain rfl := Option.some.inj hp
   exact ⟨nofun, rfl, ⟨.inr rfl, res1 rfl rfl ⟨rfl, S195.back⟩⟩⟩
  ·
   refine FW.condF k243 c244 ?_
   refine FW.skip (FW.region ?_)
   refine FL.v (E.add k242 rfl) ?_
   refine FL.v (E.move (v := Value.int .i64 (wr (((i22 : Nat) : Int) + 1))) rfl) ?_
   refine FL.nil ?_
   obtain rfl := Option.some.inj hp
   exact ⟨rfl, ⟨_, S195, (i136.tr i196), (nat_succ rfl (lt_of_get hx22) (p0.mono (i136.tr i196)).le), k239, k240, k241⟩⟩
 ·
  clear hp hq
  rintro s22 f256 w255 ⟨H252, S253, i254, k257, k258, k259, k260⟩
  refine FW.seq (FW.region ?_)
  refine FL.v (E.lss k257 k260) ?_
  refine FL.nil (FW.seq ?_)
  refine FW.condF rfl dlt_len ?_
  refine FW.exit ?_
  exact ⟨nofun, rfl, ⟨_, S253, i254, k258⟩⟩
 ·
  clear hq
  intro e f250 w249 hD
  rcases q22 with s22 | x22
  ·
   obtain ⟨rfl, hD⟩ := hD
   obtain ⟨H246, S247, i248, k251⟩ := hD
   replace hp := el_go hp
   refine FW.seq (FW.region ?_)
   refine FL.v (E.move k251) ?_
   refine FL.v (E.lenP te22 rfl p0) ?_
   refine FL.v (E.leq rfl rfl) ?_
   refine FL.v (E.assign (v := Value.bool (decide ((len a0) ≤ 12))) rfl) ?_
   refine FL.nil ?_
   refine FW.ret ?_
   obtain rfl := Option.some.inj hp
   exact ⟨.inr rfl, res1 rfl rfl ⟨rfl, S247.back⟩⟩
  ·
   obtain ⟨he, hL⟩ := hD
   replace hp := el_rt hp
   obtain rfl := Option.some.inj hp
   subst he
   exact hL

theorem w_impl_IsSequent {Ha : GH} {wa : World} (hs : Sl Ha wa) (a0 : Sequent) (v0_0 : Value) (p0_0 : RSl Ha eS 1 v0_0 a0.left) (v0_1 : Value) (p0_1 : RSl Ha eS 1 v0_1 a0.right) {r : Bool} (hp : (PF.impl_IsSequent a0) = some r) :
  Calls Tryz.prog 120 #[Value.agg #[v0_0, v0_1]] wa (Sc Ha wa (Value.bool r)) := by
 unfold PF.impl_IsSequent at hp
 have S0 := St.init hs
 refine calls_go (N := 11) (args := [Value.agg #[v0_0, v0_1]]) Tryz.func120 rfl rfl rfl ?_
 refine FW.seq (FW.region ?_)
 obtain ⟨b21, w22, run23, S24⟩ := S0.box (P := Tryz.prog) 68 [v0_0, v0_1] (v := Value.agg #[v0_0, v0_1]) rfl (ones_cons p0_0.one (ones_cons p0_1.one ones_nil))
 refine FL.v (E.box rfl run23) ?_
 obtain ⟨H25, S26, i27, at28⟩ := S24.sealBox (i := 0) (l' := []) rfl rfl
 refine FL.v (E.assign (v := Value.bool false) rfl) ?_
 refine FL.nil (FW.seq (FW.region ?_))
 refine FL.v (E.fieldAddr tf68_0 rfl) ?_
 refine FL.v (E.load rfl (run_load1 Tryz.isAgg22 (at28.now S26.sl) rfl)) ?_
 obtain ⟨r29, hr30, hp⟩ := bnd hp
 refine FL.call rfl rfl rfl (E.call Tryz.call167 (A1 rfl)) (w_impl_sideOk S26.sl v0_0 a0.left (p0_0.mono i27) hr30) ?_
 rintro e w31 ⟨rfl, r32⟩
 refine ⟨_, rfl, ?_⟩
 have S33 := S26.call r32
 refine FL.v (E.move (v := Value.bool r29) rfl) ?_
 obtain ⟨t39, hqt39, hp⟩ := bnd hp
 refine FL.cut 4 (fun f w => ∃ H : GH, St Ha wa H w [] ∧ Inc H25 H ∧ f 10 = Value.bool t39) ?_ ?_
 ·
  clear hp; have hp := hqt39; clear hqt39
  rcases ifB hp with ⟨c45, hp⟩ | ⟨c45, hp⟩
  ·
   refine FL.val (wF_yes rfl rfl rfl c45) rfl rfl (E.fieldAddr tf68_1 rfl) ?_
   refine FL.val (wF_yes rfl rfl rfl c45) rfl rfl (E.load rfl (run_load1 Tryz.isAgg22 (at28.now S33.sl) rfl)) ?_
   obtain ⟨r46, hr47, hp⟩ := bnd hp
   refine FL.call (wF_yes rfl rfl rfl c45) rfl rfl (E.call Tryz.call167 (A1 rfl)) (w_impl_sideOk S33.sl v0_1 a0.right (p0_1.mono i27) hr47) ?_
   rintro e w48 ⟨rfl, r49⟩
   refine ⟨_, rfl, ?_⟩
   have S50 := S33.call r49
   obtain rfl := Option.some.inj hp
   refine FL.v (E.pickT rfl c45 rfl) ?_
   exact FL.nil ⟨rfl, _, S50, (Inc.rfl _), rfl⟩
  ·
   refine FL.skip (wF_no rfl rfl rfl c45) rfl ?_
   refine FL.skip (wF_no rfl rfl rfl c45) rfl ?_
   refine FL.skip (wF_no rfl rfl rfl c45) rfl ?_
   obtain rfl := Option.some.inj hp
   refine FL.v (E.pickF rfl c45 rfl) ?_
   exact FL.nil ⟨rfl, _, S33, (Inc.rfl _), rfl⟩
 rintro f44 w43 ⟨H40, S41, i42, k51⟩
 refine FL.v (E.assign k51) ?_
 refine FL.nil ?_
 refine FW.ret ?_
 obtain rfl := Option.some.inj hp
 exact ⟨.inr rfl, res1 rfl rfl ⟨rfl, S41.back⟩⟩

theorem w_slices_Index_string_string {Ha : GH} {wa : World} (hs : Sl Ha wa) (v0 : Value) (a0 : List ByteArray) (p0 : RSl Ha eS 1 v0 a0) (a1 : ByteArray) {r : Int} (hp : (PF.slices_Index_string_string a0 a1) = some r) :
  Calls Tryz.prog 239 #[v0, Value.string a1] wa (Sc Ha wa (Value.int .i64 r)) := by
 unfold PF.slices_Index_string_string at hp
 have S0 := St.init hs
 refine calls_go (N := 19) (args := [v0, Value.string a1]) Tryz.func239 rfl rfl rfl ?_
 refine FW.seq (FW.region ?_)
 refine FL.v (E.assign (v := Value.int .i64 0) rfl) ?_
 refine FL.nil (FW.seq (FW.seq (FW.region ?_)))
 refine FL.v (E.move (v := v0) rfl) ?_
 refine FL.v (E.lenP te22 rfl p0) ?_
 refine FL.v (E.move (v := Value.int .i64 0) rfl) ?_
 refine FL.nil ?_
 obtain ⟨q22, hq, hp⟩ := bndR hp
 refine FW.block ?_
 refine FW.mono (FW.forL (S := Unit) (X := Int) (fun (i22 : Nat) (s22 : Unit) f w => ∃ H : GH, St Ha wa H w [] ∧ Inc Ha H ∧ f 8 = Value.int .i64 ((i22 : Nat) : Int) ∧ f 0 = v0 ∧ f 1 = Value.string a1 ∧ f 7 = Value.int .i64 (len a0)) (fun q e f w => match q with | .go s22 => e = Exit.exit 0 ∧ (∃ H : GH, St Ha wa H w [] ∧ Inc Ha H) | .rt x => ((e = Exit.ret) ∧ (fun e f w => (e = Exit.normal ∨ e = Exit.ret) ∧ ∀ a, Fr (δ := []) 19 a f → ∃ v, (results Tryz.f239 a.tmps).run Tryz.prog w = .ok v w ∧ (Sc Ha wa (Value.int .i64 x)) (.returned v) w) e f w)) hq ⟨_, S0, (Inc.rfl _), rfl, rfl, rfl, rfl⟩ ?_ ?_) ?_
 ·
  clear hp hq
  rintro i22 y21 s22 f43 w42 ⟨H39, S40, i41, k44, k45, k46, k47⟩ hx22 o55 hp
  refine FW.seq (FW.region ?_)
  refine FL.v (E.lssT k44 k47 (lss_len hx22)) ?_
  refine FL.nil (FW.seq ?_)
  refine FW.condT rfl rfl ?_
  refine FW.skip (FW.seq (FW.block (FW.seq (FW.region ?_))))
  refine FL.v (E.move k44) ?_
  refine FL.v (E.assign (v := Value.int .i64 ((i22 : Nat) : Int)) rfl) ?_
  refine FL.nil (FW.seq (FW.region ?_))
  refine FL.v (E.move k46) ?_
  refine FL.v (E.move k45) ?_
  refine FL.v (E.move (v := Value.int .i64 ((i22 : Nat) : Int)) rfl) ?_
  obtain ⟨p48, cs49, pt50, l51, at52, rel53⟩ := p0.at (ix_nat hx22)
  obtain rfl := eS_open rel53
  refine FL.v (E.indexAddr te22 rfl rfl pt50) ?_
  refine FL.v (E.load rfl (run_load0 Tryz.isAgg9 ((at52.mono i41).now S40.sl) rfl)) ?_
  refine FL.v (E.eqlS rfl rfl) ?_
  refine FL.nil ?_
  rcases ifB hp with ⟨c54, hp⟩ | ⟨c54, hp⟩
  ·
   refine FW.condT rfl c54 ?_
   refine FW.seq (FW.region ?_)
   refine FL.v (E.move (v := Value.int .i64 ((i22 : Nat) : Int)) rfl) ?_
   refine FL.v (E.assign (v := Value.int .i64 ((i22 : Nat) : Int)) rfl) ?_
   refine FL.nil ?_
   refine FW.ret ?_
   obtain rfl := Option.some.inj hp
   exact ⟨nofun, rfl, ⟨.inr rfl, res1 rfl rfl ⟨rfl, S40.back⟩⟩⟩
  ·
   refine FW.condF rfl c54 ?_
   refine FW.skip (FW.region ?_)
   refine FL.v (E.add k44 rfl) ?_
   refine FL.v (E.move (v := Value.int .i64 (wr (((i22 : Nat) : Int) + 1))) rfl) ?_
   refine FL.nil ?_
   obtain rfl := Option.some.inj hp
   exact ⟨rfl, ⟨_, S40, i41, (nat_succ rfl (lt_of_get hx22) (p0.mono i41).le), k45, k46, k47⟩⟩
 ·
  clear hp hq
  rintro s22 f65 w64 ⟨H61, S62, i63, k66, k67, k68, k69⟩
  refine FW.seq (FW.region ?_)
  refine FL.v (E.lss k66 k69) ?_
  refine FL.nil (FW.seq ?_)
  refine FW.condF rfl dlt_len ?_
  refine FW.exit ?_
  exact ⟨nofun, rfl, ⟨_, S62, i63⟩⟩
 ·
  clear hq
  intro e f60 w59 hD
  rcases q22 with s22 | x22
  ·
   obtain ⟨rfl, hD⟩ := hD
   obtain ⟨H56, S57, i58⟩ := hD
   replace hp := el_go hp
   refine FW.seq (FW.region ?_)
   refine FL.v (E.assign (v := Value.int .i64 (-1)) rfl) ?_
   refine FL.nil ?_
   refine FW.ret ?_
   obtain rfl := Option.some.inj hp
   exact ⟨.inr rfl, res1 rfl rfl ⟨rfl, S57.back⟩⟩
  ·
   obtain ⟨he, hL⟩ := hD
   replace hp := el_rt hp
   obtain rfl := Option.some.inj hp
   subst he
   exact hL

theorem w_slices_Contains_string_string {Ha : GH} {wa : World} (hs : Sl Ha wa) (v0 : Value) (a0 : List ByteArray) (p0 : RSl Ha eS 1 v0 a0) (a1 : ByteArray) {r : Bool} (hp : (PF.slices_Contains_string_string a0 a1) = some r) :
  Calls Tryz.prog 189 #[v0, Value.string a1] wa (Sc Ha wa (Value.bool r)) := by
 unfold PF.slices_Contains_string_string at hp
 have S0 := St.init hs
 refine calls_go (N := 9) (args := [v0, Value.string a1]) Tryz.func189 rfl rfl rfl ?_
 refine FW.seq (FW.region ?_)
 refine FL.v (E.assign (v := Value.bool false) rfl) ?_
 refine FL.nil (FW.seq (FW.region ?_))
 refine FL.v (E.move (v := v0) rfl) ?_
 refine FL.v (E.move (v := Value.string a1) rfl) ?_
 obtain ⟨r21, hr22, hp⟩ := bnd hp
 refine FL.call rfl rfl rfl (E.call Tryz.call239 (A2 rfl rfl)) (w_slices_Index_string_string S0.sl v0 a0 p0 a1 hr22) ?_
 rintro e w23 ⟨rfl, r24⟩
 refine ⟨_, rfl, ?_⟩
 have S25 := S0.call r24
 refine FL.v (E.geq rfl rfl) ?_
 refine FL.v (E.assign (v := Value.bool (decide (0 ≤ r21))) rfl) ?_
 refine FL.nil ?_
 refine FW.ret ?_
 obtain rfl := Option.some.inj hp
 exact ⟨.inr rfl, res1 rfl rfl ⟨rfl, S25.back⟩⟩

theorem w_slices_IndexFunc_string_string {Ha : GH} {wa : World} (hs : Sl Ha wa) (v0 : Value) (a0 : List ByteArray) (p0 : RSl Ha eS 1 v0 a0) (v1 : Value) (a1 : ByteArray → Option Bool) (p1 : Fn_S_to_B Tryz.prog Ha v1 a1) {r : Int} (hp : (PF.slices_IndexFunc_string_string a0 a1) = some r) :
  Calls Tryz.prog 212 #[v0, v1] wa (Sc Ha wa (Value.int .i64 r)) := by
 unfold PF.slices_IndexFunc_string_string at hp
 have S0 := St.init hs
 refine calls_go (N := 19) (args := [v0, v1]) Tryz.func212 rfl rfl rfl ?_
 refine FW.seq (FW.region ?_)
 refine FL.v (E.assign (v := Value.int .i64 0) rfl) ?_
 refine FL.nil (FW.seq (FW.seq (FW.region ?_)))
 refine FL.v (E.move (v := v0) rfl) ?_
 refine FL.v (E.lenP te22 rfl p0) ?_
 refine FL.v (E.move (v := Value.int .i64 0) rfl) ?_
 refine FL.nil ?_
 obtain ⟨q22, hq, hp⟩ := bndR hp
 refine FW.block ?_
 refine FW.mono (FW.forL (S := Unit) (X := Int) (fun (i22 : Nat) (s22 : Unit) f w => ∃ H : GH, St Ha wa H w [] ∧ Inc Ha H ∧ f 8 = Value.int .i64 ((i22 : Nat) : Int) ∧ f 0 = v0 ∧ f 1 = v1 ∧ f 7 = Value.int .i64 (len a0)) (fun q e f w => match q with | .go s22 => e = Exit.exit 0 ∧ (∃ H : GH, St Ha wa H w [] ∧ Inc Ha H) | .rt x => ((e = Exit.ret) ∧ (fun e f w => (e = Exit.normal ∨ e = Exit.ret) ∧ ∀ a, Fr (δ := []) 19 a f → ∃ v, (results Tryz.f212 a.tmps).run Tryz.prog w = .ok v w ∧ (Sc Ha wa (Value.int .i64 x)) (.returned v) w) e f w)) hq ⟨_, S0, (Inc.rfl _), rfl, rfl, rfl, rfl⟩ ?_ ?_) ?_
 ·
  clear hp hq
  rintro i22 y21 s22 f53 w52 ⟨H49, S50, i51, k54, k55, k56, k57⟩ hx22 o75 hp
  refine FW.seq (FW.region ?_)
  refine FL.v (E.lssT k54 k57 (lss_len hx22)) ?_
  refine FL.nil (FW.seq ?_)
  refine FW.condT rfl rfl ?_
  refine FW.skip (FW.seq (FW.block (FW.seq (FW.region ?_))))
  refine FL.v (E.move k54) ?_
  refine FL.v (E.assign (v := Value.int .i64 ((i22 : Nat) : Int)) rfl) ?_
  refine FL.nil (FW.seq (FW.region ?_))
  refine FL.v (E.move k56) ?_
  refine FL.v (E.move k55) ?_
  refine FL.v (E.move (v := Value.int .i64 ((i22 : Nat) : Int)) rfl) ?_
  obtain ⟨p58, cs59, pt60, l61, at62, rel63⟩ := p0.at (ix_nat hx22)
  obtain rfl := eS_open rel63
  refine FL.v (E.indexAddr te22 rfl rfl pt60) ?_
  refine FL.v (E.load rfl (run_load0 Tryz.isAgg9 ((at62.mono i51).now S50.sl) rfl)) ?_
  obtain ⟨r64, hr65, hp⟩ := bnd hp
  obtain ⟨fi69, cs70, hv71, he72, hc73⟩ := (p1.mono i51) H49 w52 (Inc.rfl _) S50.sl y21 r64 hr65
  refine FL.call rfl rfl rfl (E.callV he72 (Eq.trans rfl hv71) (appA (A1 rfl) cs70)) hc73 ?_
  rintro e w66 ⟨rfl, r67⟩
  refine ⟨_, rfl, ?_⟩
  have S68 := S50.call r67
  refine FL.nil ?_
  rcases ifB hp with ⟨c74, hp⟩ | ⟨c74, hp⟩
  ·
   refine FW.condT rfl c74 ?_
   refine FW.seq (FW.region ?_)
   refine FL.v (E.move (v := Value.int .i64 ((i22 : Nat) : Int)) rfl) ?_
   refine FL.v (E.assign (v := Value.int .i64 ((i22 : Nat) : Int)) rfl) ?_
   refine FL.nil ?_
   refine FW.ret ?_
   obtain rfl := Option.some.inj hp
   exact ⟨nofun, rfl, ⟨.inr rfl, res1 rfl rfl ⟨rfl, S68.back⟩⟩⟩
  ·
   refine FW.condF rfl c74 ?_
   refine FW.skip (FW.region ?_)
   refine FL.v (E.add k54 rfl) ?_
   refine FL.v (E.move (v := Value.int .i64 (wr (((i22 : Nat) : Int) + 1))) rfl) ?_
   refine FL.nil ?_
   obtain rfl := Option.some.inj hp
   exact ⟨rfl, ⟨_, S68, i51, (nat_succ rfl (lt_of_get hx22) (p0.mono i51).le), k55, k56, k57⟩⟩
 ·
  clear hp hq
  rintro s22 f85 w84 ⟨H81, S82, i83, k86, k87, k88, k89⟩
  refine FW.seq (FW.region ?_)
  refine FL.v (E.lss k86 k89) ?_
  refine FL.nil (FW.seq ?_)
  refine FW.condF rfl dlt_len ?_
  refine FW.exit ?_
  exact ⟨nofun, rfl, ⟨_, S82, i83⟩⟩
 ·
  clear hq
  intro e f80 w79 hD
  rcases q22 with s22 | x22
  ·
   obtain ⟨rfl, hD⟩ := hD
   obtain ⟨H76, S77, i78⟩ := hD
   replace hp := el_go hp
   refine FW.seq (FW.region ?_)
   refine FL.v (E.assign (v := Value.int .i64 (-1)) rfl) ?_
   refine FL.nil ?_
   refine FW.ret ?_
   obtain rfl := Option.some.inj hp
   exact ⟨.inr rfl, res1 rfl rfl ⟨rfl, S77.back⟩⟩
  ·
   obtain ⟨he, hL⟩ := hD
   replace hp := el_rt hp
   obtain rfl := Option.some.inj hp
   subst he
   exact hL

theorem w_slices_ContainsFunc_string_string {Ha : GH} {wa : World} (hs : Sl Ha wa) (v0 : Value) (a0 : List ByteArray) (p0 : RSl Ha eS 1 v0 a0) (v1 : Value) (a1 : ByteArray → Option Bool) (p1 : Fn_S_to_B Tryz.prog Ha v1 a1) {r : Bool} (hp : (PF.slices_ContainsFunc_string_string a0 a1) = some r) :
  Calls Tryz.prog 187 #[v0, v1] wa (Sc Ha wa (Value.bool r)) := by
 unfold PF.slices_ContainsFunc_string_string at hp
 have S0 := St.init hs
 refine calls_go (N := 9) (args := [v0, v1]) Tryz.func187 rfl rfl rfl ?_
 refine FW.seq (FW.region ?_)
 refine FL.v (E.assign (v := Value.bool false) rfl) ?_
 refine FL.nil (FW.seq (FW.region ?_))
 refine FL.v (E.move (v := v0) rfl) ?_
 refine FL.v (E.move (v := v1) rfl) ?_
 obtain ⟨r21, hr22, hp⟩ := bnd hp
 refine FL.call rfl rfl rfl (E.call Tryz.call212 (A2 rfl rfl)) (w_slices_IndexFunc_string_string S0.sl v0 a0 p0 v1 a1 p1 hr22) ?_
 rintro e w23 ⟨rfl, r24⟩
 refine ⟨_, rfl, ?_⟩
 have S25 := S0.call r24
 refine FL.v (E.geq rfl rfl) ?_
 refine FL.v (E.assign (v := Value.bool (decide (0 ≤ r21))) rfl) ?_
 refine FL.nil ?_
 refine FW.ret ?_
 obtain rfl := Option.some.inj hp
 exact ⟨.inr rfl, res1 rfl rfl ⟨rfl, S25.back⟩⟩

theorem w_impl_isSeqAxiom_1 {Ha : GH} {wa : World} (hs : Sl Ha wa) (a0 : ByteArray) (q0 : Addr) (b0 : Sequent) (u0_0 : Value) (g0_0 : RSl Ha eS 1 u0_0 b0.left) (u0_1 : Value) (g0_1 : RSl Ha eS 1 u0_1 b0.right) (c0 : CAt Ha q0 [u0_0, u0_1]) {r : Bool} (hp : (PF.impl_isSeqAxiom_1 a0 b0) = some r) :
  Calls Tryz.prog 190 #[Value.string a0, Value.pointer (some q0)] wa (Sc Ha wa (Value.bool r)) := by
 unfold PF.impl_isSeqAxiom_1 at hp
 have S0 := St.init hs
 refine calls_go (N := 8) (args := [Value.string a0, Value.pointer (some q0)]) Tryz.func190 rfl rfl rfl ?_
 refine FW.seq (FW.region ?_)
 refine FL.v (E.assign (v := Value.bool false) rfl) ?_
 refine FL.nil (FW.seq (FW.region ?_))
 refine FL.v (E.fieldAddr tf68_1 rfl) ?_
 refine FL.v (E.load rfl (run_load1 Tryz.isAgg22 (c0.now S0.sl) rfl)) ?_
 refine FL.v (E.move (v := Value.string a0) rfl) ?_
 obtain ⟨r21, hr22, hp⟩ := bnd hp
 refine FL.call rfl rfl rfl (E.call Tryz.call189 (A2 rfl rfl)) (w_slices_Contains_string_string S0.sl u0_1 b0.right g0_1 a0 hr22) ?_
 rintro e w23 ⟨rfl, r24⟩
 refine ⟨_, rfl, ?_⟩
 have S25 := S0.call r24
 refine FL.v (E.assign (v := Value.bool r21) rfl) ?_
 refine FL.nil ?_
 refine FW.ret ?_
 obtain rfl := Option.some.inj hp
 exact ⟨.inr rfl, res1 rfl rfl ⟨rfl, S25.back⟩⟩

theorem w_impl_isSeqAxiom {Ha : GH} {wa : World} (hs : Sl Ha wa) (a0 : Sequent) (v0_0 : Value) (p0_0 : RSl Ha eS 1 v0_0 a0.left) (v0_1 : Value) (p0_1 : RSl Ha eS 1 v0_1 a0.right) {r : Bool} (hp : (PF.impl_isSeqAxiom a0) = some r) :
  Calls Tryz.prog 154 #[Value.agg #[v0_0, v0_1]] wa (Sc Ha wa (Value.bool r)) := by
 unfold PF.impl_isSeqAxiom at hp
 have S0 := St.init hs
 refine calls_go (N := 17) (args := [Value.agg #[v0_0, v0_1]]) Tryz.func154 rfl rfl rfl ?_
 refine FW.seq (FW.region ?_)
 obtain ⟨b21, w22, run23, S24⟩ := S0.box (P := Tryz.prog) 68 [v0_0, v0_1] (v := Value.agg #[v0_0, v0_1]) rfl (ones_cons p0_0.one (ones_cons p0_1.one ones_nil))
 refine FL.v (E.box rfl run23) ?_
 obtain ⟨H25, S26, i27, at28⟩ := S24.sealBox (i := 0) (l' := []) rfl rfl
 refine FL.v (E.assign (v := Value.bool false) rfl) ?_
 refine FL.nil (FW.seq (FW.region ?_))
 refine FL.v (E.fieldAddr tf68_0 rfl) ?_
 refine FL.v (E.load rfl (run_load1 Tryz.isAgg22 (at28.now S26.sl) rfl)) ?_
 obtain ⟨r29, hr30, hp⟩ := bnd hp
 refine FL.call rfl rfl rfl (E.call Tryz.call189 (A2 rfl rfl)) (w_slices_Contains_string_string S26.sl v0_0 a0.left (p0_0.mono i27) (ByteArray.mk #[48]) hr30) ?_
 rintro e w31 ⟨rfl, r32⟩
 refine ⟨_, rfl, ?_⟩
 have S33 := S26.call r32
 refine FL.v (E.move (v := Value.bool r29) rfl) ?_
 obtain ⟨t39, hqt39, hp⟩ := bnd hp
 refine FL.cut 4 (fun f w => ∃ H : GH, St Ha wa H w [] ∧ Inc H25 H ∧ f 1 = Value.pointer (some ⟨b21, 0, none⟩) ∧ f 10 = Value.bool t39) ?_ ?_
 ·
  clear hp; have hp := hqt39; clear hqt39
  rcases ifB hp with ⟨c45, hp⟩ | ⟨c45, hp⟩
  ·
   refine FL.skip (wF_no rfl rfl rfl c45) rfl ?_
   refine FL.skip (wF_no rfl rfl rfl c45) rfl ?_
   refine FL.skip (wF_no rfl rfl rfl c45) rfl ?_
   obtain rfl := Option.some.inj hp
   refine FL.v (E.pickT rfl c45 rfl) ?_
   exact FL.nil ⟨rfl, _, S33, (Inc.rfl _), rfl, rfl⟩
  ·
   refine FL.val (wF_yes rfl rfl rfl c45) rfl rfl (E.fieldAddr tf68_1 rfl) ?_
   refine FL.val (wF_yes rfl rfl rfl c45) rfl rfl (E.load rfl (run_load1 Tryz.isAgg22 (at28.now S33.sl) rfl)) ?_
   obtain ⟨r46, hr47, hp⟩ := bnd hp
   refine FL.call (wF_yes rfl rfl rfl c45) rfl rfl (E.call Tryz.call189 (A2 rfl rfl)) (w_slices_Contains_string_string S33.sl v0_1 a0.right (p0_1.mono i27) (ByteArray.mk #[49]) hr47) ?_
   rintro e w48 ⟨rfl, r49⟩
   refine ⟨_, rfl, ?_⟩
   have S50 := S33.call r49
   obtain rfl := Option.some.inj hp
   refine FL.v (E.pickF rfl c45 rfl) ?_
   exact FL.nil ⟨rfl, _, S50, (Inc.rfl _), rfl, rfl⟩
 rintro f44 w43 ⟨H40, S41, i42, k51, k52⟩
 refine FL.v (E.move k52) ?_
 obtain ⟨t58, hqt58, hp⟩ := bnd hp
 refine FL.cut 5 (fun f w => ∃ H : GH, St Ha wa H w [] ∧ Inc H40 H ∧ f 16 = Value.bool t58) ?_ ?_
 ·
  clear hp; have hp := hqt58; clear hqt58
  rcases ifB hp with ⟨c64, hp⟩ | ⟨c64, hp⟩
  ·
   refine FL.skip (wF_no rfl rfl rfl c64) rfl ?_
   refine FL.skip (wF_no rfl rfl rfl c64) rfl ?_
   refine FL.skip (wF_no rfl rfl rfl c64) rfl ?_
   refine FL.skip (wF_no rfl rfl rfl c64) rfl ?_
   obtain rfl := Option.some.inj hp
   refine FL.v (E.pickT rfl c64 rfl) ?_
   exact FL.nil ⟨rfl, _, S41, (Inc.rfl _), rfl⟩
  ·
   refine FL.val (wF_yes rfl rfl rfl c64) rfl rfl (E.fieldAddr tf68_0 k51) ?_
   refine FL.val (wF_yes rfl rfl rfl c64) rfl rfl (E.load rfl (run_load1 Tryz.isAgg22 ((at28.mono i42).now S41.sl) rfl)) ?_
   refine FL.val (wF_yes rfl rfl rfl c64) rfl rfl (E.makeFunc A0 (A1 k51)) ?_
   obtain ⟨r65, hr66, hp⟩ := bnd hp
   refine FL.call (wF_yes rfl rfl rfl c64) rfl rfl (E.call Tryz.call187 (A2 rfl rfl)) (w_slices_ContainsFunc_string_string S41.sl v0_0 a0.left (p0_0.mono (i27.tr i42)) (Value.func (.func 190) #[] #[Value.pointer (some ⟨b21, 0, none⟩)]) (fun x0 => PF.impl_isSeqAxiom_1 x0 a0) (fun H2 w2 hi2 hs2 x0 r hr => ⟨190, #[Value.pointer (some ⟨b21, 0, none⟩)], rfl, Tryz.call190, w_impl_isSeqAxiom_1 hs2 x0 ⟨b21, 0, none⟩ a0 v0_0 ((p0_0.mono (i27.tr i42)).mono hi2) v0_1 ((p0_1.mono (i27.tr i42)).mono hi2) ((at28.mono i42).mono hi2) hr⟩) hr66) ?_
   rintro e w67 ⟨rfl, r68⟩
   refine ⟨_, rfl, ?_⟩
   have S69 := S41.call r68
   obtain rfl := Option.some.inj hp
   refine FL.v (E.pickF rfl c64 rfl) ?_
   exact FL.nil ⟨rfl, _, S69, (Inc.rfl _), rfl⟩
 rintro f63 w62 ⟨H59, S60, i61, k70⟩
 refine FL.v (E.assign k70) ?_
 refine FL.nil ?_
 refine FW.ret ?_
 obtain rfl := Option.some.inj hp
 exact ⟨.inr rfl, res1 rfl rfl ⟨rfl, S60.back⟩⟩

theorem w_impl_seqCorrect_1 {Ha : GH} {wa : World} (hs : Sl Ha wa) (a0 : Int) (v1 : Value) (a1 : Sequent → Option Bool) (p1 : Fn_Sequent_to_B Tryz.prog Ha v1 a1) (q0 : Addr) (b0 : Int) (c0 : CAt Ha q0 [Value.int .i64 b0]) (q1 : Addr) (b1 : List SeqStep) (u1_0 : Value) (g1_0 : RSl Ha eSeqStep 6 u1_0 b1) (c1 : CAt Ha q1 [u1_0]) {r : Bool} (hp : (PF.impl_seqCorrect_1 a0 a1 b0 b1) = some r) :
  Calls Tryz.prog 194 #[Value.int .i64 a0, v1, Value.pointer (some q0), Value.pointer (some q1)] wa (Sc Ha wa (Value.bool r)) := by
 unfold PF.impl_seqCorrect_1 at hp
 have S0 := St.init hs
 refine calls_go (N := 28) (args := [Value.int .i64 a0, v1, Value.pointer (some q0), Value.pointer (some q1)]) Tryz.func194 rfl rfl rfl ?_
 refine FW.seq (FW.region ?_)
 refine FL.v (E.assign (v := Value.bool false) rfl) ?_
 refine FL.nil (FW.seq (FW.region ?_))
 refine FL.v (E.move (v := Value.int .i64 a0) rfl) ?_
 refine FL.v (E.load rfl (run_load0 Tryz.isAgg3 (c0.now S0.sl) rfl)) ?_
 refine FL.v (E.sub rfl rfl) ?_
 refine FL.call rfl rfl rfl (E.call Tryz.call91 (A3 rfl rfl rfl)) (w_impl_within S0.sl a0 0 (wr (b0 - 1))) ?_
 rintro e w21 ⟨rfl, r22⟩
 refine ⟨_, rfl, ?_⟩
 have S23 := S0.call r22
 refine FL.v (E.move (v := Value.bool (PF.impl_within a0 0 (wr (b0 - 1)))) rfl) ?_
 obtain ⟨t41, hqt41, hp⟩ := bnd hp
 refine FL.cut 7 (fun f w => ∃ H : GH, St Ha wa H w [] ∧ Inc Ha H ∧ f 0 = Value.int .i64 a0 ∧ f 1 = v1 ∧ f 3 = Value.pointer (some q1) ∧ f 18 = Value.bool t41) ?_ ?_
 ·
  clear hp; have hp := hqt41; clear hqt41
  rcases ifB hp with ⟨c47, hp⟩ | ⟨c47, hp⟩
  ·
   refine FL.val (wF_yes rfl rfl rfl c47) rfl rfl (E.load rfl (run_load0 Tryz.isAgg24 (c1.now S23.sl) rfl)) ?_
   refine FL.val (wF_yes rfl rfl rfl c47) rfl rfl (E.move (v := Value.int .i64 a0) rfl) ?_
   obtain ⟨x54, hx55, hp⟩ := bnd hp
   obtain ⟨p48, cs49, pt50, l51, at52, rel53⟩ := g1_0.at hx55
   obtain ⟨v56, v58, rfl, h57, h59⟩ := eSeqStep_open rel53
   refine FL.val (wF_yes rfl rfl rfl c47) rfl rfl (E.indexAddr te24 rfl rfl pt50) ?_
   refine FL.val (wF_yes rfl rfl rfl c47) rfl rfl (E.fieldAddr tf74_0 rfl) ?_
   refine FL.val (wF_yes rfl rfl rfl c47) rfl rfl (E.load rfl (run_loadA Tryz.isAgg68 Tryz.sizeOf68 ((at52.now S23.sl).sub (j := 0) (n := 2) (c := [v56, v58]) rfl) rfl)) ?_
   obtain ⟨r60, hr61, hp⟩ := bnd hp
   refine FL.call (wF_yes rfl rfl rfl c47) rfl rfl (E.call Tryz.call120 (A1 rfl)) (w_impl_IsSequent S23.sl x54.seq v56 h57 v58 h59 hr61) ?_
   rintro e w62 ⟨rfl, r63⟩
   refine ⟨_, rfl, ?_⟩
   have S64 := S23.call r63
   obtain rfl := Option.some.inj hp
   refine FL.v (E.pickT rfl c47 rfl) ?_
   exact FL.nil ⟨rfl, _, S64, (Inc.rfl _), rfl, rfl, rfl, rfl⟩
  ·
   refine FL.skip (wF_no rfl rfl rfl c47) rfl ?_
   refine FL.skip (wF_no rfl rfl rfl c47) rfl ?_
   refine FL.skip (wF_no rfl rfl rfl c47) rfl ?_
   refine FL.skip (wF_no rfl rfl rfl c47) rfl ?_
   refine FL.skip (wF_no rfl rfl rfl c47) rfl ?_
   refine FL.skip (wF_no rfl rfl rfl c47) rfl ?_
   obtain rfl := Option.some.inj hp
   refine FL.v (E.pickF rfl c47 rfl) ?_
   exact FL.nil ⟨rfl, _, S23, (Inc.rfl _), rfl, rfl, rfl, rfl⟩
 rintro f46 w45 ⟨H42, S43, i44, k65, k66, k67, k68⟩
 refine FL.v (E.move k68) ?_
 obtain ⟨t91, hqt91, hp⟩ := bnd hp
 refine FL.cut 8 (fun f w => ∃ H : GH, St Ha wa H w [] ∧ Inc H42 H ∧ f 27 = Value.bool t91) ?_ ?_
 ·
  clear hp; have hp := hqt91; clear hqt91
  rcases ifB hp with ⟨c97, hp⟩ | ⟨c97, hp⟩
  ·
   refine FL.val (wF_yes rfl rfl rfl c97) rfl rfl (E.move k66) ?_
   refine FL.val (wF_yes rfl rfl rfl c97) rfl rfl (E.load k67 (run_load0 Tryz.isAgg24 ((c1.mono i44).now S43.sl) rfl)) ?_
   refine FL.val (wF_yes rfl rfl rfl c97) rfl rfl (E.move k65) ?_
   obtain ⟨x104, hx105, hp⟩ := bnd hp
   obtain ⟨p98, cs99, pt100, l101, at102, rel103⟩ := g1_0.at hx105
   obtain ⟨v106, v108, rfl, h107, h109⟩ := eSeqStep_open rel103
   refine FL.val (wF_yes rfl rfl rfl c97) rfl rfl (E.indexAddr te24 rfl rfl pt100) ?_
   refine FL.val (wF_yes rfl rfl rfl c97) rfl rfl (E.fieldAddr tf74_0 rfl) ?_
   refine FL.val (wF_yes rfl rfl rfl c97) rfl rfl (E.load rfl (run_loadA Tryz.isAgg68 Tryz.sizeOf68 (((at102.mono i44).now S43.sl).sub (j := 0) (n := 2) (c := [v106, v108]) rfl) rfl)) ?_
   obtain ⟨r110, hr111, hp⟩ := bnd hp
   obtain ⟨fi115, cs116, hv117, he118, hc119⟩ := (p1.mono i44) H42 w45 (Inc.rfl _) S43.sl x104.seq v106 (h107.mono i44) v108 (h109.mono i44) r110 hr111
   refine FL.call (wF_yes rfl rfl rfl c97) rfl rfl (E.callV he118 (Eq.trans rfl hv117) (appA (A1 rfl) cs116)) hc119 ?_
   rintro e w112 ⟨rfl, r113⟩
   refine ⟨_, rfl, ?_⟩
   have S114 := S43.call r113
   obtain rfl := Option.some.inj hp
   refine FL.v (E.pickT rfl c97 rfl) ?_
   exact FL.nil ⟨rfl, _, S114, (Inc.rfl _), rfl⟩
  ·
   refine FL.skip (wF_no rfl rfl rfl c97) rfl ?_
   refine FL.skip (wF_no rfl rfl rfl c97) rfl ?_
   refine FL.skip (wF_no rfl rfl rfl c97) rfl ?_
   refine FL.skip (wF_no rfl rfl rfl c97) rfl ?_
   refine FL.skip (wF_no rfl rfl rfl c97) rfl ?_
   refine FL.skip (wF_no rfl rfl rfl c97) rfl ?_
   refine FL.skip (wF_no rfl rfl rfl c97) rfl ?_
   obtain rfl := Option.some.inj hp
   refine FL.v (E.pickF rfl c97 rfl) ?_
   exact FL.nil ⟨rfl, _, S43, (Inc.rfl _), rfl⟩
 rintro f96 w95 ⟨H92, S93, i94, k120⟩
 refine FL.v (E.assign k120) ?_
 refine FL.nil ?_
 refine FW.ret ?_
 obtain rfl := Option.some.inj hp
 exact ⟨.inr rfl, res1 rfl rfl ⟨rfl, S93.back⟩⟩

theorem w_impl_contained_1 {Ha : GH} {wa : World} (hs : Sl Ha wa) (a0 : ByteArray) (q0 : Addr) (b0 : List ByteArray) (u0_0 : Value) (g0_0 : RSl Ha eS 1 u0_0 b0) (c0 : CAt Ha q0 [u0_0]) {r : Bool} (hp : (PF.impl_contained_1 a0 b0) = some r) :
  Calls Tryz.prog 241 #[Value.string a0, Value.pointer (some q0)] wa (Sc Ha wa (Value.bool r)) := by
 unfold PF.impl_contained_1 at hp
 have S0 := St.init hs
 refine calls_go (N := 8) (args := [Value.string a0, Value.pointer (some q0)]) Tryz.func241 rfl rfl rfl ?_
 refine FW.seq (FW.region ?_)
 refine FL.v (E.assign (v := Value.bool false) rfl) ?_
 refine FL.nil (FW.seq (FW.region ?_))
 refine FL.v (E.load rfl (run_load0 Tryz.isAgg22 (c0.now S0.sl) rfl)) ?_
 refine FL.v (E.move (v := Value.string a0) rfl) ?_
 obtain ⟨r21, hr22, hp⟩ := bnd hp
 refine FL.call rfl rfl rfl (E.call Tryz.call189 (A2 rfl rfl)) (w_slices_Contains_string_string S0.sl u0_0 b0 g0_0 a0 hr22) ?_
 rintro e w23 ⟨rfl, r24⟩
 refine ⟨_, rfl, ?_⟩
 have S25 := S0.call r24
 refine FL.v (E.not rfl) ?_
 refine FL.v (E.assign (v := Value.bool (!r21)) rfl) ?_
 refine FL.nil ?_
 refine FW.ret ?_
 obtain rfl := Option.some.inj hp
 exact ⟨.inr rfl, res1 rfl rfl ⟨rfl, S25.back⟩⟩

theorem w_impl_contained {Ha : GH} {wa : World} (hs : Sl Ha wa) (v0 : Value) (a0 : List ByteArray) (p0 : RSl Ha eS 1 v0 a0) (v1 : Value) (a1 : List ByteArray) (p1 : RSl Ha eS 1 v1 a1) {r : Bool} (hp : (PF.impl_contained a0 a1) = some r) :
  Calls Tryz.prog 199 #[v0, v1] wa (Sc Ha wa (Value.bool r)) := by
 unfold PF.impl_contained at hp
 have S0 := St.init hs
 refine calls_go (N := 9) (args := [v0, v1]) Tryz.func199 rfl rfl rfl ?_
 refine FW.seq (FW.region ?_)
 obtain ⟨b21, w22, run23, S24⟩ := S0.box (P := Tryz.prog) 22 [v1] (v := v1) p1.cells (ones_cons p1.one ones_nil)
 refine FL.v (E.box rfl run23) ?_
 obtain ⟨H25, S26, i27, at28⟩ := S24.sealBox (i := 0) (l' := []) rfl rfl
 refine FL.v (E.assign (v := Value.bool false) rfl) ?_
 refine FL.nil (FW.seq (FW.region ?_))
 refine FL.v (E.move (v := v0) rfl) ?_
 refine FL.v (E.makeFunc A0 (A1 rfl)) ?_
 obtain ⟨r29, hr30, hp⟩ := bnd hp
 refine FL.call rfl rfl rfl (E.call Tryz.call187 (A2 rfl rfl)) (w_slices_ContainsFunc_string_string S26.sl v0 a0 (p0.mono i27) (Value.func (.func 241) #[] #[Value.pointer (some ⟨b21, 0, none⟩)]) (fun x0 => PF.impl_contained_1 x0 a1) (fun H2 w2 hi2 hs2 x0 r hr => ⟨241, #[Value.pointer (some ⟨b21, 0, none⟩)], rfl, Tryz.call241, w_impl_contained_1 hs2 x0 ⟨b21, 0, none⟩ a1 v1 ((p1.mono i27).mono hi2) (at28.mono hi2) hr⟩) hr30) ?_
 rintro e w31 ⟨rfl, r32⟩
 refine ⟨_, rfl, ?_⟩
 have S33 := S26.call r32
 refine FL.v (E.not rfl) ?_
 refine FL.v (E.assign (v := Value.bool (!r29)) rfl) ?_
 refine FL.nil ?_
 refine FW.ret ?_
 obtain rfl := Option.some.inj hp
 exact ⟨.inr rfl, res1 rfl rfl ⟨rfl, S33.back⟩⟩

theorem w_impl_seqCorrect_3 {Ha : GH} {wa : World} (hs : Sl Ha wa) (a0 : Sequent) (v0_0 : Value) (p0_0 : RSl Ha eS 1 v0_0 a0.left) (v0_1 : Value) (p0_1 : RSl Ha eS 1 v0_1 a0.right) (q0 : Addr) (b0 : SeqStep) (u0_0 : Value) (g0_0 : RSl Ha eS 1 u0_0 b0.seq.left) (u0_1 : Value) (g0_1 : RSl Ha eS 1 u0_1 b0.seq.right) (c0 : CAt Ha q0 [u0_0, u0_1, Value.int .i64 b0.rule, Value.string b0.main, Value.int .i64 b0.a, Value.int .i64 b0.b]) {r : Bool} (hp : (PF.impl_seqCorrect_3 a0 b0) = some r) :
  Calls Tryz.prog 198 #[Value.agg #[v0_0, v0_1], Value.pointer (some q0)] wa (Sc Ha wa (Value.bool r)) := by
 unfold PF.impl_seqCorrect_3 at hp
 have S0 := St.init hs
 refine calls_go (N := 18) (args := [Value.agg #[v0_0, v0_1], Value.pointer (some q0)]) Tryz.func198 rfl rfl rfl ?_
 refine FW.seq (FW.region ?_)
 obtain ⟨b21, w22, run23, S24⟩ := S0.box (P := Tryz.prog) 68 [v0_0, v0_1] (v := Value.agg #[v0_0, v0_1]) rfl (ones_cons p0_0.one (ones_cons p0_1.one ones_nil))
 refine FL.v (E.box rfl run23) ?_
 obtain ⟨H25, S26, i27, at28⟩ := S24.sealBox (i := 0) (l' := []) rfl rfl
 refine FL.v (E.assign (v := Value.bool false) rfl) ?_
 refine FL.nil (FW.seq (FW.region ?_))
 refine FL.v (E.fieldAddr tf68_0 rfl) ?_
 refine FL.v (E.load rfl (run_load1 Tryz.isAgg22 (at28.now S26.sl) rfl)) ?_
 refine FL.v (E.fieldAddr tf74_0 rfl) ?_
 refine FL.v (E.fieldAddrN tf68_0 rfl rfl) ?_
 refine FL.v (E.load rfl (run_load1 Tryz.isAgg22 ((c0.mono i27).now S26.sl) rfl)) ?_
 obtain ⟨r29, hr30, hp⟩ := bnd hp
 refine FL.call rfl rfl rfl (E.call Tryz.call199 (A2 rfl rfl)) (w_impl_contained S26.sl v0_0 a0.left (p0_0.mono i27) u0_0 b0.seq.left (g0_0.mono i27) hr30) ?_
 rintro e w31 ⟨rfl, r32⟩
 refine ⟨_, rfl, ?_⟩
 have S33 := S26.call r32
 refine FL.v (E.move (v := Value.bool r29) rfl) ?_
 obtain ⟨t39, hqt39, hp⟩ := bnd hp
 refine FL.cut 7 (fun f w => ∃ H : GH, St Ha wa H w [] ∧ Inc H25 H ∧ f 17 = Value.bool t39) ?_ ?_
 ·
  clear hp; have hp := hqt39; clear hqt39
  rcases ifB hp with ⟨c45, hp⟩ | ⟨c45, hp⟩
  ·
   refine FL.val (wF_yes rfl rfl rfl c45) rfl rfl (E.fieldAddr tf68_1 rfl) ?_
   refine FL.val (wF_yes rfl rfl rfl c45) rfl rfl (E.load rfl (run_load1 Tryz.isAgg22 (at28.now S33.sl) rfl)) ?_
   refine FL.val (wF_yes rfl rfl rfl c45) rfl rfl (E.fieldAddr tf74_0 rfl) ?_
   refine FL.val (wF_yes rfl rfl rfl c45) rfl rfl (E.fieldAddrN tf68_1 rfl rfl) ?_
   refine FL.val (wF_yes rfl rfl rfl c45) rfl rfl (E.load rfl (run_load1 Tryz.isAgg22 ((c0.mono i27).now S33.sl) rfl)) ?_
   obtain ⟨r46, hr47, hp⟩ := bnd hp
   refine FL.call (wF_yes rfl rfl rfl c45) rfl rfl (E.call Tryz.call199 (A2 rfl rfl)) (w_impl_contained S33.sl v0_1 a0.right (p0_1.mono i27) u0_1 b0.seq.right (g0_1.mono i27) hr47) ?_
   rintro e w48 ⟨rfl, r49⟩
   refine ⟨_, rfl, ?_⟩
   have S50 := S33.call r49
   obtain rfl := Option.some.inj hp
   refine FL.v (E.pickT rfl c45 rfl) ?_
   exact FL.nil ⟨rfl, _, S50, (Inc.rfl _), rfl⟩
  ·
   refine FL.skip (wF_no rfl rfl rfl c45) rfl ?_
   refine FL.skip (wF_no rfl rfl rfl c45) rfl ?_
   refine FL.skip (wF_no rfl rfl rfl c45) rfl ?_
   refine FL.skip (wF_no rfl rfl rfl c45) rfl ?_
   refine FL.skip (wF_no rfl rfl rfl c45) rfl ?_
   refine FL.skip (wF_no rfl rfl rfl c45) rfl ?_
   obtain rfl := Option.some.inj hp
   refine FL.v (E.pickF rfl c45 rfl) ?_
   exact FL.nil ⟨rfl, _, S33, (Inc.rfl _), rfl⟩
 rintro f44 w43 ⟨H40, S41, i42, k51⟩
 refine FL.v (E.assign k51) ?_
 refine FL.nil ?_
 refine FW.ret ?_
 obtain rfl := Option.some.inj hp
 exact ⟨.inr rfl, res1 rfl rfl ⟨rfl, S41.back⟩⟩

@[reducible] def p_slices_Grow_string_string (Ha : GH) (wa : World) (r : List ByteArray) : Ending → World → Prop :=
 fun e w' => ∃ H' : GH, ∃ v0 : Value, ∃ n0 : Nat, ∃ c0 : List Value, e = .returned (v0) ∧ St Ha wa H' w' [.row 9 1 v0 n0 c0] ∧ Els (up wa.heap.size H') eS 1 c0 r
theorem w_slices_Grow_string_string {Ha : GH} {wa : World} (hs : Sl Ha wa) (a1 : Int) {r : List ByteArray} (hp : PF.slices_Grow_string_string a1 = some r) :
  Calls Tryz.prog 161 #[.slice none 0 0, .int .i64 a1] wa (p_slices_Grow_string_string Ha wa r) := by
 unfold PF.slices_Grow_string_string at hp
 split at hp
 ·
  rename_i h
  cases hp
  refine (growNil (En := eS) te22 hs h.1 h.2 (fun w => Any8.slices_Grow_room (P := Tryz.prog) Tryz.grow161 none 0 0 0 w (Nat.le_refl _) (by decide) (by decide) (by decide))
   (fun n w h0 hl => ?_)).mono ?_
  ·
   have h := Any8.slices_Grow_grow (P := Tryz.prog) Tryz.grow161 _ _ Tryz.type9 rfl (by decide) none 0 0 n [] w (Nat.le_refl _) (by omega) ?_ (by unfold lim at hl; omega) (by simp) (fun _ => rfl) (by simp)
   ·
    refine h.mono ?_
    rintro _ _ ⟨rfl, rfl⟩
    refine ⟨by simp; rfl, ?_⟩
    simp
    rfl
   ·
    rw [Nat.zero_add]; refine Nat.le_trans (Nat.mul_le_mul hl (show _ ≤ 4096 by decide)) (by decide)
  ·
   rintro e w' ⟨v, n, c, rfl, h1, h2⟩
   exact ⟨_, _, _, _, rfl, h1, h2 _⟩
 ·
  cases hp

@[reducible] def p_slices_Concat_string_string (Ha : GH) (wa : World) (r : (List ByteArray)) : Ending → World → Prop :=
 fun e w' => ∃ H' : GH, ∃ v0 : Value, ∃ n0 : Nat, ∃ c0 : List Value, e = .returned (v0) ∧ St Ha wa H' w' [.row 9 1 v0 n0 c0] ∧ Els (up wa.heap.size H') eS 1 c0 r
set_option maxHeartbeats 4000000 in
theorem w_slices_Concat_string_string {Ha : GH} {wa : World} (hs : Sl Ha wa) (v0 : Value) (a0 : List (List ByteArray)) (p0 : RSl Ha (eL eS 1) 1 v0 a0) {r : (List ByteArray)} (hp : (PF.slices_Concat_string_string a0) = some r) :
  Calls Tryz.prog 116 #[v0] wa (p_slices_Concat_string_string Ha wa r) := by
 unfold PF.slices_Concat_string_string at hp
 have S0 := St.init hs
 refine calls_go (N := 36) (args := [v0]) Tryz.func116 rfl rfl rfl ?_
 refine FW.seq (FW.region ?_)
 refine FL.v (E.assign (v := Value.slice none 0 0) rfl) ?_
 refine FL.nil (FW.seq (FW.region ?_))
 refine FL.v (E.assign (v := Value.int .i64 0) rfl) ?_
 refine FL.nil (FW.seq (FW.seq (FW.region ?_)))
 refine FL.v (E.move (v := v0) rfl) ?_
 refine FL.v (E.lenP te181 rfl p0) ?_
 refine FL.v (E.move (v := Value.int .i64 0) rfl) ?_
 refine FL.nil ?_
 obtain ⟨q22, hq, hp⟩ := bndR hp
 refine FW.block ?_
 refine FW.mono (FW.forL (S := Int) (X := Empty) (fun (i22 : Nat) (s22 : Int) f w => ∃ H : GH, St Ha wa H w [] ∧ Inc Ha H ∧ f 11 = Value.int .i64 ((i22 : Nat) : Int) ∧ f 0 = v0 ∧ f 3 = Value.int .i64 s22 ∧ f 9 = v0 ∧ f 10 = Value.int .i64 (len a0)) (fun (q : Rs Int Empty) e f w => match q with | .go s22 => e = Exit.exit 0 ∧ (∃ H : GH, St Ha wa H w [] ∧ Inc Ha H ∧ f 0 = v0 ∧ f 3 = Value.int .i64 s22) | .rt x => x.elim) hq ⟨_, S0, (Inc.rfl _), rfl, rfl, rfl, rfl, rfl⟩ ?_ ?_) ?_
 ·
  clear hp hq
  rintro i22 y21 s22 f46 w45 ⟨H42, S43, i44, k47, k48, k49, k50, k51⟩ hx22 o61 hp
  refine FW.seq (FW.region ?_)
  refine FL.v (E.lssT k47 k51 (lss_len hx22)) ?_
  refine FL.nil (FW.seq ?_)
  refine FW.condT rfl rfl ?_
  refine FW.skip (FW.seq (FW.block (FW.seq (FW.region ?_))))
  obtain ⟨p52, cs53, pt54, l55, at56, rel57⟩ := p0.at (ix_nat hx22)
  obtain ⟨v58, rfl, h59⟩ := eL_open rel57
  refine FL.v (E.indexAddr te181 k50 k47 pt54) ?_
  refine FL.v (E.load rfl (run_load0 Tryz.isAgg22 ((at56.mono i44).now S43.sl) rfl)) ?_
  refine FL.v (E.assign (v := v58) rfl) ?_
  refine FL.nil (FW.seq (FW.region ?_))
  refine FL.v (E.move k49) ?_
  refine FL.v (E.move (v := v58) rfl) ?_
  refine FL.v (E.lenP te22 rfl h59) ?_
  refine FL.v (E.add rfl rfl) ?_
  refine FL.v (E.assign (v := Value.int .i64 (wr (s22 + (len y21)))) rfl) ?_
  refine FL.nil (FW.seq (FW.region ?_))
  refine FL.v (E.move (v := Value.int .i64 (wr (s22 + (len y21)))) rfl) ?_
  refine FL.v (E.lss rfl rfl) ?_
  refine FL.nil ?_
  rcases ifB hp with ⟨c60, hp⟩ | ⟨c60, hp⟩
  ·
   refine FW.condT rfl c60 ?_
   cases hp
  ·
   refine FW.condF rfl c60 ?_
   refine FW.skip (FW.region ?_)
   refine FL.v (E.add k47 rfl) ?_
   refine FL.v (E.move (v := Value.int .i64 (wr (((i22 : Nat) : Int) + 1))) rfl) ?_
   refine FL.nil ?_
   obtain rfl := Option.some.inj hp
   exact ⟨rfl, ⟨_, S43, i44, (nat_succ rfl (lt_of_get hx22) (p0.mono i44).le), k48, rfl, k50, k51⟩⟩
 ·
  clear hp hq
  rintro s22 f159 w158 ⟨H155, S156, i157, k160, k161, k162, k163, k164⟩
  refine FW.seq (FW.region ?_)
  refine FL.v (E.lss k160 k164) ?_
  refine FL.nil (FW.seq ?_)
  refine FW.condF rfl dlt_len ?_
  refine FW.exit ?_
  exact ⟨nofun, rfl, ⟨_, S156, i157, k161, k162⟩⟩
 ·
  clear hq
  intro e f66 w65 hD
  rcases q22 with s22 | x22
  ·
   obtain ⟨rfl, hD⟩ := hD
   obtain ⟨H62, S63, i64, k67, k68⟩ := hD
   replace hp := el_go hp
   refine FW.seq (FW.region ?_)
   refine FL.v (E.move k68) ?_
   obtain ⟨r69, hr70, hp⟩ := bnd hp
   refine FL.call rfl rfl rfl (E.call Tryz.call161 (A2 rfl rfl)) (w_slices_Grow_string_string S63.sl s22 hr70) ?_
   rintro e w72 ⟨H71, v75, n76, cs77, rfl, r74, els78⟩
   refine ⟨_, rfl, ?_⟩
   have els78 := els78.mono (up_le S63.size)
   have S73 := S63.join (l' := [.row 9 1 v75 n76 cs77]) r74 rfl
   refine FL.v (E.assign (v := v75) rfl) ?_
   refine FL.nil (FW.seq (FW.seq (FW.region ?_)))
   refine FL.v (E.move k67) ?_
   refine FL.v (E.lenP te181 rfl p0) ?_
   refine FL.v (E.move (v := Value.int .i64 0) rfl) ?_
   refine FL.nil ?_
   obtain ⟨q80, hq, hp⟩ := bndR hp
   refine FW.block ?_
   refine FW.mono (FW.forL (S := (List ByteArray)) (X := Empty) (fun (i80 : Nat) (s80 : (List ByteArray)) f w => ∃ H : GH, ∃ v81 : Value, ∃ n82 : Nat, ∃ cs83 : List Value, St Ha wa H w [.row 9 1 v81 n82 cs83] ∧ Inc H71 H ∧ Els (up wa.heap.size H) eS 1 cs83 s80 ∧ f 27 = Value.int .i64 ((i80 : Nat) : Int) ∧ f 6 = v81 ∧ f 25 = v0 ∧ f 26 = Value.int .i64 (len a0)) (fun (q : Rs (List ByteArray) Empty) e f w => match q with | .go s80 => e = Exit.exit 2 ∧ (∃ H : GH, ∃ v81 : Value, ∃ n82 : Nat, ∃ cs83 : List Value, St Ha wa H w [.row 9 1 v81 n82 cs83] ∧ Inc H71 H ∧ Els (up wa.heap.size H) eS 1 cs83 s80 ∧ f 6 = v81) | .rt x => x.elim) hq ⟨_, _, _, _, S73, (Inc.rfl _), els78, rfl, rfl, rfl, rfl⟩ ?_ ?_) ?_
   ·
    clear hp hq
    rintro i80 y79 s80 f116 w115 ⟨H112, v81, n82, cs83, S113, i114, els84, k117, k118, k119, k120⟩ hx80 o139 hp
    refine FW.seq (FW.region ?_)
    refine FL.v (E.lssT k117 k120 (lss_len hx80)) ?_
    refine FL.nil (FW.seq ?_)
    refine FW.condT rfl rfl ?_
    refine FW.skip (FW.seq (FW.block (FW.seq (FW.region ?_))))
    obtain ⟨p121, cs122, pt123, l124, at125, rel126⟩ := p0.at (ix_nat hx80)
    obtain ⟨v127, rfl, h128⟩ := eL_open rel126
    refine FL.v (E.indexAddr te181 k119 k117 pt123) ?_
    refine FL.v (E.load rfl (run_load0 Tryz.isAgg22 ((at125.mono ((i64.tr r74.run.inc).tr i114)).now S113.sl) rfl)) ?_
    refine FL.v (E.assign (v := v127) rfl) ?_
    refine FL.nil (FW.region ?_)
    refine FL.v (E.move k118) ?_
    refine FL.v (E.move (v := v127) rfl) ?_
    obtain ⟨xs129, hz130, hp⟩ := bnd hp
    obtain ⟨v131, w134, n132, cs133, run135, S136, els137⟩ := S113.appendP (P := Tryz.prog) (Inc.rfl _) te22 (i := 0) rfl (els84.mono upI) (h128.mono ((i64.tr r74.run.inc).tr i114)) hz130
    have S136 : St Ha wa H112 w134 [.row 9 1 v131 n132 cs133] := S136
    have els137 : Els (up wa.heap.size H112) eS 1 cs133 xs129 := els137.any (fun _ _ _ _ h => h)
    refine FL.v (E.append rfl rfl run135) ?_
    refine FL.v (E.assign (v := v131) rfl) ?_
    refine FL.nil (FW.region ?_)
    refine FL.v (E.add k117 rfl) ?_
    refine FL.v (E.move (v := Value.int .i64 (wr (((i80 : Nat) : Int) + 1))) rfl) ?_
    refine FL.nil ?_
    obtain rfl := Option.some.inj hp
    exact ⟨rfl, ⟨_, _, _, _, S136, i114, els137, (nat_succ rfl (lt_of_get hx80) (p0.mono ((i64.tr r74.run.inc).tr i114)).le), rfl, k119, k120⟩⟩
   ·
    clear hp hq
    rintro s80 f150 w149 ⟨H146, v81, n82, cs83, S147, i148, els84, k151, k152, k153, k154⟩
    refine FW.seq (FW.region ?_)
    refine FL.v (E.lss k151 k154) ?_
    refine FL.nil (FW.seq ?_)
    refine FW.condF rfl dlt_len ?_
    refine FW.exit ?_
    exact ⟨nofun, rfl, ⟨_, _, _, _, S147, i148, els84, k152⟩⟩
   ·
    clear hq
    intro e f144 w143 hD
    rcases q80 with s80 | x80
    ·
     obtain ⟨rfl, hD⟩ := hD
     obtain ⟨H140, v81, n82, cs83, S141, i142, els84, k145⟩ := hD
     replace hp := el_go hp
     refine FW.seq (FW.region ?_)
     refine FL.v (E.move k145) ?_
     refine FL.v (E.assign (v := v81) rfl) ?_
     refine FL.nil ?_
     refine FW.ret ?_
     obtain rfl := Option.some.inj hp
     exact ⟨.inr rfl, res1 rfl rfl ⟨_, _, _, _, rfl, S141, els84⟩⟩
    ·
     exact x80.elim
  ·
   exact x22.elim

@[reducible] def p_slices_SortFunc_string_string (H0 : GH) (w0 : World) (Ha : GH) (L : List MO) (v0 : Value) (n0 : Nat) (r : (List ByteArray)) : Ending → World → Prop :=
 fun e w' => ∃ H' : GH, ∃ c0k : List Value, e = .returned (Value.tuple #[]) ∧ (St H0 w0 H' w' (.row 9 1 v0 n0 c0k :: L) ∧ Inc Ha H') ∧ Els (up w0.heap.size H') eS 1 c0k r
theorem w_slices_SortFunc_string_string {H0 Ha : GH} {w0 wa : World} {L : List MO} {v0 : Value} {n0 : Nat} {k0 : List Value} (S0 : St H0 w0 Ha wa (.row 9 1 v0 n0 k0 :: L)) (a0 : List ByteArray) (p0 : Els (up w0.heap.size Ha) eS 1 k0 a0) (v1 : Value) (a1 : ByteArray → ByteArray → Option Int) (p1 : Fn_S_S_to_I Tryz.prog Ha v1 a1) {r : (List ByteArray)} (hp : (PF.slices_SortFunc_string_string a0 a1) = some r) :
  Calls Tryz.prog 117 #[v0, v1] wa (p_slices_SortFunc_string_string H0 w0 Ha L v0 n0 r) := by
 refine (St.sortF (l := .row 9 1 v0 n0 k0 :: L) (i := 0) upI S0 rfl p0 (fun H2 w2 hi hs2 c x hc d y hd r hr => by cases eS_open hc; cases eS_open hd; exact p1 H2 w2 hi hs2 x y r hr) (fun p cap fv w => AnyF.slices_SortFunc_none (P := Tryz.prog) (ρ := Tryz.sort117_ren) { Tryz.sort117 with } p cap fv w) (fun α _ enc h1 cf hO g cb blk off cap d w eg hc hH hb hs => Any.slices_SortFunc Tryz.sort117 enc h1 cf hO g cb blk off cap d w eg hc hH hb hs) hp).mono ?_
 rintro e w' ⟨rfl, c', h1, h2, hq⟩
 exact ⟨_, _, rfl, ⟨h1, Inc.rfl _⟩, h2⟩

@[reducible] def p_slices_Compact_string_string (H0 : GH) (w0 : World) (Ha : GH) (L : List MO) (r : (List ByteArray)) : Ending → World → Prop :=
 fun e w' => ∃ H' : GH, ∃ v0r : Value, ∃ n0r : Nat, ∃ c0r : List Value, e = .returned (v0r) ∧ (St H0 w0 H' w' (.row 9 1 v0r n0r c0r :: L) ∧ Inc Ha H') ∧ Els (up w0.heap.size H') eS 1 c0r r
theorem w_slices_Compact_string_string {H0 Ha : GH} {w0 wa : World} {L : List MO} {v0 : Value} {n0 : Nat} {k0 : List Value} (S0 : St H0 w0 Ha wa (.row 9 1 v0 n0 k0 :: L)) (a0 : List ByteArray) (p0 : Els (up w0.heap.size Ha) eS 1 k0 a0) {r : (List ByteArray)} (hp : (PF.slices_Compact_string_string a0) = some r) :
  Calls Tryz.prog 119 #[v0] wa (p_slices_Compact_string_string H0 w0 Ha L r) := by
 cases hp
 refine (St.compactF (l := .row 9 1 v0 n0 k0 :: L) (i := 0) S0 rfl p0 (enc := Value.string) (fun _ => rfl) (fun _ _ _ h => by cases eS_open h; rfl) (fun _ _ => rfl) ByteArray.empty (fun w => compact_none Tryz.comp119 w) (fun blk off cap d w hH hs hc => AnyE.slices_Compact Tryz.comp119 Value.string (fun _ => rfl) (EqlAt.stringD _ _) (NeqAt.stringD _ _) ByteArray.empty (fun w => Tryz.zeroValue9 w) blk off cap d w hH hs hc)).mono ?_
 rintro e w' ⟨v', n', c', rfl, h1, h2⟩
 exact ⟨_, _, _, _, rfl, ⟨h1, Inc.rfl _⟩, h2⟩

@[reducible] def p_impl_with (Ha : GH) (wa : World) (r : (List ByteArray)) : Ending → World → Prop :=
 fun e w' => ∃ H' : GH, ∃ v0 : Value, ∃ n0 : Nat, ∃ c0 : List Value, e = .returned (v0) ∧ St Ha wa H' w' [.row 9 1 v0 n0 c0] ∧ Els (up wa.heap.size H') eS 1 c0 r
theorem w_impl_with {Ha : GH} {wa : World} (hs : Sl Ha wa) (v0 : Value) (a0 : List ByteArray) (p0 : RSl Ha eS 1 v0 a0) (v1 : Value) (a1 : List ByteArray) (p1 : RSl Ha eS 1 v1 a1) {r : (List ByteArray)} (hp : (PF.impl_with a0 a1) = some r) :
  Calls Tryz.prog 68 #[v0, v1] wa (p_impl_with Ha wa r) := by
 unfold PF.impl_with at hp
 have S0 := St.init hs
 refine calls_go (N := 14) (args := [v0, v1]) Tryz.func68 rfl rfl rfl ?_
 refine FW.seq (FW.region ?_)
 refine FL.v (E.assign (v := Value.slice none 0 0) rfl) ?_
 refine FL.nil (FW.seq (FW.region ?_))
 refine FL.v (E.move (v := v0) rfl) ?_
 refine FL.v (E.move (v := v1) rfl) ?_
 obtain ⟨v21, w22, run23, S24⟩ := S0.buildSlice (P := Tryz.prog) te181 [v0, v1] (parts := #[(0, v0), (1, v1)]) (cells := [v0, v1]) rfl (szs_cons (cells_size p0.cells) (szs_cons (cells_size p1.cells) szs_nil)) (fc_cons p0.cells (fc_cons p1.cells fc_nil)) (ones_cons p0.one (ones_cons p1.one ones_nil)) (Nat.le_of_ble_eq_true rfl)
 have els25 : Els Ha (eL eS 1) 1 [v0, v1] [a0, a1] := (Els.snoc (H := Ha) (E := (eL eS 1)) (k := 1) (c := [v1]) (x := a1) (Els.snoc (H := Ha) (E := (eL eS 1)) (k := 1) (c := [v0]) (x := a0) Els.nil rfl ⟨_, rfl, p0⟩) rfl ⟨_, rfl, p1⟩)
 refine FL.v (E.buildSlice (B2 rfl rfl) run23) ?_
 obtain ⟨H26, S27, i28, h29⟩ := S24.sealRow (i := 0) (l' := []) rfl els25 (by decide) rfl
 obtain ⟨r31, hr32, hp⟩ := bnd hp
 refine FL.call rfl rfl rfl (E.call Tryz.call116 (A1 rfl)) (w_slices_Concat_string_string S27.sl v21 [a0, a1] h29 hr32) ?_
 rintro e w34 ⟨H33, v39, n40, cs41, rfl, r36, els42⟩
 refine ⟨_, rfl, ?_⟩
 obtain ⟨H37, r36, hU38⟩ := St.lendX i28 S24.sl r36
 have els42 := els42.mono (hU38.tr (up_le S24.size))
 have S35 := S24.join (l' := [.row 9 1 v39 n40 cs41, .row 22 1 v21 2 [v0, v1]]) r36 rfl
 refine FL.v (E.assign (v := v39) rfl) ?_
 refine FL.nil (FW.seq (FW.region ?_))
 refine FL.v (E.move (v := v39) rfl) ?_
 obtain ⟨r43, hr44, hp⟩ := bnd hp
 refine FL.call rfl rfl rfl (E.call Tryz.call117 (A2 rfl rfl)) (w_slices_SortFunc_string_string (L := [.row 22 1 v21 2 [v0, v1]]) S35 r31 els42 (Value.func (.func 118) #[] #[]) (fun x0 x1 => PF.impl_compareFormulas x0 x1) (fun H2 w2 hi2 hs2 x0 x1 r hr => ⟨118, #[], rfl, Tryz.call118, w_impl_compareFormulas hs2 x0 x1  hr⟩) hr44) ?_
 rintro e w46 ⟨H45, cs49, rfl, ⟨S47, i48⟩, els50⟩
 refine ⟨_, rfl, ?_⟩
 have S47 : St Ha wa H45 w46 [.row 9 1 v39 n40 cs49, .row 22 1 v21 2 [v0, v1]] := S47
 refine FL.nil (FW.seq (FW.region ?_))
 refine FL.v (E.move (v := v39) rfl) ?_
 obtain ⟨r51, hr52, hp⟩ := bnd hp
 refine FL.call rfl rfl rfl (E.call Tryz.call119 (A1 rfl)) (w_slices_Compact_string_string (L := [.row 22 1 v21 2 [v0, v1]]) S47 r43 els50 hr52) ?_
 rintro e w54 ⟨H53, v57, n58, cs59, rfl, ⟨S55, i56⟩, els60⟩
 refine ⟨_, rfl, ?_⟩
 have S55 : St Ha wa H53 w54 [.row 9 1 v57 n58 cs59, .row 22 1 v21 2 [v0, v1]] := S55
 refine FL.v (E.assign (v := v57) rfl) ?_
 refine FL.nil ?_
 refine FW.ret ?_
 obtain rfl := Option.some.inj hp
 exact ⟨.inr rfl, res1 rfl rfl ⟨_, _, _, _, rfl, (S55.sel [0] (by decide) rfl), els60⟩⟩

theorem w_impl_seqCorrect_2 {Ha : GH} {wa : World} (hs : Sl Ha wa) (a0 : Sequent) (v0_0 : Value) (p0_0 : RSl Ha eS 1 v0_0 a0.left) (v0_1 : Value) (p0_1 : RSl Ha eS 1 v0_1 a0.right) :
  Calls Tryz.prog 195 #[Value.agg #[v0_0, v0_1]] wa (fun e w' => ∃ H' : GH, ∃ q0_0 : Addr, e = .returned (Value.func (.func 196) #[] #[Value.pointer (some q0_0)]) ∧ Run wa.heap.size Ha wa H' w' ∧ CAt H' q0_0 [v0_0, v0_1]) := by
 obtain ⟨r, hp⟩ : ∃ r, (PF.impl_seqCorrect_2 a0) = r := ⟨_, rfl⟩
 unfold PF.impl_seqCorrect_2 at hp
 have S0 := St.init hs
 refine calls_go (N := 4) (args := [Value.agg #[v0_0, v0_1]]) Tryz.func195 rfl rfl rfl ?_
 refine FW.seq (FW.region ?_)
 obtain ⟨b21, w22, run23, S24⟩ := S0.box (P := Tryz.prog) 68 [v0_0, v0_1] (v := Value.agg #[v0_0, v0_1]) rfl (ones_cons p0_0.one (ones_cons p0_1.one ones_nil))
 refine FL.v (E.box rfl run23) ?_
 obtain ⟨H25, S26, i27, at28⟩ := S24.sealBox (i := 0) (l' := []) rfl rfl
 refine FL.v (E.assign (v := Value.nilFunc) rfl) ?_
 refine FL.nil (FW.seq (FW.region ?_))
 refine FL.v (E.makeFunc A0 (A1 rfl)) ?_
 refine FL.v (E.assign (v := Value.func (.func 196) #[] #[Value.pointer (some ⟨b21, 0, none⟩)]) rfl) ?_
 refine FL.nil ?_
 refine FW.ret ?_
 obtain rfl := hp
 exact ⟨.inr rfl, res1 (R := fun e w' => ∃ H' : GH, ∃ q0_0 : Addr, e = .returned (Value.func (.func 196) #[] #[Value.pointer (some q0_0)]) ∧ Run wa.heap.size Ha wa H' w' ∧ CAt H' q0_0 [v0_0, v0_1]) rfl rfl ⟨_, _, rfl, S26.run, at28⟩⟩

set_option maxHeartbeats 4000000 in
theorem w_slices_Equal_string_string {Ha : GH} {wa : World} (hs : Sl Ha wa) (v0 : Value) (a0 : List ByteArray) (p0 : RSl Ha eS 1 v0 a0) (v1 : Value) (a1 : List ByteArray) (p1 : RSl Ha eS 1 v1 a1) {r : Bool} (hp : (PF.slices_Equal_string_string a0 a1) = some r) :
  Calls Tryz.prog 67 #[v0, v1] wa (Sc Ha wa (Value.bool r)) := by
 unfold PF.slices_Equal_string_string at hp
 have S0 := St.init hs
 refine calls_go (N := 26) (args := [v0, v1]) Tryz.func67 rfl rfl rfl ?_
 refine FW.seq (FW.region ?_)
 refine FL.v (E.assign (v := Value.bool false) rfl) ?_
 refine FL.nil (FW.seq (FW.seq (FW.region ?_)))
 refine FL.v (E.move (v := v0) rfl) ?_
 refine FL.v (E.lenP te22 rfl p0) ?_
 refine FL.v (E.move (v := v1) rfl) ?_
 refine FL.v (E.lenP te22 rfl p1) ?_
 refine FL.v (E.neq rfl rfl) ?_
 refine FL.nil ?_
 rcases ifB hp with ⟨c21, hp⟩ | ⟨c21, hp⟩
 ·
  refine FW.condT rfl c21 ?_
  refine FW.seq (FW.region ?_)
  refine FL.v (E.assign (v := Value.bool false) rfl) ?_
  refine FL.nil ?_
  refine FW.ret ?_
  obtain rfl := Option.some.inj hp
  exact ⟨.inr rfl, res1 rfl rfl ⟨rfl, S0.back⟩⟩
 ·
  refine FW.condF rfl c21 ?_
  refine FW.skip (FW.seq (FW.seq (FW.region ?_)))
  refine FL.v (E.move (v := v0) rfl) ?_
  refine FL.v (E.lenP te22 rfl p0) ?_
  refine FL.v (E.move (v := Value.int .i64 0) rfl) ?_
  refine FL.nil ?_
  obtain ⟨q23, hq, hp⟩ := bndR hp
  refine FW.block ?_
  refine FW.mono (FW.forL (S := Unit) (X := Bool) (fun (i23 : Nat) (s23 : Unit) f w => ∃ H : GH, St Ha wa H w [] ∧ Inc Ha H ∧ f 13 = Value.int .i64 ((i23 : Nat) : Int) ∧ f 0 = v0 ∧ f 1 = v1 ∧ f 12 = Value.int .i64 (len a0)) (fun q e f w => match q with | .go s23 => e = Exit.exit 0 ∧ (∃ H : GH, St Ha wa H w [] ∧ Inc Ha H) | .rt x => ((e = Exit.ret) ∧ (fun e f w => (e = Exit.normal ∨ e = Exit.ret) ∧ ∀ a, Fr (δ := []) 26 a f → ∃ v, (results Tryz.f67 a.tmps).run Tryz.prog w = .ok v w ∧ (Sc Ha wa (Value.bool x)) (.returned v) w) e f w)) hq ⟨_, S0, (Inc.rfl _), rfl, rfl, rfl, rfl⟩ ?_ ?_) ?_
  ·
   clear hp hq
   rintro i23 y22 s23 f56 w55 ⟨H52, S53, i54, k57, k58, k59, k60⟩ hx23 o80 hp
   refine FW.seq (FW.region ?_)
   refine FL.v (E.lssT k57 k60 (lss_len hx23)) ?_
   refine FL.nil (FW.seq ?_)
   refine FW.condT rfl rfl ?_
   refine FW.skip (FW.seq (FW.block (FW.seq (FW.region ?_))))
   refine FL.v (E.move k57) ?_
   refine FL.v (E.assign (v := Value.int .i64 ((i23 : Nat) : Int)) rfl) ?_
   refine FL.nil (FW.seq ?_)
   refine FW.draw (fun w' => Run w55.heap.size H52 w55 H52 w') (by kernel_rfl) (by kernel_rfl) (run_drew S53.sl) ?_
   refine FD.val rfl rfl rfl (fun w' hw' => (E.move k58)) ?_
   refine FD.val rfl rfl rfl (fun w' hw' => (E.move (v := Value.int .i64 ((i23 : Nat) : Int)) rfl)) ?_
   obtain ⟨p62, cs63, pt64, l65, at66, rel67⟩ := p0.at (ix_nat hx23)
   obtain rfl := eS_open rel67
   refine FD.val rfl rfl rfl (fun w' hw' => (E.indexAddr te22 rfl rfl pt64)) ?_
   refine FD.val rfl rfl rfl (fun w' hw' => (E.load rfl (run_load0 Tryz.isAgg9 ((at66.mono i54).now (S53.call hw').sl) rfl))) ?_
   refine FD.val rfl rfl rfl (fun w' hw' => (E.move k59)) ?_
   refine FD.val rfl rfl rfl (fun w' hw' => (E.move (v := Value.int .i64 ((i23 : Nat) : Int)) rfl)) ?_
   obtain ⟨x74, hx75, hp⟩ := bnd hp
   obtain ⟨p68, cs69, pt70, l71, at72, rel73⟩ := p1.at hx75
   obtain rfl := eS_open rel73
   refine FD.val rfl rfl rfl (fun w' hw' => (E.indexAddr te22 rfl rfl pt70)) ?_
   refine FD.val rfl rfl rfl (fun w' hw' => (E.load rfl (run_load0 Tryz.isAgg9 ((at72.mono i54).now (S53.call hw').sl) rfl))) ?_
   refine FD.val rfl rfl rfl (fun w' hw' => (E.neqS rfl rfl)) ?_
   refine FD.nil ?_
   intro w76 r78
   have S77 := S53.call r78
   rcases ifB hp with ⟨c79, hp⟩ | ⟨c79, hp⟩
   ·
    refine FW.condT rfl c79 ?_
    refine FW.seq (FW.region ?_)
    refine FL.v (E.assign (v := Value.bool false) rfl) ?_
    refine FL.nil ?_
    refine FW.ret ?_
    obtain rfl := Option.some.inj hp
    exact ⟨nofun, rfl, ⟨.inr rfl, res1 rfl rfl ⟨rfl, S77.back⟩⟩⟩
   ·
    refine FW.condF rfl c79 ?_
    refine FW.skip (FW.region ?_)
    refine FL.v (E.add k57 rfl) ?_
    refine FL.v (E.move (v := Value.int .i64 (wr (((i23 : Nat) : Int) + 1))) rfl) ?_
    refine FL.nil ?_
    obtain rfl := Option.some.inj hp
    exact ⟨rfl, ⟨_, S77, i54, (nat_succ rfl (lt_of_get hx23) (p0.mono i54).le), k58, k59, k60⟩⟩
  ·
   clear hp hq
   rintro s23 f90 w89 ⟨H86, S87, i88, k91, k92, k93, k94⟩
   refine FW.seq (FW.region ?_)
   refine FL.v (E.lss k91 k94) ?_
   refine FL.nil (FW.seq ?_)
   refine FW.condF rfl dlt_len ?_
   refine FW.exit ?_
   exact ⟨nofun, rfl, ⟨_, S87, i88⟩⟩
  ·
   clear hq
   intro e f85 w84 hD
   rcases q23 with s23 | x23
   ·
    obtain ⟨rfl, hD⟩ := hD
    obtain ⟨H81, S82, i83⟩ := hD
    replace hp := el_go hp
    refine FW.seq (FW.region ?_)
    refine FL.v (E.assign (v := Value.bool true) rfl) ?_
    refine FL.nil ?_
    refine FW.ret ?_
    obtain rfl := Option.some.inj hp
    exact ⟨.inr rfl, res1 rfl rfl ⟨rfl, S82.back⟩⟩
   ·
    obtain ⟨he, hL⟩ := hD
    replace hp := el_rt hp
    obtain rfl := Option.some.inj hp
    subst he
    exact hL

theorem w_impl_sameSequent {Ha : GH} {wa : World} (hs : Sl Ha wa) (a0 : Sequent) (v0_0 : Value) (p0_0 : RSl Ha eS 1 v0_0 a0.left) (v0_1 : Value) (p0_1 : RSl Ha eS 1 v0_1 a0.right) (a1 : Sequent) (v1_0 : Value) (p1_0 : RSl Ha eS 1 v1_0 a1.left) (v1_1 : Value) (p1_1 : RSl Ha eS 1 v1_1 a1.right) {r : Bool} (hp : (PF.impl_sameSequent a0 a1) = some r) :
  Calls Tryz.prog 197 #[Value.agg #[v0_0, v0_1], Value.agg #[v1_0, v1_1]] wa (Sc Ha wa (Value.bool r)) := by
 unfold PF.impl_sameSequent at hp
 have S0 := St.init hs
 refine calls_go (N := 17) (args := [Value.agg #[v0_0, v0_1], Value.agg #[v1_0, v1_1]]) Tryz.func197 rfl rfl rfl ?_
 refine FW.seq (FW.region ?_)
 obtain ⟨b21, w22, run23, S24⟩ := S0.box (P := Tryz.prog) 68 [v0_0, v0_1] (v := Value.agg #[v0_0, v0_1]) rfl (ones_cons p0_0.one (ones_cons p0_1.one ones_nil))
 refine FL.v (E.box rfl run23) ?_
 obtain ⟨H25, S26, i27, at28⟩ := S24.sealBox (i := 0) (l' := []) rfl rfl
 obtain ⟨b29, w30, run31, S32⟩ := S26.box (P := Tryz.prog) 68 [v1_0, v1_1] (v := Value.agg #[v1_0, v1_1]) rfl (ones_cons p1_0.one (ones_cons p1_1.one ones_nil))
 refine FL.v (E.box rfl run31) ?_
 obtain ⟨H33, S34, i35, at36⟩ := S32.sealBox (i := 0) (l' := []) rfl rfl
 refine FL.v (E.assign (v := Value.bool false) rfl) ?_
 refine FL.nil (FW.seq (FW.region ?_))
 refine FL.v (E.fieldAddr tf68_0 rfl) ?_
 refine FL.v (E.load rfl (run_load1 Tryz.isAgg22 ((at28.mono i35).now S34.sl) rfl)) ?_
 refine FL.v (E.fieldAddr tf68_0 rfl) ?_
 refine FL.v (E.load rfl (run_load1 Tryz.isAgg22 (at36.now S34.sl) rfl)) ?_
 obtain ⟨r37, hr38, hp⟩ := bnd hp
 refine FL.call rfl rfl rfl (E.call Tryz.call67 (A2 rfl rfl)) (w_slices_Equal_string_string S34.sl v0_0 a0.left (p0_0.mono (i27.tr i35)) v1_0 a1.left (p1_0.mono (i27.tr i35)) hr38) ?_
 rintro e w39 ⟨rfl, r40⟩
 refine ⟨_, rfl, ?_⟩
 have S41 := S34.call r40
 refine FL.v (E.move (v := Value.bool r37) rfl) ?_
 obtain ⟨t47, hqt47, hp⟩ := bnd hp
 refine FL.cut 6 (fun f w => ∃ H : GH, St Ha wa H w [] ∧ Inc H33 H ∧ f 16 = Value.bool t47) ?_ ?_
 ·
  clear hp; have hp := hqt47; clear hqt47
  rcases ifB hp with ⟨c53, hp⟩ | ⟨c53, hp⟩
  ·
   refine FL.val (wF_yes rfl rfl rfl c53) rfl rfl (E.fieldAddr tf68_1 rfl) ?_
   refine FL.val (wF_yes rfl rfl rfl c53) rfl rfl (E.load rfl (run_load1 Tryz.isAgg22 ((at28.mono i35).now S41.sl) rfl)) ?_
   refine FL.val (wF_yes rfl rfl rfl c53) rfl rfl (E.fieldAddr tf68_1 rfl) ?_
   refine FL.val (wF_yes rfl rfl rfl c53) rfl rfl (E.load rfl (run_load1 Tryz.isAgg22 (at36.now S41.sl) rfl)) ?_
   obtain ⟨r54, hr55, hp⟩ := bnd hp
   refine FL.call (wF_yes rfl rfl rfl c53) rfl rfl (E.call Tryz.call67 (A2 rfl rfl)) (w_slices_Equal_string_string S41.sl v0_1 a0.right (p0_1.mono (i27.tr i35)) v1_1 a1.right (p1_1.mono (i27.tr i35)) hr55) ?_
   rintro e w56 ⟨rfl, r57⟩
   refine ⟨_, rfl, ?_⟩
   have S58 := S41.call r57
   obtain rfl := Option.some.inj hp
   refine FL.v (E.pickT rfl c53 rfl) ?_
   exact FL.nil ⟨rfl, _, S58, (Inc.rfl _), rfl⟩
  ·
   refine FL.skip (wF_no rfl rfl rfl c53) rfl ?_
   refine FL.skip (wF_no rfl rfl rfl c53) rfl ?_
   refine FL.skip (wF_no rfl rfl rfl c53) rfl ?_
   refine FL.skip (wF_no rfl rfl rfl c53) rfl ?_
   refine FL.skip (wF_no rfl rfl rfl c53) rfl ?_
   obtain rfl := Option.some.inj hp
   refine FL.v (E.pickF rfl c53 rfl) ?_
   exact FL.nil ⟨rfl, _, S41, (Inc.rfl _), rfl⟩
 rintro f52 w51 ⟨H48, S49, i50, k59⟩
 refine FL.v (E.assign k59) ?_
 refine FL.nil ?_
 refine FW.ret ?_
 obtain rfl := Option.some.inj hp
 exact ⟨.inr rfl, res1 rfl rfl ⟨rfl, S49.back⟩⟩

theorem w_impl_seqCorrect_2_1 {Ha : GH} {wa : World} (hs : Sl Ha wa) (a0 : Sequent) (v0_0 : Value) (p0_0 : RSl Ha eS 1 v0_0 a0.left) (v0_1 : Value) (p0_1 : RSl Ha eS 1 v0_1 a0.right) (q0 : Addr) (b0 : Sequent) (u0_0 : Value) (g0_0 : RSl Ha eS 1 u0_0 b0.left) (u0_1 : Value) (g0_1 : RSl Ha eS 1 u0_1 b0.right) (c0 : CAt Ha q0 [u0_0, u0_1]) {r : Bool} (hp : (PF.impl_seqCorrect_2_1 a0 b0) = some r) :
  Calls Tryz.prog 196 #[Value.agg #[v0_0, v0_1], Value.pointer (some q0)] wa (Sc Ha wa (Value.bool r)) := by
 unfold PF.impl_seqCorrect_2_1 at hp
 have S0 := St.init hs
 refine calls_go (N := 7) (args := [Value.agg #[v0_0, v0_1], Value.pointer (some q0)]) Tryz.func196 rfl rfl rfl ?_
 refine FW.seq (FW.region ?_)
 obtain ⟨b21, w22, run23, S24⟩ := S0.box (P := Tryz.prog) 68 [v0_0, v0_1] (v := Value.agg #[v0_0, v0_1]) rfl (ones_cons p0_0.one (ones_cons p0_1.one ones_nil))
 refine FL.v (E.box rfl run23) ?_
 obtain ⟨H25, S26, i27, at28⟩ := S24.sealBox (i := 0) (l' := []) rfl rfl
 refine FL.v (E.assign (v := Value.bool false) rfl) ?_
 refine FL.nil (FW.seq (FW.region ?_))
 refine FL.v (E.load rfl (run_loadA Tryz.isAgg68 Tryz.sizeOf68 ((c0.mono i27).now S26.sl) rfl)) ?_
 refine FL.v (E.load rfl (run_loadA Tryz.isAgg68 Tryz.sizeOf68 (at28.now S26.sl) rfl)) ?_
 obtain ⟨r29, hr30, hp⟩ := bnd hp
 refine FL.call rfl rfl rfl (E.call Tryz.call197 (A2 rfl rfl)) (w_impl_sameSequent S26.sl b0 u0_0 (g0_0.mono i27) u0_1 (g0_1.mono i27) a0 v0_0 (p0_0.mono i27) v0_1 (p0_1.mono i27) hr30) ?_
 rintro e w31 ⟨rfl, r32⟩
 refine ⟨_, rfl, ?_⟩
 have S33 := S26.call r32
 refine FL.v (E.assign (v := Value.bool r29) rfl) ?_
 refine FL.nil ?_
 refine FW.ret ?_
 obtain rfl := Option.some.inj hp
 exact ⟨.inr rfl, res1 rfl rfl ⟨rfl, S33.back⟩⟩

theorem w_impl_ruleFor {Ha : GH} {wa : World} (hs : Sl Ha wa) (a0 : Int) (a1 : Bool) :
  Calls Tryz.prog 191 #[Value.int .u8 a0, Value.bool a1] wa (Sc Ha wa (Value.int .i64 (PF.impl_ruleFor a0 a1))) := by
 obtain ⟨r, hp⟩ : ∃ r, (PF.impl_ruleFor a0 a1) = r := ⟨_, rfl⟩
 rw [hp]
 unfold PF.impl_ruleFor at hp
 have S0 := St.init hs
 refine calls_go (N := 24) (args := [Value.int .u8 a0, Value.bool a1]) Tryz.func191 rfl rfl rfl ?_
 refine FW.seq (FW.region ?_)
 refine FL.v (E.assign (v := Value.int .i64 0) rfl) ?_
 refine FL.nil (FW.seq (FW.region ?_))
 obtain ⟨b21, o22, w23, run24, S25, hm26⟩ := S0.makeMap (P := Tryz.prog) (K := Int) (V := Int) 231 (Value.int .u8) (Value.int .i64)
 refine FL.v (E.makeMap run24) ?_
 obtain ⟨o27, w28, run29, S30, hm31⟩ := S25.mapPut (P := Tryz.prog) (i := 0) rfl hm26 Tryz.runUnderlying231 (KeyNow.intk Tryz.runUnderlying5) 126 2
 have S30 : St Ha wa Ha w28 [.raw b21 o27] := S30
 refine FL.act rfl rfl (E.insert rfl rfl rfl run29) ?_
 obtain ⟨o32, w33, run34, S35, hm36⟩ := S30.mapPut (P := Tryz.prog) (i := 0) rfl hm31 Tryz.runUnderlying231 (KeyNow.intk Tryz.runUnderlying5) 38 4
 have S35 : St Ha wa Ha w33 [.raw b21 o32] := S35
 refine FL.act rfl rfl (E.insert rfl rfl rfl run34) ?_
 obtain ⟨o37, w38, run39, S40, hm41⟩ := S35.mapPut (P := Tryz.prog) (i := 0) rfl hm36 Tryz.runUnderlying231 (KeyNow.intk Tryz.runUnderlying5) 124 6
 have S40 : St Ha wa Ha w38 [.raw b21 o37] := S40
 refine FL.act rfl rfl (E.insert rfl rfl rfl run39) ?_
 obtain ⟨o42, w43, run44, S45, hm46⟩ := S40.mapPut (P := Tryz.prog) (i := 0) rfl hm41 Tryz.runUnderlying231 (KeyNow.intk Tryz.runUnderlying5) 62 8
 have S45 : St Ha wa Ha w43 [.raw b21 o42] := S45
 refine FL.act rfl rfl (E.insert rfl rfl rfl run44) ?_
 refine FL.v (E.move (v := Value.map (some b21)) rfl) ?_
 refine FL.v (E.assign (v := Value.map (some b21)) rfl) ?_
 refine FL.nil (FW.seq (FW.region ?_))
 refine FL.v (E.move (v := Value.map (some b21)) rfl) ?_
 refine FL.v (E.move (v := Value.int .u8 a0) rfl) ?_
 refine FL.v (E.lookup rfl rfl (S45.mapGetOk (P := Tryz.prog) (i := 0) rfl hm46 Tryz.runUnderlying231 (KeyNow.intk Tryz.runUnderlying5) (z := 0) Tryz.zeroValue3 a0)) ?_
 refine FL.v (E.move (v := Value.tuple #[Value.int .i64 ((mget (mput (mput (mput (mput ([] : List (Int × Int)) 126 2) 38 4) 124 6) 62 8) a0).getD 0), Value.bool ((mget (mput (mput (mput (mput ([] : List (Int × Int)) 126 2) 38 4) 124 6) 62 8) a0).isSome)]) rfl) ?_
 refine FL.v (E.extract (i := 0) rfl rfl) ?_
 refine FL.v (E.extract (i := 1) rfl rfl) ?_
 refine FL.v (E.assign (v := Value.int .i64 ((mget (mput (mput (mput (mput ([] : List (Int × Int)) 126 2) 38 4) 124 6) 62 8) a0).getD 0)) rfl) ?_
 refine FL.v (E.assign (v := Value.bool ((mget (mput (mput (mput (mput ([] : List (Int × Int)) 126 2) 38 4) 124 6) 62 8) a0).isSome)) rfl) ?_
 refine FL.nil (FW.seq (FW.seq (FW.region ?_)))
 refine FL.v (E.move (v := Value.bool ((mget (mput (mput (mput (mput ([] : List (Int × Int)) 126 2) 38 4) 124 6) 62 8) a0).isSome)) rfl) ?_
 refine FL.v (E.move (v := Value.bool ((mget (mput (mput (mput (mput ([] : List (Int × Int)) 126 2) 38 4) 124 6) 62 8) a0).isSome)) rfl) ?_
 refine FL.cut 3 (fun f w => ∃ H : GH, St Ha wa H w [.raw b21 o42] ∧ Inc Ha H ∧ f 6 = Value.int .i64 ((mget (mput (mput (mput (mput ([] : List (Int × Int)) 126 2) 38 4) 124 6) 62 8) a0).getD 0) ∧ f 20 = Value.bool (bif (mget (mput (mput (mput (mput ([] : List (Int × Int)) 126 2) 38 4) 124 6) 62 8) a0).isSome then (!a1) else false)) ?_ ?_
 ·
  rcases bcase ((mget (mput (mput (mput (mput ([] : List (Int × Int)) 126 2) 38 4) 124 6) 62 8) a0).isSome) with c53 | c53
  ·
   refine FL.val (wF_yes rfl rfl rfl c53) rfl rfl (E.move (v := Value.bool a1) rfl) ?_
   refine FL.val (wF_yes rfl rfl rfl c53) rfl rfl (E.not rfl) ?_
   refine FL.v (E.pickT rfl c53 rfl) ?_
   exact FL.nil ⟨rfl, _, S45, (Inc.rfl _), rfl, (congrArg Value.bool (bifT c53).symm)⟩
  ·
   refine FL.skip (wF_no rfl rfl rfl c53) rfl ?_
   refine FL.skip (wF_no rfl rfl rfl c53) rfl ?_
   refine FL.v (E.pickF rfl c53 rfl) ?_
   exact FL.nil ⟨rfl, _, S45, (Inc.rfl _), rfl, (congrArg Value.bool (bifF c53).symm)⟩
 rintro f52 w51 ⟨H48, S49, i50, k54, k55⟩
 refine FL.nil ?_
 rcases ifT hp with ⟨c56, hp⟩ | ⟨c56, hp⟩
 ·
  refine FW.condT k55 c56 ?_
  refine FW.region ?_
  refine FL.v (E.move k54) ?_
  refine FL.v (E.add rfl rfl) ?_
  refine FL.v (E.assign (v := Value.int .i64 (wr (((mget (mput (mput (mput (mput ([] : List (Int × Int)) 126 2) 38 4) 124 6) 62 8) a0).getD 0) + 1))) rfl) ?_
  refine FL.nil (FW.seq (FW.region ?_))
  refine FL.v (E.move (v := Value.int .i64 (wr (((mget (mput (mput (mput (mput ([] : List (Int × Int)) 126 2) 38 4) 124 6) 62 8) a0).getD 0) + 1))) rfl) ?_
  refine FL.v (E.assign (v := Value.int .i64 (wr (((mget (mput (mput (mput (mput ([] : List (Int × Int)) 126 2) 38 4) 124 6) 62 8) a0).getD 0) + 1))) rfl) ?_
  refine FL.nil ?_
  refine FW.ret ?_
  obtain rfl := hp
  exact ⟨.inr rfl, res1 rfl rfl ⟨rfl, S49.back⟩⟩
 ·
  refine FW.condF k55 c56 ?_
  refine FW.skip (FW.seq (FW.region ?_))
  refine FL.v (E.move k54) ?_
  refine FL.v (E.assign (v := Value.int .i64 ((mget (mput (mput (mput (mput ([] : List (Int × Int)) 126 2) 38 4) 124 6) 62 8) a0).getD 0)) rfl) ?_
  refine FL.nil ?_
  refine FW.ret ?_
  obtain rfl := hp
  exact ⟨.inr rfl, res1 rfl rfl ⟨rfl, S49.back⟩⟩

@[reducible] def p_slices_Clone_string_string (Ha : GH) (wa : World) (r : (List ByteArray)) : Ending → World → Prop :=
 fun e w' => ∃ H' : GH, ∃ v0 : Value, ∃ n0 : Nat, ∃ c0 : List Value, e = .returned (v0) ∧ St Ha wa H' w' [.row 9 1 v0 n0 c0] ∧ Els (up wa.heap.size H') eS 1 c0 r
theorem w_slices_Clone_string_string {Ha : GH} {wa : World} (hs : Sl Ha wa) (v0 : Value) (a0 : List ByteArray) (p0 : RSl Ha eS 1 v0 a0) {r : (List ByteArray)} (hp : (PF.slices_Clone_string_string a0) = some r) :
  Calls Tryz.prog 160 #[v0] wa (p_slices_Clone_string_string Ha wa r) := by
 unfold PF.slices_Clone_string_string at hp
 have S0 := St.init hs
 refine calls_go (N := 8) (args := [v0]) Tryz.func160 rfl rfl rfl ?_
 refine FW.seq (FW.region ?_)
 refine FL.v (E.assign (v := Value.slice none 0 0) rfl) ?_
 refine FL.nil (FW.seq (FW.seq (FW.region ?_)))
 refine FL.v (E.move (v := v0) rfl) ?_
 obtain ⟨nb21, run22, hn23⟩ := RSl.nilTest te22 p0
 refine FL.v (run22 _ _ _ _ _ _ _ _ _ _ _ _ rfl rfl) ?_
 refine FL.nil ?_
 rcases bcase nb21 with c24 | c24
 ·
  refine FW.condT (b := nb21) rfl c24 ?_
  rw [hn23 c24, app_nil2] at hp
  refine FW.seq (FW.region ?_)
  refine FL.v (E.assign (v := Value.slice none 0 0) rfl) ?_
  refine FL.nil ?_
  refine FW.ret ?_
  obtain rfl := Option.some.inj hp
  exact ⟨.inr rfl, res1 rfl rfl ⟨_, _, _, _, rfl, (S0.nil 9 1), Els.nil⟩⟩
 ·
  refine FW.condF (b := nb21) rfl c24 ?_
  refine FW.skip (FW.seq (FW.region ?_))
  obtain ⟨v25, w26, run27, S28⟩ := S0.buildSlice (P := Tryz.prog) te22 [] (parts := #[]) (cells := []) rfl szs_nil fc_nil ones_nil (Nat.le_of_ble_eq_true rfl)
  have els29 : Els (up wa.heap.size Ha) eS 1 [] [] := Els.nil
  refine FL.v (E.buildSlice (B0) run27) ?_
  refine FL.v (E.move (v := v0) rfl) ?_
  obtain ⟨xs30, hz31, hp⟩ := bnd hp
  obtain ⟨v32, w35, n33, cs34, run36, S37, els38⟩ := S28.appendP (P := Tryz.prog) (Inc.rfl _) te22 (i := 0) rfl (els29.mono upI) p0 hz31
  have S37 : St Ha wa Ha w35 [.row 9 1 v32 n33 cs34] := S37
  have els38 : Els (up wa.heap.size Ha) eS 1 cs34 xs30 := els38.any (fun _ _ _ _ h => h)
  refine FL.v (E.append rfl rfl run36) ?_
  refine FL.v (E.assign (v := v32) rfl) ?_
  refine FL.nil ?_
  refine FW.ret ?_
  obtain rfl := Option.some.inj hp
  exact ⟨.inr rfl, res1 rfl rfl ⟨_, _, _, _, rfl, S37, els38⟩⟩

@[reducible] def p_slices_DeleteFunc_string_string (H0 : GH) (w0 : World) (Ha : GH) (L : List MO) (r : (List ByteArray)) : Ending → World → Prop :=
 fun e w' => ∃ H' : GH, ∃ v0r : Value, ∃ n0r : Nat, ∃ c0r : List Value, e = .returned (v0r) ∧ (St H0 w0 H' w' (.row 9 1 v0r n0r c0r :: L) ∧ Inc Ha H') ∧ Els (up w0.heap.size H') eS 1 c0r r
set_option maxHeartbeats 4000000 in
theorem w_slices_DeleteFunc_string_string {H0 Ha : GH} {w0 wa : World} {L : List MO} {v0 : Value} {n0 : Nat} {k0 : List Value} (S0 : St H0 w0 Ha wa (.row 9 1 v0 n0 k0 :: L)) (a0 : List ByteArray) (p0 : Els (up w0.heap.size Ha) eS 1 k0 a0) (v1 : Value) (a1 : ByteArray → Option Bool) (p1 : Fn_S_to_B Tryz.prog Ha v1 a1) {r : (List ByteArray)} (hp : (PF.slices_DeleteFunc_string_string a0 a1) = some r) :
  Calls Tryz.prog 168 #[v0, v1] wa (p_slices_DeleteFunc_string_string H0 w0 Ha L r) := by
 unfold PF.slices_DeleteFunc_string_string at hp
 refine calls_go (N := 42) (args := [v0, v1]) Tryz.func168 rfl rfl rfl ?_
 refine FW.seq (FW.region ?_)
 refine FL.v (E.assign (v := Value.slice none 0 0) rfl) ?_
 refine FL.nil (FW.seq (FW.region ?_))
 refine FL.v (E.move (v := v0) rfl) ?_
 refine FL.v (E.move (v := v1) rfl) ?_
 obtain ⟨H21, S22, i23, h24, nv25⟩ := S0.sealRowU (i := 0) (l' := L) rfl p0 (by decide) rfl
 obtain ⟨r26, hr27, hp⟩ := bnd hp
 refine FL.call rfl rfl rfl (E.call Tryz.call212 (A2 rfl rfl)) (w_slices_IndexFunc_string_string S22.sl v0 a0 (h24.mono upI) v1 a1 (p1.mono i23) hr27) ?_
 rintro e w28 ⟨rfl, r29⟩
 refine ⟨_, rfl, ?_⟩
 have r29 := Run.lend i23 S0.sl r29
 have S30 := S0.call r29
 refine FL.v (E.assign (v := Value.int .i64 r26) rfl) ?_
 refine FL.nil (FW.seq (FW.seq (FW.region ?_)))
 refine FL.v (E.move (v := Value.int .i64 r26) rfl) ?_
 refine FL.v (E.eql rfl rfl) ?_
 refine FL.nil ?_
 rcases ifB hp with ⟨c31, hp⟩ | ⟨c31, hp⟩
 ·
  refine FW.condT rfl c31 ?_
  refine FW.seq (FW.region ?_)
  refine FL.v (E.move (v := v0) rfl) ?_
  refine FL.v (E.assign (v := v0) rfl) ?_
  refine FL.nil ?_
  refine FW.ret ?_
  obtain rfl := Option.some.inj hp
  exact ⟨.inr rfl, res1 rfl rfl ⟨_, _, _, _, rfl, ⟨S30, (Inc.rfl _)⟩, p0⟩⟩
 ·
  refine FW.condF rfl c31 ?_
  refine FW.skip (FW.seq (FW.seq (FW.region ?_)))
  refine FL.v (E.move (v := Value.int .i64 r26) rfl) ?_
  refine FL.v (E.add rfl rfl) ?_
  refine FL.v (E.assign (v := Value.int .i64 (wr (r26 + 1))) rfl) ?_
  refine FL.nil ?_
  obtain ⟨q32, hq, hp⟩ := bndR hp
  refine FW.block ?_
  refine FW.mono (FW.iter (S := ((List ByteArray) × Int × Int)) (X := Empty) (fun (s32 : ((List ByteArray) × Int × Int)) f w => ∃ H : GH, ∃ cs78 : List Value, St H0 w0 H w (.row 9 1 v0 n0 cs78 :: L) ∧ Inc Ha H ∧ Els (up w0.heap.size H) eS 1 cs78 s32.1 ∧ f 0 = v0 ∧ f 1 = v1 ∧ f 5 = Value.int .i64 s32.2.1 ∧ f 6 = Value.int .i64 s32.2.2) (fun (q : Rs ((List ByteArray) × Int × Int) Empty) e f w => match q with | .go s32 => e = Exit.exit 0 ∧ (∃ H : GH, ∃ cs78 : List Value, St H0 w0 H w (.row 9 1 v0 n0 cs78 :: L) ∧ Inc Ha H ∧ Els (up w0.heap.size H) eS 1 cs78 s32.1 ∧ f 0 = v0 ∧ f 5 = Value.int .i64 s32.2.1) | .rt x => x.elim) hq ⟨_, _, S30, (Inc.rfl _), p0, rfl, rfl, rfl, rfl⟩ ?_) ?_
  ·
   clear hp hq
   rintro s32 f129 w128 ⟨H125, cs78, S126, i127, els79, k130, k131, k132, k133⟩ o170 hp
   refine FW.seq (FW.seq (FW.region ?_))
   refine FL.v (E.move k133) ?_
   refine FL.v (E.move k130) ?_
   refine FL.v (E.lenO te22 rfl S126 (i := 0) rfl els79 (by decide)) ?_
   refine FL.v (E.lss rfl rfl) ?_
   refine FL.nil ?_
   rcases ifB hp with ⟨c134, hp⟩ | ⟨c134, hp⟩
   ·
    refine FW.condT rfl c134 ?_
    refine FW.skip (FW.seq (FW.block (FW.seq (FW.region ?_))))
    refine FL.v (E.move k130) ?_
    refine FL.v (E.move k133) ?_
    obtain ⟨x141, hx142, hp⟩ := bnd hp
    obtain ⟨p135, cs136, pt137, l138, at139, rel140⟩ := S126.row_at (i := 0) rfl els79 (by decide) hx142
    obtain rfl := eS_open rel140
    refine FL.v (E.indexAddr te22 rfl rfl pt137) ?_
    refine FL.v (E.load rfl (run_load0 Tryz.isAgg9 at139 rfl)) ?_
    refine FL.v (E.assign (v := Value.string x141) rfl) ?_
    refine FL.nil (FW.seq (FW.region ?_))
    refine FL.v (E.move k131) ?_
    refine FL.v (E.move (v := Value.string x141) rfl) ?_
    obtain ⟨r143, hr144, hp⟩ := bnd hp
    obtain ⟨fi148, cs149, hv150, he151, hc152⟩ := (p1.mono i127) H125 w128 (Inc.rfl _) S126.sl x141 r143 hr144
    refine FL.call rfl rfl rfl (E.callV he151 (Eq.trans rfl hv150) (appA (A1 rfl) cs149)) hc152 ?_
    rintro e w145 ⟨rfl, r146⟩
    refine ⟨_, rfl, ?_⟩
    have S147 := S126.call r146
    refine FL.v (E.not rfl) ?_
    refine FL.nil ?_
    rcases ifB hp with ⟨c153, hp⟩ | ⟨c153, hp⟩
    ·
     refine FW.condT rfl c153 ?_
     refine FW.seq (FW.region ?_)
     refine FL.v (E.move k130) ?_
     refine FL.v (E.move k132) ?_
     refine FL.v (E.move (v := Value.string x141) rfl) ?_
     obtain ⟨x160, hx161, hp⟩ := bnd hp
     obtain ⟨p154, cs155, pt156, l157, at158, rel159⟩ := S147.row_at (i := 0) rfl els79 (by decide) hx161
     obtain rfl := eS_open rel159
     refine FL.v (E.indexAddr te22 rfl rfl pt156) ?_
     obtain ⟨xs165, hput166, hp⟩ := bnd hp
     obtain ⟨w162, cs168, run163, S164, els167, ce169⟩ := S147.putEls (P := Tryz.prog) (t := 9) (i := 0) rfl els79 hput166 pt156 Tryz.sizeOf9 (u := Value.string x141) (c := [Value.string x141]) rfl rfl (ones_cons rfl ones_nil) rfl
     have S164 : St H0 w0 H125 w162 (.row 9 1 v0 n0 cs168 :: L) := S164
     refine FL.act rfl rfl (E.store rfl rfl run163) ?_
     refine FL.nil (FW.region ?_)
     refine FL.v (E.move k132) ?_
     refine FL.v (E.add rfl rfl) ?_
     refine FL.v (E.assign (v := Value.int .i64 (wr (s32.2.1 + 1))) rfl) ?_
     refine FL.nil (FW.region ?_)
     refine FL.v (E.move k133) ?_
     refine FL.v (E.add rfl rfl) ?_
     refine FL.v (E.assign (v := Value.int .i64 (wr (s32.2.2 + 1))) rfl) ?_
     refine FL.nil ?_
     obtain rfl := Option.some.inj hp
     exact ⟨rfl, ⟨_, _, S164, i127, els167, k130, k131, rfl, rfl⟩⟩
    ·
     refine FW.condF rfl c153 ?_
     refine FW.skip (FW.region ?_)
     refine FL.v (E.move k133) ?_
     refine FL.v (E.add rfl rfl) ?_
     refine FL.v (E.assign (v := Value.int .i64 (wr (s32.2.2 + 1))) rfl) ?_
     refine FL.nil ?_
     obtain rfl := Option.some.inj hp
     exact ⟨rfl, ⟨_, _, S147, i127, els79, k130, k131, k132, rfl⟩⟩
   ·
    refine FW.condF rfl c134 ?_
    refine FW.exit ?_
    obtain rfl := Option.some.inj hp
    exact ⟨nofun, rfl, ⟨_, _, S126, i127, els79, k130, k132⟩⟩
  ·
   clear hq
   intro e f175 w174 hD
   rcases q32 with s32 | x32
   ·
    obtain ⟨rfl, hD⟩ := hD
    obtain ⟨H171, cs78, S172, i173, els79, k176, k177⟩ := hD
    replace hp := el_go hp
    refine FW.seq (FW.region ?_)
    refine FL.v (E.move k176) ?_
    refine FL.v (E.move k177) ?_
    obtain ⟨xs178, hc179, hp⟩ := bnd hp
    obtain ⟨v180, run181, h182⟩ := S172.tail te22 (kk := .i64) (i := 0) rfl els79 hc179
    refine FL.v (E.slice te22 rfl (congrArg some rfl) rfl rfl (run181 _)) ?_
    obtain ⟨w183, cs184, run185, S186, els187⟩ := S172.clearTail (P := Tryz.prog) te22 (i := 0) rfl els79 h182 rfl (ones_cons rfl ones_nil)
    have S186 : St H0 w0 H171 w183 (.row 9 1 v0 n0 cs184 :: L) := S186
    refine FL.val0 rfl rfl (E.clear rfl run185) ?_
    refine FL.nil (FW.seq (FW.region ?_))
    refine FL.v (E.move k176) ?_
    refine FL.v (E.move k177) ?_
    obtain ⟨xs188, hc189, hp⟩ := bnd hp
    obtain ⟨v190, n191, cs192, run193, S194, els195, nd196⟩ := S186.cutRow te22 (kk := .i64) (i := 0) rfl els187 hc189
    have S194 : St H0 w0 H171 w183 (.row 9 1 v190 n191 cs192 :: L) := S194
    refine FL.v (E.slice te22 rfl rfl (congrArg some rfl) rfl (run193 _)) ?_
    refine FL.v (E.assign (v := v190) rfl) ?_
    refine FL.nil ?_
    refine FW.ret ?_
    obtain rfl := Option.some.inj hp
    exact ⟨.inr rfl, res1 rfl rfl ⟨_, _, _, _, rfl, ⟨S194, i173⟩, els195⟩⟩
   ·
    exact x32.elim

theorem w_impl_lacking_1 {Ha : GH} {wa : World} (hs : Sl Ha wa) (a0 : ByteArray) (q0 : Addr) (b0 : ByteArray) (c0 : CAt Ha q0 [Value.string b0]) :
  Calls Tryz.prog 169 #[Value.string a0, Value.pointer (some q0)] wa (Sc Ha wa (Value.bool (PF.impl_lacking_1 a0 b0))) := by
 obtain ⟨r, hp⟩ : ∃ r, (PF.impl_lacking_1 a0 b0) = r := ⟨_, rfl⟩
 rw [hp]
 unfold PF.impl_lacking_1 at hp
 have S0 := St.init hs
 refine calls_go (N := 7) (args := [Value.string a0, Value.pointer (some q0)]) Tryz.func169 rfl rfl rfl ?_
 refine FW.seq (FW.region ?_)
 refine FL.v (E.assign (v := Value.bool false) rfl) ?_
 refine FL.nil (FW.seq (FW.region ?_))
 refine FL.v (E.load rfl (run_load0 Tryz.isAgg9 (c0.now S0.sl) rfl)) ?_
 refine FL.v (E.move (v := Value.string a0) rfl) ?_
 refine FL.v (E.eqlS rfl rfl) ?_
 refine FL.v (E.assign (v := Value.bool (b0.toList == a0.toList)) rfl) ?_
 refine FL.nil ?_
 refine FW.ret ?_
 obtain rfl := hp
 exact ⟨.inr rfl, res1 rfl rfl ⟨rfl, S0.back⟩⟩

@[reducible] def p_impl_lacking (Ha : GH) (wa : World) (r : (List ByteArray)) : Ending → World → Prop :=
 fun e w' => ∃ H' : GH, ∃ v0 : Value, ∃ n0 : Nat, ∃ c0 : List Value, e = .returned (v0) ∧ St Ha wa H' w' [.row 9 1 v0 n0 c0] ∧ Els (up wa.heap.size H') eS 1 c0 r
theorem w_impl_lacking {Ha : GH} {wa : World} (hs : Sl Ha wa) (v0 : Value) (a0 : List ByteArray) (p0 : RSl Ha eS 1 v0 a0) (a1 : ByteArray) {r : (List ByteArray)} (hp : (PF.impl_lacking a0 a1) = some r) :
  Calls Tryz.prog 125 #[v0, Value.string a1] wa (p_impl_lacking Ha wa r) := by
 unfold PF.impl_lacking at hp
 have S0 := St.init hs
 refine calls_go (N := 9) (args := [v0, Value.string a1]) Tryz.func125 rfl rfl rfl ?_
 refine FW.seq (FW.region ?_)
 obtain ⟨b21, w22, run23, S24⟩ := S0.box (P := Tryz.prog) 9 [Value.string a1] (v := Value.string a1) rfl (ones_cons rfl ones_nil)
 refine FL.v (E.box rfl run23) ?_
 obtain ⟨H25, S26, i27, at28⟩ := S24.sealBox (i := 0) (l' := []) rfl rfl
 refine FL.v (E.assign (v := Value.slice none 0 0) rfl) ?_
 refine FL.nil (FW.seq (FW.region ?_))
 refine FL.v (E.move (v := v0) rfl) ?_
 obtain ⟨r29, hr30, hp⟩ := bnd hp
 refine FL.call rfl rfl rfl (E.call Tryz.call160 (A1 rfl)) (w_slices_Clone_string_string S26.sl v0 a0 (p0.mono i27) hr30) ?_
 rintro e w32 ⟨H31, v35, n36, cs37, rfl, r34, els38⟩
 refine ⟨_, rfl, ?_⟩
 have els38 := els38.mono (up_le S26.size)
 have S33 := S26.join (l' := [.row 9 1 v35 n36 cs37]) r34 rfl
 refine FL.v (E.makeFunc A0 (A1 rfl)) ?_
 obtain ⟨r39, hr40, hp⟩ := bnd hp
 refine FL.call rfl rfl rfl (E.call Tryz.call168 (A2 rfl rfl)) (w_slices_DeleteFunc_string_string (L := []) S33 r29 els38 (Value.func (.func 169) #[] #[Value.pointer (some ⟨b21, 0, none⟩)]) (fun x0 => some (PF.impl_lacking_1 x0 a1)) (fun H2 w2 hi2 hs2 x0 r hr => ⟨169, #[Value.pointer (some ⟨b21, 0, none⟩)], rfl, Tryz.call169, by cases hr; exact w_impl_lacking_1 hs2 x0 ⟨b21, 0, none⟩ a1 ((at28.mono r34.run.inc).mono hi2)⟩) hr40) ?_
 rintro e w42 ⟨H41, v45, n46, cs47, rfl, ⟨S43, i44⟩, els48⟩
 refine ⟨_, rfl, ?_⟩
 have S43 : St Ha wa H41 w42 [.row 9 1 v45 n46 cs47] := S43
 refine FL.v (E.assign (v := v45) rfl) ?_
 refine FL.nil ?_
 refine FW.ret ?_
 obtain rfl := Option.some.inj hp
 exact ⟨.inr rfl, res1 rfl rfl ⟨_, _, _, _, rfl, S43, els48⟩⟩

end Go.Proofs
