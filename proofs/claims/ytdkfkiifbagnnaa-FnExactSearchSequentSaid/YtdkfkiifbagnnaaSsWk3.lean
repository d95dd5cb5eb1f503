/- Part of the walks and plain laws behind the claim: it proves helpers, under no condition beyond their own. -/
import Derived.Test.YtdkfkiifbagnnaaSsWk2
set_option linter.unusedVariables false
set_option maxRecDepth 100000
namespace Go.Proofs
open Go.Mr Go.Pu Go.PF Go.RowKit

@[reducible] def p_impl_seqSearch_search (H0 : GH) (w0 : World) (Ha : GH) (L : List MO) (b0 : Nat) (k0_0 : List Value) (r : (Bool × seqSearch)) : Ending → World → Prop :=
 fun e w' => ∃ H' : GH, ∃ v0_0r : Value, ∃ n0_0r : Nat, ∃ c0_0r : List Value, ∃ v0_1r : Value, e = .returned (Value.bool r.1) ∧ (St H0 w0 H' w' (.box b0 47 [v0_0r, v0_1r] :: .row 52 6 v0_0r n0_0r c0_0r :: L) ∧ Inc Ha H') ∧ Els (up w0.heap.size H') eSeqStep 6 c0_0r r.2.steps ∧ (bl c0_0r).Nodup ∧ Gr Ha k0_0 c0_0r ∧ PAt H' eSequent v0_1r r.2.open_
set_option maxHeartbeats 4000000 in
theorem w_impl_seqSearch_search_B {rec_impl_seqSearch_search : seqSearch → Sequent → Option (Bool × seqSearch)} (hrec_impl_seqSearch_search : ∀ {H0 Ha : GH} {w0 wa : World} {L : List MO} {a0 : seqSearch} {b0 : Nat} {v0_0 : Value} {n0_0 : Nat} {k0_0 : List Value} {v0_1 : Value} (S0 : St H0 w0 Ha wa (.box b0 47 [v0_0, v0_1] :: .row 52 6 v0_0 n0_0 k0_0 :: L)) (p0_0 : Els (up w0.heap.size Ha) eSeqStep 6 k0_0 a0.steps) (d0_0 : (bl k0_0).Nodup) (p0_1 : PAt Ha eSequent v0_1 a0.open_) (a1 : Sequent) (v1_0 : Value) (p1_0 : RSl Ha eS 1 v1_0 a1.left) (v1_1 : Value) (p1_1 : RSl Ha eS 1 v1_1 a1.right) {r : (Bool × seqSearch)} (hp : rec_impl_seqSearch_search a0 a1 = some r), Calls Try.prog 20 #[Value.pointer (some (⟨b0, 0, none⟩ : Addr)), Value.agg #[v1_0, v1_1]] wa (p_impl_seqSearch_search H0 w0 Ha L b0 k0_0 r)) {H0 Ha : GH} {w0 wa : World} {L : List MO} {a0 : seqSearch} {b0 : Nat} {v0_0 : Value} {n0_0 : Nat} {k0_0 : List Value} {v0_1 : Value} (S0 : St H0 w0 Ha wa (.box b0 47 [v0_0, v0_1] :: .row 52 6 v0_0 n0_0 k0_0 :: L)) (p0_0 : Els (up w0.heap.size Ha) eSeqStep 6 k0_0 a0.steps) (d0_0 : (bl k0_0).Nodup) (p0_1 : PAt Ha eSequent v0_1 a0.open_) (a1 : Sequent) (v1_0 : Value) (p1_0 : RSl Ha eS 1 v1_0 a1.left) (v1_1 : Value) (p1_1 : RSl Ha eS 1 v1_1 a1.right) {r : (Bool × seqSearch)} (hp : PF.impl_seqSearch_search_B rec_impl_seqSearch_search a0 a1 = some r) :
  Calls Try.prog 20 #[Value.pointer (some (⟨b0, 0, none⟩ : Addr)), Value.agg #[v1_0, v1_1]] wa (p_impl_seqSearch_search H0 w0 Ha L b0 k0_0 r) := by
 unfold PF.impl_seqSearch_search_B at hp
 refine calls_go (N := 83) (args := [Value.pointer (some (⟨b0, 0, none⟩ : Addr)), Value.agg #[v1_0, v1_1]]) Try.func20 rfl rfl rfl ?_
 refine FW.seq (FW.region ?_)
 obtain ⟨b21, w22, run23, S24⟩ := S0.box (P := Try.prog) 28 [v1_0, v1_1] (v := Value.agg #[v1_0, v1_1]) rfl (ones_cons p1_0.one (ones_cons p1_1.one ones_nil))
 refine FL.v (E.box rfl run23) ?_
 refine FL.v (E.assign (v := Value.bool false) rfl) ?_
 refine FL.nil (FW.seq (FW.seq (FW.region ?_)))
 refine FL.v (E.load rfl (run_loadA Try.isAgg28 Try.sizeOf28 (S24.box_now (i := 0) rfl) rfl)) ?_
 obtain ⟨r25, hr26, hp⟩ := bnd hp
 refine FL.call rfl rfl rfl (E.call Try.call35 (A1 rfl)) (w_impl_IsSequent S24.sl a1 v1_0 p1_0 v1_1 p1_1 hr26) ?_
 rintro e w27 ⟨rfl, r28⟩
 refine ⟨_, rfl, ?_⟩
 have S29 := S24.call r28
 refine FL.v (E.not rfl) ?_
 refine FL.nil ?_
 rcases ifB hp with ⟨c30, hp⟩ | ⟨c30, hp⟩
 ·
  refine FW.condT rfl c30 ?_
  refine FW.seq (FW.region ?_)
  refine FL.v (E.assign (v := Value.bool false) rfl) ?_
  refine FL.nil ?_
  refine FW.ret ?_
  obtain rfl := Option.some.inj hp
  exact ⟨.inr rfl, res1 rfl rfl ⟨_, _, _, _, _, rfl, ⟨(S29.selT (a := [.box b21 28 [v1_0, v1_1], .box b0 47 [v0_0, v0_1], .row 52 6 v0_0 n0_0 k0_0]) (l' := [.box b0 47 [v0_0, v0_1], .row 52 6 v0_0 n0_0 k0_0]) [1, 2] (by decide) rfl), (Inc.rfl _)⟩, p0_0, d0_0, Gr.rfl, p0_1⟩⟩
 ·
  refine FW.condF rfl c30 ?_
  refine FW.skip (FW.seq (FW.region ?_))
  refine FL.v (E.load rfl (run_loadA Try.isAgg28 Try.sizeOf28 (S29.box_now (i := 0) rfl) rfl)) ?_
  obtain ⟨r31, hr32, hp⟩ := bnd hp
  refine FL.call rfl rfl rfl (E.call Try.call36 (A1 rfl)) (w_impl_Sequent_clone S29.sl a1 v1_0 p1_0 v1_1 p1_1 hr32) ?_
  rintro e w34 ⟨H33, v37, v43, rfl, r36, ⟨c40, c46, ns39, ns45, ap49⟩⟩
  refine ⟨_, rfl, ?_⟩
  have h38 := ns39.rsl
  have nv41 : New Ha c40 := New.of_up S29.sl (fun b hb => ns39.dom b (.inr hb))
  have nv42 : New Ha [v37] := New.of_up S29.sl h38.dom
  have h38 := h38.mono (up_le S29.size)
  have ns39 := ns39.mono (up_le S29.size)
  have h44 := ns45.rsl
  have nv47 : New Ha c46 := New.of_up S29.sl (fun b hb => ns45.dom b (.inr hb))
  have nv48 : New Ha [v43] := New.of_up S29.sl h44.dom
  have h44 := h44.mono (up_le S29.size)
  have ns45 := ns45.mono (up_le S29.size)
  have S35 := S29.call r36
  refine FL.v (E.build (B2 rfl rfl) (run_build _ 52 #[(0, Value.agg #[v37, v43]), (1, Value.int .i64 1)] #[v37, v43, Value.int .i64 1, Value.string ByteArray.empty, Value.int .i64 0, Value.int .i64 0] (by obtain ⟨_, _, rfl⟩ := RSl.ln (h38.mono upI); obtain ⟨_, _, rfl⟩ := RSl.ln (h44.mono upI); rfl))) ?_
  obtain ⟨b50, w51, run52, S53⟩ := S35.alloc (P := Try.prog) 52 [Value.slice none 0 0, Value.slice none 0 0, Value.int .i64 0, Value.string ByteArray.empty, Value.int .i64 0, Value.int .i64 0] Try.zeroValue52 rfl (ones_cons rfl (ones_cons rfl (ones_cons rfl (ones_cons rfl (ones_cons rfl (ones_cons rfl ones_nil))))))
  refine FL.v (E.alloc run52) ?_
  obtain ⟨w54, run55, S56⟩ := S53.store0 (P := Try.prog) (t := 52) (i := 0) (cs' := [v37, v43, Value.int .i64 1, Value.string ByteArray.empty, Value.int .i64 0, Value.int .i64 0]) (l' := (.box b50 52 [v37, v43, Value.int .i64 1, Value.string ByteArray.empty, Value.int .i64 0, Value.int .i64 0] :: .box b21 28 [v1_0, v1_1] :: .box b0 47 [v0_0, v0_1] :: .row 52 6 v0_0 n0_0 k0_0 :: L)) (v := Value.agg #[v37, v43, Value.int .i64 1, Value.string ByteArray.empty, Value.int .i64 0, Value.int .i64 0]) (c := [v37, v43, Value.int .i64 1, Value.string ByteArray.empty, Value.int .i64 0, Value.int .i64 0]) rfl Try.sizeOf52 rfl rfl (ones_cons h38.one (ones_cons h44.one (ones_cons rfl (ones_cons rfl (ones_cons rfl (ones_cons rfl ones_nil)))))) (Nat.le_of_ble_eq_true rfl) rfl rfl
  refine FL.act rfl rfl (E.store rfl rfl run55) ?_
  refine FL.nil (FW.seq (FW.seq (FW.region ?_)))
  refine FL.v (E.load rfl (run_loadA Try.isAgg28 Try.sizeOf28 (S56.box_now (i := 1) rfl) rfl)) ?_
  obtain ⟨r57, hr58, hp⟩ := bnd hp
  refine FL.call rfl rfl rfl (E.call Try.call37 (A1 rfl)) (w_impl_isSeqAxiom S56.sl a1 v1_0 (p1_0.mono r36.inc) v1_1 (p1_1.mono r36.inc) hr58) ?_
  rintro e w59 ⟨rfl, r60⟩
  refine ⟨_, rfl, ?_⟩
  have S61 := S56.call r60
  refine FL.v (E.not rfl) ?_
  refine FL.nil ?_
  obtain ⟨q316, hq, hp⟩ := bndR hp
  refine FW.joinE (S := ((List SeqStep) × Int × ByteArray × Int × Int × (Option Sequent))) (X := (Bool × seqSearch)) (q := q316) (fun s315 f w => ∃ H : GH, ∃ v318 : Value, ∃ n319 : Nat, ∃ cs320 : List Value, ∃ v324 : Value, St H0 w0 H w (.box b50 52 [v37, v43, Value.int .i64 s315.2.1, Value.string s315.2.2.1, Value.int .i64 s315.2.2.2.1, Value.int .i64 s315.2.2.2.2.1] :: .box b0 47 [v318, v324] :: .row 52 6 v318 n319 cs320 :: L) ∧ Inc H33 H ∧ Els (up w0.heap.size H) eSeqStep 6 cs320 s315.1 ∧ PAt H eSequent v324 s315.2.2.2.2.2 ∧ (bl cs320).Nodup ∧ Gr H33 k0_0 cs320 ∧ f 0 = Value.pointer (some (⟨b0, 0, none⟩ : Addr)) ∧ f 5 = Value.pointer (some (⟨b50, 0, none⟩ : Addr))) (fun x e f w => (e = Exit.ret) ∧ (fun e f w => (e = Exit.normal ∨ e = Exit.ret) ∧ ∀ a, Fr (δ := []) 83 a f → ∃ v, (results Try.f20 a.tmps).run Try.prog w = .ok v w ∧ (p_impl_seqSearch_search H0 w0 Ha L b0 k0_0 x) (.returned v) w) e f w) ?_ ?_ ?_
  ·
   clear hp; have hp := hq; clear hq
   rcases ifB hp with ⟨c326, hp⟩ | ⟨c326, hp⟩
   ·
    refine FW.condT rfl c326 ?_
    refine FW.seq (FW.region ?_)
    refine FL.v (E.load rfl (run_loadA Try.isAgg28 Try.sizeOf28 (S61.box_now (i := 1) rfl) rfl)) ?_
    obtain ⟨r327, hr328, hp⟩ := bnd hp
    refine FL.call rfl rfl rfl (E.call Try.call38 (A1 rfl)) (w_impl_mainOf S61.sl a1 v1_0 (p1_0.mono r36.inc) v1_1 (p1_1.mono r36.inc) hr328) ?_
    rintro e w330 ⟨H329, v333, rfl, r332, h334⟩
    refine ⟨_, rfl, ?_⟩
    have S331 := S61.call r332
    refine FL.v (E.move (v := Value.tuple #[v333, Value.int .i64 r327.2]) rfl) ?_
    refine FL.v (E.extract (i := 0) rfl rfl) ?_
    refine FL.v (E.extract (i := 1) rfl rfl) ?_
    refine FL.v (E.assign (v := v333) rfl) ?_
    refine FL.v (E.assign (v := Value.int .i64 r327.2) rfl) ?_
    refine FL.nil (FW.seq (FW.seq (FW.region ?_)))
    refine FL.v (E.move (v := v333) rfl) ?_
    refine FL.v (E.eqlN Try.runUnderlying64 h334.isNil rfl rfl) ?_
    refine FL.nil ?_
    rcases ifB hp with ⟨c335, hp⟩ | ⟨c335, hp⟩
    ·
     refine FW.condT rfl c335 ?_
     refine FW.seq (FW.region ?_)
     refine FL.v (E.move (v := Value.pointer (some (⟨b0, 0, none⟩ : Addr))) rfl) ?_
     refine FL.v (E.nilCheck rfl) ?_
     refine FL.v (E.fieldAddr tf47_1 rfl) ?_
     obtain ⟨H336, S337, i338, at339⟩ := S331.sealBox (i := 1) (l' := (.box b50 52 [v37, v43, Value.int .i64 1, Value.string ByteArray.empty, Value.int .i64 0, Value.int .i64 0] :: .box b0 47 [v0_0, v0_1] :: .row 52 6 v0_0 n0_0 k0_0 :: L)) rfl rfl
     obtain ⟨w340, run341, S342⟩ := S337.store (P := Try.prog) (t := 45) (i := 1) (j := 1) (cs' := [v0_0, Value.pointer (some ⟨b21, 0, none⟩)]) (l' := (.box b50 52 [v37, v43, Value.int .i64 1, Value.string ByteArray.empty, Value.int .i64 0, Value.int .i64 0] :: .box b0 47 [v0_0, Value.pointer (some ⟨b21, 0, none⟩)] :: .row 52 6 v0_0 n0_0 k0_0 :: L)) (v := Value.pointer (some ⟨b21, 0, none⟩)) (c := [Value.pointer (some ⟨b21, 0, none⟩)]) rfl Try.sizeOf45 rfl rfl (ones_cons rfl ones_nil) (Nat.le_of_ble_eq_true rfl) rfl rfl
     refine FL.act rfl rfl (E.store rfl rfl run341) ?_
     refine FL.nil (FW.seq (FW.region ?_))
     refine FL.v (E.assign (v := Value.bool false) rfl) ?_
     refine FL.nil ?_
     refine FW.ret ?_
     obtain rfl := Option.some.inj hp
     exact ⟨nofun, rfl, ⟨.inr rfl, res1 rfl rfl ⟨_, _, _, _, _, rfl, ⟨(S342.selT (a := [.box b50 52 [v37, v43, Value.int .i64 1, Value.string ByteArray.empty, Value.int .i64 0, Value.int .i64 0], .box b0 47 [v0_0, Value.pointer (some ⟨b21, 0, none⟩)], .row 52 6 v0_0 n0_0 k0_0]) (l' := [.box b0 47 [v0_0, Value.pointer (some ⟨b21, 0, none⟩)], .row 52 6 v0_0 n0_0 k0_0]) [1, 2] (by decide) rfl), ((r36.inc.tr r332.inc).tr i338)⟩, (p0_0.mono (up_mono ((r36.inc.tr r332.inc).tr i338))), d0_0, Gr.rfl, (PAt.mk at339 ⟨_, _, rfl, (p1_0.mono ((r36.inc.tr r332.inc).tr i338)), (p1_1.mono ((r36.inc.tr r332.inc).tr i338))⟩)⟩⟩⟩
    ·
     refine FW.condF rfl c335 ?_
     refine FW.skip (FW.seq (FW.region ?_))
     refine FL.v (E.move (v := Value.int .i64 r327.2) rfl) ?_
     refine FL.v (E.fieldAddr tf52_1 rfl) ?_
     obtain ⟨w343, run344, S345⟩ := S331.store (P := Try.prog) (t := 3) (i := 0) (j := 2) (cs' := [v37, v43, Value.int .i64 r327.2, Value.string ByteArray.empty, Value.int .i64 0, Value.int .i64 0]) (l' := (.box b50 52 [v37, v43, Value.int .i64 r327.2, Value.string ByteArray.empty, Value.int .i64 0, Value.int .i64 0] :: .box b21 28 [v1_0, v1_1] :: .box b0 47 [v0_0, v0_1] :: .row 52 6 v0_0 n0_0 k0_0 :: L)) (v := Value.int .i64 r327.2) (c := [Value.int .i64 r327.2]) rfl Try.sizeOf3 rfl rfl (ones_cons rfl ones_nil) (Nat.le_of_ble_eq_true rfl) rfl rfl
     refine FL.act rfl rfl (E.store rfl rfl run344) ?_
     refine FL.nil (FW.seq (FW.region ?_))
     refine FL.v (E.move (v := v333) rfl) ?_
     obtain ⟨y346, hy347, hp⟩ := bnd hp
     obtain ⟨q348, v350, v351, rfl, at349, h352, h353⟩ := FAt.open h334 hy347
     refine FL.v (E.nilCheck rfl) ?_
     refine FL.v (E.fieldAddr tf68_3 rfl) ?_
     refine FL.v (E.load rfl (run_load1 Try.isAgg9 (at349.now S345.sl) rfl)) ?_
     refine FL.v (E.fieldAddr tf52_2 rfl) ?_
     obtain ⟨w354, run355, S356⟩ := S345.store (P := Try.prog) (t := 9) (i := 0) (j := 3) (cs' := [v37, v43, Value.int .i64 r327.2, Value.string y346.text, Value.int .i64 0, Value.int .i64 0]) (l' := (.box b50 52 [v37, v43, Value.int .i64 r327.2, Value.string y346.text, Value.int .i64 0, Value.int .i64 0] :: .box b21 28 [v1_0, v1_1] :: .box b0 47 [v0_0, v0_1] :: .row 52 6 v0_0 n0_0 k0_0 :: L)) (v := Value.string y346.text) (c := [Value.string y346.text]) rfl Try.sizeOf9 rfl rfl (ones_cons rfl ones_nil) (Nat.le_of_ble_eq_true rfl) rfl rfl
     refine FL.act rfl rfl (E.store rfl rfl run355) ?_
     refine FL.nil (FW.seq (FW.region ?_))
     refine FL.v (E.load rfl (run_loadA Try.isAgg28 Try.sizeOf28 (S356.box_now (i := 1) rfl) rfl)) ?_
     refine FL.v (E.move (v := Value.int .i64 r327.2) rfl) ?_
     refine FL.v (E.move (v := Value.pointer (some q348)) rfl) ?_
     obtain ⟨r357, hr358, hp⟩ := bnd hp
     refine FL.call rfl rfl rfl (E.call Try.call39 (A3 rfl rfl rfl)) (w_impl_premisesOf S356.sl a1 v1_0 (p1_0.mono (r36.inc.tr r332.inc)) v1_1 (p1_1.mono (r36.inc.tr r332.inc)) r327.2 (Value.pointer (some q348)) r327.1 h334 hr358) ?_
     rintro e w360 ⟨H359, v363, n364, cs365, rfl, r362, els366⟩
     refine ⟨_, rfl, ?_⟩
     have S361 := S356.join (l' := (.row 28 2 v363 n364 cs365 :: .box b50 52 [v37, v43, Value.int .i64 r327.2, Value.string y346.text, Value.int .i64 0, Value.int .i64 0] :: .box b21 28 [v1_0, v1_1] :: .box b0 47 [v0_0, v0_1] :: .row 52 6 v0_0 n0_0 k0_0 :: L)) r362 rfl
     refine FL.v (E.lenO te61 rfl S361 (i := 0) rfl els366 (by decide)) ?_
     refine FL.v (E.move (v := Value.int .i64 0) rfl) ?_
     refine FL.nil ?_
     obtain ⟨m367, hchk368, hp⟩ := bnd hp
     obtain ⟨q368, hq, hp⟩ := bndR hp
     refine FW.block ?_
     refine FW.mono (FW.forR (S := ((List SeqStep) × Int × Int × (Option Sequent))) (X := (Rs ((List SeqStep) × Int × ByteArray × Int × Int × (Option Sequent)) (Bool × seqSearch))) (fun (i368 : Nat) (s368 : ((List SeqStep) × Int × Int × (Option Sequent))) f w => ∃ H : GH, ∃ v497 : Value, ∃ n498 : Nat, ∃ cs499 : List Value, ∃ v503 : Value, St H0 w0 H w (.row 28 2 v363 n364 cs365 :: .box b50 52 [v37, v43, Value.int .i64 r327.2, Value.string y346.text, Value.int .i64 s368.2.1, Value.int .i64 s368.2.2.1] :: .box b0 47 [v497, v503] :: .row 52 6 v497 n498 cs499 :: L) ∧ Inc H359 H ∧ Els (up w0.heap.size H) eSeqStep 6 cs499 s368.1 ∧ PAt H eSequent v503 s368.2.2.2 ∧ (bl cs499).Nodup ∧ Gr H359 k0_0 cs499 ∧ f 41 = Value.int .i64 ((i368 : Nat) : Int) ∧ f 0 = Value.pointer (some (⟨b0, 0, none⟩ : Addr)) ∧ f 5 = Value.pointer (some (⟨b50, 0, none⟩ : Addr)) ∧ f 39 = v363 ∧ f 40 = Value.int .i64 (len r357)) (fun q e f w => match q with | .go s368 => e = Exit.exit 0 ∧ (∃ H : GH, ∃ v497 : Value, ∃ n498 : Nat, ∃ cs499 : List Value, ∃ v503 : Value, St H0 w0 H w (.row 28 2 v363 n364 cs365 :: .box b50 52 [v37, v43, Value.int .i64 r327.2, Value.string y346.text, Value.int .i64 s368.2.1, Value.int .i64 s368.2.2.1] :: .box b0 47 [v497, v503] :: .row 52 6 v497 n498 cs499 :: L) ∧ Inc H359 H ∧ Els (up w0.heap.size H) eSeqStep 6 cs499 s368.1 ∧ PAt H eSequent v503 s368.2.2.2 ∧ (bl cs499).Nodup ∧ Gr H359 k0_0 cs499 ∧ f 0 = Value.pointer (some (⟨b0, 0, none⟩ : Addr)) ∧ f 5 = Value.pointer (some (⟨b50, 0, none⟩ : Addr))) | .rt x => ((e = Exit.ret) ∧ (Jn (fun s315 f w => ∃ H : GH, ∃ v318 : Value, ∃ n319 : Nat, ∃ cs320 : List Value, ∃ v324 : Value, St H0 w0 H w (.box b50 52 [v37, v43, Value.int .i64 s315.2.1, Value.string s315.2.2.1, Value.int .i64 s315.2.2.2.1, Value.int .i64 s315.2.2.2.2.1] :: .box b0 47 [v318, v324] :: .row 52 6 v318 n319 cs320 :: L) ∧ Inc H33 H ∧ Els (up w0.heap.size H) eSeqStep 6 cs320 s315.1 ∧ PAt H eSequent v324 s315.2.2.2.2.2 ∧ (bl cs320).Nodup ∧ Gr H33 k0_0 cs320 ∧ f 0 = Value.pointer (some (⟨b0, 0, none⟩ : Addr)) ∧ f 5 = Value.pointer (some (⟨b50, 0, none⟩ : Addr))) (fun x e f w => (e = Exit.ret) ∧ (fun e f w => (e = Exit.normal ∨ e = Exit.ret) ∧ ∀ a, Fr (δ := []) 83 a f → ∃ v, (results Try.f20 a.tmps).run Try.prog w = .ok v w ∧ (p_impl_seqSearch_search H0 w0 Ha L b0 k0_0 x) (.returned v) w) e f w) x) e f w)) hq ⟨_, _, _, _, _, (S361.selT (a := [.row 28 2 v363 n364 cs365, .box b50 52 [v37, v43, Value.int .i64 r327.2, Value.string y346.text, Value.int .i64 0, Value.int .i64 0], .box b21 28 [v1_0, v1_1], .box b0 47 [v0_0, v0_1], .row 52 6 v0_0 n0_0 k0_0]) (l' := [.row 28 2 v363 n364 cs365, .box b50 52 [v37, v43, Value.int .i64 r327.2, Value.string y346.text, Value.int .i64 0, Value.int .i64 0], .box b0 47 [v0_0, v0_1], .row 52 6 v0_0 n0_0 k0_0]) [0, 1, 3, 4] (by decide) rfl), (Inc.rfl _), (p0_0.mono (up_mono ((r36.inc.tr r332.inc).tr r362.run.inc))), (p0_1.mono ((r36.inc.tr r332.inc).tr r362.run.inc)), d0_0, Gr.rfl, rfl, rfl, rfl, rfl, rfl⟩ ?_ ?_) ?_
     ·
      clear hp hq
      rintro i368 s368 f566 w565 ⟨H562, v497, n498, cs499, v503, S563, i564, els500, h504, nd501, gr502, k567, k568, k569, k570, k571⟩ hi368 hj368 o619 hp
      refine FW.seq (FW.region ?_)
      refine FL.v (E.lssT k567 k571 (lss_chk hj368 hchk368)) ?_
      refine FL.nil (FW.seq ?_)
      refine FW.condT rfl rfl ?_
      refine FW.skip (FW.seq (FW.block (FW.seq (FW.region ?_))))
      refine FL.v (E.move k567) ?_
      obtain ⟨x578, hx579, hp⟩ := bnd hp
      obtain ⟨p572, cs573, pt574, l575, at576, rel577⟩ := S563.row_at (i := 0) rfl els366 (by decide) hx579
      obtain ⟨v580, v582, rfl, h581, h583⟩ := eSequent_open rel577
      refine FL.v (E.indexAddr te61 k570 k567 pt574) ?_
      refine FL.v (E.load rfl (run_loadA Try.isAgg28 Try.sizeOf28 at576 rfl)) ?_
      obtain ⟨b584, w585, run586, S587⟩ := S563.alloc (P := Try.prog) 28 [Value.slice none 0 0, Value.slice none 0 0] Try.zeroValue28 rfl (ones_cons rfl (ones_cons rfl ones_nil))
      refine FL.v (E.alloc run586) ?_
      refine FL.v (E.assign (v := Value.int .i64 ((i368 : Nat) : Int)) rfl) ?_
      obtain ⟨w588, run589, S590⟩ := S587.store0 (P := Try.prog) (t := 28) (i := 0) (cs' := [v580, v582]) (l' := (.box b584 28 [v580, v582] :: .row 28 2 v363 n364 cs365 :: .box b50 52 [v37, v43, Value.int .i64 r327.2, Value.string y346.text, Value.int .i64 s368.2.1, Value.int .i64 s368.2.2.1] :: .box b0 47 [v497, v503] :: .row 52 6 v497 n498 cs499 :: L)) (v := Value.agg #[v580, v582]) (c := [v580, v582]) rfl Try.sizeOf28 rfl rfl (ones_cons h581.one (ones_cons h583.one ones_nil)) (Nat.le_of_ble_eq_true rfl) rfl rfl
      refine FL.act rfl rfl (E.store rfl rfl run589) ?_
      obtain ⟨H591, S592, i593, at594⟩ := S590.sealBox (i := 0) (l' := (.row 28 2 v363 n364 cs365 :: .box b50 52 [v37, v43, Value.int .i64 r327.2, Value.string y346.text, Value.int .i64 s368.2.1, Value.int .i64 s368.2.2.1] :: .box b0 47 [v497, v503] :: .row 52 6 v497 n498 cs499 :: L)) rfl rfl
      refine FL.nil (FW.seq (FW.seq (FW.region ?_)))
      refine FL.v (E.move k568) ?_
      refine FL.v (E.load rfl (run_loadA Try.isAgg28 Try.sizeOf28 (at594.now S592.sl) rfl)) ?_
      obtain ⟨r595, hr596, hp⟩ := bnd hp
      have S597 : St H0 w0 H591 w588 (.row 52 6 v497 n498 cs499 :: .row 28 2 v363 n364 cs365 :: .box b50 52 [v37, v43, Value.int .i64 r327.2, Value.string y346.text, Value.int .i64 s368.2.1, Value.int .i64 s368.2.2.1] :: .box b0 47 [v497, v503] :: L) := S592.front 3 rfl rfl
      have S598 : St H0 w0 H591 w588 (.box b0 47 [v497, v503] :: .row 52 6 v497 n498 cs499 :: .row 28 2 v363 n364 cs365 :: .box b50 52 [v37, v43, Value.int .i64 r327.2, Value.string y346.text, Value.int .i64 s368.2.1, Value.int .i64 s368.2.2.1] :: L) := S597.front 3 rfl rfl
      refine FL.call rfl rfl rfl (E.call Try.call20 (A2 rfl rfl)) (hrec_impl_seqSearch_search (L := (.row 28 2 v363 n364 cs365 :: .box b50 52 [v37, v43, Value.int .i64 r327.2, Value.string y346.text, Value.int .i64 s368.2.1, Value.int .i64 s368.2.2.1] :: L)) S598 (a0 := (seqSearch.mk s368.1 s368.2.2.2)) (els500.mono (up_mono i593)) nd501 (h504.mono i593) x578 v580 (h581.mono (i564.tr i593)) v582 (h583.mono (i564.tr i593)) hr596) ?_
      rintro e w600 ⟨H599, v603, n604, cs605, v609, rfl, ⟨S601, i602⟩, els606, nd607, gr608, h610⟩
      refine ⟨_, rfl, ?_⟩
      have S601 : St H0 w0 H599 w600 (.box b0 47 [v603, v609] :: .row 52 6 v603 n604 cs605 :: .row 28 2 v363 n364 cs365 :: .box b50 52 [v37, v43, Value.int .i64 r327.2, Value.string y346.text, Value.int .i64 s368.2.1, Value.int .i64 s368.2.2.1] :: L) := S601
      refine FL.v (E.not rfl) ?_
      refine FL.nil ?_
      rcases ifB hp with ⟨c611, hp⟩ | ⟨c611, hp⟩
      ·
       refine FW.condT rfl c611 ?_
       refine FW.seq (FW.region ?_)
       refine FL.v (E.assign (v := Value.bool false) rfl) ?_
       refine FL.nil ?_
       refine FW.ret ?_
       obtain rfl := Option.some.inj hp
       exact ⟨nofun, rfl, ⟨nofun, rfl, ⟨.inr rfl, res1 rfl rfl ⟨_, _, _, _, _, rfl, ⟨(S601.selT (a := [.box b0 47 [v603, v609], .row 52 6 v603 n604 cs605, .row 28 2 v363 n364 cs365, .box b50 52 [v37, v43, Value.int .i64 r327.2, Value.string y346.text, Value.int .i64 s368.2.1, Value.int .i64 s368.2.2.1]]) (l' := [.box b0 47 [v603, v609], .row 52 6 v603 n604 cs605]) [0, 1] (by decide) rfl), (((((r36.inc.tr r332.inc).tr r362.run.inc).tr i564).tr i593).tr i602)⟩, els606, nd607, ((gr502.tr (i564.tr i593) gr608).anti ((r36.inc.tr r332.inc).tr r362.run.inc)), h610⟩⟩⟩⟩
      ·
       refine FW.condF rfl c611 ?_
       refine FW.skip (FW.seq (FW.region ?_))
       refine FL.v (E.move (v := Value.int .i64 ((i368 : Nat) : Int)) rfl) ?_
       refine FL.v (E.eql rfl rfl) ?_
       refine FL.nil ?_
       rcases ifB hp with ⟨c612, hp⟩ | ⟨c612, hp⟩
       ·
        refine FW.condT rfl c612 ?_
        refine FW.region ?_
        refine FL.v (E.move k568) ?_
        refine FL.v (E.nilCheck rfl) ?_
        refine FL.v (E.fieldAddr tf47_0 rfl) ?_
        refine FL.v (E.load rfl (run_load1 Try.isAgg32 (S601.box_now (i := 0) rfl) rfl)) ?_
        refine FL.v (E.lenO te32 rfl S601 (i := 1) rfl els606 (by decide)) ?_
        refine FL.v (E.sub rfl rfl) ?_
        refine FL.v (E.fieldAddr tf52_3 k569) ?_
        obtain ⟨w613, run614, S615⟩ := S601.store (P := Try.prog) (t := 3) (i := 3) (j := 4) (cs' := [v37, v43, Value.int .i64 r327.2, Value.string y346.text, Value.int .i64 (wr ((len r595.2.steps) - 1)), Value.int .i64 s368.2.2.1]) (l' := (.box b0 47 [v603, v609] :: .row 52 6 v603 n604 cs605 :: .row 28 2 v363 n364 cs365 :: .box b50 52 [v37, v43, Value.int .i64 r327.2, Value.string y346.text, Value.int .i64 (wr ((len r595.2.steps) - 1)), Value.int .i64 s368.2.2.1] :: L)) (v := Value.int .i64 (wr ((len r595.2.steps) - 1))) (c := [Value.int .i64 (wr ((len r595.2.steps) - 1))]) rfl Try.sizeOf3 rfl rfl (ones_cons rfl ones_nil) (Nat.le_of_ble_eq_true rfl) rfl rfl
        refine FL.act rfl rfl (E.store rfl rfl run614) ?_
        refine FL.nil (FW.region ?_)
        refine FL.v (E.add k567 rfl) ?_
        refine FL.v (E.move (v := Value.int .i64 (wr (((i368 : Nat) : Int) + 1))) rfl) ?_
        refine FL.nil ?_
        obtain rfl := Option.some.inj hp
        exact ⟨rfl, ⟨_, _, _, _, _, (S615.selT (a := [.box b0 47 [v603, v609], .row 52 6 v603 n604 cs605, .row 28 2 v363 n364 cs365, .box b50 52 [v37, v43, Value.int .i64 r327.2, Value.string y346.text, Value.int .i64 (wr ((len r595.2.steps) - 1)), Value.int .i64 s368.2.2.1]]) (l' := [.row 28 2 v363 n364 cs365, .box b50 52 [v37, v43, Value.int .i64 r327.2, Value.string y346.text, Value.int .i64 (wr ((len r595.2.steps) - 1)), Value.int .i64 s368.2.2.1], .box b0 47 [v603, v609], .row 52 6 v603 n604 cs605]) [2, 3, 0, 1] (by decide) rfl), ((i564.tr i593).tr i602), els606, h610, nd607, ((gr502.tr (i564.tr i593) gr608).anti (Inc.rfl _)), (nat_succ rfl hj368 (chk_le hchk368)), k568, k569, k570, k571⟩⟩
       ·
        refine FW.condF rfl c612 ?_
        refine FW.region ?_
        refine FL.v (E.move k568) ?_
        refine FL.v (E.nilCheck rfl) ?_
        refine FL.v (E.fieldAddr tf47_0 rfl) ?_
        refine FL.v (E.load rfl (run_load1 Try.isAgg32 (S601.box_now (i := 0) rfl) rfl)) ?_
        refine FL.v (E.lenO te32 rfl S601 (i := 1) rfl els606 (by decide)) ?_
        refine FL.v (E.sub rfl rfl) ?_
        refine FL.v (E.fieldAddr tf52_4 k569) ?_
        obtain ⟨w616, run617, S618⟩ := S601.store (P := Try.prog) (t := 3) (i := 3) (j := 5) (cs' := [v37, v43, Value.int .i64 r327.2, Value.string y346.text, Value.int .i64 s368.2.1, Value.int .i64 (wr ((len r595.2.steps) - 1))]) (l' := (.box b0 47 [v603, v609] :: .row 52 6 v603 n604 cs605 :: .row 28 2 v363 n364 cs365 :: .box b50 52 [v37, v43, Value.int .i64 r327.2, Value.string y346.text, Value.int .i64 s368.2.1, Value.int .i64 (wr ((len r595.2.steps) - 1))] :: L)) (v := Value.int .i64 (wr ((len r595.2.steps) - 1))) (c := [Value.int .i64 (wr ((len r595.2.steps) - 1))]) rfl Try.sizeOf3 rfl rfl (ones_cons rfl ones_nil) (Nat.le_of_ble_eq_true rfl) rfl rfl
        refine FL.act rfl rfl (E.store rfl rfl run617) ?_
        refine FL.nil (FW.region ?_)
        refine FL.v (E.add k567 rfl) ?_
        refine FL.v (E.move (v := Value.int .i64 (wr (((i368 : Nat) : Int) + 1))) rfl) ?_
        refine FL.nil ?_
        obtain rfl := Option.some.inj hp
        exact ⟨rfl, ⟨_, _, _, _, _, (S618.selT (a := [.box b0 47 [v603, v609], .row 52 6 v603 n604 cs605, .row 28 2 v363 n364 cs365, .box b50 52 [v37, v43, Value.int .i64 r327.2, Value.string y346.text, Value.int .i64 s368.2.1, Value.int .i64 (wr ((len r595.2.steps) - 1))]]) (l' := [.row 28 2 v363 n364 cs365, .box b50 52 [v37, v43, Value.int .i64 r327.2, Value.string y346.text, Value.int .i64 s368.2.1, Value.int .i64 (wr ((len r595.2.steps) - 1))], .box b0 47 [v603, v609], .row 52 6 v603 n604 cs605]) [2, 3, 0, 1] (by decide) rfl), ((i564.tr i593).tr i602), els606, h610, nd607, ((gr502.tr (i564.tr i593) gr608).anti (Inc.rfl _)), (nat_succ rfl hj368 (chk_le hchk368)), k568, k569, k570, k571⟩⟩
     ·
      clear hp hq
      rintro s368 f631 w630 ⟨H627, v497, n498, cs499, v503, S628, i629, els500, h504, nd501, gr502, k632, k633, k634, k635, k636⟩
      refine FW.seq (FW.region ?_)
      refine FL.v (E.lss k632 k636) ?_
      refine FL.nil (FW.seq ?_)
      refine FW.condF rfl (dlt_maxchk hchk368) ?_
      refine FW.exit ?_
      exact ⟨nofun, rfl, ⟨_, _, _, _, _, S628, i629, els500, h504, nd501, (gr502.anti (Inc.rfl _)), k633, k634⟩⟩
     ·
      clear hq
      intro e f624 w623 hD
      rcases q368 with s368 | x368
      ·
       obtain ⟨rfl, hD⟩ := hD
       obtain ⟨H620, v497, n498, cs499, v503, S621, i622, els500, h504, nd501, gr502, k625, k626⟩ := hD
       replace hp := el_go hp
       obtain rfl := Option.some.inj hp
       exact ⟨rfl, ⟨_, _, _, _, _, (S621.selT (a := [.row 28 2 v363 n364 cs365, .box b50 52 [v37, v43, Value.int .i64 r327.2, Value.string y346.text, Value.int .i64 s368.2.1, Value.int .i64 s368.2.2.1], .box b0 47 [v497, v503], .row 52 6 v497 n498 cs499]) (l' := [.box b50 52 [v37, v43, Value.int .i64 r327.2, Value.string y346.text, Value.int .i64 s368.2.1, Value.int .i64 s368.2.2.1], .box b0 47 [v497, v503], .row 52 6 v497 n498 cs499]) [1, 2, 3] (by decide) rfl), ((r332.inc.tr r362.run.inc).tr i622), els500, h504, nd501, (gr502.anti (r332.inc.tr r362.run.inc)), k625, k626⟩⟩
      ·
       obtain ⟨he, hL⟩ := hD
       replace hp := el_rt hp
       obtain rfl := Option.some.inj hp
       subst he
       exact hL
   ·
    refine FW.condF rfl c326 ?_
    refine FW.skip ?_
    obtain rfl := Option.some.inj hp
    exact ⟨rfl, ⟨_, _, _, _, _, (S61.selT (a := [.box b50 52 [v37, v43, Value.int .i64 1, Value.string ByteArray.empty, Value.int .i64 0, Value.int .i64 0], .box b21 28 [v1_0, v1_1], .box b0 47 [v0_0, v0_1], .row 52 6 v0_0 n0_0 k0_0]) (l' := [.box b50 52 [v37, v43, Value.int .i64 1, Value.string ByteArray.empty, Value.int .i64 0, Value.int .i64 0], .box b0 47 [v0_0, v0_1], .row 52 6 v0_0 n0_0 k0_0]) [0, 2, 3] (by decide) rfl), (Inc.rfl _), (p0_0.mono (up_mono r36.inc)), (p0_1.mono r36.inc), d0_0, Gr.rfl, rfl, rfl⟩⟩
  ·
   rintro s315 rfl f641 w640 ⟨H637, v318, n319, cs320, v324, S638, i639, els321, h325, nd322, gr323, k642, k643⟩
   replace hp := el_go hp
   refine FW.seq ?_
   obtain ⟨xs70, hz71, hp⟩ := bnd hp
   refine FW.drawB (SX H0 w0 H637 (.box b50 52 [v37, v43, Value.int .i64 s315.2.1, Value.string s315.2.2.1, Value.int .i64 s315.2.2.2.1, Value.int .i64 s315.2.2.2.2.1] :: L)) (fun f w => ∃ H : GH, ∃ v86 : Value, ∃ n87 : Nat, ∃ cs88 : List Value, ∃ v92 : Value, St H0 w0 H w (.box b0 47 [v86, v92] :: .row 52 6 v86 n87 cs88 :: L) ∧ Inc H637 H ∧ Els (up w0.heap.size H) eSeqStep 6 cs88 xs70 ∧ PAt H eSequent v92 s315.2.2.2.2.2 ∧ (bl cs88).Nodup ∧ Gr Ha k0_0 cs88 ∧ f 0 = Value.pointer (some (⟨b0, 0, none⟩ : Addr))) (by kernel_rfl) S638.sl ?_ ?_
   ·
    intro w644 r645
    have S646 := S638.call r645
    refine FB.phase [10] (fun w => WAt w (Addr.add ⟨b0, 0, none⟩ 0) [v318]) ?_
    refine FB.t (i := 0) (bs 11 1) rfl (SP.on ((S646.box_now (i := 1) rfl).sub (j := 0) (n := 1) (c := [v318]) rfl) (SP.nil ⟨_, (S646.selT (a := [.box b50 52 [v37, v43, Value.int .i64 s315.2.1, Value.string s315.2.2.1, Value.int .i64 s315.2.2.2.1, Value.int .i64 s315.2.2.2.2.1], .box b0 47 [v318, v324], .row 52 6 v318 n319 cs320]) (l' := [.box b50 52 [v37, v43, Value.int .i64 s315.2.1, Value.string s315.2.2.1, Value.int .i64 s315.2.2.2.1, Value.int .i64 s315.2.2.2.2.1]]) [0] (by decide) rfl), (Inc.rfl _)⟩)) rfl (fun w' hw' => (E.move k642)) ?_
    refine FB.t (i := 1) (bs 11 3) rfl (SP.on ((S646.box_now (i := 1) rfl).sub (j := 0) (n := 1) (c := [v318]) rfl) (SP.nil ⟨_, (S646.selT (a := [.box b50 52 [v37, v43, Value.int .i64 s315.2.1, Value.string s315.2.2.1, Value.int .i64 s315.2.2.2.1, Value.int .i64 s315.2.2.2.2.1], .box b0 47 [v318, v324], .row 52 6 v318 n319 cs320]) (l' := [.box b50 52 [v37, v43, Value.int .i64 s315.2.1, Value.string s315.2.2.1, Value.int .i64 s315.2.2.2.1, Value.int .i64 s315.2.2.2.2.1]]) [0] (by decide) rfl), (Inc.rfl _)⟩)) rfl (fun w' hw' => (E.move k642)) ?_
    refine FB.t (i := 2) (bs 11 7) rfl (SP.on ((S646.box_now (i := 1) rfl).sub (j := 0) (n := 1) (c := [v318]) rfl) (SP.nil ⟨_, (S646.selT (a := [.box b50 52 [v37, v43, Value.int .i64 s315.2.1, Value.string s315.2.2.1, Value.int .i64 s315.2.2.2.1, Value.int .i64 s315.2.2.2.2.1], .box b0 47 [v318, v324], .row 52 6 v318 n319 cs320]) (l' := [.box b50 52 [v37, v43, Value.int .i64 s315.2.1, Value.string s315.2.2.1, Value.int .i64 s315.2.2.2.1, Value.int .i64 s315.2.2.2.2.1]]) [0] (by decide) rfl), (Inc.rfl _)⟩)) rfl (fun w' hw' => (E.nilCheck rfl)) ?_
    refine FB.t (i := 3) (bs 11 15) rfl (SP.on ((S646.box_now (i := 1) rfl).sub (j := 0) (n := 1) (c := [v318]) rfl) (SP.nil ⟨_, (S646.selT (a := [.box b50 52 [v37, v43, Value.int .i64 s315.2.1, Value.string s315.2.2.1, Value.int .i64 s315.2.2.2.1, Value.int .i64 s315.2.2.2.2.1], .box b0 47 [v318, v324], .row 52 6 v318 n319 cs320]) (l' := [.box b50 52 [v37, v43, Value.int .i64 s315.2.1, Value.string s315.2.2.1, Value.int .i64 s315.2.2.2.1, Value.int .i64 s315.2.2.2.2.1]]) [0] (by decide) rfl), (Inc.rfl _)⟩)) rfl (fun w' hw' => (E.fieldAddr tf47_0 rfl)) ?_
    refine FB.p (i := 4) (bs 11 31) 0 [7, 8, 9, 10] rfl (SP.on ((S646.box_now (i := 1) rfl).sub (j := 0) (n := 1) (c := [v318]) rfl) (SP.nil ⟨_, (S646.selT (a := [.box b50 52 [v37, v43, Value.int .i64 s315.2.1, Value.string s315.2.2.1, Value.int .i64 s315.2.2.2.1, Value.int .i64 s315.2.2.2.2.1], .box b0 47 [v318, v324], .row 52 6 v318 n319 cs320]) (l' := [.box b50 52 [v37, v43, Value.int .i64 s315.2.1, Value.string s315.2.2.1, Value.int .i64 s315.2.2.2.1, Value.int .i64 s315.2.2.2.2.1]]) [0] (by decide) rfl), (Inc.rfl _)⟩)) rfl rfl (fun w' hw' => (E.load rfl (run_load0 Try.isAgg32 hw' rfl))) ?_
    refine FB.t (i := 5) (bs 11 63) rfl (SP.on ((S646.box_now (i := 1) rfl).sub (j := 0) (n := 1) (c := [v318]) rfl) (SP.nil ⟨_, (S646.selT (a := [.box b50 52 [v37, v43, Value.int .i64 s315.2.1, Value.string s315.2.2.1, Value.int .i64 s315.2.2.2.1, Value.int .i64 s315.2.2.2.2.1], .box b0 47 [v318, v324], .row 52 6 v318 n319 cs320]) (l' := [.box b50 52 [v37, v43, Value.int .i64 s315.2.1, Value.string s315.2.2.1, Value.int .i64 s315.2.2.2.1, Value.int .i64 s315.2.2.2.2.1]]) [0] (by decide) rfl), (Inc.rfl _)⟩)) rfl (fun w' hw' => (E.load k643 (run_loadA Try.isAgg52 Try.sizeOf52 (SX.box_now hw' (i := 0) rfl) rfl))) ?_
    refine FB.all1 (i := 6) (by kernel_rfl) ?_
    ·
     obtain ⟨v62, w63, run64, S65⟩ := S646.buildSlice (P := Try.prog) te32 [Value.agg #[v37, v43, Value.int .i64 s315.2.1, Value.string s315.2.2.1, Value.int .i64 s315.2.2.2.1, Value.int .i64 s315.2.2.2.2.1]] (parts := #[(0, Value.agg #[v37, v43, Value.int .i64 s315.2.1, Value.string s315.2.2.1, Value.int .i64 s315.2.2.2.1, Value.int .i64 s315.2.2.2.2.1])]) (cells := [v37, v43, Value.int .i64 s315.2.1, Value.string s315.2.2.1, Value.int .i64 s315.2.2.2.1, Value.int .i64 s315.2.2.2.2.1]) rfl (szs_cons rfl szs_nil) (fc_cons rfl fc_nil) (ones_cons h38.one (ones_cons h44.one (ones_cons rfl (ones_cons rfl (ones_cons rfl (ones_cons rfl ones_nil)))))) (Nat.le_of_ble_eq_true rfl)
     have els66 : Els (up w0.heap.size H637) eSeqStep 6 [v37, v43, Value.int .i64 s315.2.1, Value.string s315.2.2.1, Value.int .i64 s315.2.2.2.1, Value.int .i64 s315.2.2.2.2.1] [(SeqStep.mk r31 s315.2.1 s315.2.2.1 s315.2.2.2.1 s315.2.2.2.2.1)] := (Els.snoc (H := (up w0.heap.size H637)) (E := eSeqStep) (k := 6) (c := [v37, v43, Value.int .i64 s315.2.1, Value.string s315.2.2.1, Value.int .i64 s315.2.2.2.1, Value.int .i64 s315.2.2.2.2.1]) (x := (SeqStep.mk r31 s315.2.1 s315.2.2.1 s315.2.2.2.1 s315.2.2.2.2.1)) Els.nil rfl ⟨_, _, rfl, (h38.mono (up_mono i639)), (h44.mono (up_mono i639))⟩)
     have nd67 : (bl [v37, v43, Value.int .i64 s315.2.1, Value.string s315.2.2.1, Value.int .i64 s315.2.2.2.1, Value.int .i64 s315.2.2.2.2.1]).Nodup := by exact nd_two ap49.dis
     have nv69 : New Ha [v37, v43, Value.int .i64 s315.2.1, Value.string s315.2.2.1, Value.int .i64 s315.2.2.2.1, Value.int .i64 s315.2.2.2.2.1] := by exact (New.two nv42 nv48)
     refine FC.val (l' := (bs 11 127)) rfl (by kernel_rfl) rfl rfl rfl (E.buildSlice (B1 rfl) run64) ?_
     refine ⟨(SP.on ((S65.box_now (i := 2) rfl).sub (j := 0) (n := 1) (c := [v318]) rfl) (SP.nil ⟨_, (S65.selT (a := [.row 52 6 v62 1 [v37, v43, Value.int .i64 s315.2.1, Value.string s315.2.2.1, Value.int .i64 s315.2.2.2.1, Value.int .i64 s315.2.2.2.2.1], .box b50 52 [v37, v43, Value.int .i64 s315.2.1, Value.string s315.2.2.1, Value.int .i64 s315.2.2.2.1, Value.int .i64 s315.2.2.2.2.1], .box b0 47 [v318, v324], .row 52 6 v318 n319 cs320]) (l' := [.box b50 52 [v37, v43, Value.int .i64 s315.2.1, Value.string s315.2.2.1, Value.int .i64 s315.2.2.2.1, Value.int .i64 s315.2.2.2.2.1]]) [1] (by decide) rfl), (Inc.rfl _)⟩)), ?_⟩
     refine FB.all1 (i := 7) (by kernel_rfl) ?_
     ·
      obtain ⟨v72, w75, n73, cs74, run76, S77, els78, ce79⟩ := S65.appendO (P := Try.prog) te32 (i := 3) (j := 0) rfl els321 rfl els66 hz71
      have S77 : St H0 w0 H637 w75 (.row 52 6 v62 1 [v37, v43, Value.int .i64 s315.2.1, Value.string s315.2.2.1, Value.int .i64 s315.2.2.2.1, Value.int .i64 s315.2.2.2.2.1] :: .box b50 52 [v37, v43, Value.int .i64 s315.2.1, Value.string s315.2.2.1, Value.int .i64 s315.2.2.2.1, Value.int .i64 s315.2.2.2.2.1] :: .box b0 47 [v318, v324] :: .row 52 6 v72 n73 cs74 :: L) := S77
      have nd80 : (bl cs74).Nodup := by rw [ce79]; exact Gr.nd_app nd322 nd67 gr323 (Els.dom (p0_0.mono (upI.tr (Inc.rfl _)))) (by exact nv69) (by exact dom_two (RSl.dom (h38.mono (upI.tr (Inc.rfl _)))) (RSl.dom (h44.mono (upI.tr (Inc.rfl _)))))
      have gr81 : Gr Ha k0_0 cs74 := by rw [ce79]; exact ((gr323.anti r36.inc).app (by exact nv69))
      have S82 : St H0 w0 H637 w75 (.box b50 52 [v37, v43, Value.int .i64 s315.2.1, Value.string s315.2.2.1, Value.int .i64 s315.2.2.2.1, Value.int .i64 s315.2.2.2.2.1] :: .box b0 47 [v318, v324] :: .row 52 6 v72 n73 cs74 :: L) := S77.drop 0
      refine FC.val (l' := (bs 11 255)) rfl (by kernel_rfl) rfl rfl rfl (E.append rfl rfl run76) ?_
      refine ⟨(SP.on ((S82.box_now (i := 1) rfl).sub (j := 0) (n := 1) (c := [v318]) rfl) (SP.nil ⟨_, (S82.selT (a := [.box b50 52 [v37, v43, Value.int .i64 s315.2.1, Value.string s315.2.2.1, Value.int .i64 s315.2.2.2.1, Value.int .i64 s315.2.2.2.2.1], .box b0 47 [v318, v324], .row 52 6 v72 n73 cs74]) (l' := [.box b50 52 [v37, v43, Value.int .i64 s315.2.1, Value.string s315.2.2.1, Value.int .i64 s315.2.2.2.1, Value.int .i64 s315.2.2.2.2.1]]) [0] (by decide) rfl), (Inc.rfl _)⟩)), ?_⟩
      refine FB.t (i := 8) (bs 11 511) rfl (SP.on ((S82.box_now (i := 1) rfl).sub (j := 0) (n := 1) (c := [v318]) rfl) (SP.nil ⟨_, (S82.selT (a := [.box b50 52 [v37, v43, Value.int .i64 s315.2.1, Value.string s315.2.2.1, Value.int .i64 s315.2.2.2.1, Value.int .i64 s315.2.2.2.2.1], .box b0 47 [v318, v324], .row 52 6 v72 n73 cs74]) (l' := [.box b50 52 [v37, v43, Value.int .i64 s315.2.1, Value.string s315.2.2.1, Value.int .i64 s315.2.2.2.1, Value.int .i64 s315.2.2.2.2.1]]) [0] (by decide) rfl), (Inc.rfl _)⟩)) rfl (fun w' hw' => (E.nilCheck rfl)) ?_
      refine FB.t (i := 9) (bs 11 1023) rfl (SP.on ((S82.box_now (i := 1) rfl).sub (j := 0) (n := 1) (c := [v318]) rfl) (SP.nil ⟨_, (S82.selT (a := [.box b50 52 [v37, v43, Value.int .i64 s315.2.1, Value.string s315.2.2.1, Value.int .i64 s315.2.2.2.1, Value.int .i64 s315.2.2.2.2.1], .box b0 47 [v318, v324], .row 52 6 v72 n73 cs74]) (l' := [.box b50 52 [v37, v43, Value.int .i64 s315.2.1, Value.string s315.2.2.1, Value.int .i64 s315.2.2.2.1, Value.int .i64 s315.2.2.2.2.1]]) [0] (by decide) rfl), (Inc.rfl _)⟩)) rfl (fun w' hw' => (E.fieldAddr tf47_0 rfl)) ?_
      refine FB.all1 (i := 10) (by kernel_rfl) ?_
      ·
       obtain ⟨w83, run84, S85⟩ := S82.store (P := Try.prog) (t := 32) (i := 1) (j := 0) (cs' := [v72, v324]) (l' := (.box b50 52 [v37, v43, Value.int .i64 s315.2.1, Value.string s315.2.2.1, Value.int .i64 s315.2.2.2.1, Value.int .i64 s315.2.2.2.2.1] :: .box b0 47 [v72, v324] :: .row 52 6 v72 n73 cs74 :: L)) (v := v72) (c := [v72]) rfl Try.sizeOf32 (Ln.cells (S82.row_ln (i := 2) rfl)) rfl (ones_cons (Ln.one (S82.row_ln (i := 2) rfl)) ones_nil) (Nat.le_of_ble_eq_true rfl) rfl rfl
       refine FC.act (l' := (bs 11 2047)) rfl (by kernel_rfl) rfl rfl (E.store rfl rfl run84) ?_
       refine ⟨(SP.o (SP.nil ⟨_, (S85.selT (a := [.box b50 52 [v37, v43, Value.int .i64 s315.2.1, Value.string s315.2.2.1, Value.int .i64 s315.2.2.2.1, Value.int .i64 s315.2.2.2.2.1], .box b0 47 [v72, v324], .row 52 6 v72 n73 cs74]) (l' := [.box b50 52 [v37, v43, Value.int .i64 s315.2.1, Value.string s315.2.2.1, Value.int .i64 s315.2.2.2.1, Value.int .i64 s315.2.2.2.2.1]]) [0] (by decide) rfl), (Inc.rfl _)⟩)), ?_⟩
       exact FB.done (by kernel_rfl) ⟨_, _, _, _, _, (S85.selT (a := [.box b50 52 [v37, v43, Value.int .i64 s315.2.1, Value.string s315.2.2.1, Value.int .i64 s315.2.2.2.1, Value.int .i64 s315.2.2.2.2.1], .box b0 47 [v72, v324], .row 52 6 v72 n73 cs74]) (l' := [.box b0 47 [v72, v324], .row 52 6 v72 n73 cs74]) [1, 2] (by decide) rfl), (Inc.rfl _), els78, h325, nd80, (gr81.anti (Inc.rfl _)), k642⟩
   ·
    rintro f98 w97 ⟨H94, v86, n87, cs88, v92, S95, i96, els89, h93, nd90, gr91, k99⟩
    refine FW.seq (FW.region ?_)
    refine FL.v (E.move k99) ?_
    refine FL.v (E.nilCheck rfl) ?_
    refine FL.v (E.fieldAddr tf47_0 rfl) ?_
    refine FL.v (E.load rfl (run_load1 Try.isAgg32 (S95.box_now (i := 0) rfl) rfl)) ?_
    refine FL.v (E.lenO te32 rfl S95 (i := 1) rfl els89 (by decide)) ?_
    refine FL.v (E.leq rfl rfl) ?_
    refine FL.v (E.assign (v := Value.bool (decide ((len xs70) ≤ 200))) rfl) ?_
    refine FL.nil ?_
    refine FW.ret ?_
    obtain rfl := Option.some.inj hp
    exact ⟨.inr rfl, res1 rfl rfl ⟨_, _, _, _, _, rfl, ⟨S95, ((r36.inc.tr i639).tr i96)⟩, els89, nd90, (gr91.anti (Inc.rfl _)), h93⟩⟩
  ·
   rintro x317 rfl e f w hne ⟨he, hL⟩
   replace hp := el_rt hp
   obtain rfl := Option.some.inj hp
   subst he
   exact hL
theorem w_impl_seqSearch_search_F (n : Nat) : ∀ {H0 Ha : GH} {w0 wa : World} {L : List MO} {a0 : seqSearch} {b0 : Nat} {v0_0 : Value} {n0_0 : Nat} {k0_0 : List Value} {v0_1 : Value} (S0 : St H0 w0 Ha wa (.box b0 47 [v0_0, v0_1] :: .row 52 6 v0_0 n0_0 k0_0 :: L)) (p0_0 : Els (up w0.heap.size Ha) eSeqStep 6 k0_0 a0.steps) (d0_0 : (bl k0_0).Nodup) (p0_1 : PAt Ha eSequent v0_1 a0.open_) (a1 : Sequent) (v1_0 : Value) (p1_0 : RSl Ha eS 1 v1_0 a1.left) (v1_1 : Value) (p1_1 : RSl Ha eS 1 v1_1 a1.right) {r : (Bool × seqSearch)} (hp : PF.impl_seqSearch_search_F n a0 a1 = some r), Calls Try.prog 20 #[Value.pointer (some (⟨b0, 0, none⟩ : Addr)), Value.agg #[v1_0, v1_1]] wa (p_impl_seqSearch_search H0 w0 Ha L b0 k0_0 r) := by
 induction n with
 | zero => intros; rename_i hp; exact nomatch hp
 | succ n ih => exact w_impl_seqSearch_search_B (rec_impl_seqSearch_search := PF.impl_seqSearch_search_F n) ih
theorem w_impl_seqSearch_search {H0 Ha : GH} {w0 wa : World} {L : List MO} {a0 : seqSearch} {b0 : Nat} {v0_0 : Value} {n0_0 : Nat} {k0_0 : List Value} {v0_1 : Value} (S0 : St H0 w0 Ha wa (.box b0 47 [v0_0, v0_1] :: .row 52 6 v0_0 n0_0 k0_0 :: L)) (p0_0 : Els (up w0.heap.size Ha) eSeqStep 6 k0_0 a0.steps) (d0_0 : (bl k0_0).Nodup) (p0_1 : PAt Ha eSequent v0_1 a0.open_) (a1 : Sequent) (v1_0 : Value) (p1_0 : RSl Ha eS 1 v1_0 a1.left) (v1_1 : Value) (p1_1 : RSl Ha eS 1 v1_1 a1.right) {r : (Bool × seqSearch)} (hp : PF.impl_seqSearch_search a0 a1 = some r) :
  Calls Try.prog 20 #[Value.pointer (some (⟨b0, 0, none⟩ : Addr)), Value.agg #[v1_0, v1_1]] wa (p_impl_seqSearch_search H0 w0 Ha L b0 k0_0 r) := w_impl_seqSearch_search_F deep S0 p0_0 d0_0 p0_1 a1 v1_0 p1_0 v1_1 p1_1 hp

@[reducible] def p_impl_SearchSequent (Ha : GH) (wa : World) (r : ((List SeqStep) × Bool)) : Ending → World → Prop :=
 fun e w' => ∃ H' : GH, ∃ v0 : Value, ∃ n0 : Nat, ∃ c0 : List Value, e = .returned (Value.tuple #[v0, Value.bool r.2]) ∧ St Ha wa H' w' [.row 52 6 v0 n0 c0] ∧ Els (up wa.heap.size H') eSeqStep 6 c0 r.1 ∧ (bl c0).Nodup
theorem w_impl_SearchSequent {Ha : GH} {wa : World} (hs : Sl Ha wa) (a0 : Sequent) (v0_0 : Value) (p0_0 : RSl Ha eS 1 v0_0 a0.left) (v0_1 : Value) (p0_1 : RSl Ha eS 1 v0_1 a0.right) {r : ((List SeqStep) × Bool)} (hp : (PF.impl_SearchSequent a0) = some r) :
  Calls Try.prog 11 #[Value.agg #[v0_0, v0_1]] wa (p_impl_SearchSequent Ha wa r) := by
 unfold PF.impl_SearchSequent at hp
 have S0 := St.init hs
 refine calls_go (N := 15) (args := [Value.agg #[v0_0, v0_1]]) Try.func11 rfl rfl rfl ?_
 refine FW.seq (FW.region ?_)
 obtain ⟨b21, w22, run23, S24⟩ := S0.box (P := Try.prog) 28 [v0_0, v0_1] (v := Value.agg #[v0_0, v0_1]) rfl (ones_cons p0_0.one (ones_cons p0_1.one ones_nil))
 refine FL.v (E.box rfl run23) ?_
 obtain ⟨H25, S26, i27, at28⟩ := S24.sealBox (i := 0) (l' := []) rfl rfl
 refine FL.v (E.assign (v := Value.slice none 0 0) rfl) ?_
 refine FL.v (E.assign (v := Value.bool false) rfl) ?_
 refine FL.nil (FW.seq (FW.region ?_))
 refine FL.v (E.build (B0) (run_build _ 47 #[] #[Value.slice none 0 0, Value.pointer none] (by rfl))) ?_
 obtain ⟨b29, w30, run31, S32⟩ := S26.box (P := Try.prog) 47 [Value.slice none 0 0, Value.pointer none] (v := Value.agg #[Value.slice none 0 0, Value.pointer none]) rfl (ones_cons rfl (ones_cons rfl ones_nil))
 refine FL.v (E.box rfl run31) ?_
 refine FL.v (E.assign (v := Value.pointer (some (⟨b29, 0, none⟩ : Addr))) rfl) ?_
 refine FL.nil (FW.seq (FW.seq (FW.region ?_)))
 refine FL.v (E.move (v := Value.pointer (some (⟨b29, 0, none⟩ : Addr))) rfl) ?_
 refine FL.v (E.load rfl (run_loadA Try.isAgg28 Try.sizeOf28 (at28.now S32.sl) rfl)) ?_
 have S33 := S32.nil 52 6
 have els34 : Els (up wa.heap.size H25) eSeqStep 6 [] [] := Els.nil
 obtain ⟨r35, hr36, hp⟩ := bnd hp
 have S37 : St Ha wa H25 w30 [.box b29 47 [(Value.slice none 0 0), Value.pointer none], .row 52 6 (Value.slice none 0 0) 0 []] := S33.front 1 rfl rfl
 refine FL.call rfl rfl rfl (E.call Try.call20 (A2 rfl rfl)) (w_impl_seqSearch_search (L := []) S37 (a0 := (seqSearch.mk [] none)) els34 (show (bl []).Nodup from List.nodup_nil) PAt.nil a0 v0_0 (p0_0.mono i27) v0_1 (p0_1.mono i27) hr36) ?_
 rintro e w39 ⟨H38, v42, n43, cs44, v48, rfl, ⟨S40, i41⟩, els45, nd46, gr47, h49⟩
 refine ⟨_, rfl, ?_⟩
 have S40 : St Ha wa H38 w39 [.box b29 47 [v42, v48], .row 52 6 v42 n43 cs44] := S40
 refine FL.v (E.not rfl) ?_
 refine FL.nil ?_
 rcases ifB hp with ⟨c50, hp⟩ | ⟨c50, hp⟩
 ·
  refine FW.condT rfl c50 ?_
  refine FW.seq (FW.region ?_)
  refine FL.v (E.assign (v := Value.slice none 0 0) rfl) ?_
  refine FL.v (E.assign (v := Value.bool false) rfl) ?_
  refine FL.nil ?_
  refine FW.ret ?_
  obtain rfl := Option.some.inj hp
  exact ⟨.inr rfl, res2 rfl rfl rfl ⟨_, _, _, _, rfl, ((S40.nil 52 6).sel [0] (by decide) rfl), Els.nil, List.nodup_nil⟩⟩
 ·
  refine FW.condF rfl c50 ?_
  refine FW.skip (FW.seq (FW.region ?_))
  refine FL.v (E.move (v := Value.pointer (some (⟨b29, 0, none⟩ : Addr))) rfl) ?_
  refine FL.v (E.nilCheck rfl) ?_
  refine FL.v (E.fieldAddr tf47_0 rfl) ?_
  refine FL.v (E.load rfl (run_load1 Try.isAgg32 (S40.box_now (i := 0) rfl) rfl)) ?_
  refine FL.v (E.assign (v := v42) rfl) ?_
  refine FL.v (E.assign (v := Value.bool true) rfl) ?_
  refine FL.nil ?_
  refine FW.ret ?_
  obtain rfl := Option.some.inj hp
  exact ⟨.inr rfl, res2 rfl rfl rfl ⟨_, _, _, _, rfl, (S40.sel [1] (by decide) rfl), els45, nd46⟩⟩

set_option maxHeartbeats 4000000 in
theorem w_laws_eqStringS {Ha : GH} {wa : World} (hs : Sl Ha wa) (v0 : Value) (a0 : List ByteArray) (p0 : RSl Ha eS 1 v0 a0) (v1 : Value) (a1 : List ByteArray) (p1 : RSl Ha eS 1 v1 a1) {r : Bool} (hp : (PF.laws_eqStringS a0 a1) = some r) :
  Calls Try.prog 22 #[v0, v1] wa (Sc Ha wa (Value.bool r)) := by
 unfold PF.laws_eqStringS at hp
 have S0 := St.init hs
 refine calls_go (N := 26) (args := [v0, v1]) Try.func22 rfl rfl rfl ?_
 refine FW.seq (FW.region ?_)
 refine FL.v (E.assign (v := Value.bool false) rfl) ?_
 refine FL.nil (FW.seq (FW.seq (FW.region ?_)))
 refine FL.v (E.move (v := v0) rfl) ?_
 refine FL.v (E.lenP te22 rfl p0) ?_
 refine FL.v (E.move (v := v1) rfl) ?_
 refine FL.v (E.lenP te22 rfl p1) ?_
 refine FL.v (E.neq rfl rfl) ?_
 refine FL.nil ?_
 rcases ifB hp with ⟨c21, hp⟩ | ⟨c21, hp⟩
 ·
  refine FW.condT rfl c21 ?_
  refine FW.seq (FW.region ?_)
  refine FL.v (E.assign (v := Value.bool false) rfl) ?_
  refine FL.nil ?_
  refine FW.ret ?_
  obtain rfl := Option.some.inj hp
  exact ⟨.inr rfl, res1 rfl rfl ⟨rfl, S0.back⟩⟩
 ·
  refine FW.condF rfl c21 ?_
  refine FW.skip (FW.seq (FW.seq (FW.region ?_)))
  refine FL.v (E.assign (v := Value.int .i64 0) rfl) ?_
  refine FL.nil ?_
  obtain ⟨q23, hq, hp⟩ := bndR hp
  refine FW.block ?_
  refine FW.mono (FW.forL (S := Unit) (X := Bool) (fun (i23 : Nat) (s23 : Unit) f w => ∃ H : GH, St Ha wa H w [] ∧ Inc Ha H ∧ f 5 = Value.int .i64 ((i23 : Nat) : Int) ∧ f 0 = v0 ∧ f 1 = v1) (fun q e f w => match q with | .go s23 => e = Exit.exit 0 ∧ (∃ H : GH, St Ha wa H w [] ∧ Inc Ha H) | .rt x => ((e = Exit.ret) ∧ (fun e f w => (e = Exit.normal ∨ e = Exit.ret) ∧ ∀ a, Fr (δ := []) 26 a f → ∃ v, (results Try.f22 a.tmps).run Try.prog w = .ok v w ∧ (Sc Ha wa (Value.bool x)) (.returned v) w) e f w)) hq ⟨_, S0, (Inc.rfl _), rfl, rfl, rfl⟩ ?_ ?_) ?_
  ·
   clear hp hq
   rintro i23 y22 s23 f55 w54 ⟨H51, S52, i53, k56, k57, k58⟩ hx23 o78 hp
   refine FW.seq (FW.seq (FW.region ?_))
   refine FL.v (E.move k56) ?_
   refine FL.v (E.move k57) ?_
   refine FL.v (E.lenP te22 rfl p0) ?_
   refine FL.v (E.lssT rfl rfl (lss_len hx23)) ?_
   refine FL.nil ?_
   refine FW.condT rfl rfl ?_
   refine FW.skip (FW.seq (FW.block (FW.seq ?_)))
   refine FW.draw (fun w' => Run w54.heap.size H51 w54 H51 w') (by kernel_rfl) (by kernel_rfl) (run_drew S52.sl) ?_
   refine FD.val rfl rfl rfl (fun w' hw' => (E.move k57)) ?_
   refine FD.val rfl rfl rfl (fun w' hw' => (E.move k56)) ?_
   obtain ⟨p60, cs61, pt62, l63, at64, rel65⟩ := p0.at (ix_nat hx23)
   obtain rfl := eS_open rel65
   refine FD.val rfl rfl rfl (fun w' hw' => (E.indexAddr te22 rfl rfl pt62)) ?_
   refine FD.val rfl rfl rfl (fun w' hw' => (E.load rfl (run_load0 Try.isAgg9 ((at64.mono i53).now (S52.call hw').sl) rfl))) ?_
   refine FD.val rfl rfl rfl (fun w' hw' => (E.move k58)) ?_
   refine FD.val rfl rfl rfl (fun w' hw' => (E.move k56)) ?_
   obtain ⟨x72, hx73, hp⟩ := bnd hp
   obtain ⟨p66, cs67, pt68, l69, at70, rel71⟩ := p1.at hx73
   obtain rfl := eS_open rel71
   refine FD.val rfl rfl rfl (fun w' hw' => (E.indexAddr te22 rfl rfl pt68)) ?_
   refine FD.val rfl rfl rfl (fun w' hw' => (E.load rfl (run_load0 Try.isAgg9 ((at70.mono i53).now (S52.call hw').sl) rfl))) ?_
   refine FD.val rfl rfl rfl (fun w' hw' => (E.neqS rfl rfl)) ?_
   refine FD.nil ?_
   intro w74 r76
   have S75 := S52.call r76
   rcases ifB hp with ⟨c77, hp⟩ | ⟨c77, hp⟩
   ·
    refine FW.condT rfl c77 ?_
    refine FW.seq (FW.region ?_)
    refine FL.v (E.assign (v := Value.bool false) rfl) ?_
    refine FL.nil ?_
    refine FW.ret ?_
    obtain rfl := Option.some.inj hp
    exact ⟨nofun, rfl, ⟨.inr rfl, res1 rfl rfl ⟨rfl, S75.back⟩⟩⟩
   ·
    refine FW.condF rfl c77 ?_
    refine FW.skip (FW.region ?_)
    refine FL.v (E.move k56) ?_
    refine FL.v (E.add rfl rfl) ?_
    refine FL.v (E.assign (v := Value.int .i64 (wr (((i23 : Nat) : Int) + 1))) rfl) ?_
    refine FL.nil ?_
    obtain rfl := Option.some.inj hp
    exact ⟨rfl, ⟨_, S75, i53, (nat_succ rfl (lt_of_get hx23) (p0.mono i53).le), k57, k58⟩⟩
  ·
   clear hp hq
   rintro s23 f88 w87 ⟨H84, S85, i86, k89, k90, k91⟩
   refine FW.seq (FW.seq (FW.region ?_))
   refine FL.v (E.move k89) ?_
   refine FL.v (E.move k90) ?_
   refine FL.v (E.lenP te22 rfl p0) ?_
   refine FL.v (E.lss rfl rfl) ?_
   refine FL.nil ?_
   refine FW.condF rfl dlt_len ?_
   refine FW.exit ?_
   exact ⟨nofun, rfl, ⟨_, S85, i86⟩⟩
  ·
   clear hq
   intro e f83 w82 hD
   rcases q23 with s23 | x23
   ·
    obtain ⟨rfl, hD⟩ := hD
    obtain ⟨H79, S80, i81⟩ := hD
    replace hp := el_go hp
    refine FW.seq (FW.region ?_)
    refine FL.v (E.assign (v := Value.bool true) rfl) ?_
    refine FL.nil ?_
    refine FW.ret ?_
    obtain rfl := Option.some.inj hp
    exact ⟨.inr rfl, res1 rfl rfl ⟨rfl, S80.back⟩⟩
   ·
    obtain ⟨he, hL⟩ := hD
    replace hp := el_rt hp
    obtain rfl := Option.some.inj hp
    subst he
    exact hL

theorem w_laws_eqSequent {Ha : GH} {wa : World} (hs : Sl Ha wa) (a0 : Sequent) (v0_0 : Value) (p0_0 : RSl Ha eS 1 v0_0 a0.left) (v0_1 : Value) (p0_1 : RSl Ha eS 1 v0_1 a0.right) (a1 : Sequent) (v1_0 : Value) (p1_0 : RSl Ha eS 1 v1_0 a1.left) (v1_1 : Value) (p1_1 : RSl Ha eS 1 v1_1 a1.right) {r : Bool} (hp : (PF.laws_eqSequent a0 a1) = some r) :
  Calls Try.prog 9 #[Value.agg #[v0_0, v0_1], Value.agg #[v1_0, v1_1]] wa (Sc Ha wa (Value.bool r)) := by
 unfold PF.laws_eqSequent at hp
 have S0 := St.init hs
 refine calls_go (N := 17) (args := [Value.agg #[v0_0, v0_1], Value.agg #[v1_0, v1_1]]) Try.func9 rfl rfl rfl ?_
 refine FW.seq (FW.region ?_)
 obtain ⟨b21, w22, run23, S24⟩ := S0.box (P := Try.prog) 28 [v0_0, v0_1] (v := Value.agg #[v0_0, v0_1]) rfl (ones_cons p0_0.one (ones_cons p0_1.one ones_nil))
 refine FL.v (E.box rfl run23) ?_
 obtain ⟨H25, S26, i27, at28⟩ := S24.sealBox (i := 0) (l' := []) rfl rfl
 obtain ⟨b29, w30, run31, S32⟩ := S26.box (P := Try.prog) 28 [v1_0, v1_1] (v := Value.agg #[v1_0, v1_1]) rfl (ones_cons p1_0.one (ones_cons p1_1.one ones_nil))
 refine FL.v (E.box rfl run31) ?_
 obtain ⟨H33, S34, i35, at36⟩ := S32.sealBox (i := 0) (l' := []) rfl rfl
 refine FL.v (E.assign (v := Value.bool false) rfl) ?_
 refine FL.nil (FW.seq (FW.seq (FW.region ?_)))
 refine FL.v (E.fieldAddr tf28_0 rfl) ?_
 refine FL.v (E.load rfl (run_load1 Try.isAgg22 ((at28.mono i35).now S34.sl) rfl)) ?_
 refine FL.v (E.fieldAddr tf28_0 rfl) ?_
 refine FL.v (E.load rfl (run_load1 Try.isAgg22 (at36.now S34.sl) rfl)) ?_
 obtain ⟨r37, hr38, hp⟩ := bnd hp
 refine FL.call rfl rfl rfl (E.call Try.call22 (A2 rfl rfl)) (w_laws_eqStringS S34.sl v0_0 a0.left (p0_0.mono (i27.tr i35)) v1_0 a1.left (p1_0.mono (i27.tr i35)) hr38) ?_
 rintro e w39 ⟨rfl, r40⟩
 refine ⟨_, rfl, ?_⟩
 have S41 := S34.call r40
 refine FL.v (E.not rfl) ?_
 refine FL.nil ?_
 rcases ifB hp with ⟨c42, hp⟩ | ⟨c42, hp⟩
 ·
  refine FW.condT rfl c42 ?_
  refine FW.seq (FW.region ?_)
  refine FL.v (E.assign (v := Value.bool false) rfl) ?_
  refine FL.nil ?_
  refine FW.ret ?_
  obtain rfl := Option.some.inj hp
  exact ⟨.inr rfl, res1 rfl rfl ⟨rfl, S41.back⟩⟩
 ·
  refine FW.condF rfl c42 ?_
  refine FW.skip (FW.seq (FW.seq (FW.region ?_)))
  refine FL.v (E.fieldAddr tf28_1 rfl) ?_
  refine FL.v (E.load rfl (run_load1 Try.isAgg22 ((at28.mono i35).now S41.sl) rfl)) ?_
  refine FL.v (E.fieldAddr tf28_1 rfl) ?_
  refine FL.v (E.load rfl (run_load1 Try.isAgg22 (at36.now S41.sl) rfl)) ?_
  obtain ⟨r43, hr44, hp⟩ := bnd hp
  refine FL.call rfl rfl rfl (E.call Try.call22 (A2 rfl rfl)) (w_laws_eqStringS S41.sl v0_1 a0.right (p0_1.mono (i27.tr i35)) v1_1 a1.right (p1_1.mono (i27.tr i35)) hr44) ?_
  rintro e w45 ⟨rfl, r46⟩
  refine ⟨_, rfl, ?_⟩
  have S47 := S41.call r46
  refine FL.v (E.not rfl) ?_
  refine FL.nil ?_
  rcases ifB hp with ⟨c48, hp⟩ | ⟨c48, hp⟩
  ·
   refine FW.condT rfl c48 ?_
   refine FW.seq (FW.region ?_)
   refine FL.v (E.assign (v := Value.bool false) rfl) ?_
   refine FL.nil ?_
   refine FW.ret ?_
   obtain rfl := Option.some.inj hp
   exact ⟨.inr rfl, res1 rfl rfl ⟨rfl, S47.back⟩⟩
  ·
   refine FW.condF rfl c48 ?_
   refine FW.skip (FW.seq (FW.region ?_))
   refine FL.v (E.assign (v := Value.bool true) rfl) ?_
   refine FL.nil ?_
   refine FW.ret ?_
   obtain rfl := Option.some.inj hp
   exact ⟨.inr rfl, res1 rfl rfl ⟨rfl, S47.back⟩⟩

set_option maxHeartbeats 4000000 in
theorem w_laws_eqSeqStep {Ha : GH} {wa : World} (hs : Sl Ha wa) (a0 : SeqStep) (v0_0 : Value) (p0_0 : RSl Ha eS 1 v0_0 a0.seq.left) (v0_1 : Value) (p0_1 : RSl Ha eS 1 v0_1 a0.seq.right) (a1 : SeqStep) (v1_0 : Value) (p1_0 : RSl Ha eS 1 v1_0 a1.seq.left) (v1_1 : Value) (p1_1 : RSl Ha eS 1 v1_1 a1.seq.right) {r : Bool} (hp : (PF.laws_eqSeqStep a0 a1) = some r) :
  Calls Try.prog 24 #[Value.agg #[v0_0, v0_1, Value.int .i64 a0.rule, Value.string a0.main, Value.int .i64 a0.a, Value.int .i64 a0.b], Value.agg #[v1_0, v1_1, Value.int .i64 a1.rule, Value.string a1.main, Value.int .i64 a1.a, Value.int .i64 a1.b]] wa (Sc Ha wa (Value.bool r)) := by
 unfold PF.laws_eqSeqStep at hp
 have S0 := St.init hs
 refine calls_go (N := 31) (args := [Value.agg #[v0_0, v0_1, Value.int .i64 a0.rule, Value.string a0.main, Value.int .i64 a0.a, Value.int .i64 a0.b], Value.agg #[v1_0, v1_1, Value.int .i64 a1.rule, Value.string a1.main, Value.int .i64 a1.a, Value.int .i64 a1.b]]) Try.func24 rfl rfl rfl ?_
 refine FW.seq (FW.region ?_)
 obtain ⟨b21, w22, run23, S24⟩ := S0.box (P := Try.prog) 52 [v0_0, v0_1, Value.int .i64 a0.rule, Value.string a0.main, Value.int .i64 a0.a, Value.int .i64 a0.b] (v := Value.agg #[v0_0, v0_1, Value.int .i64 a0.rule, Value.string a0.main, Value.int .i64 a0.a, Value.int .i64 a0.b]) rfl (ones_cons p0_0.one (ones_cons p0_1.one (ones_cons rfl (ones_cons rfl (ones_cons rfl (ones_cons rfl ones_nil))))))
 refine FL.v (E.box rfl run23) ?_
 obtain ⟨H25, S26, i27, at28⟩ := S24.sealBox (i := 0) (l' := []) rfl rfl
 obtain ⟨b29, w30, run31, S32⟩ := S26.box (P := Try.prog) 52 [v1_0, v1_1, Value.int .i64 a1.rule, Value.string a1.main, Value.int .i64 a1.a, Value.int .i64 a1.b] (v := Value.agg #[v1_0, v1_1, Value.int .i64 a1.rule, Value.string a1.main, Value.int .i64 a1.a, Value.int .i64 a1.b]) rfl (ones_cons p1_0.one (ones_cons p1_1.one (ones_cons rfl (ones_cons rfl (ones_cons rfl (ones_cons rfl ones_nil))))))
 refine FL.v (E.box rfl run31) ?_
 obtain ⟨H33, S34, i35, at36⟩ := S32.sealBox (i := 0) (l' := []) rfl rfl
 refine FL.v (E.assign (v := Value.bool false) rfl) ?_
 refine FL.nil (FW.seq (FW.seq (FW.region ?_)))
 refine FL.v (E.fieldAddr tf52_0 rfl) ?_
 refine FL.v (E.load rfl (run_loadA Try.isAgg28 Try.sizeOf28 (((at28.mono i35).now S34.sl).sub (j := 0) (n := 2) (c := [v0_0, v0_1]) rfl) rfl)) ?_
 refine FL.v (E.fieldAddr tf52_0 rfl) ?_
 refine FL.v (E.load rfl (run_loadA Try.isAgg28 Try.sizeOf28 ((at36.now S34.sl).sub (j := 0) (n := 2) (c := [v1_0, v1_1]) rfl) rfl)) ?_
 obtain ⟨r37, hr38, hp⟩ := bnd hp
 refine FL.call rfl rfl rfl (E.call Try.call9 (A2 rfl rfl)) (w_laws_eqSequent S34.sl a0.seq v0_0 (p0_0.mono (i27.tr i35)) v0_1 (p0_1.mono (i27.tr i35)) a1.seq v1_0 (p1_0.mono (i27.tr i35)) v1_1 (p1_1.mono (i27.tr i35)) hr38) ?_
 rintro e w39 ⟨rfl, r40⟩
 refine ⟨_, rfl, ?_⟩
 have S41 := S34.call r40
 refine FL.v (E.not rfl) ?_
 refine FL.nil ?_
 rcases ifB hp with ⟨c42, hp⟩ | ⟨c42, hp⟩
 ·
  refine FW.condT rfl c42 ?_
  refine FW.seq (FW.region ?_)
  refine FL.v (E.assign (v := Value.bool false) rfl) ?_
  refine FL.nil ?_
  refine FW.ret ?_
  obtain rfl := Option.some.inj hp
  exact ⟨.inr rfl, res1 rfl rfl ⟨rfl, S41.back⟩⟩
 ·
  refine FW.condF rfl c42 ?_
  refine FW.skip (FW.seq (FW.seq (FW.region ?_)))
  refine FL.v (E.fieldAddr tf52_1 rfl) ?_
  refine FL.v (E.load rfl (run_load1 Try.isAgg3 ((at28.mono i35).now S41.sl) rfl)) ?_
  refine FL.v (E.fieldAddr tf52_1 rfl) ?_
  refine FL.v (E.load rfl (run_load1 Try.isAgg3 (at36.now S41.sl) rfl)) ?_
  refine FL.v (E.neq rfl rfl) ?_
  refine FL.nil ?_
  rcases ifB hp with ⟨c43, hp⟩ | ⟨c43, hp⟩
  ·
   refine FW.condT rfl c43 ?_
   refine FW.seq (FW.region ?_)
   refine FL.v (E.assign (v := Value.bool false) rfl) ?_
   refine FL.nil ?_
   refine FW.ret ?_
   obtain rfl := Option.some.inj hp
   exact ⟨.inr rfl, res1 rfl rfl ⟨rfl, S41.back⟩⟩
  ·
   refine FW.condF rfl c43 ?_
   refine FW.skip (FW.seq (FW.seq (FW.region ?_)))
   refine FL.v (E.fieldAddr tf52_2 rfl) ?_
   refine FL.v (E.load rfl (run_load1 Try.isAgg9 ((at28.mono i35).now S41.sl) rfl)) ?_
   refine FL.v (E.fieldAddr tf52_2 rfl) ?_
   refine FL.v (E.load rfl (run_load1 Try.isAgg9 (at36.now S41.sl) rfl)) ?_
   refine FL.v (E.neqS rfl rfl) ?_
   refine FL.nil ?_
   rcases ifB hp with ⟨c44, hp⟩ | ⟨c44, hp⟩
   ·
    refine FW.condT rfl c44 ?_
    refine FW.seq (FW.region ?_)
    refine FL.v (E.assign (v := Value.bool false) rfl) ?_
    refine FL.nil ?_
    refine FW.ret ?_
    obtain rfl := Option.some.inj hp
    exact ⟨.inr rfl, res1 rfl rfl ⟨rfl, S41.back⟩⟩
   ·
    refine FW.condF rfl c44 ?_
    refine FW.skip (FW.seq (FW.seq (FW.region ?_)))
    refine FL.v (E.fieldAddr tf52_3 rfl) ?_
    refine FL.v (E.load rfl (run_load1 Try.isAgg3 ((at28.mono i35).now S41.sl) rfl)) ?_
    refine FL.v (E.fieldAddr tf52_3 rfl) ?_
    refine FL.v (E.load rfl (run_load1 Try.isAgg3 (at36.now S41.sl) rfl)) ?_
    refine FL.v (E.neq rfl rfl) ?_
    refine FL.nil ?_
    rcases ifB hp with ⟨c45, hp⟩ | ⟨c45, hp⟩
    ·
     refine FW.condT rfl c45 ?_
     refine FW.seq (FW.region ?_)
     refine FL.v (E.assign (v := Value.bool false) rfl) ?_
     refine FL.nil ?_
     refine FW.ret ?_
     obtain rfl := Option.some.inj hp
     exact ⟨.inr rfl, res1 rfl rfl ⟨rfl, S41.back⟩⟩
    ·
     refine FW.condF rfl c45 ?_
     refine FW.skip (FW.seq (FW.seq (FW.region ?_)))
     refine FL.v (E.fieldAddr tf52_4 rfl) ?_
     refine FL.v (E.load rfl (run_load1 Try.isAgg3 ((at28.mono i35).now S41.sl) rfl)) ?_
     refine FL.v (E.fieldAddr tf52_4 rfl) ?_
     refine FL.v (E.load rfl (run_load1 Try.isAgg3 (at36.now S41.sl) rfl)) ?_
     refine FL.v (E.neq rfl rfl) ?_
     refine FL.nil ?_
     rcases ifB hp with ⟨c46, hp⟩ | ⟨c46, hp⟩
     ·
      refine FW.condT rfl c46 ?_
      refine FW.seq (FW.region ?_)
      refine FL.v (E.assign (v := Value.bool false) rfl) ?_
      refine FL.nil ?_
      refine FW.ret ?_
      obtain rfl := Option.some.inj hp
      exact ⟨.inr rfl, res1 rfl rfl ⟨rfl, S41.back⟩⟩
     ·
      refine FW.condF rfl c46 ?_
      refine FW.skip (FW.seq (FW.region ?_))
      refine FL.v (E.assign (v := Value.bool true) rfl) ?_
      refine FL.nil ?_
      refine FW.ret ?_
      obtain rfl := Option.some.inj hp
      exact ⟨.inr rfl, res1 rfl rfl ⟨rfl, S41.back⟩⟩

set_option maxHeartbeats 4000000 in
theorem w_laws_eqSeqStepS {Ha : GH} {wa : World} (hs : Sl Ha wa) (v0 : Value) (a0 : List SeqStep) (p0 : RSl Ha eSeqStep 6 v0 a0) (v1 : Value) (a1 : List SeqStep) (p1 : RSl Ha eSeqStep 6 v1 a1) {r : Bool} (hp : (PF.laws_eqSeqStepS a0 a1) = some r) :
  Calls Try.prog 12 #[v0, v1] wa (Sc Ha wa (Value.bool r)) := by
 unfold PF.laws_eqSeqStepS at hp
 have S0 := St.init hs
 refine calls_go (N := 27) (args := [v0, v1]) Try.func12 rfl rfl rfl ?_
 refine FW.seq (FW.region ?_)
 refine FL.v (E.assign (v := Value.bool false) rfl) ?_
 refine FL.nil (FW.seq (FW.seq (FW.region ?_)))
 refine FL.v (E.move (v := v0) rfl) ?_
 refine FL.v (E.lenP te32 rfl p0) ?_
 refine FL.v (E.move (v := v1) rfl) ?_
 refine FL.v (E.lenP te32 rfl p1) ?_
 refine FL.v (E.neq rfl rfl) ?_
 refine FL.nil ?_
 rcases ifB hp with ⟨c21, hp⟩ | ⟨c21, hp⟩
 ·
  refine FW.condT rfl c21 ?_
  refine FW.seq (FW.region ?_)
  refine FL.v (E.assign (v := Value.bool false) rfl) ?_
  refine FL.nil ?_
  refine FW.ret ?_
  obtain rfl := Option.some.inj hp
  exact ⟨.inr rfl, res1 rfl rfl ⟨rfl, S0.back⟩⟩
 ·
  refine FW.condF rfl c21 ?_
  refine FW.skip (FW.seq (FW.seq (FW.region ?_)))
  refine FL.v (E.assign (v := Value.int .i64 0) rfl) ?_
  refine FL.nil ?_
  obtain ⟨q23, hq, hp⟩ := bndR hp
  refine FW.block ?_
  refine FW.mono (FW.forL (S := Unit) (X := Bool) (fun (i23 : Nat) (s23 : Unit) f w => ∃ H : GH, St Ha wa H w [] ∧ Inc Ha H ∧ f 5 = Value.int .i64 ((i23 : Nat) : Int) ∧ f 0 = v0 ∧ f 1 = v1) (fun q e f w => match q with | .go s23 => e = Exit.exit 0 ∧ (∃ H : GH, St Ha wa H w [] ∧ Inc Ha H) | .rt x => ((e = Exit.ret) ∧ (fun e f w => (e = Exit.normal ∨ e = Exit.ret) ∧ ∀ a, Fr (δ := []) 27 a f → ∃ v, (results Try.f12 a.tmps).run Try.prog w = .ok v w ∧ (Sc Ha wa (Value.bool x)) (.returned v) w) e f w)) hq ⟨_, S0, (Inc.rfl _), rfl, rfl, rfl⟩ ?_ ?_) ?_
  ·
   clear hp hq
   rintro i23 y22 s23 f65 w64 ⟨H61, S62, i63, k66, k67, k68⟩ hx23 o98 hp
   refine FW.seq (FW.seq (FW.region ?_))
   refine FL.v (E.move k66) ?_
   refine FL.v (E.move k67) ?_
   refine FL.v (E.lenP te32 rfl p0) ?_
   refine FL.v (E.lssT rfl rfl (lss_len hx23)) ?_
   refine FL.nil ?_
   refine FW.condT rfl rfl ?_
   refine FW.skip (FW.seq (FW.block (FW.seq ?_)))
   refine FW.draw (fun w' => Run w64.heap.size H61 w64 H61 w') (by kernel_rfl) (by kernel_rfl) (run_drew S62.sl) ?_
   refine FD.val rfl rfl rfl (fun w' hw' => (E.move k67)) ?_
   refine FD.val rfl rfl rfl (fun w' hw' => (E.move k66)) ?_
   obtain ⟨p70, cs71, pt72, l73, at74, rel75⟩ := p0.at (ix_nat hx23)
   obtain ⟨v76, v78, rfl, h77, h79⟩ := eSeqStep_open rel75
   refine FD.val rfl rfl rfl (fun w' hw' => (E.indexAddr te32 rfl rfl pt72)) ?_
   refine FD.val rfl rfl rfl (fun w' hw' => (E.load rfl (run_loadA Try.isAgg52 Try.sizeOf52 ((at74.mono i63).now (S62.call hw').sl) rfl))) ?_
   refine FD.val rfl rfl rfl (fun w' hw' => (E.move k68)) ?_
   refine FD.val rfl rfl rfl (fun w' hw' => (E.move k66)) ?_
   obtain ⟨x86, hx87, hp⟩ := bnd hp
   obtain ⟨p80, cs81, pt82, l83, at84, rel85⟩ := p1.at hx87
   obtain ⟨v88, v90, rfl, h89, h91⟩ := eSeqStep_open rel85
   refine FD.val rfl rfl rfl (fun w' hw' => (E.indexAddr te32 rfl rfl pt82)) ?_
   refine FD.val rfl rfl rfl (fun w' hw' => (E.load rfl (run_loadA Try.isAgg52 Try.sizeOf52 ((at84.mono i63).now (S62.call hw').sl) rfl))) ?_
   obtain ⟨r92, hr93, hp⟩ := bnd hp
   refine FD.call rfl rfl rfl (fun w' hw' => (E.call Try.call24 (A2 rfl rfl))) (fun w' hw' => Calls.cls hw' (w_laws_eqSeqStep (S62.call hw').sl y22 v76 (h77.mono i63) v78 (h79.mono i63) x86 v88 (h89.mono i63) v90 (h91.mono i63) hr93)) ?_
   refine FD.val rfl rfl rfl (fun w' hw' => (E.not rfl)) ?_
   refine FD.nil ?_
   intro w94 r96
   have S95 := S62.call r96
   rcases ifB hp with ⟨c97, hp⟩ | ⟨c97, hp⟩
   ·
    refine FW.condT rfl c97 ?_
    refine FW.seq (FW.region ?_)
    refine FL.v (E.assign (v := Value.bool false) rfl) ?_
    refine FL.nil ?_
    refine FW.ret ?_
    obtain rfl := Option.some.inj hp
    exact ⟨nofun, rfl, ⟨.inr rfl, res1 rfl rfl ⟨rfl, S95.back⟩⟩⟩
   ·
    refine FW.condF rfl c97 ?_
    refine FW.skip (FW.region ?_)
    refine FL.v (E.move k66) ?_
    refine FL.v (E.add rfl rfl) ?_
    refine FL.v (E.assign (v := Value.int .i64 (wr (((i23 : Nat) : Int) + 1))) rfl) ?_
    refine FL.nil ?_
    obtain rfl := Option.some.inj hp
    exact ⟨rfl, ⟨_, S95, i63, (nat_succ rfl (lt_of_get hx23) (p0.mono i63).le), k67, k68⟩⟩
  ·
   clear hp hq
   rintro s23 f108 w107 ⟨H104, S105, i106, k109, k110, k111⟩
   refine FW.seq (FW.seq (FW.region ?_))
   refine FL.v (E.move k109) ?_
   refine FL.v (E.move k110) ?_
   refine FL.v (E.lenP te32 rfl p0) ?_
   refine FL.v (E.lss rfl rfl) ?_
   refine FL.nil ?_
   refine FW.condF rfl dlt_len ?_
   refine FW.exit ?_
   exact ⟨nofun, rfl, ⟨_, S105, i106⟩⟩
  ·
   clear hq
   intro e f103 w102 hD
   rcases q23 with s23 | x23
   ·
    obtain ⟨rfl, hD⟩ := hD
    obtain ⟨H99, S100, i101⟩ := hD
    replace hp := el_go hp
    refine FW.seq (FW.region ?_)
    refine FL.v (E.assign (v := Value.bool true) rfl) ?_
    refine FL.nil ?_
    refine FW.ret ?_
    obtain rfl := Option.some.inj hp
    exact ⟨.inr rfl, res1 rfl rfl ⟨rfl, S100.back⟩⟩
   ·
    obtain ⟨he, hL⟩ := hD
    replace hp := el_rt hp
    obtain rfl := Option.some.inj hp
    subst he
    exact hL

theorem w_laws_markTextO {Ha : GH} {wa : World} (hs : Sl Ha wa) (a0 : Int) {r : ByteArray} (hp : (PF.laws_markTextO a0) = some r) :
  Calls Try.prog 26 #[Value.int .i64 a0] wa (Sc Ha wa (Value.string r)) := by
 unfold PF.laws_markTextO at hp
 have S0 := St.init hs
 refine calls_go (N := 20) (args := [Value.int .i64 a0]) Try.func26 rfl rfl rfl ?_
 refine FW.seq (FW.region ?_)
 refine FL.v (E.assign (v := Value.string (ByteArray.mk #[])) rfl) ?_
 refine FL.nil (FW.seq (FW.seq (FW.region ?_)))
 refine FL.v (E.move (v := Value.int .i64 a0) rfl) ?_
 refine FL.v (E.leq rfl rfl) ?_
 refine FL.nil ?_
 rcases ifB hp with ⟨c21, hp⟩ | ⟨c21, hp⟩
 ·
  refine FW.condT rfl c21 ?_
  refine FW.seq (FW.region ?_)
  refine FL.v (E.assign (v := Value.string (ByteArray.mk #[109, 48])) rfl) ?_
  refine FL.nil ?_
  refine FW.ret ?_
  obtain rfl := Option.some.inj hp
  exact ⟨.inr rfl, res1 rfl rfl ⟨rfl, S0.back⟩⟩
 ·
  refine FW.condF rfl c21 ?_
  refine FW.skip (FW.seq (FW.region ?_))
  refine FL.v (E.assign (v := Value.string (ByteArray.mk #[])) rfl) ?_
  refine FL.nil (FW.seq ?_)
  obtain ⟨q22, hq, hp⟩ := bndR hp
  refine FW.block ?_
  refine FW.mono (FW.iter (S := (Int × ByteArray)) (X := Empty) (fun (s22 : (Int × ByteArray)) f w => ∃ H : GH, St Ha wa H w [] ∧ Inc Ha H ∧ f 0 = Value.int .i64 s22.1 ∧ f 3 = Value.string s22.2) (fun (q : Rs (Int × ByteArray) Empty) e f w => match q with | .go s22 => e = Exit.exit 0 ∧ (∃ H : GH, St Ha wa H w [] ∧ Inc Ha H ∧ f 3 = Value.string s22.2) | .rt x => x.elim) hq ⟨_, S0, (Inc.rfl _), rfl, rfl⟩ ?_) ?_
  ·
   clear hp hq
   rintro s22 f42 w41 ⟨H38, S39, i40, k43, k44⟩ o53 hp
   refine FW.seq (FW.seq (FW.region ?_))
   refine FL.v (E.move k43) ?_
   refine FL.v (E.gtr rfl rfl) ?_
   refine FL.nil ?_
   rcases ifB hp with ⟨c45, hp⟩ | ⟨c45, hp⟩
   ·
    refine FW.condT rfl c45 ?_
    refine FW.skip (FW.block (FW.seq (FW.region ?_)))
    refine FL.v (E.move k43) ?_
    refine FL.v (E.rem rfl rfl (by decide)) ?_
    refine FL.v (E.add rfl rfl) ?_
    refine FL.v (E.conv Try.runUnderlying3 Try.runUnderlying5 rfl) ?_
    obtain ⟨v46, w47, run48, S49⟩ := S39.buildSlice (P := Try.prog) te70 [Value.int .u8 (wrk false 8 (wr (48 + (s22.1.tmod 10))))] (parts := #[(0, Value.int .u8 (wrk false 8 (wr (48 + (s22.1.tmod 10)))))]) (cells := [Value.int .u8 (wrk false 8 (wr (48 + (s22.1.tmod 10))))]) rfl (szs_cons rfl szs_nil) (fc_cons rfl fc_nil) (ones_cons rfl ones_nil) (Nat.le_of_ble_eq_true rfl)
    have els50 : Els (up wa.heap.size H38) (eN .u8) 1 [Value.int .u8 (wrk false 8 (wr (48 + (s22.1.tmod 10))))] [(wrk false 8 (wr (48 + (s22.1.tmod 10))))] := (Els.snoc (H := (up wa.heap.size H38)) (E := (eN .u8)) (k := 1) (c := [Value.int .u8 (wrk false 8 (wr (48 + (s22.1.tmod 10))))]) (x := (wrk false 8 (wr (48 + (s22.1.tmod 10))))) Els.nil rfl rfl)
    refine FL.v (E.buildSlice (B1 rfl) run48) ?_
    refine FL.v (E.bytes Try.underlying70 Try.underlying5 Try.underlying9 S49 (i := 0) rfl els50 rfl) ?_
    refine FL.v (E.move k44) ?_
    obtain ⟨z51, h52, hp⟩ := bnd hp
    refine FL.v (E.addT rfl rfl h52) ?_
    refine FL.v (E.assign (v := Value.string z51) rfl) ?_
    refine FL.nil (FW.region ?_)
    refine FL.v (E.move k43) ?_
    refine FL.v (E.quo rfl rfl (by decide)) ?_
    refine FL.v (E.assign (v := Value.int .i64 (wr (s22.1.tdiv 10))) rfl) ?_
    refine FL.nil ?_
    obtain rfl := Option.some.inj hp
    exact ⟨rfl, ⟨_, (S49.sel [] (by decide) rfl), i40, rfl, rfl⟩⟩
   ·
    refine FW.condF rfl c45 ?_
    refine FW.exit ?_
    obtain rfl := Option.some.inj hp
    exact ⟨nofun, rfl, ⟨_, S39, i40, k44⟩⟩
  ·
   clear hq
   intro e f58 w57 hD
   rcases q22 with s22 | x22
   ·
    obtain ⟨rfl, hD⟩ := hD
    obtain ⟨H54, S55, i56, k59⟩ := hD
    replace hp := el_go hp
    refine FW.seq (FW.region ?_)
    refine FL.v (E.move k59) ?_
    obtain ⟨z60, h61, hp⟩ := bnd hp
    refine FL.v (E.addT rfl rfl h61) ?_
    refine FL.v (E.assign (v := Value.string z60) rfl) ?_
    refine FL.nil ?_
    refine FW.ret ?_
    obtain rfl := Option.some.inj hp
    exact ⟨.inr rfl, res1 rfl rfl ⟨rfl, S55.back⟩⟩
   ·
    exact x22.elim
theorem w_laws_markText {Ha : GH} {wa : World} (hs : Sl Ha wa) (a0 : Int) : Calls Try.prog 26 #[Value.int .i64 a0] wa (Sc Ha wa (Value.string (PF.laws_markText a0))) := w_laws_markTextO hs a0 (PF.laws_markText_eq a0)

theorem w_laws_markStringS {H0 Ha : GH} {w0 wa : World} {l : List MO} (S0 : St H0 w0 Ha wa l) (hs0 : Sl H0 w0) (v0 : Value) (a0 : List ByteArray) (p0 : RSl (up w0.heap.size Ha) eS 1 v0 a0) (a1 : Int) :
  Calls Try.prog 25 #[v0, Value.int .i64 a1] wa (M1 H0 w0 Ha l eS 1 v0 (PF.laws_markStringS a0 a1)) := by
 obtain ⟨c0, n0, hc0⟩ := p0.nest eS_flat (by decide)
 have hln := p0.ln
 have hle := p0.le
 refine calls_go (N := 20) (args := [v0, Value.int .i64 a1]) Try.func25 rfl rfl rfl ?_
 refine FW.seq (FW.region ?_)
 refine FL.v (E.assign (v := Value.int .i64 0) rfl) ?_
 refine FL.nil (FW.seq (FW.seq (FW.region ?_)))
 refine FL.v (E.assign (v := Value.int .i64 0) rfl) ?_
 refine FL.nil (FW.block ?_)
 refine FW.mono (FW.mark (F := fun y m => ((PF.laws_markText m), (wr (m + 1)))) (a0 := a0) (k0 := a1) (fun (i : Nat) (xs : List ByteArray) (k : Int) f w => ∃ (H : GH) (c : List Value), St H0 w0 H w l ∧ Nest (up w0.heap.size H) eS 1 v0 xs c ∧ bl c = bl c0 ∧ (∀ b, b ∉ bl [v0] → b ∉ bl c0 → H b = Ha b) ∧ f 0 = v0 ∧ f 1 = Value.int .i64 k ∧ f 5 = Value.int .i64 ((i : Nat) : Int)) (fun e f w => e = Exit.exit 0 ∧ ∃ (H : GH) (c : List Value), St H0 w0 H w l ∧ Nest (up w0.heap.size H) eS 1 v0 (markFrom (fun y m => ((PF.laws_markText m), (wr (m + 1)))) a0 a1).1 c ∧ bl c = bl c0 ∧ (∀ b, b ∉ bl [v0] → b ∉ bl c0 → H b = Ha b) ∧ f 0 = v0 ∧ f 1 = Value.int .i64 (markFrom (fun y m => ((PF.laws_markText m), (wr (m + 1)))) a0 a1).2) ⟨_, _, S0, n0, rfl, fun _ _ _ => rfl, rfl, rfl, rfl⟩ ?_ ?_) ?_
 ·
  rintro i y xs m f1 w1 ⟨H1, c1, S1, n1, hb, ho, kv, kk, kc⟩ hx hy
  obtain ⟨p, hpt, wr0, hB, hr, nd⟩ := n1.begin hy (by decide)
  have hci := eS_open hr
  have rd := wr0.opens hci
  refine FW.seq (FW.seq (FW.region ?_))
  refine FL.v (E.move kc) ?_
  refine FL.v (E.move kv) ?_
  refine FL.v (E.len te22 rfl hln) ?_
  refine FL.v (E.lssT rfl rfl (lss_len hx)) ?_
  refine FL.nil ?_
  refine FW.condT rfl rfl ?_
  refine FW.skip (FW.seq (FW.block (FW.seq (FW.region ?_))))
  refine FL.v (E.move kv) ?_
  refine FL.v (E.move kc) ?_
  refine FL.v (E.move kk) ?_
  refine FL.call rfl rfl rfl (E.call Try.call26 (A1 rfl)) (w_laws_markText S1.sl m) ?_
  rintro e w21 ⟨rfl, r22⟩
  refine ⟨_, rfl, ?_⟩
  have S23 := S1.call r22
  refine FL.v (E.indexAddr te22 rfl rfl hpt) ?_
  obtain ⟨w24, H25, run27, S26, wr28, o29⟩ := rd.poke0 (P := Try.prog) (t := 9) (u := Value.string (PF.laws_markText m)) S23 hs0 hB rfl rfl rfl Try.sizeOf9 rfl rfl (c2 := [Value.string (PF.laws_markText m)]) rfl
  refine FL.act rfl rfl (E.store rfl rfl run27) ?_
  refine FL.nil (FW.region ?_)
  refine FL.v (E.move kk) ?_
  refine FL.v (E.add rfl rfl) ?_
  refine FL.v (E.assign (v := Value.int .i64 (wr (m + 1))) rfl) ?_
  refine FL.nil (FW.region ?_)
  refine FL.v (E.move kc) ?_
  refine FL.v (E.add rfl rfl) ?_
  refine FL.v (E.assign (v := Value.int .i64 (wr (((i : Nat) : Int) + 1))) rfl) ?_
  refine FL.nil ?_
  obtain ⟨c2, n2, hb2, ho2⟩ := n1.round eS_flat.loc hy (by decide) hpt wr28 (y' := (PF.laws_markText m)) rfl
  exact ⟨rfl, _, _, S26, n2, hb2.trans hb, fun b q1 q2 => (ho2 b q1 (by rw [hb]; exact q2)).trans (ho b q1 q2), kv, rfl, nat_succ rfl (lt_of_get hx) hle⟩
 ·
  rintro f1 w1 ⟨H1, c1, S1, n1, hb, ho, kv, kk, kc⟩
  refine FW.seq (FW.seq (FW.region ?_))
  refine FL.v (E.move kc) ?_
  refine FL.v (E.move kv) ?_
  refine FL.v (E.len te22 rfl hln) ?_
  refine FL.v (E.lss rfl rfl) ?_
  refine FL.nil ?_
  refine FW.condF rfl dlt_len ?_
  refine FW.exit ?_
  exact ⟨nofun, rfl, _, _, S1, n1, hb, ho, kv, kk⟩
 ·
  rintro e f2 w2 ⟨rfl, H2, c2, S2, n2, hb, ho, kv, kk⟩
  refine FW.seq (FW.region ?_)
  refine FL.v (E.move kk) ?_
  refine FL.v (E.assign (v := Value.int .i64 ((markFrom (fun y m => ((PF.laws_markText m), (wr (m + 1)))) a0 a1).2)) rfl) ?_
  refine FL.nil ?_
  refine FW.ret ?_
  exact ⟨.inr rfl, res1 rfl rfl ⟨_, rfl, S2, n2.rsl, fun b q => ho b q (by rw [hc0]; simp)⟩⟩

@[reducible] def p_laws_markSequent (H0 : GH) (w0 : World) (Ha : GH) (l : List MO) (v0 : Value) (c0 : List Value) (v1 : Value) (c1 : List Value) (r : Sequent × Int) : Ending → World → Prop := fun e w' =>
 ∃ (H' : GH) (c0' : List Value) (c1' : List Value), e = .returned (.int .i64 r.2) ∧ St H0 w0 H' w' l ∧ Nest (up w0.heap.size H') eS 1 v0 r.1.left c0' ∧ bl c0' = bl c0 ∧ Nest (up w0.heap.size H') eS 1 v1 r.1.right c1' ∧ bl c1' = bl c1 ∧ ∀ b, b ∉ bl [v0] → b ∉ bl c0 → b ∉ bl [v1] → b ∉ bl c1 → ∀ o, Ha b = some o → H' b = some o
theorem w_laws_markSequent {H0 Ha : GH} {w0 wa : World} {l : List MO} (S0 : St H0 w0 Ha wa l) (hs0 : Sl H0 w0) (a0 : Sequent) (v0 : Value) (c0 : List Value) (n0 : Nest (up w0.heap.size Ha) eS 1 v0 a0.left c0) (v1 : Value) (c1 : List Value) (n1 : Nest (up w0.heap.size Ha) eS 1 v1 a0.right c1) (ap : Ap v0 c0 v1 c1) (a1 : Int) :
  Calls Try.prog 13 #[.agg #[v0, v1], Value.int .i64 a1] wa (p_laws_markSequent H0 w0 Ha l v0 c0 v1 c1 (PF.laws_markSequent a0 a1)) := by
 refine calls_go (N := 14) (args := [.agg #[v0, v1], Value.int .i64 a1]) Try.func13 rfl rfl rfl ?_
 refine FW.seq (FW.region ?_)
 obtain ⟨b21, w22, run23, S24⟩ := S0.box (P := Try.prog) 28 [v0, v1] (v := Value.agg #[v0, v1]) rfl (ones_cons n0.rsl.one (ones_cons n1.rsl.one ones_nil))
 refine FL.v (E.box rfl run23) ?_
 refine FL.v (E.assign (v := Value.int .i64 0) rfl) ?_
 refine FL.nil (FW.seq (FW.region ?_))
 refine FL.v (E.fieldAddr tf28_0 rfl) ?_
 refine FL.v (E.load rfl (run_load1 Try.isAgg22 (S24.box_now (i := 0) rfl) rfl)) ?_
 refine FL.v (E.move (v := Value.int .i64 a1) rfl) ?_
 refine FL.call rfl rfl rfl (E.call Try.call25 (A2 rfl rfl)) (w_laws_markStringS S24 hs0 v0 a0.left n0.rsl a1) ?_
 rintro e w26 ⟨H25, rfl, S27, h33, o34⟩
 refine ⟨_, rfl, ?_⟩
 obtain ⟨c29, n28, hb30⟩ := Nest.marked eS_flat (by decide) h33 n0
 have o31 := fun b (q1 : b ∉ bl [v0]) (_ : b ∉ bl c0) o (ho : _ = some o) => (o34 b q1).trans ho
 have n32 := n1.aside eS_flat.loc ap o31
 refine FL.v (E.assign (v := Value.int .i64 ((PF.laws_markStringS a0.left a1).2)) rfl) ?_
 refine FL.nil (FW.seq (FW.region ?_))
 refine FL.v (E.fieldAddr tf28_1 rfl) ?_
 refine FL.v (E.load rfl (run_load1 Try.isAgg22 (S27.box_now (i := 0) rfl) rfl)) ?_
 refine FL.v (E.move (v := Value.int .i64 ((PF.laws_markStringS a0.left a1).2)) rfl) ?_
 refine FL.call rfl rfl rfl (E.call Try.call25 (A2 rfl rfl)) (w_laws_markStringS S27 hs0 v1 a0.right n32.rsl ((PF.laws_markStringS a0.left a1).2)) ?_
 rintro e w36 ⟨H35, rfl, S37, h43, o44⟩
 refine ⟨_, rfl, ?_⟩
 obtain ⟨c39, n38, hb40⟩ := Nest.marked eS_flat (by decide) h43 n32
 have o41 := fun b (q1 : b ∉ bl [v1]) (_ : b ∉ bl c1) o (ho : _ = some o) => (o44 b q1).trans ho
 have n42 := n28.aside eS_flat.loc ((Ap.symm ap).turn rfl hb30) o41
 refine FL.v (E.assign (v := Value.int .i64 ((PF.laws_markStringS a0.right ((PF.laws_markStringS a0.left a1).2)).2)) rfl) ?_
 refine FL.nil (FW.seq (FW.region ?_))
 refine FL.v (E.move (v := Value.int .i64 ((PF.laws_markStringS a0.right ((PF.laws_markStringS a0.left a1).2)).2)) rfl) ?_
 refine FL.v (E.assign (v := Value.int .i64 ((PF.laws_markStringS a0.right ((PF.laws_markStringS a0.left a1).2)).2)) rfl) ?_
 refine FL.nil ?_
 refine FW.ret ?_
 exact ⟨.inr rfl, res1 rfl rfl ⟨_, _, _, rfl, (S37.selT (a := [.box b21 28 [v0, v1]]) (l' := []) [] (by decide) rfl), n42, hb30, n38, hb40, fun b q0 q1 q2 q3 o ho => (o41 b q2 q3 o (o31 b q0 q1 o ho))⟩⟩

theorem w_laws_markSeqStepS {H0 Ha : GH} {w0 wa : World} {l : List MO} (S0 : St H0 w0 Ha wa l) (hs0 : Sl H0 w0) (v0 : Value) (a0 : List SeqStep) (c0 : List Value) (n0 : Nest (up w0.heap.size Ha) eSeqStep 6 v0 a0 c0) (a1 : Int) :
  Calls Try.prog 14 #[v0, Value.int .i64 a1] wa (M2 H0 w0 Ha l eSeqStep 6 v0 c0 (PF.laws_markSeqStepS a0 a1)) := by
 have hln := n0.rsl.ln
 have hle := n0.rsl.le
 refine calls_go (N := 58) (args := [v0, Value.int .i64 a1]) Try.func14 rfl rfl rfl ?_
 refine FW.seq (FW.region ?_)
 refine FL.v (E.assign (v := Value.int .i64 0) rfl) ?_
 refine FL.nil (FW.seq (FW.seq (FW.region ?_)))
 refine FL.v (E.assign (v := Value.int .i64 0) rfl) ?_
 refine FL.nil (FW.block ?_)
 refine FW.mono (FW.mark (F := fun y m => ((SeqStep.mk (Sequent.mk ((PF.laws_markStringS y.seq.left m).1) ((PF.laws_markStringS y.seq.right ((PF.laws_markStringS y.seq.left m).2)).1)) ((PF.laws_markStringS y.seq.right ((PF.laws_markStringS y.seq.left m).2)).2) (PF.laws_markText (wr ((PF.laws_markStringS y.seq.right ((PF.laws_markStringS y.seq.left m).2)).2 + 1))) (wr ((wr ((PF.laws_markStringS y.seq.right ((PF.laws_markStringS y.seq.left m).2)).2 + 1)) + 1)) (wr ((wr ((wr ((PF.laws_markStringS y.seq.right ((PF.laws_markStringS y.seq.left m).2)).2 + 1)) + 1)) + 1))), (wr ((wr ((wr ((wr ((PF.laws_markStringS y.seq.right ((PF.laws_markStringS y.seq.left m).2)).2 + 1)) + 1)) + 1)) + 1)))) (a0 := a0) (k0 := a1) (fun (i : Nat) (xs : List SeqStep) (k : Int) f w => ∃ (H : GH) (c : List Value), St H0 w0 H w l ∧ Nest (up w0.heap.size H) eSeqStep 6 v0 xs c ∧ bl c = bl c0 ∧ (∀ b, b ∉ bl [v0] → b ∉ bl c0 → H b = Ha b) ∧ f 0 = v0 ∧ f 1 = Value.int .i64 k ∧ f 5 = Value.int .i64 ((i : Nat) : Int)) (fun e f w => e = Exit.exit 0 ∧ ∃ (H : GH) (c : List Value), St H0 w0 H w l ∧ Nest (up w0.heap.size H) eSeqStep 6 v0 (markFrom (fun y m => ((SeqStep.mk (Sequent.mk ((PF.laws_markStringS y.seq.left m).1) ((PF.laws_markStringS y.seq.right ((PF.laws_markStringS y.seq.left m).2)).1)) ((PF.laws_markStringS y.seq.right ((PF.laws_markStringS y.seq.left m).2)).2) (PF.laws_markText (wr ((PF.laws_markStringS y.seq.right ((PF.laws_markStringS y.seq.left m).2)).2 + 1))) (wr ((wr ((PF.laws_markStringS y.seq.right ((PF.laws_markStringS y.seq.left m).2)).2 + 1)) + 1)) (wr ((wr ((wr ((PF.laws_markStringS y.seq.right ((PF.laws_markStringS y.seq.left m).2)).2 + 1)) + 1)) + 1))), (wr ((wr ((wr ((wr ((PF.laws_markStringS y.seq.right ((PF.laws_markStringS y.seq.left m).2)).2 + 1)) + 1)) + 1)) + 1)))) a0 a1).1 c ∧ bl c = bl c0 ∧ (∀ b, b ∉ bl [v0] → b ∉ bl c0 → H b = Ha b) ∧ f 0 = v0 ∧ f 1 = Value.int .i64 (markFrom (fun y m => ((SeqStep.mk (Sequent.mk ((PF.laws_markStringS y.seq.left m).1) ((PF.laws_markStringS y.seq.right ((PF.laws_markStringS y.seq.left m).2)).1)) ((PF.laws_markStringS y.seq.right ((PF.laws_markStringS y.seq.left m).2)).2) (PF.laws_markText (wr ((PF.laws_markStringS y.seq.right ((PF.laws_markStringS y.seq.left m).2)).2 + 1))) (wr ((wr ((PF.laws_markStringS y.seq.right ((PF.laws_markStringS y.seq.left m).2)).2 + 1)) + 1)) (wr ((wr ((wr ((PF.laws_markStringS y.seq.right ((PF.laws_markStringS y.seq.left m).2)).2 + 1)) + 1)) + 1))), (wr ((wr ((wr ((wr ((PF.laws_markStringS y.seq.right ((PF.laws_markStringS y.seq.left m).2)).2 + 1)) + 1)) + 1)) + 1)))) a0 a1).2) ⟨_, _, S0, n0, rfl, fun _ _ _ => rfl, rfl, rfl, rfl⟩ ?_ ?_) ?_
 ·
  rintro i y xs m f1 w1 ⟨H1, c1, S1, n1, hb, ho, kv, kk, kc⟩ hx hy
  obtain ⟨p, hpt, wr0, hB, hr, nd⟩ := n1.begin hy (by decide)
  obtain ⟨u0, u1, hci, hu0, hu1⟩ := eSeqStep_open hr
  have rd := wr0.opens hci
  refine FW.seq (FW.seq (FW.region ?_))
  refine FL.v (E.move kc) ?_
  refine FL.v (E.move kv) ?_
  refine FL.v (E.len te32 rfl hln) ?_
  refine FL.v (E.lssT rfl rfl (lss_len hx)) ?_
  refine FL.nil ?_
  refine FW.condT rfl rfl ?_
  refine FW.skip (FW.seq (FW.block (FW.seq (FW.region ?_))))
  refine FL.v (E.move kv) ?_
  refine FL.v (E.move kc) ?_
  refine FL.v (E.indexAddr te32 rfl rfl hpt) ?_
  refine FL.v (E.fieldAddr tf52_0 rfl) ?_
  refine FL.v (E.fieldAddrN tf28_0 rfl rfl) ?_
  refine FL.v (E.load rfl (run_load1 Try.isAgg22 (rd.now S1.sl) rfl)) ?_
  refine FL.v (E.move kk) ?_
  refine FL.call rfl rfl rfl (E.call Try.call25 (A2 rfl rfl)) (w_laws_markStringS S1 hs0 u0 y.seq.left hu0 m) ?_
  rintro e w22 ⟨H21, rfl, S23, h24, o25⟩
  refine ⟨_, rfl, ?_⟩
  have h26 := rd.kept2 nd (i := 0) (j := 1) rfl rfl (by decide) hu1 eS_flat o25
  have wr27 := rd.inner (j := 0) rfl o25
  refine FL.v (E.assign (v := Value.int .i64 ((PF.laws_markStringS y.seq.left m).2)) rfl) ?_
  refine FL.nil (FW.seq (FW.region ?_))
  refine FL.v (E.move kv) ?_
  refine FL.v (E.move kc) ?_
  refine FL.v (E.indexAddr te32 rfl rfl hpt) ?_
  refine FL.v (E.fieldAddr tf52_0 rfl) ?_
  refine FL.v (E.fieldAddrN tf28_1 rfl rfl) ?_
  refine FL.v (E.load rfl (run_load1 Try.isAgg22 (wr27.now S23.sl) rfl)) ?_
  refine FL.v (E.move (v := Value.int .i64 ((PF.laws_markStringS y.seq.left m).2)) rfl) ?_
  refine FL.call rfl rfl rfl (E.call Try.call25 (A2 rfl rfl)) (w_laws_markStringS S23 hs0 u1 y.seq.right h26 ((PF.laws_markStringS y.seq.left m).2)) ?_
  rintro e w29 ⟨H28, rfl, S30, h31, o32⟩
  refine ⟨_, rfl, ?_⟩
  have h33 := wr27.kept2 nd (i := 1) (j := 0) rfl rfl (by decide) h24 eS_flat o32
  have wr34 := wr27.inner (j := 1) rfl o32
  refine FL.v (E.assign (v := Value.int .i64 ((PF.laws_markStringS y.seq.right ((PF.laws_markStringS y.seq.left m).2)).2)) rfl) ?_
  refine FL.nil (FW.seq (FW.region ?_))
  refine FL.v (E.move kv) ?_
  refine FL.v (E.move kc) ?_
  refine FL.v (E.move (v := Value.int .i64 ((PF.laws_markStringS y.seq.right ((PF.laws_markStringS y.seq.left m).2)).2)) rfl) ?_
  refine FL.v (E.indexAddr te32 rfl rfl hpt) ?_
  refine FL.v (E.fieldAddr tf52_1 rfl) ?_
  obtain ⟨w35, H36, run38, S37, wr39, o40⟩ := wr34.poke (P := Try.prog) (t := 3) (u := Value.int .i64 ((PF.laws_markStringS y.seq.right ((PF.laws_markStringS y.seq.left m).2)).2)) S30 hs0 hB (j := 2) rfl rfl rfl Try.sizeOf3 rfl rfl (c2 := [u0, u1, Value.int .i64 ((PF.laws_markStringS y.seq.right ((PF.laws_markStringS y.seq.left m).2)).2), Value.string y.main, Value.int .i64 y.a, Value.int .i64 y.b]) rfl
  have h41 := wr34.kept (j := 0) rfl h33 eS_flat o40
  have h42 := wr34.kept (j := 1) rfl h31 eS_flat o40
  refine FL.act rfl rfl (E.store rfl rfl run38) ?_
  refine FL.nil (FW.seq (FW.region ?_))
  refine FL.v (E.move (v := Value.int .i64 ((PF.laws_markStringS y.seq.right ((PF.laws_markStringS y.seq.left m).2)).2)) rfl) ?_
  refine FL.v (E.add rfl rfl) ?_
  refine FL.v (E.assign (v := Value.int .i64 (wr ((PF.laws_markStringS y.seq.right ((PF.laws_markStringS y.seq.left m).2)).2 + 1))) rfl) ?_
  refine FL.nil (FW.seq (FW.region ?_))
  refine FL.v (E.move kv) ?_
  refine FL.v (E.move kc) ?_
  refine FL.v (E.move (v := Value.int .i64 (wr ((PF.laws_markStringS y.seq.right ((PF.laws_markStringS y.seq.left m).2)).2 + 1))) rfl) ?_
  refine FL.call rfl rfl rfl (E.call Try.call26 (A1 rfl)) (w_laws_markText S37.sl (wr ((PF.laws_markStringS y.seq.right ((PF.laws_markStringS y.seq.left m).2)).2 + 1))) ?_
  rintro e w43 ⟨rfl, r44⟩
  refine ⟨_, rfl, ?_⟩
  have S45 := S37.call r44
  refine FL.v (E.indexAddr te32 rfl rfl hpt) ?_
  refine FL.v (E.fieldAddr tf52_2 rfl) ?_
  obtain ⟨w46, H47, run49, S48, wr50, o51⟩ := wr39.poke (P := Try.prog) (t := 9) (u := Value.string (PF.laws_markText (wr ((PF.laws_markStringS y.seq.right ((PF.laws_markStringS y.seq.left m).2)).2 + 1)))) S45 hs0 hB (j := 3) rfl rfl rfl Try.sizeOf9 rfl rfl (c2 := [u0, u1, Value.int .i64 ((PF.laws_markStringS y.seq.right ((PF.laws_markStringS y.seq.left m).2)).2), Value.string (PF.laws_markText (wr ((PF.laws_markStringS y.seq.right ((PF.laws_markStringS y.seq.left m).2)).2 + 1))), Value.int .i64 y.a, Value.int .i64 y.b]) rfl
  have h52 := wr39.kept (j := 0) rfl h41 eS_flat o51
  have h53 := wr39.kept (j := 1) rfl h42 eS_flat o51
  refine FL.act rfl rfl (E.store rfl rfl run49) ?_
  refine FL.nil (FW.seq (FW.region ?_))
  refine FL.v (E.move (v := Value.int .i64 (wr ((PF.laws_markStringS y.seq.right ((PF.laws_markStringS y.seq.left m).2)).2 + 1))) rfl) ?_
  refine FL.v (E.add rfl rfl) ?_
  refine FL.v (E.assign (v := Value.int .i64 (wr ((wr ((PF.laws_markStringS y.seq.right ((PF.laws_markStringS y.seq.left m).2)).2 + 1)) + 1))) rfl) ?_
  refine FL.nil (FW.seq (FW.region ?_))
  refine FL.v (E.move kv) ?_
  refine FL.v (E.move kc) ?_
  refine FL.v (E.move (v := Value.int .i64 (wr ((wr ((PF.laws_markStringS y.seq.right ((PF.laws_markStringS y.seq.left m).2)).2 + 1)) + 1))) rfl) ?_
  refine FL.v (E.indexAddr te32 rfl rfl hpt) ?_
  refine FL.v (E.fieldAddr tf52_3 rfl) ?_
  obtain ⟨w54, H55, run57, S56, wr58, o59⟩ := wr50.poke (P := Try.prog) (t := 3) (u := Value.int .i64 (wr ((wr ((PF.laws_markStringS y.seq.right ((PF.laws_markStringS y.seq.left m).2)).2 + 1)) + 1))) S48 hs0 hB (j := 4) rfl rfl rfl Try.sizeOf3 rfl rfl (c2 := [u0, u1, Value.int .i64 ((PF.laws_markStringS y.seq.right ((PF.laws_markStringS y.seq.left m).2)).2), Value.string (PF.laws_markText (wr ((PF.laws_markStringS y.seq.right ((PF.laws_markStringS y.seq.left m).2)).2 + 1))), Value.int .i64 (wr ((wr ((PF.laws_markStringS y.seq.right ((PF.laws_markStringS y.seq.left m).2)).2 + 1)) + 1)), Value.int .i64 y.b]) rfl
  have h60 := wr50.kept (j := 0) rfl h52 eS_flat o59
  have h61 := wr50.kept (j := 1) rfl h53 eS_flat o59
  refine FL.act rfl rfl (E.store rfl rfl run57) ?_
  refine FL.nil (FW.seq (FW.region ?_))
  refine FL.v (E.move (v := Value.int .i64 (wr ((wr ((PF.laws_markStringS y.seq.right ((PF.laws_markStringS y.seq.left m).2)).2 + 1)) + 1))) rfl) ?_
  refine FL.v (E.add rfl rfl) ?_
  refine FL.v (E.assign (v := Value.int .i64 (wr ((wr ((wr ((PF.laws_markStringS y.seq.right ((PF.laws_markStringS y.seq.left m).2)).2 + 1)) + 1)) + 1))) rfl) ?_
  refine FL.nil (FW.seq (FW.region ?_))
  refine FL.v (E.move kv) ?_
  refine FL.v (E.move kc) ?_
  refine FL.v (E.move (v := Value.int .i64 (wr ((wr ((wr ((PF.laws_markStringS y.seq.right ((PF.laws_markStringS y.seq.left m).2)).2 + 1)) + 1)) + 1))) rfl) ?_
  refine FL.v (E.indexAddr te32 rfl rfl hpt) ?_
  refine FL.v (E.fieldAddr tf52_4 rfl) ?_
  obtain ⟨w62, H63, run65, S64, wr66, o67⟩ := wr58.poke (P := Try.prog) (t := 3) (u := Value.int .i64 (wr ((wr ((wr ((PF.laws_markStringS y.seq.right ((PF.laws_markStringS y.seq.left m).2)).2 + 1)) + 1)) + 1))) S56 hs0 hB (j := 5) rfl rfl rfl Try.sizeOf3 rfl rfl (c2 := [u0, u1, Value.int .i64 ((PF.laws_markStringS y.seq.right ((PF.laws_markStringS y.seq.left m).2)).2), Value.string (PF.laws_markText (wr ((PF.laws_markStringS y.seq.right ((PF.laws_markStringS y.seq.left m).2)).2 + 1))), Value.int .i64 (wr ((wr ((PF.laws_markStringS y.seq.right ((PF.laws_markStringS y.seq.left m).2)).2 + 1)) + 1)), Value.int .i64 (wr ((wr ((wr ((PF.laws_markStringS y.seq.right ((PF.laws_markStringS y.seq.left m).2)).2 + 1)) + 1)) + 1))]) rfl
  have h68 := wr58.kept (j := 0) rfl h60 eS_flat o67
  have h69 := wr58.kept (j := 1) rfl h61 eS_flat o67
  refine FL.act rfl rfl (E.store rfl rfl run65) ?_
  refine FL.nil (FW.region ?_)
  refine FL.v (E.move (v := Value.int .i64 (wr ((wr ((wr ((PF.laws_markStringS y.seq.right ((PF.laws_markStringS y.seq.left m).2)).2 + 1)) + 1)) + 1))) rfl) ?_
  refine FL.v (E.add rfl rfl) ?_
  refine FL.v (E.assign (v := Value.int .i64 (wr ((wr ((wr ((wr ((PF.laws_markStringS y.seq.right ((PF.laws_markStringS y.seq.left m).2)).2 + 1)) + 1)) + 1)) + 1))) rfl) ?_
  refine FL.nil (FW.region ?_)
  refine FL.v (E.move kc) ?_
  refine FL.v (E.add rfl rfl) ?_
  refine FL.v (E.assign (v := Value.int .i64 (wr (((i : Nat) : Int) + 1))) rfl) ?_
  refine FL.nil ?_
  obtain ⟨c2, n2, hb2, ho2⟩ := n1.round eSeqStep_loc hy (by decide) hpt wr66 (y' := (SeqStep.mk (Sequent.mk ((PF.laws_markStringS y.seq.left m).1) ((PF.laws_markStringS y.seq.right ((PF.laws_markStringS y.seq.left m).2)).1)) ((PF.laws_markStringS y.seq.right ((PF.laws_markStringS y.seq.left m).2)).2) (PF.laws_markText (wr ((PF.laws_markStringS y.seq.right ((PF.laws_markStringS y.seq.left m).2)).2 + 1))) (wr ((wr ((PF.laws_markStringS y.seq.right ((PF.laws_markStringS y.seq.left m).2)).2 + 1)) + 1)) (wr ((wr ((wr ((PF.laws_markStringS y.seq.right ((PF.laws_markStringS y.seq.left m).2)).2 + 1)) + 1)) + 1)))) ⟨_, _, rfl, h68, h69⟩
  exact ⟨rfl, _, _, S64, n2, hb2.trans hb, fun b q1 q2 => (ho2 b q1 (by rw [hb]; exact q2)).trans (ho b q1 q2), kv, rfl, nat_succ rfl (lt_of_get hx) hle⟩
 ·
  rintro f1 w1 ⟨H1, c1, S1, n1, hb, ho, kv, kk, kc⟩
  refine FW.seq (FW.seq (FW.region ?_))
  refine FL.v (E.move kc) ?_
  refine FL.v (E.move kv) ?_
  refine FL.v (E.len te32 rfl hln) ?_
  refine FL.v (E.lss rfl rfl) ?_
  refine FL.nil ?_
  refine FW.condF rfl dlt_len ?_
  refine FW.exit ?_
  exact ⟨nofun, rfl, _, _, S1, n1, hb, ho, kv, kk⟩
 ·
  rintro e f2 w2 ⟨rfl, H2, c2, S2, n2, hb, ho, kv, kk⟩
  refine FW.seq (FW.region ?_)
  refine FL.v (E.move kk) ?_
  refine FL.v (E.assign (v := Value.int .i64 ((markFrom (fun y m => ((SeqStep.mk (Sequent.mk ((PF.laws_markStringS y.seq.left m).1) ((PF.laws_markStringS y.seq.right ((PF.laws_markStringS y.seq.left m).2)).1)) ((PF.laws_markStringS y.seq.right ((PF.laws_markStringS y.seq.left m).2)).2) (PF.laws_markText (wr ((PF.laws_markStringS y.seq.right ((PF.laws_markStringS y.seq.left m).2)).2 + 1))) (wr ((wr ((PF.laws_markStringS y.seq.right ((PF.laws_markStringS y.seq.left m).2)).2 + 1)) + 1)) (wr ((wr ((wr ((PF.laws_markStringS y.seq.right ((PF.laws_markStringS y.seq.left m).2)).2 + 1)) + 1)) + 1))), (wr ((wr ((wr ((wr ((PF.laws_markStringS y.seq.right ((PF.laws_markStringS y.seq.left m).2)).2 + 1)) + 1)) + 1)) + 1)))) a0 a1).2)) rfl) ?_
  refine FL.nil ?_
  refine FW.ret ?_
  exact ⟨.inr rfl, res1 rfl rfl ⟨_, _, rfl, S2, n2, hb, fun b q1 q2 => weak (F := fun b => b ∉ bl [v0] ∧ b ∉ bl c0) (fun b q => ho b q.1 q.2) b ⟨q1, q2⟩⟩⟩

set_option maxHeartbeats 4000000 in
theorem w_laws_heldStringS {Ha : GH} {wa : World} (hs : Sl Ha wa) (v0 : Value) (a0 : List ByteArray) (p0 : RSl Ha eS 1 v0 a0) (a1 : Int) {r : Int} (hp : (PF.laws_heldStringS a0 a1) = some r) :
  Calls Try.prog 27 #[v0, Value.int .i64 a1] wa (Sc Ha wa (Value.int .i64 r)) := by
 unfold PF.laws_heldStringS at hp
 have S0 := St.init hs
 refine calls_go (N := 22) (args := [v0, Value.int .i64 a1]) Try.func27 rfl rfl rfl ?_
 refine FW.seq (FW.region ?_)
 refine FL.v (E.assign (v := Value.int .i64 0) rfl) ?_
 refine FL.nil (FW.seq (FW.seq (FW.region ?_)))
 refine FL.v (E.assign (v := Value.int .i64 0) rfl) ?_
 refine FL.nil ?_
 obtain ⟨q22, hq, hp⟩ := bndR hp
 refine FW.block ?_
 refine FW.mono (FW.forL (S := Int) (X := Int) (fun (i22 : Nat) (s22 : Int) f w => ∃ H : GH, St Ha wa H w [] ∧ Inc Ha H ∧ f 5 = Value.int .i64 ((i22 : Nat) : Int) ∧ f 0 = v0 ∧ f 1 = Value.int .i64 s22) (fun q e f w => match q with | .go s22 => e = Exit.exit 0 ∧ (∃ H : GH, St Ha wa H w [] ∧ Inc Ha H ∧ f 1 = Value.int .i64 s22) | .rt x => ((e = Exit.ret) ∧ (fun e f w => (e = Exit.normal ∨ e = Exit.ret) ∧ ∀ a, Fr (δ := []) 22 a f → ∃ v, (results Try.f27 a.tmps).run Try.prog w = .ok v w ∧ (Sc Ha wa (Value.int .i64 x)) (.returned v) w) e f w)) hq ⟨_, S0, (Inc.rfl _), rfl, rfl, rfl⟩ ?_ ?_) ?_
 ·
  clear hp hq
  rintro i22 y21 s22 f46 w45 ⟨H42, S43, i44, k47, k48, k49⟩ hx22 o61 hp
  refine FW.seq (FW.seq (FW.region ?_))
  refine FL.v (E.move k47) ?_
  refine FL.v (E.move k48) ?_
  refine FL.v (E.lenP te22 rfl p0) ?_
  refine FL.v (E.lssT rfl rfl (lss_len hx22)) ?_
  refine FL.nil ?_
  refine FW.condT rfl rfl ?_
  refine FW.skip (FW.seq (FW.block (FW.seq (FW.seq ?_))))
  refine FW.draw (fun w' => Run w45.heap.size H42 w45 H42 w') (by kernel_rfl) (by kernel_rfl) (run_drew S43.sl) ?_
  refine FD.val rfl rfl rfl (fun w' hw' => (E.move k48)) ?_
  refine FD.val rfl rfl rfl (fun w' hw' => (E.move k47)) ?_
  obtain ⟨p51, cs52, pt53, l54, at55, rel56⟩ := p0.at (ix_nat hx22)
  obtain rfl := eS_open rel56
  refine FD.val rfl rfl rfl (fun w' hw' => (E.indexAddr te22 rfl rfl pt53)) ?_
  refine FD.val rfl rfl rfl (fun w' hw' => (E.load rfl (run_load0 Try.isAgg9 ((at55.mono i44).now (S43.call hw').sl) rfl))) ?_
  refine FD.val rfl rfl rfl (fun w' hw' => (E.move k49)) ?_
  refine FD.call rfl rfl rfl (fun w' hw' => (E.call Try.call26 (A1 rfl))) (fun w' hw' => Calls.cls hw' (w_laws_markText (S43.call hw').sl s22)) ?_
  refine FD.val rfl rfl rfl (fun w' hw' => (E.neqS rfl rfl)) ?_
  refine FD.nil ?_
  intro w57 r59
  have S58 := S43.call r59
  rcases ifB hp with ⟨c60, hp⟩ | ⟨c60, hp⟩
  ·
   refine FW.condT rfl c60 ?_
   refine FW.seq (FW.region ?_)
   refine FL.v (E.assign (v := Value.int .i64 (-1)) rfl) ?_
   refine FL.nil ?_
   refine FW.ret ?_
   obtain rfl := Option.some.inj hp
   exact ⟨nofun, rfl, ⟨.inr rfl, res1 rfl rfl ⟨rfl, S58.back⟩⟩⟩
  ·
   refine FW.condF rfl c60 ?_
   refine FW.skip (FW.region ?_)
   refine FL.v (E.move k49) ?_
   refine FL.v (E.add rfl rfl) ?_
   refine FL.v (E.assign (v := Value.int .i64 (wr (s22 + 1))) rfl) ?_
   refine FL.nil (FW.region ?_)
   refine FL.v (E.move k47) ?_
   refine FL.v (E.add rfl rfl) ?_
   refine FL.v (E.assign (v := Value.int .i64 (wr (((i22 : Nat) : Int) + 1))) rfl) ?_
   refine FL.nil ?_
   obtain rfl := Option.some.inj hp
   exact ⟨rfl, ⟨_, S58, i44, (nat_succ rfl (lt_of_get hx22) (p0.mono i44).le), k48, rfl⟩⟩
 ·
  clear hp hq
  rintro s22 f72 w71 ⟨H68, S69, i70, k73, k74, k75⟩
  refine FW.seq (FW.seq (FW.region ?_))
  refine FL.v (E.move k73) ?_
  refine FL.v (E.move k74) ?_
  refine FL.v (E.lenP te22 rfl p0) ?_
  refine FL.v (E.lss rfl rfl) ?_
  refine FL.nil ?_
  refine FW.condF rfl dlt_len ?_
  refine FW.exit ?_
  exact ⟨nofun, rfl, ⟨_, S69, i70, k75⟩⟩
 ·
  clear hq
  intro e f66 w65 hD
  rcases q22 with s22 | x22
  ·
   obtain ⟨rfl, hD⟩ := hD
   obtain ⟨H62, S63, i64, k67⟩ := hD
   replace hp := el_go hp
   refine FW.seq (FW.region ?_)
   refine FL.v (E.move k67) ?_
   refine FL.v (E.assign (v := Value.int .i64 s22) rfl) ?_
   refine FL.nil ?_
   refine FW.ret ?_
   obtain rfl := Option.some.inj hp
   exact ⟨.inr rfl, res1 rfl rfl ⟨rfl, S63.back⟩⟩
  ·
   obtain ⟨he, hL⟩ := hD
   replace hp := el_rt hp
   obtain rfl := Option.some.inj hp
   subst he
   exact hL

set_option maxHeartbeats 4000000 in
theorem w_laws_heldSeqStepS {Ha : GH} {wa : World} (hs : Sl Ha wa) (v0 : Value) (a0 : List SeqStep) (p0 : RSl Ha eSeqStep 6 v0 a0) (a1 : Int) {r : Int} (hp : (PF.laws_heldSeqStepS a0 a1) = some r) :
  Calls Try.prog 15 #[v0, Value.int .i64 a1] wa (Sc Ha wa (Value.int .i64 r)) := by
 unfold PF.laws_heldSeqStepS at hp
 have S0 := St.init hs
 refine calls_go (N := 70) (args := [v0, Value.int .i64 a1]) Try.func15 rfl rfl rfl ?_
 refine FW.seq (FW.region ?_)
 refine FL.v (E.assign (v := Value.int .i64 0) rfl) ?_
 refine FL.nil (FW.seq (FW.seq (FW.region ?_)))
 refine FL.v (E.assign (v := Value.int .i64 0) rfl) ?_
 refine FL.nil ?_
 obtain ⟨q22, hq, hp⟩ := bndR hp
 refine FW.block ?_
 refine FW.mono (FW.forL (S := Int) (X := Int) (fun (i22 : Nat) (s22 : Int) f w => ∃ H : GH, St Ha wa H w [] ∧ Inc Ha H ∧ f 5 = Value.int .i64 ((i22 : Nat) : Int) ∧ f 0 = v0 ∧ f 1 = Value.int .i64 s22) (fun q e f w => match q with | .go s22 => e = Exit.exit 0 ∧ (∃ H : GH, St Ha wa H w [] ∧ Inc Ha H ∧ f 1 = Value.int .i64 s22) | .rt x => ((e = Exit.ret) ∧ (fun e f w => (e = Exit.normal ∨ e = Exit.ret) ∧ ∀ a, Fr (δ := []) 70 a f → ∃ v, (results Try.f15 a.tmps).run Try.prog w = .ok v w ∧ (Sc Ha wa (Value.int .i64 x)) (.returned v) w) e f w)) hq ⟨_, S0, (Inc.rfl _), rfl, rfl, rfl⟩ ?_ ?_) ?_
 ·
  clear hp hq
  rintro i22 y21 s22 f115 w114 ⟨H111, S112, i113, k116, k117, k118⟩ hx22 o199 hp
  refine FW.seq (FW.seq (FW.region ?_))
  refine FL.v (E.move k116) ?_
  refine FL.v (E.move k117) ?_
  refine FL.v (E.lenP te32 rfl p0) ?_
  refine FL.v (E.lssT rfl rfl (lss_len hx22)) ?_
  refine FL.nil ?_
  refine FW.condT rfl rfl ?_
  refine FW.skip (FW.seq (FW.block (FW.seq (FW.region ?_))))
  refine FL.v (E.move k117) ?_
  refine FL.v (E.move k116) ?_
  obtain ⟨p119, cs120, pt121, l122, at123, rel124⟩ := p0.at (ix_nat hx22)
  obtain ⟨v125, v127, rfl, h126, h128⟩ := eSeqStep_open rel124
  refine FL.v (E.indexAddr te32 rfl rfl pt121) ?_
  refine FL.v (E.fieldAddr tf52_0 rfl) ?_
  refine FL.v (E.fieldAddrN tf28_0 rfl rfl) ?_
  refine FL.v (E.load rfl (run_load1 Try.isAgg22 ((at123.mono i113).now S112.sl) rfl)) ?_
  refine FL.v (E.move k118) ?_
  obtain ⟨r129, hr130, hp⟩ := bnd hp
  refine FL.call rfl rfl rfl (E.call Try.call27 (A2 rfl rfl)) (w_laws_heldStringS S112.sl v125 y21.seq.left (h126.mono i113) s22 hr130) ?_
  rintro e w131 ⟨rfl, r132⟩
  refine ⟨_, rfl, ?_⟩
  have S133 := S112.call r132
  refine FL.v (E.assign (v := Value.int .i64 r129) rfl) ?_
  refine FL.nil (FW.seq (FW.seq (FW.region ?_)))
  refine FL.v (E.move (v := Value.int .i64 r129) rfl) ?_
  refine FL.v (E.lss rfl rfl) ?_
  refine FL.nil ?_
  rcases ifB hp with ⟨c134, hp⟩ | ⟨c134, hp⟩
  ·
   refine FW.condT rfl c134 ?_
   refine FW.seq (FW.region ?_)
   refine FL.v (E.assign (v := Value.int .i64 (-1)) rfl) ?_
   refine FL.nil ?_
   refine FW.ret ?_
   obtain rfl := Option.some.inj hp
   exact ⟨nofun, rfl, ⟨.inr rfl, res1 rfl rfl ⟨rfl, S133.back⟩⟩⟩
  ·
   refine FW.condF rfl c134 ?_
   refine FW.skip (FW.seq (FW.region ?_))
   refine FL.v (E.move k117) ?_
   refine FL.v (E.move k116) ?_
   obtain ⟨p135, cs136, pt137, l138, at139, rel140⟩ := p0.at (ix_nat hx22)
   obtain ⟨v141, v143, rfl, h142, h144⟩ := eSeqStep_open rel140
   refine FL.v (E.indexAddr te32 rfl rfl pt137) ?_
   refine FL.v (E.fieldAddr tf52_0 rfl) ?_
   refine FL.v (E.fieldAddrN tf28_1 rfl rfl) ?_
   refine FL.v (E.load rfl (run_load1 Try.isAgg22 ((at139.mono i113).now S133.sl) rfl)) ?_
   refine FL.v (E.move (v := Value.int .i64 r129) rfl) ?_
   obtain ⟨r145, hr146, hp⟩ := bnd hp
   refine FL.call rfl rfl rfl (E.call Try.call27 (A2 rfl rfl)) (w_laws_heldStringS S133.sl v143 y21.seq.right (h144.mono i113) r129 hr146) ?_
   rintro e w147 ⟨rfl, r148⟩
   refine ⟨_, rfl, ?_⟩
   have S149 := S133.call r148
   refine FL.v (E.assign (v := Value.int .i64 r145) rfl) ?_
   refine FL.nil (FW.seq (FW.seq (FW.region ?_)))
   refine FL.v (E.move (v := Value.int .i64 r145) rfl) ?_
   refine FL.v (E.lss rfl rfl) ?_
   refine FL.nil ?_
   rcases ifB hp with ⟨c150, hp⟩ | ⟨c150, hp⟩
   ·
    refine FW.condT rfl c150 ?_
    refine FW.seq (FW.region ?_)
    refine FL.v (E.assign (v := Value.int .i64 (-1)) rfl) ?_
    refine FL.nil ?_
    refine FW.ret ?_
    obtain rfl := Option.some.inj hp
    exact ⟨nofun, rfl, ⟨.inr rfl, res1 rfl rfl ⟨rfl, S149.back⟩⟩⟩
   ·
    refine FW.condF rfl c150 ?_
    refine FW.skip (FW.seq (FW.seq (FW.region ?_)))
    refine FL.v (E.move k117) ?_
    refine FL.v (E.move k116) ?_
    obtain ⟨p151, cs152, pt153, l154, at155, rel156⟩ := p0.at (ix_nat hx22)
    obtain ⟨v157, v159, rfl, h158, h160⟩ := eSeqStep_open rel156
    refine FL.v (E.indexAddr te32 rfl rfl pt153) ?_
    refine FL.v (E.fieldAddr tf52_1 rfl) ?_
    refine FL.v (E.load rfl (run_load1 Try.isAgg3 ((at155.mono i113).now S149.sl) rfl)) ?_
    refine FL.v (E.move (v := Value.int .i64 r145) rfl) ?_
    refine FL.v (E.neq rfl rfl) ?_
    refine FL.nil ?_
    rcases ifB hp with ⟨c161, hp⟩ | ⟨c161, hp⟩
    ·
     refine FW.condT rfl c161 ?_
     refine FW.seq (FW.region ?_)
     refine FL.v (E.assign (v := Value.int .i64 (-1)) rfl) ?_
     refine FL.nil ?_
     refine FW.ret ?_
     obtain rfl := Option.some.inj hp
     exact ⟨nofun, rfl, ⟨.inr rfl, res1 rfl rfl ⟨rfl, S149.back⟩⟩⟩
    ·
     refine FW.condF rfl c161 ?_
     refine FW.skip (FW.seq (FW.region ?_))
     refine FL.v (E.move (v := Value.int .i64 r145) rfl) ?_
     refine FL.v (E.add rfl rfl) ?_
     refine FL.v (E.assign (v := Value.int .i64 (wr (r145 + 1))) rfl) ?_
     refine FL.nil (FW.seq (FW.seq ?_))
     refine FW.draw (fun w' => Run w147.heap.size H111 w147 H111 w') (by kernel_rfl) (by kernel_rfl) (run_drew S149.sl) ?_
     refine FD.val rfl rfl rfl (fun w' hw' => (E.move k117)) ?_
     refine FD.val rfl rfl rfl (fun w' hw' => (E.move k116)) ?_
     obtain ⟨p163, cs164, pt165, l166, at167, rel168⟩ := p0.at (ix_nat hx22)
     obtain ⟨v169, v171, rfl, h170, h172⟩ := eSeqStep_open rel168
     refine FD.val rfl rfl rfl (fun w' hw' => (E.indexAddr te32 rfl rfl pt165)) ?_
     refine FD.val rfl rfl rfl (fun w' hw' => (E.fieldAddr tf52_2 rfl)) ?_
     refine FD.val rfl rfl rfl (fun w' hw' => (E.load rfl (run_load1 Try.isAgg9 ((at167.mono i113).now (S149.call hw').sl) rfl))) ?_
     refine FD.val rfl rfl rfl (fun w' hw' => (E.move (v := Value.int .i64 (wr (r145 + 1))) rfl)) ?_
     refine FD.call rfl rfl rfl (fun w' hw' => (E.call Try.call26 (A1 rfl))) (fun w' hw' => Calls.cls hw' (w_laws_markText (S149.call hw').sl (wr (r145 + 1)))) ?_
     refine FD.val rfl rfl rfl (fun w' hw' => (E.neqS rfl rfl)) ?_
     refine FD.nil ?_
     intro w173 r175
     have S174 := S149.call r175
     rcases ifB hp with ⟨c176, hp⟩ | ⟨c176, hp⟩
     ·
      refine FW.condT rfl c176 ?_
      refine FW.seq (FW.region ?_)
      refine FL.v (E.assign (v := Value.int .i64 (-1)) rfl) ?_
      refine FL.nil ?_
      refine FW.ret ?_
      obtain rfl := Option.some.inj hp
      exact ⟨nofun, rfl, ⟨.inr rfl, res1 rfl rfl ⟨rfl, S174.back⟩⟩⟩
     ·
      refine FW.condF rfl c176 ?_
      refine FW.skip (FW.seq (FW.region ?_))
      refine FL.v (E.move (v := Value.int .i64 (wr (r145 + 1))) rfl) ?_
      refine FL.v (E.add rfl rfl) ?_
      refine FL.v (E.assign (v := Value.int .i64 (wr ((wr (r145 + 1)) + 1))) rfl) ?_
      refine FL.nil (FW.seq (FW.seq (FW.region ?_)))
      refine FL.v (E.move k117) ?_
      refine FL.v (E.move k116) ?_
      obtain ⟨p177, cs178, pt179, l180, at181, rel182⟩ := p0.at (ix_nat hx22)
      obtain ⟨v183, v185, rfl, h184, h186⟩ := eSeqStep_open rel182
      refine FL.v (E.indexAddr te32 rfl rfl pt179) ?_
      refine FL.v (E.fieldAddr tf52_3 rfl) ?_
      refine FL.v (E.load rfl (run_load1 Try.isAgg3 ((at181.mono i113).now S174.sl) rfl)) ?_
      refine FL.v (E.move (v := Value.int .i64 (wr ((wr (r145 + 1)) + 1))) rfl) ?_
      refine FL.v (E.neq rfl rfl) ?_
      refine FL.nil ?_
      rcases ifB hp with ⟨c187, hp⟩ | ⟨c187, hp⟩
      ·
       refine FW.condT rfl c187 ?_
       refine FW.seq (FW.region ?_)
       refine FL.v (E.assign (v := Value.int .i64 (-1)) rfl) ?_
       refine FL.nil ?_
       refine FW.ret ?_
       obtain rfl := Option.some.inj hp
       exact ⟨nofun, rfl, ⟨.inr rfl, res1 rfl rfl ⟨rfl, S174.back⟩⟩⟩
      ·
       refine FW.condF rfl c187 ?_
       refine FW.skip (FW.seq (FW.region ?_))
       refine FL.v (E.move (v := Value.int .i64 (wr ((wr (r145 + 1)) + 1))) rfl) ?_
       refine FL.v (E.add rfl rfl) ?_
       refine FL.v (E.assign (v := Value.int .i64 (wr ((wr ((wr (r145 + 1)) + 1)) + 1))) rfl) ?_
       refine FL.nil (FW.seq (FW.seq (FW.region ?_)))
       refine FL.v (E.move k117) ?_
       refine FL.v (E.move k116) ?_
       obtain ⟨p188, cs189, pt190, l191, at192, rel193⟩ := p0.at (ix_nat hx22)
       obtain ⟨v194, v196, rfl, h195, h197⟩ := eSeqStep_open rel193
       refine FL.v (E.indexAddr te32 rfl rfl pt190) ?_
       refine FL.v (E.fieldAddr tf52_4 rfl) ?_
       refine FL.v (E.load rfl (run_load1 Try.isAgg3 ((at192.mono i113).now S174.sl) rfl)) ?_
       refine FL.v (E.move (v := Value.int .i64 (wr ((wr ((wr (r145 + 1)) + 1)) + 1))) rfl) ?_
       refine FL.v (E.neq rfl rfl) ?_
       refine FL.nil ?_
       rcases ifB hp with ⟨c198, hp⟩ | ⟨c198, hp⟩
       ·
        refine FW.condT rfl c198 ?_
        refine FW.seq (FW.region ?_)
        refine FL.v (E.assign (v := Value.int .i64 (-1)) rfl) ?_
        refine FL.nil ?_
        refine FW.ret ?_
        obtain rfl := Option.some.inj hp
        exact ⟨nofun, rfl, ⟨.inr rfl, res1 rfl rfl ⟨rfl, S174.back⟩⟩⟩
       ·
        refine FW.condF rfl c198 ?_
        refine FW.skip (FW.region ?_)
        refine FL.v (E.move (v := Value.int .i64 (wr ((wr ((wr (r145 + 1)) + 1)) + 1))) rfl) ?_
        refine FL.v (E.add rfl rfl) ?_
        refine FL.v (E.assign (v := Value.int .i64 (wr ((wr ((wr ((wr (r145 + 1)) + 1)) + 1)) + 1))) rfl) ?_
        refine FL.nil (FW.region ?_)
        refine FL.v (E.move k116) ?_
        refine FL.v (E.add rfl rfl) ?_
        refine FL.v (E.assign (v := Value.int .i64 (wr (((i22 : Nat) : Int) + 1))) rfl) ?_
        refine FL.nil ?_
        obtain rfl := Option.some.inj hp
        exact ⟨rfl, ⟨_, S174, i113, (nat_succ rfl (lt_of_get hx22) (p0.mono i113).le), k117, rfl⟩⟩
 ·
  clear hp hq
  rintro s22 f210 w209 ⟨H206, S207, i208, k211, k212, k213⟩
  refine FW.seq (FW.seq (FW.region ?_))
  refine FL.v (E.move k211) ?_
  refine FL.v (E.move k212) ?_
  refine FL.v (E.lenP te32 rfl p0) ?_
  refine FL.v (E.lss rfl rfl) ?_
  refine FL.nil ?_
  refine FW.condF rfl dlt_len ?_
  refine FW.exit ?_
  exact ⟨nofun, rfl, ⟨_, S207, i208, k213⟩⟩
 ·
  clear hq
  intro e f204 w203 hD
  rcases q22 with s22 | x22
  ·
   obtain ⟨rfl, hD⟩ := hD
   obtain ⟨H200, S201, i202, k205⟩ := hD
   replace hp := el_go hp
   refine FW.seq (FW.region ?_)
   refine FL.v (E.move k205) ?_
   refine FL.v (E.assign (v := Value.int .i64 s22) rfl) ?_
   refine FL.nil ?_
   refine FW.ret ?_
   obtain rfl := Option.some.inj hp
   exact ⟨.inr rfl, res1 rfl rfl ⟨rfl, S201.back⟩⟩
  ·
   obtain ⟨he, hL⟩ := hD
   replace hp := el_rt hp
   obtain rfl := Option.some.inj hp
   subst he
   exact hL

set_option maxHeartbeats 4000000 in
theorem w_laws_FnExactSearchSequent {Ha : GH} {wa : World} (hs : Sl Ha wa) (a0 : Sequent) (v0_0 : Value) (p0_0 : RSl Ha eS 1 v0_0 a0.left) (v0_1 : Value) (p0_1 : RSl Ha eS 1 v0_1 a0.right) {r : Bool} (hp : (PF.laws_FnExactSearchSequent a0) = some r) :
  Calls Try.prog 4 #[Value.agg #[v0_0, v0_1]] wa (Sc Ha wa (Value.bool r)) := by
 unfold PF.laws_FnExactSearchSequent at hp
 have S0 := St.init hs
 refine calls_go (N := 96) (args := [Value.agg #[v0_0, v0_1]]) Try.func4 rfl rfl rfl ?_
 refine FW.seq (FW.region ?_)
 obtain ⟨w21, run22, S23, z24⟩ := S0.boxB (P := Try.prog) 24 [v0_0, v0_1] (v := Value.agg #[v0_0, v0_1]) rfl (ones_cons p0_0.one (ones_cons p0_1.one ones_nil))
 refine FL.v (E.box rfl run22) ?_
 obtain ⟨H25, S26, i27, at28⟩ := S23.sealBoxB (i := 0) (l' := []) rfl rfl
 refine FL.v (E.assign (v := Value.bool false) rfl) ?_
 refine FL.nil (FW.seq (FW.region ?_))
 refine FL.v (E.assign (v := Value.int .i64 1048576) rfl) ?_
 refine FL.nil (FW.seq (FW.region ?_))
 refine FL.v (E.load rfl (run_loadA Try.isAgg24 Try.sizeOf24 ((at28.mono sgI).now S26.sl) rfl)) ?_
 refine FL.v (E.move (v := Value.int .i64 1048576) rfl) ?_
 obtain ⟨r29, hr30, hp⟩ := bnd hp
 refine FL.call rfl rfl rfl (E.call Try.call5 (A2 rfl rfl)) (w_laws_szSequent S26.sl a0 v0_0 (p0_0.mono i27) v0_1 (p0_1.mono i27) 1048576 hr30) ?_
 rintro e w31 ⟨rfl, r32⟩
 refine ⟨_, rfl, ?_⟩
 have S33 := S26.call r32
 have z34 := r32.bel.size
 refine FL.v (E.assign (v := Value.int .i64 r29) rfl) ?_
 refine FL.nil (FW.seq (FW.seq (FW.region ?_)))
 refine FL.v (E.move (v := Value.int .i64 r29) rfl) ?_
 refine FL.v (E.lss rfl rfl) ?_
 refine FL.nil ?_
 rcases ifB hp with ⟨c35, hp⟩ | ⟨c35, hp⟩
 ·
  refine FW.condT rfl c35 ?_
  refine FW.seq (FW.region ?_)
  refine FL.v (E.assign (v := Value.bool true) rfl) ?_
  refine FL.nil ?_
  refine FW.ret ?_
  obtain rfl := Option.some.inj hp
  exact ⟨.inr rfl, res1 rfl rfl ⟨rfl, S33.back⟩⟩
 ·
  refine FW.condF rfl c35 ?_
  refine FW.skip (FW.seq (FW.region ?_))
  refine FL.v (E.load rfl (run_loadA Try.isAgg24 Try.sizeOf24 ((at28.mono sgI).now S33.sl) rfl)) ?_
  obtain ⟨r36, hr37, hp⟩ := bnd hp
  refine FL.call rfl rfl rfl (E.call Try.call7 (A1 rfl)) (w_laws_toSequent S33.sl a0 v0_0 (p0_0.mono i27) v0_1 (p0_1.mono i27) hr37) ?_
  rintro e w39 ⟨H38, v42, v48, rfl, r41, ⟨c45, c51, ns44, ns50, ap54⟩⟩
  refine ⟨_, rfl, ?_⟩
  have h43 := ns44.rsl
  have nv46 : New H25 c45 := New.of_up S33.sl (fun b hb => ns44.dom b (.inr hb))
  have nv47 : New H25 [v42] := New.of_up S33.sl h43.dom
  have h49 := ns50.rsl
  have nv52 : New H25 c51 := New.of_up S33.sl (fun b hb => ns50.dom b (.inr hb))
  have nv53 : New H25 [v48] := New.of_up S33.sl h49.dom
  have S40 := S33.call r41
  have z55 := r41.bel.size
  have h43 := h43.mono (sg_of S40.sl)
  have ns44 := ns44.mono (sg_of S40.sl)
  have h49 := h49.mono (sg_of S40.sl)
  have ns50 := ns50.mono (sg_of S40.sl)
  obtain ⟨r56, hr57, hp⟩ := bnd hp
  refine FL.call rfl rfl rfl (E.call Try.call10 (A1 rfl)) (w_spec_SearchSequent S40.sl r36 v42 (h43.mono sgI) v48 (h49.mono sgI) hr57) ?_
  rintro e w59 ⟨H58, v62, n63, cs64, rfl, r61, els65⟩
  refine ⟨_, rfl, ?_⟩
  obtain ⟨H66, r67, i68, h69⟩ := r61.sealRow (i := 0) (l' := []) rfl els65 (by decide) rfl
  have S60 := S40.call r67.run
  have z71 := r67.run.bel.size
  have h69 := h69.mono (bw_of S60.sl)
  refine FL.v (E.move (v := Value.tuple #[v62, Value.bool r56.2]) rfl) ?_
  refine FL.v (E.extract (i := 0) rfl rfl) ?_
  refine FL.v (E.extract (i := 1) rfl rfl) ?_
  refine FL.v (E.assign (v := v62) rfl) ?_
  refine FL.v (E.assign (v := Value.bool r56.2) rfl) ?_
  refine FL.nil (FW.seq (FW.region ?_))
  refine FL.v (E.load rfl (run_loadA Try.isAgg24 Try.sizeOf24 ((at28.mono (sgI.tr (r41.inc.tr r67.run.inc))).now S60.sl) rfl)) ?_
  obtain ⟨r72, hr73, hp⟩ := bnd hp
  refine FL.call rfl rfl rfl (E.call Try.call7 (A1 rfl)) (w_laws_toSequent S60.sl a0 v0_0 (p0_0.mono ((i27.tr r41.inc).tr r67.run.inc)) v0_1 (p0_1.mono ((i27.tr r41.inc).tr r67.run.inc)) hr73) ?_
  rintro e w75 ⟨H74, v78, v84, rfl, r77, ⟨c81, c87, ns80, ns86, ap90⟩⟩
  refine ⟨_, rfl, ?_⟩
  have h79 := ns80.rsl
  have nv82 : New H66 c81 := New.of_up S60.sl (fun b hb => ns80.dom b (.inr hb))
  have nv83 : New H66 [v78] := New.of_up S60.sl h79.dom
  have h85 := ns86.rsl
  have nv88 : New H66 c87 := New.of_up S60.sl (fun b hb => ns86.dom b (.inr hb))
  have nv89 : New H66 [v84] := New.of_up S60.sl h85.dom
  have S76 := S60.call r77
  have z91 := r77.bel.size
  have h79 := h79.mono (sg_of S76.sl)
  have ns80 := ns80.mono (sg_of S76.sl)
  have h85 := h85.mono (sg_of S76.sl)
  have ns86 := ns86.mono (sg_of S76.sl)
  obtain ⟨w92, run93, S94, z95⟩ := S76.allocB (P := Try.prog) 28 [Value.slice none 0 0, Value.slice none 0 0] Try.zeroValue28 rfl (ones_cons rfl (ones_cons rfl ones_nil))
  refine FL.v (E.alloc run93) ?_
  obtain ⟨w96, run97, S98, z99⟩ := S94.store0B (P := Try.prog) (t := 28) (i := 0) (cs' := [v78, v84]) (l' := [.box w75.heap.size 28 [v78, v84]]) (v := Value.agg #[v78, v84]) (c := [v78, v84]) rfl Try.sizeOf28 rfl rfl (ones_cons h79.one (ones_cons h85.one ones_nil)) (Nat.le_of_ble_eq_true rfl) rfl rfl
  refine FL.act rfl rfl (E.store rfl rfl run97) ?_
  obtain ⟨H100, S101, i102, at103⟩ := S98.sealBoxB (i := 0) (l' := []) rfl rfl
  refine FL.nil (FW.seq (FW.region ?_))
  refine FL.v (E.load rfl (run_loadA Try.isAgg28 Try.sizeOf28 ((at103.mono sgI).now S101.sl) rfl)) ?_
  obtain ⟨r104, hr105, hp⟩ := bnd hp
  refine FL.call rfl rfl rfl (E.call Try.call11 (A1 rfl)) (w_impl_SearchSequent S101.sl r72 v78 (h79.mono (sgI.tr i102)) v84 (h85.mono (sgI.tr i102)) hr105) ?_
  rintro e w107 ⟨H106, v110, n111, cs112, rfl, r109, els113, nd114⟩
  refine ⟨_, rfl, ?_⟩
  have nv115 : New H100 cs112 := New.of_up S101.sl els113.dom
  obtain ⟨H116, r117, i118, ns121, nv120⟩ := r109.sealRowN (i := 0) (l' := []) rfl els113 nd114 (by decide) rfl
  have h119 := ns121.rsl
  have S108 := S101.call r117.run
  have z122 := r117.run.bel.size
  have h119 := h119.mono (sg_of S108.sl)
  have ns121 := ns121.mono (sg_of S108.sl)
  refine FL.v (E.move (v := Value.tuple #[v110, Value.bool r104.2]) rfl) ?_
  refine FL.v (E.extract (i := 0) rfl rfl) ?_
  refine FL.v (E.extract (i := 1) rfl rfl) ?_
  refine FL.v (E.assign (v := v110) rfl) ?_
  refine FL.v (E.assign (v := Value.bool r104.2) rfl) ?_
  refine FL.nil (FW.seq (FW.seq (FW.region ?_)))
  refine FL.v (E.move (v := v110) rfl) ?_
  refine FL.v (E.move (v := v62) rfl) ?_
  obtain ⟨r123, hr124, hp⟩ := bnd hp
  refine FL.call rfl rfl rfl (E.call Try.call12 (A2 rfl rfl)) (w_laws_eqSeqStepS S108.sl v110 r104.1 (h119.mono sgI) v62 r56.1 (h69.mono (bwI.tr ((r77.inc.tr i102).tr r117.run.inc))) hr124) ?_
  rintro e w125 ⟨rfl, r126⟩
  refine ⟨_, rfl, ?_⟩
  have S127 := S108.call r126
  have z128 := r126.bel.size
  refine FL.v (E.not rfl) ?_
  refine FL.v (E.move (v := Value.bool (!r123)) rfl) ?_
  refine FL.cut 4 (fun f w => ∃ H : GH, St Ha wa H w [] ∧ Inc H116 H ∧ f 1 = Value.pointer (some ⟨wa.heap.size, 0, none⟩) ∧ f 4 = v62 ∧ f 5 = Value.bool r56.2 ∧ f 6 = Value.pointer (some ⟨w75.heap.size, 0, none⟩) ∧ f 7 = v110 ∧ f 8 = Value.bool r104.2 ∧ f 40 = Value.bool (bif (!r123) then true else (!(r104.2 == r56.2)))) ?_ ?_
  ·
   rcases bcase (!r123) with c135 | c135
   ·
    refine FL.skip (wF_no rfl rfl rfl c135) rfl ?_
    refine FL.skip (wF_no rfl rfl rfl c135) rfl ?_
    refine FL.skip (wF_no rfl rfl rfl c135) rfl ?_
    refine FL.v (E.pickT rfl c135 rfl) ?_
    exact FL.nil ⟨rfl, _, S127, (Inc.rfl _), rfl, rfl, rfl, rfl, rfl, rfl, (congrArg Value.bool (bifT c135).symm)⟩
   ·
    refine FL.val (wF_yes rfl rfl rfl c135) rfl rfl (E.move (v := Value.bool r104.2) rfl) ?_
    refine FL.val (wF_yes rfl rfl rfl c135) rfl rfl (E.move (v := Value.bool r56.2) rfl) ?_
    refine FL.val (wF_yes rfl rfl rfl c135) rfl rfl (E.neqB Try.runUnderlying4 rfl rfl) ?_
    refine FL.v (E.pickF rfl c135 rfl) ?_
    exact FL.nil ⟨rfl, _, S127, (Inc.rfl _), rfl, rfl, rfl, rfl, rfl, rfl, (congrArg Value.bool (bifF c135).symm)⟩
  rintro f134 w133 ⟨H130, S131, i132, k136, k137, k138, k139, k140, k141, k142⟩
  refine FL.nil ?_
  rcases ifB hp with ⟨c143, hp⟩ | ⟨c143, hp⟩
  ·
   refine FW.condT k142 c143 ?_
   refine FW.seq (FW.region ?_)
   refine FL.v (E.assign (v := Value.bool false) rfl) ?_
   refine FL.nil ?_
   refine FW.ret ?_
   obtain rfl := Option.some.inj hp
   exact ⟨.inr rfl, res1 rfl rfl ⟨rfl, S131.back⟩⟩
  ·
   refine FW.condF k142 c143 ?_
   refine FW.skip (FW.seq (FW.seq ?_))
   obtain ⟨r70, hr129, hp⟩ := bnd hp
   obtain ⟨r165, hr166, hp⟩ := bnd hp
   refine FW.drawB (Sl H130) (fun f w => ∃ H : GH, St Ha wa H w [] ∧ Inc H130 H ∧ f 1 = Value.pointer (some ⟨wa.heap.size, 0, none⟩) ∧ f 4 = v62 ∧ f 5 = Value.bool r56.2 ∧ f 6 = Value.pointer (some ⟨w75.heap.size, 0, none⟩) ∧ f 7 = v110 ∧ f 8 = Value.bool r104.2 ∧ f 45 = Value.bool (!r165)) (by kernel_rfl) S131.sl ?_ ?_
   ·
    intro w144 r145
    have S146 := S131.call r145
    refine FB.t (i := 0) (bs 5 1) rfl (SP.nil S146.sl) rfl (fun w' hw' => (E.load k139 (run_loadA Try.isAgg28 Try.sizeOf28 ((at103.mono (sgI.tr (r117.run.inc.tr i132))).now hw') rfl))) ?_
    refine FB.t (i := 1) (bs 5 3) rfl (SP.nil S146.sl) rfl (fun w' hw' => (E.load k136 (run_loadA Try.isAgg24 Try.sizeOf24 ((at28.mono (sgI.tr (((((r41.inc.tr r67.run.inc).tr r77.inc).tr i102).tr r117.run.inc).tr i132))).now hw') rfl))) ?_
    refine FB.all1 (i := 2) (by kernel_rfl) ?_
    ·
     refine FC.call (l' := (bs 5 7)) rfl (by kernel_rfl) rfl rfl rfl (E.call Try.call7 (A1 rfl)) (w_laws_toSequent S146.sl a0 v0_0 (p0_0.mono ((((((i27.tr r41.inc).tr r67.run.inc).tr r77.inc).tr i102).tr r117.run.inc).tr i132)) v0_1 (p0_1.mono ((((((i27.tr r41.inc).tr r67.run.inc).tr r77.inc).tr i102).tr r117.run.inc).tr i132)) hr129) ?_
     rintro e w148 ⟨H147, v151, v157, rfl, r150, ⟨c154, c160, ns153, ns159, ap163⟩⟩
     refine ⟨_, rfl, ?_⟩
     have h152 := ns153.rsl
     have nv155 : New H130 c154 := New.of_up S146.sl (fun b hb => ns153.dom b (.inr hb))
     have nv156 : New H130 [v151] := New.of_up S146.sl h152.dom
     have h158 := ns159.rsl
     have nv161 : New H130 c160 := New.of_up S146.sl (fun b hb => ns159.dom b (.inr hb))
     have nv162 : New H130 [v157] := New.of_up S146.sl h158.dom
     have S149 := S146.call r150
     have z164 := r150.bel.size
     have h152 := h152.mono (sg_of S149.sl)
     have ns153 := ns153.mono (sg_of S149.sl)
     have h158 := h158.mono (sg_of S149.sl)
     have ns159 := ns159.mono (sg_of S149.sl)
     refine ⟨(SP.nil (Sl.of_inc r150.inc S149.sl)), ?_⟩
     refine FB.all1 (i := 3) (by kernel_rfl) ?_
     ·
      refine FC.call (l' := (bs 5 15)) rfl (by kernel_rfl) rfl rfl rfl (E.call Try.call9 (A2 rfl rfl)) (w_laws_eqSequent S149.sl r72 v78 (h79.mono (sgI.tr (((i102.tr r117.run.inc).tr i132).tr r150.inc))) v84 (h85.mono (sgI.tr (((i102.tr r117.run.inc).tr i132).tr r150.inc))) r70 v151 (h152.mono sgI) v157 (h158.mono sgI) hr166) ?_
      rintro e w167 ⟨rfl, r168⟩
      refine ⟨_, rfl, ?_⟩
      have S169 := S149.call r168
      have z170 := r168.bel.size
      refine ⟨(SP.nil (Sl.of_inc r150.inc S169.sl)), ?_⟩
      refine FB.t (i := 4) (bs 5 31) rfl (SP.nil (Sl.of_inc r150.inc S169.sl)) rfl (fun w' hw' => (E.not rfl)) ?_
      exact FB.done (by kernel_rfl) ⟨_, S169, r150.inc, k136, k137, k138, k139, k140, k141, rfl⟩
   ·
    rintro f175 w174 ⟨H171, S172, i173, k176, k177, k178, k179, k180, k181, k182⟩
    rcases ifB hp with ⟨c183, hp⟩ | ⟨c183, hp⟩
    ·
     refine FW.condT k182 c183 ?_
     refine FW.seq (FW.region ?_)
     refine FL.v (E.assign (v := Value.bool false) rfl) ?_
     refine FL.nil ?_
     refine FW.ret ?_
     obtain rfl := Option.some.inj hp
     exact ⟨.inr rfl, res1 rfl rfl ⟨rfl, S172.back⟩⟩
    ·
     refine FW.condF k182 c183 ?_
     refine FW.skip (FW.seq (FW.region ?_))
     refine FL.v (E.assign (v := Value.int .i64 1) rfl) ?_
     refine FL.nil (FW.seq (FW.region ?_))
     refine FL.v (E.load k179 (run_loadA Try.isAgg28 Try.sizeOf28 ((at103.mono (sgI.tr ((r117.run.inc.tr i132).tr i173))).now S172.sl) rfl)) ?_
     refine FL.v (E.move (v := Value.int .i64 1) rfl) ?_
     refine FL.call rfl rfl rfl (E.call Try.call13 (A2 rfl rfl)) (w_laws_markSequent S172 hs r72 v78 c81 (ns80.mono (sg_up (by omega) (((i102.tr r117.run.inc).tr i132).tr i173))) v84 c87 (ns86.mono (sg_up (by omega) (((i102.tr r117.run.inc).tr i132).tr i173))) ap90 1) ?_
     rintro e w185 ⟨H184, c190, c191, rfl, S186, ns192, hb194, ns193, hb195, o188⟩
     refine ⟨_, rfl, ?_⟩
     have o189 := Nest.outside2 (ns80.mono (sg_mono (hi := w75.heap.size) (((i102.tr r117.run.inc).tr i132).tr i173))) (ns86.mono (sg_mono (hi := w75.heap.size) (((i102.tr r117.run.inc).tr i132).tr i173))) o188
     have ns192 := ns80.span eS_flat.loc (by omega) ns192 hb194
     have ns193 := ns86.span eS_flat.loc (by omega) ns193 hb195
     have h187 := ns192.rsl
     have h196 := ns193.rsl
     have ap197 := ap90.turn hb194 hb195
     have f198 := at28.mono ((sg_mono (lo := wa.heap.size) (hi := wa.heap.size + 1) ((((((r41.inc.tr r67.run.inc).tr r77.inc).tr i102).tr r117.run.inc).tr i132).tr i173)).tr (sg_keep o189 (by omega)))
     have f199 := h69.mono ((bw_mono (hi := w59.heap.size) ((((r77.inc.tr i102).tr r117.run.inc).tr i132).tr i173)).tr (bw_keep o189 (by omega)))
     have f200 := at103.mono ((sg_mono (lo := w75.heap.size) (hi := w75.heap.size + 1) ((r117.run.inc.tr i132).tr i173)).tr (sg_keep o189 (by omega)))
     have f201 := h119.mono ((sg_mono (lo := w96.heap.size) (hi := w107.heap.size) (i132.tr i173)).tr (sg_keep o189 (by omega)))
     have f202 := ns121.mono ((sg_mono (lo := w96.heap.size) (hi := w107.heap.size) (i132.tr i173)).tr (sg_keep o189 (by omega)))
     refine FL.v (E.assign (v := Value.int .i64 ((PF.laws_markSequent r72 1).2)) rfl) ?_
     refine FL.nil (FW.seq (FW.seq (FW.region ?_)))
     refine FL.v (E.move (v := Value.int .i64 ((PF.laws_markSequent r72 1).2)) rfl) ?_
     refine FL.v (E.lss rfl rfl) ?_
     refine FL.v (E.move (v := Value.bool (decide ((PF.laws_markSequent r72 1).2 < 0))) rfl) ?_
     obtain ⟨t203, hqt203, hp⟩ := bnd hp
     refine FL.cut 5 (fun f w => ∃ H : GH, St Ha wa H w [] ∧ Inc H184 H ∧ f 1 = Value.pointer (some ⟨wa.heap.size, 0, none⟩) ∧ f 4 = v62 ∧ f 5 = Value.bool r56.2 ∧ f 7 = v110 ∧ f 8 = Value.bool r104.2 ∧ f 56 = Value.bool t203) ?_ ?_
     ·
      clear hp; have hp := hqt203; clear hqt203
      rcases ifB hp with ⟨c209, hp⟩ | ⟨c209, hp⟩
      ·
       refine FL.skip (wF_no rfl rfl rfl c209) rfl ?_
       refine FL.skip (wF_no rfl rfl rfl c209) rfl ?_
       refine FL.skip (wF_no rfl rfl rfl c209) rfl ?_
       refine FL.skip (wF_no rfl rfl rfl c209) rfl ?_
       obtain rfl := Option.some.inj hp
       refine FL.v (E.pickT rfl c209 rfl) ?_
       exact FL.nil ⟨rfl, _, S186, (Inc.rfl _), k176, k177, k178, k180, k181, rfl⟩
      ·
       refine FL.val (wF_yes rfl rfl rfl c209) rfl rfl (E.move k180) ?_
       refine FL.val (wF_yes rfl rfl rfl c209) rfl rfl (E.move k177) ?_
       obtain ⟨r210, hr211, hp⟩ := bnd hp
       refine FL.call (wF_yes rfl rfl rfl c209) rfl rfl (E.call Try.call12 (A2 rfl rfl)) (w_laws_eqSeqStepS S186.sl v110 r104.1 (f201.mono sgI) v62 r56.1 (f199.mono bwI) hr211) ?_
       rintro e w212 ⟨rfl, r213⟩
       refine ⟨_, rfl, ?_⟩
       have S214 := S186.call r213
       have z215 := r213.bel.size
       refine FL.val (wF_yes rfl rfl rfl c209) rfl rfl (E.not rfl) ?_
       obtain rfl := Option.some.inj hp
       refine FL.v (E.pickF rfl c209 rfl) ?_
       exact FL.nil ⟨rfl, _, S214, (Inc.rfl _), k176, k177, k178, k180, k181, rfl⟩
     rintro f208 w207 ⟨H204, S205, i206, k216, k217, k218, k219, k220, k221⟩
     refine FL.v (E.move k221) ?_
     refine FL.cut 4 (fun f w => ∃ H : GH, St Ha wa H w [] ∧ Inc H204 H ∧ f 1 = Value.pointer (some ⟨wa.heap.size, 0, none⟩) ∧ f 4 = v62 ∧ f 5 = Value.bool r56.2 ∧ f 7 = v110 ∧ f 61 = Value.bool (bif t203 then true else (!(r104.2 == r56.2)))) ?_ ?_
     ·
      rcases bcase t203 with c227 | c227
      ·
       refine FL.skip (wF_no rfl rfl rfl c227) rfl ?_
       refine FL.skip (wF_no rfl rfl rfl c227) rfl ?_
       refine FL.skip (wF_no rfl rfl rfl c227) rfl ?_
       refine FL.v (E.pickT rfl c227 rfl) ?_
       exact FL.nil ⟨rfl, _, S205, (Inc.rfl _), k216, k217, k218, k219, (congrArg Value.bool (bifT c227).symm)⟩
      ·
       refine FL.val (wF_yes rfl rfl rfl c227) rfl rfl (E.move k220) ?_
       refine FL.val (wF_yes rfl rfl rfl c227) rfl rfl (E.move k218) ?_
       refine FL.val (wF_yes rfl rfl rfl c227) rfl rfl (E.neqB Try.runUnderlying4 rfl rfl) ?_
       refine FL.v (E.pickF rfl c227 rfl) ?_
       exact FL.nil ⟨rfl, _, S205, (Inc.rfl _), k216, k217, k218, k219, (congrArg Value.bool (bifF c227).symm)⟩
     rintro f226 w225 ⟨H222, S223, i224, k228, k229, k230, k231, k232⟩
     refine FL.nil ?_
     rcases ifB hp with ⟨c233, hp⟩ | ⟨c233, hp⟩
     ·
      refine FW.condT k232 c233 ?_
      refine FW.seq (FW.region ?_)
      refine FL.v (E.assign (v := Value.bool false) rfl) ?_
      refine FL.nil ?_
      refine FW.ret ?_
      obtain rfl := Option.some.inj hp
      exact ⟨.inr rfl, res1 rfl rfl ⟨rfl, S223.back⟩⟩
     ·
      refine FW.condF k232 c233 ?_
      refine FW.skip (FW.seq (FW.region ?_))
      refine FL.v (E.assign (v := Value.int .i64 1) rfl) ?_
      refine FL.nil (FW.seq (FW.region ?_))
      refine FL.v (E.move k231) ?_
      refine FL.v (E.move (v := Value.int .i64 1) rfl) ?_
      refine FL.call rfl rfl rfl (E.call Try.call14 (A2 rfl rfl)) (w_laws_markSeqStepS S223 hs v110 r104.1 cs112 (f202.mono (sg_up (by omega) (i206.tr i224))) 1) ?_
      rintro e w235 ⟨H234, c240, rfl, S236, ns242, hb241, o238⟩
      refine ⟨_, rfl, ?_⟩
      have o239 := (f202.mono (sg_mono (hi := w107.heap.size) (i206.tr i224))).outside o238
      have ns242 := f202.span eSeqStep_loc (by omega) ns242 hb241
      have h237 := ns242.rsl
      have f243 := f198.mono ((sg_mono (lo := wa.heap.size) (hi := wa.heap.size + 1) (i206.tr i224)).tr (sg_keep o239 (by omega)))
      have f244 := f199.mono ((bw_mono (hi := w59.heap.size) (i206.tr i224)).tr (bw_keep o239 (by omega)))
      refine FL.v (E.assign (v := Value.int .i64 ((PF.laws_markSeqStepS r104.1 1).2)) rfl) ?_
      refine FL.nil (FW.seq (FW.region ?_))
      refine FL.v (E.assign (v := Value.int .i64 1) rfl) ?_
      refine FL.nil (FW.seq (FW.region ?_))
      refine FL.v (E.move k231) ?_
      refine FL.v (E.move (v := Value.int .i64 1) rfl) ?_
      obtain ⟨r245, hr246, hp⟩ := bnd hp
      refine FL.call rfl rfl rfl (E.call Try.call15 (A2 rfl rfl)) (w_laws_heldSeqStepS S236.sl v110 ((PF.laws_markSeqStepS r104.1 1).1) (h237.mono sgI) 1 hr246) ?_
      rintro e w247 ⟨rfl, r248⟩
      refine ⟨_, rfl, ?_⟩
      have S249 := S236.call r248
      have z250 := r248.bel.size
      refine FL.v (E.assign (v := Value.int .i64 r245) rfl) ?_
      refine FL.nil (FW.seq (FW.seq (FW.region ?_)))
      refine FL.v (E.move (v := Value.int .i64 r245) rfl) ?_
      refine FL.v (E.lss rfl rfl) ?_
      refine FL.nil ?_
      rcases ifB hp with ⟨c251, hp⟩ | ⟨c251, hp⟩
      ·
       refine FW.condT rfl c251 ?_
       refine FW.seq (FW.region ?_)
       refine FL.v (E.assign (v := Value.bool false) rfl) ?_
       refine FL.nil ?_
       refine FW.ret ?_
       obtain rfl := Option.some.inj hp
       exact ⟨.inr rfl, res1 rfl rfl ⟨rfl, S249.back⟩⟩
      ·
       refine FW.condF rfl c251 ?_
       refine FW.skip (FW.seq (FW.seq (FW.region ?_)))
       refine FL.v (E.move (v := Value.int .i64 r245) rfl) ?_
       refine FL.v (E.move (v := Value.int .i64 ((PF.laws_markSeqStepS r104.1 1).2)) rfl) ?_
       refine FL.v (E.neq rfl rfl) ?_
       refine FL.nil ?_
       rcases ifB hp with ⟨c252, hp⟩ | ⟨c252, hp⟩
       ·
        refine FW.condT rfl c252 ?_
        refine FW.seq (FW.region ?_)
        refine FL.v (E.assign (v := Value.bool false) rfl) ?_
        refine FL.nil ?_
        refine FW.ret ?_
        obtain rfl := Option.some.inj hp
        exact ⟨.inr rfl, res1 rfl rfl ⟨rfl, S249.back⟩⟩
       ·
        refine FW.condF rfl c252 ?_
        refine FW.skip (FW.seq (FW.region ?_))
        refine FL.v (E.load k228 (run_loadA Try.isAgg24 Try.sizeOf24 ((f243.mono sgI).now S249.sl) rfl)) ?_
        obtain ⟨r253, hr254, hp⟩ := bnd hp
        refine FL.call rfl rfl rfl (E.call Try.call7 (A1 rfl)) (w_laws_toSequent S249.sl a0 v0_0 (p0_0.mono S236.inc) v0_1 (p0_1.mono S236.inc) hr254) ?_
        rintro e w256 ⟨H255, v259, v265, rfl, r258, ⟨c262, c268, ns261, ns267, ap271⟩⟩
        refine ⟨_, rfl, ?_⟩
        have h260 := ns261.rsl
        have nv263 : New H234 c262 := New.of_up S249.sl (fun b hb => ns261.dom b (.inr hb))
        have nv264 : New H234 [v259] := New.of_up S249.sl h260.dom
        have h266 := ns267.rsl
        have nv269 : New H234 c268 := New.of_up S249.sl (fun b hb => ns267.dom b (.inr hb))
        have nv270 : New H234 [v265] := New.of_up S249.sl h266.dom
        have S257 := S249.call r258
        have z272 := r258.bel.size
        have h260 := h260.mono (sg_of S257.sl)
        have ns261 := ns261.mono (sg_of S257.sl)
        have h266 := h266.mono (sg_of S257.sl)
        have ns267 := ns267.mono (sg_of S257.sl)
        obtain ⟨r273, hr274, hp⟩ := bnd hp
        refine FL.call rfl rfl rfl (E.call Try.call11 (A1 rfl)) (w_impl_SearchSequent S257.sl r253 v259 (h260.mono sgI) v265 (h266.mono sgI) hr274) ?_
        rintro e w276 ⟨H275, v279, n280, cs281, rfl, r278, els282, nd283⟩
        refine ⟨_, rfl, ?_⟩
        have nv284 : New H255 cs281 := New.of_up S257.sl els282.dom
        obtain ⟨H285, r286, i287, ns290, nv289⟩ := r278.sealRowN (i := 0) (l' := []) rfl els282 nd283 (by decide) rfl
        have h288 := ns290.rsl
        have S277 := S257.call r286.run
        have z291 := r286.run.bel.size
        have h288 := h288.mono (sg_of S277.sl)
        have ns290 := ns290.mono (sg_of S277.sl)
        refine FL.v (E.move (v := Value.tuple #[v279, Value.bool r273.2]) rfl) ?_
        refine FL.v (E.extract (i := 0) rfl rfl) ?_
        refine FL.v (E.extract (i := 1) rfl rfl) ?_
        refine FL.v (E.assign (v := v279) rfl) ?_
        refine FL.v (E.assign (v := Value.bool r273.2) rfl) ?_
        refine FL.nil (FW.seq (FW.seq (FW.region ?_)))
        refine FL.v (E.move (v := v279) rfl) ?_
        refine FL.v (E.move k229) ?_
        obtain ⟨r292, hr293, hp⟩ := bnd hp
        refine FL.call rfl rfl rfl (E.call Try.call12 (A2 rfl rfl)) (w_laws_eqSeqStepS S277.sl v279 r273.1 (h288.mono sgI) v62 r56.1 (f244.mono (bwI.tr (r258.inc.tr r286.run.inc))) hr293) ?_
        rintro e w294 ⟨rfl, r295⟩
        refine ⟨_, rfl, ?_⟩
        have S296 := S277.call r295
        have z297 := r295.bel.size
        refine FL.v (E.not rfl) ?_
        refine FL.v (E.move (v := Value.bool (!r292)) rfl) ?_
        refine FL.cut 4 (fun f w => ∃ H : GH, St Ha wa H w [] ∧ Inc H285 H ∧ f 7 = v110 ∧ f 10 = Value.int .i64 ((PF.laws_markSeqStepS r104.1 1).2) ∧ f 87 = Value.bool (bif (!r292) then true else (!(r273.2 == r56.2)))) ?_ ?_
        ·
         rcases bcase (!r292) with c303 | c303
         ·
          refine FL.skip (wF_no rfl rfl rfl c303) rfl ?_
          refine FL.skip (wF_no rfl rfl rfl c303) rfl ?_
          refine FL.skip (wF_no rfl rfl rfl c303) rfl ?_
          refine FL.v (E.pickT rfl c303 rfl) ?_
          exact FL.nil ⟨rfl, _, S296, (Inc.rfl _), k231, rfl, (congrArg Value.bool (bifT c303).symm)⟩
         ·
          refine FL.val (wF_yes rfl rfl rfl c303) rfl rfl (E.move (v := Value.bool r273.2) rfl) ?_
          refine FL.val (wF_yes rfl rfl rfl c303) rfl rfl (E.move k230) ?_
          refine FL.val (wF_yes rfl rfl rfl c303) rfl rfl (E.neqB Try.runUnderlying4 rfl rfl) ?_
          refine FL.v (E.pickF rfl c303 rfl) ?_
          exact FL.nil ⟨rfl, _, S296, (Inc.rfl _), k231, rfl, (congrArg Value.bool (bifF c303).symm)⟩
        rintro f302 w301 ⟨H298, S299, i300, k304, k305, k306⟩
        refine FL.nil ?_
        rcases ifB hp with ⟨c307, hp⟩ | ⟨c307, hp⟩
        ·
         refine FW.condT k306 c307 ?_
         refine FW.seq (FW.region ?_)
         refine FL.v (E.assign (v := Value.bool false) rfl) ?_
         refine FL.nil ?_
         refine FW.ret ?_
         obtain rfl := Option.some.inj hp
         exact ⟨.inr rfl, res1 rfl rfl ⟨rfl, S299.back⟩⟩
        ·
         refine FW.condF k306 c307 ?_
         refine FW.skip (FW.seq (FW.region ?_))
         refine FL.v (E.assign (v := Value.int .i64 1) rfl) ?_
         refine FL.nil (FW.seq (FW.region ?_))
         refine FL.v (E.move k304) ?_
         refine FL.v (E.move (v := Value.int .i64 1) rfl) ?_
         obtain ⟨r308, hr309, hp⟩ := bnd hp
         refine FL.call rfl rfl rfl (E.call Try.call15 (A2 rfl rfl)) (w_laws_heldSeqStepS S299.sl v110 ((PF.laws_markSeqStepS r104.1 1).1) (h237.mono (sgI.tr ((r258.inc.tr r286.run.inc).tr i300))) 1 hr309) ?_
         rintro e w310 ⟨rfl, r311⟩
         refine ⟨_, rfl, ?_⟩
         have S312 := S299.call r311
         have z313 := r311.bel.size
         refine FL.v (E.assign (v := Value.int .i64 r308) rfl) ?_
         refine FL.nil (FW.seq (FW.seq (FW.region ?_)))
         refine FL.v (E.move (v := Value.int .i64 r308) rfl) ?_
         refine FL.v (E.lss rfl rfl) ?_
         refine FL.nil ?_
         rcases ifB hp with ⟨c314, hp⟩ | ⟨c314, hp⟩
         ·
          refine FW.condT rfl c314 ?_
          refine FW.seq (FW.region ?_)
          refine FL.v (E.assign (v := Value.bool false) rfl) ?_
          refine FL.nil ?_
          refine FW.ret ?_
          obtain rfl := Option.some.inj hp
          exact ⟨.inr rfl, res1 rfl rfl ⟨rfl, S312.back⟩⟩
         ·
          refine FW.condF rfl c314 ?_
          refine FW.skip (FW.seq (FW.seq (FW.region ?_)))
          refine FL.v (E.move (v := Value.int .i64 r308) rfl) ?_
          refine FL.v (E.move k305) ?_
          refine FL.v (E.neq rfl rfl) ?_
          refine FL.nil ?_
          rcases ifB hp with ⟨c315, hp⟩ | ⟨c315, hp⟩
          ·
           refine FW.condT rfl c315 ?_
           refine FW.seq (FW.region ?_)
           refine FL.v (E.assign (v := Value.bool false) rfl) ?_
           refine FL.nil ?_
           refine FW.ret ?_
           obtain rfl := Option.some.inj hp
           exact ⟨.inr rfl, res1 rfl rfl ⟨rfl, S312.back⟩⟩
          ·
           refine FW.condF rfl c315 ?_
           refine FW.skip (FW.seq (FW.region ?_))
           refine FL.v (E.assign (v := Value.bool true) rfl) ?_
           refine FL.nil ?_
           refine FW.ret ?_
           obtain rfl := Option.some.inj hp
           exact ⟨.inr rfl, res1 rfl rfl ⟨rfl, S312.back⟩⟩

end Go.Proofs
